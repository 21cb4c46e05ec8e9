/- Texts that the proof of this statement needs, merged and shortened. -/
import Derived.Test.YtjemhjcngaokpaaGreatDoorQDifferCounts2
open Go renaming Value->ix,World->ka,TypeId->Ki,Program->KO,Oper->Lp,Operand->Lz,FuncId->LU,Exit->M4,Edge->Mz,Act->MB
open Go.Proofs.Tryz renaming underlying22->ln,sizeOf3->Jm,underlying155->Jq,underlying70->JD,sizeOf72->JE,prog->JF,zeroValue3->JS,underlying167->JT,zeroValue72->K2,zeroValue22->K4,zeroValue206->K5,sizeOf206->K6,underlying206->Ka,isAgg72->Kb,sizeOf67->Km,underlying5->KB,underlying3->KC,underlying202->KF,underlying174->KG,underlying172->KW,underlying158->KX,underlying94->L4,sizeOf22->L5,isAgg67->L6,sizeOf165->L9,sizeOf31->Ld,isAgg206->Le,underlying234->Lm,underlying157->Ln,sizeOf162->Lt,underlying31->Lx,zeroValue67->LH,underlying9->LJ,sizeOf70->LK,call73->M9,underlying156->Me,underlying99->Ml,isAgg31->Mm,zeroValue28->Mq,zeroValue5->Mt,call66->Mu
open Nat renaming zero_le->J0,not_lt_zero->J2,le_refl->J7,eq_of_beq_eq_true->JM,sub_self->Ko,beq->Kx,le_trans->KH,or_lt_two_pow->KT,blt->KU,lt_succ_iff_lt_or_eq->Lc,beq_refl->Lh,pow_lt_pow_right->Lq,le_zero->Lr
open Go.Value renaming oneCell'->J1,bool->Jy,string->KA,ownBlock->LO,agg->M5
open List renaming mem_singleton->J3,length_singleton->J8,take_length->Jh,mem_cons->Ji,length_set->Jj,length_append->Jn,replicate->Jr,mem_append->Js,range->Ju,append_nil->Jw,mem_cons_of_mem->Jz,findIdx?_eq_some_iff_getElem->JA,map_cons->JB,mem_range->JH,findIdx?_cons->JL,map_append->JN,flatMap_cons->JO,all_cons->JP,flatMap_append->JQ,length_cons->JR,mem_append_right->JV,append_assoc->JY,mem_append_left->K0,findIdx?_eq_none_iff->K1,mem_filter->K7,mem_cons_self->K8,filter_append->K9,eq_nil_of_length_eq_zero->Kd,nil_append->Kh,filter_sublist->Kj,all_nil->Kl,pairwise_iff_getElem->Kr,getElem?_eq_some_iff->Ku,foldl_append->Kv,filter_cons->Kz,mem_map->KE,range_succ->KI,length_filter_le->KL,findIdx?_append->KM,findIdx?->KP,nodup_append->KS,nodup_range->KY,cons_append->KZ,nodup_cons->L1,length_nil->L2,length_map->L3,take_zero->L7,nodup_nil->L8,drop_eq_getElem_cons->La,length_replicate->Li,mem_of_mem_take->Ll,replicate_succ->Ls,take_sublist->LA,filter_congr->LB,getElem_map->LD,flatMap_nil->LF,drop_length->LG,foldl_cons->LP,map_map->LY,length->M0
open Go.VL.Ret renaming enter->J4
open Go.VL.WC renaming region->J5,seq->Jo,block->KD,skip->KJ,tail->LL,exit->LN,still->LX
open Go.VL.WL renaming nil->J6,mapUpdate->JK,push->Ke,storeAt->Kq
open Go.VL.WH renaming one->J9,done->JZ
open Go.VL.Ext renaming refl->Jk
open Go.VL renaming Upd->Jl,RowT->JI,MapO->JU,BlkO->Kg,Rng->Kk,Free->Kp,Ext->Kw,Ret->KN,lowT->KQ,Elem->LQ,NewV->Mo,RangeO->Mv,KeyL->Mw
open Go.VL.RV renaming move->Jp,lookup->JW,assign->JX,indexAddr->KK,load->Lj,add->Lk,lss->LC,extract->Mh,entry->Ms
open Classical renaming byContradiction->Jt
open Go.VL.Upd renaming setRow->Jv,set->Kc,refl->Kf,alloc->Mg
open Go.VL.RowT renaming nil->JC,freeT->M6,sl->Mn
open UInt8 renaming ofNat->JG
open Go.Region renaming ready->JJ
open Prod.mk renaming inj->KR
open Go.VL.Fit renaming i64->KV
open Bool renaming and_eq_true->L0,and_true->LV
open Go.World renaming block_lt_of_cell?->Lb,ownsRow_lit->Lu,cell?->LW
open Go.Result renaming andThen_ok->Lo
open Option renaming getD_some->Lv,bind_some->Lw,map_some->Ly
open Go.Sem renaming run_bind->LZ
open List.Pairwise renaming imp_of_mem->M1
open List.Sublist renaming append_left->M7
open Int renaming le_refl->M8
open Go.VL.WS renaming go->Ma,nil->Mf
open Option.some renaming injEq->Mb,inj->Mc
open Go.VL.BlkO renaming cell->Md,upd->Mk
open Go.VL.MapO renaming upd->Mi
open Go.VL.KeyL renaming int->Mj
open List.cons renaming injEq->Mp
open Go.VL.Rng renaming upd->Mr
open Go.IntKind renaming wrap_u8->Mx,u8->My
open Go.Builtin renaming len_->MA
set_option maxRecDepth 10000
open Go.VL Go.Proofs Go.Proofs.Tryz
namespace Go.Proofs.YtjemhjcngaokpaaGreatDoor
structure NfR(w:ka)(nb:Nat)(se:Bool)(g:Gr)(na ta lv kv:ix)(xs:List K3):Prop where
 c0:w.cell? (nA nb 0)=some (.bool se)
 c1:w.cell? (nA nb 1)=some lv
 c2:w.cell? (nA nb 2)=some kv
 c3:w.cell? (nA nb 3)=some na
 c4:w.cell? (nA nb 4)=some ta
 ls:Sl rj 3 w lv g.ls
 ks:Sl GF 3 w kv xs
 len:xs.length=g.ks.length
 fr:∀k,k<xs.length->Sl aO 1 w (nth xs k).1 (g.fr k)
 lv:∀k,k<xs.length->Sl aO 1 w (nth xs k).2.1 (g.lv k)
 en:∀k,k<xs.length->(nth xs k).2.2=g.en k
section
variable{O:Nat→Nat}{w w':ka}{i nb:Nat}{se:Bool}{g:Gr}{na ta lv kv:ix}{xs:List K3}
theorem NfO.r(h:NfO O w i nb se g na ta lv kv xs):NfR w nb se g na ta lv kv xs:=⟨h.c0,h.c1,h.c2,h.c3,h.c4,h.ls.sl,h.ks.row.sl,h.ks.len,fun k hk=>(h.ks.fr k hk).sl,fun k hk=>(h.ks.lv k hk).sl,h.ks.en⟩
theorem NfR.ext(h:NfR w nb se g na ta lv kv xs)(e:Kw w w'):NfR w' nb se g na ta lv kv xs:=⟨e.cell h.c0,e.cell h.c1,e.cell h.c2,e.cell h.c3,e.cell h.c4,h.ls.ext e,h.ks.ext e,h.len,fun k hk=>(h.fr k hk).ext e,fun k hk=>(h.lv k hk).ext e,h.en⟩
theorem NfR.f0(h:NfR w nb se g na ta lv kv xs){k:Nat}(hk:k<xs.length):w.cell? ((adr kv 3 k).add 0)=some (nth xs k).1:=h.ks.cell (j:=0) hk rfl
theorem NfR.f1(h:NfR w nb se g na ta lv kv xs){k:Nat}(hk:k<xs.length):w.cell? ((adr kv 3 k).add 1)=some (nth xs k).2.1:=h.ks.cell (j:=1) hk rfl
theorem NfR.f2(h:NfR w nb se g na ta lv kv xs){k:Nat}(hk:k<xs.length):w.cell? ((adr kv 3 k).add 2)=some (nI ((g.en k:Nat):Int)):=by rw[<-h.en k hk];exact h.ks.cell (j:=2) hk rfl
end
theorem vy{l:List Nat}{f:List Nat}{j:Nat}(h:j<f.length):dG l (f.drop j)=dG (if l.contains (nth f j)then l else l++[nth f j]) (f.drop (j+1)):=by
 rw[show f.drop j=nth f j::f.drop (j+1)from by rw[aB h];exact La h,dG]
theorem Ae(w:ka)(nb:Nat)(se:Bool)(g:Gr)(na ta lv kv:ix)(xs:List K3)(k M:Nat)(h:NfR w nb se g na ta lv kv xs)(hw:WF g)(hk:k<g.ks.length)(hM:Bd g M)(d8:M<=100000000):
  KN JF 110 [nP nb,nI (k:Nat)] w fun v w'=>Sl aO 1 w' v (eT g k)/\Kw w w'/\(eT g k).length<=M/\(∀x∈eT g k,x<g.ks.length)/\∀(B:Nat) (O:Nat->Nat),Kk B O w->Kp O w' v:=by
 have d5:=h.len;have d9:=hM.ks;refine J4 func110 ntmps110 rfl rfl ?_;refine zh ?_;refine bK kL (enc:=aO) (ar w) 1 zd k rfl rfl rfl zd rfl ?_;intro v0 w0 O0 a8 d2 d4;refine zh ?_;refine zlp (fun z:Nat×List Nat×ix×(Nat->Nat)×World=>[(0,nP nb),(5,z.2.2.1),(6,nI z.1)]) (fun z=>z.2.2.2.2) (fun z=>z.1<=z.2.1.length/\Rc g k z.1 z.2.1/\JI aO 3 1 z.2.2.2.1 z.2.2.2.2 1 z.2.2.1 z.2.1/\Jl (fun q=>q=1) (fun _=>0) w z.2.2.2.1 z.2.2.2.2/\Kk w.heap.size z.2.2.2.1 z.2.2.2.2/\gO g (g.ks.length-z.1) z.1 z.2.1=eT g k) (fun z=>g.ks.length-z.1) (0,[k],v0,O0,w0) (⟨J0 _,rK hk,a8,d2,d4,rfl⟩) ?_;rintro⟨i,l,b8,O1,w1⟩ ⟨hi,a5,a2,b3,b7,a'⟩;dsimp only at hi a5 a2 b3 b7 a' ⊢;have d6:=eW a5.nd a5.lt;have b':=a2.sl;refine zh ?_;refine zC ?_ ?_
 ·intro a6;replace a6:i<l.length:=dT a6;have hm:=a5.lt _ (aI a6);have b2:nth l i<xs.length:=zo;have d7:=hM.fr (nth l i);obtain⟨d,hd⟩:∃d,g.ks.length-i=d+1:=⟨g.ks.length-i-1,zo⟩
  rw[hd,gO,if_pos a6]at a';have b1:=h.ext b3.ext;have c2:w1.drew.cell? (nA nb 2)=some kv:=b1.c2;have f0:w1.drew.cell? ((adr kv 3 (nth l i)).add 0)=some (nth xs (nth l i)).1:=b1.f0 b2;have m1:w1.drew.cell? (adr b8 1 i)=some (nI ((nth l i:Nat):Int)):=by have:=b'.cell (j:=0) a6 rfl;rwa[ax]at this
  have c':=(b1.fr _ b2).drew;refine zh ?_;refine LX zk zk ?_;refine zh ?_;refine zwH (ai b1.ks.sh KX (Lt _) rfl rfl (nth l i) rfl b2) ?_;refine zwH (bh c'.sh ln rfl) ?_;refine Mf ?_;refine zh ?_;refine zlp (fun y:Nat×List Nat×ix×(Nat->Nat)×World=>[(0,nP nb),(5,y.2.2.1),(6,nI i),(27,(nth xs (nth l i)).1),(28,nI (g.fr (nth l i)).length),(29,nI y.1)]) (fun y=>y.2.2.2.2) (fun y=>y.1<=(g.fr (nth l i)).length/\y.2.1.length<=l.length+y.1/\JI aO 3 1 y.2.2.2.1 y.2.2.2.2 1 y.2.2.1 y.2.1/\Jl (fun q=>q=1) (fun _=>0) w y.2.2.2.1 y.2.2.2.2/\Kk w.heap.size y.2.2.2.1 y.2.2.2.2/\dG y.2.1 ((g.fr (nth l i)).drop y.1)=dG l (g.fr (nth l i))) (fun y=>(g.fr (nth l i)).length-y.1) (0,l,b8,O1,w1.drew) (⟨J0 _,J7 _,a2.drew,b3.drew,b7.drew,rfl⟩) ?_;rintro⟨j,l2,b5,O2,w2⟩ ⟨hj,c9,a0,b0,b4,a1⟩;dsimp only at hj c9 a0 b0 b4 a1 ⊢;have c7:=h.ext b0.ext;have c6:=a0.sl;have d0:=c7.fr _ b2;refine zh ?_;refine zC ?_ ?_
  ·intro a3;replace a3:j<(g.fr (nth l i)).length:=dT a3;rw[vy a3]at a1;have m2:w2.cell? (adr (nth xs (nth l i)).1 1 j)=some (nI ((nth (g.fr (nth l i)) j:Nat):Int)):=by have:=d0.cell (j:=0) a3 rfl;rwa[ax]at this
   refine zh ?_;refine zc call142 (rn l2 (nth (g.fr (nth l i)) j) b5 w2 c6) ?_
   rintro v w9 ⟨rfl,b9⟩;rw[b9];clear b9 w9;refine zh ?_
   cases hc:l2.contains (nth (g.fr (nth l i)) j)with
   |true=>
    rw[hc,if_pos rfl]at a1;refine zFH rfl rfl ?_;refine zxd (j+1,l2,b5,O2,w2) (⟨a3,by dsimp only;omega,a0,b0,b4,a1⟩)
   |false=>
    rw[hc,if_neg zd]at a1;refine zTH rfl rfl ?_;refine Ke kL a0 b4 ((nth (g.fr (nth l i)) j)) (fun _=>rfl) rfl rfl rfl (by simp[J1]) zo zo zo zd rfl rfl ?_;intro c5 w3 O3 a7 d1 d3;refine zh ?_;refine zxd (j+1,l2++[nth (g.fr (nth l i)) j],c5,O3,w3) (⟨a3,by dsimp only;simp;omega,a7,b0.trans d1,d3,a1⟩)
  intro a9;replace a9:¬j<(g.fr (nth l i)).length:=dF a9;rw[List.drop_of_length_le zo,dG]at a1;subst a1;have a4:=a5.step hw a6;have c8:=eW a4.nd a4.lt;obtain⟨s,hs⟩:=iW (g.fr (nth l i)) l;refine zh ?_;refine zxd (i+1,dG l (g.fr (nth l i)),b5,O2,w2) (⟨by dsimp only;rw[hs];simp;omega,a4,a0,b0,b4,by dsimp only;rw[show g.ks.length-(i+1)=d from by omega];exact a'⟩)
 intro b6;replace b6:¬i<l.length:=dF b6;have e:gO g (g.ks.length-i) i l=l:=by
  cases hd:g.ks.length-i with
  |zero=>rfl
  |succ d=>rw[gO,if_neg b6]
 rw[e]at a';rw[<-a'];refine zh ?_;refine ah rfl rfl (⟨b',b3.ext,zo,a5.lt,fun B O hR=>a2.free zd b7 hR⟩)
abbrev kvI(n:Int):ix:=nI n
abbrev tvU(n:Nat):ix:=.int .u64 (n:Int)
theorem pQ:Mw JF 3 kvI:=Mj KC
theorem Cd{g:Gr}{n:Nat}(he:∀k,g.en k<=n){b:Nat}(hb:b<2^n)(k:Nat):fY g b k<2^n:=by
 unfold fY
 split
 ·exact hb
 rename_i h;have:=he k;exact KT hb (Lq zd zo)
theorem jR{g:Gr}{n:Nat}(he:∀k,g.en k<=n):∀(l:List Nat) (b:Nat),b<2^n->l.foldl (fY g) b<2^n
 |[],_,hb=>hb
 |k::l,_,hb=>jR he l _ (Cd he hb k)
theorem xh(B:Nat)(O:Nat->Nat)(w:ka)(i nb:Nat)(se:Bool)(g:Gr)(nr tr:Nat)(lv kv:ix)(xs:List K3)(l1:List (Int×ix))(l2:List (Int×Nat))(p:Int)(k M:Nat)(hi:2<i)(hR:Kk B O w)(h:NfO O w i nb se g (.map (some nr)) (.map (some tr)) lv kv xs)(e7:JU kvI id O w 1 nr l1)(e6:JU kvI tvU O w 2 tr l2) 
  (hw:WF g) (hk:k<g.ks.length) (hM:Bd g M) (h5:M<=1000000) (he:∀q,g.en q<=40) :
  KN JF 69 [nP nb,nI p,nI (k:Nat)] w fun _ w'=>∃v,Jl (fun q=>q=1\/q=2) O w O w'/\JU kvI id O w' 1 nr (cE l1 p v)/\JU kvI tvU O w' 2 tr (cE l2 p ((eT g k).foldl (fY g) 0))/\Sl aO 1 w' v ((eT g k).flatMap g.lv)/\Kp O w' v:=by
 obtain⟨T0,h4,e1⟩:=hR.bound;obtain⟨T,h1⟩:∃T,T=T0+10+i+2*g.ks.length:=⟨_,rfl⟩
 have hT:∀b,O b<T:=fun b=>by have:=e1 b;omega
 have f6:=h.ks.len;have f':=e7.tag;have f9:=e6.tag;have f8:=h.r;refine J4 func69 ntmps69 rfl rfl ?_;refine zh ?_;refine zc call110 (Ae w nb se g _ _ lv kv xs k M f8 hw hk hM zo) ?_;rintro rv w1 ⟨e5,f5,g7,c7,f7⟩;generalize eT g k=rl at *;have g3:Jl (fun q=>q=T) O w O w1:=aa zo O f5;have g2:=f7 B O hR;have h6:=hM.ks;have b2:∀q,q<rl.length->nth rl q<xs.length:=fun q hq=>by rw[f6];exact c7 _ (aI hq)
 refine zvH (bh e5.sh ln rfl) ?_;refine zlp (fun z:Nat×ix×(Nat->Nat)×World=>[(0,nP nb),(1,nI p),(6,z.2.1),(7,.int .u64 (((rl.take z.1).foldl (fY g) 0:Nat):Int)),(13,rv),(14,nI rl.length),(15,nI z.1)]) (fun z=>z.2.2.2) (fun z=>z.1<=rl.length/\JI aO 3 1 z.2.2.1 z.2.2.2 T z.2.1 ((rl.take z.1).flatMap g.lv)/\((rl.take z.1).flatMap g.lv).length<=z.1*1000000/\Jl (fun q=>q=T) O w z.2.2.1 z.2.2.2/\Kk B z.2.2.1 z.2.2.2/\Sl aO 1 z.2.2.2 rv rl/\Kp z.2.2.1 z.2.2.2 rv) (fun z=>rl.length-z.1) (0,nS,O,w1) (⟨J0 _,JC _ _ _ _ _ _,by simp,g3,hR.ext f5,e5,g2⟩) ?_
 rintro⟨q,v2,O2,w2⟩ ⟨hq,a0,g0,a9,b',a3,d8⟩;dsimp only at hq a0 g0 a9 b' a3 d8 ⊢;have h2:=h.updT a9 zo (fun r _ hr=>zo);have a':=h2.r;have c2:=a'.c2;have g6:=a0.sl;refine zh ?_;refine zC ?_ ?_
 ·intro a5;replace a5:q<rl.length:=dT a5;have b3:=b2 q a5;have m2:w2.cell? (adr rv 1 q)=some (nI ((nth rl q:Nat):Int)):=by have:=a3.cell (j:=0) a5 rfl;rwa[ax]at this
  have f1:=a'.f1 b3;have g9:=hM.lv (nth rl q);refine zh ?_;refine zvH (ai a'.ks.sh KX (Lt _) rfl rfl (nth rl q) rfl b3) ?_;refine de kL a0 b' (a'.lv _ b3) rfl rfl (by simp) (by simp[J1]) zo zo zo rfl ?_;intro v3 w3 O3 a2 e0 f4;have a8:=a9.trans e0;have h3:=h.updT a8 zo (fun r _ hr=>zo);have c8:=h3.r;have b1:=a3.upd d8 e0;have e9:=d8.upd e0;have f2:=c8.f2 b3;have h7:=c8.c2;have g':=he (nth rl q);have e4:rl.take (q+1)=rl.take q++[nth rl q]:=aM a5;have e8:(rl.take (q+1)).foldl (fY g) 0=fY g ((rl.take q).foldl (fY g) 0) (nth rl q):=by rw[e4,Kv];rfl
  have b8:(rl.take (q+1)).flatMap g.lv=(rl.take q).flatMap g.lv++g.lv (nth rl q):=by rw[e4];simp
  have h0:=jR he (rl.take q) 0 zd;refine zh ?_;refine zvH (ai c8.ks.sh KX (Lt _) rfl rfl (nth rl q) rfl b3) ?_;refine zC ?_ ?_
  ·intro a4;have a4:g.en (nth rl q)≠0:=dT a4;have g8:2^(g.en (nth rl q)-1)<2^40:=Lq zd zo;refine zh ?_;rw[show((g.en (nth rl q):Nat):Int)-1=((g.en (nth rl q)-1:Nat):Int)from by omega];refine zv (rL (a:=1) (b:=g.en (nth rl q)-1) rfl rfl rfl rfl (by show _<=64;omega) (by show _<=(18446744073709551615:Int);omega)) ?_;rw[Nat.one_mul];refine zvH (oo (a:=(rl.take q).foldl (fY g) 0) (b:=2^(g.en (nth rl q)-1)) rfl rfl rfl rfl (by show _<=(18446744073709551615:Int);omega) (by show _<=(18446744073709551615:Int);omega)) ?_;have a6:(rl.take (q+1)).foldl (fY g) 0=(rl.take q).foldl (fY g) 0 ||| 2^(g.en (nth rl q)-1):=by rw[e8,fY,if_neg a4]
   rw[<-a6];refine zxd (q+1,v3,O3,w3) (⟨a5,by dsimp only;rw[b8];exact a2,by dsimp only;rw[b8,Jn];omega,a8,f4,b1,e9⟩)
  intro hz;have hz:g.en (nth rl q)=0:=dF hz;refine zh ?_;have a6:(rl.take (q+1)).foldl (fY g) 0=(rl.take q).foldl (fY g) 0:=by rw[e8,fY,if_pos hz]
  rw[<-a6];refine zxd (q+1,v3,O3,w3) (⟨a5,by dsimp only;rw[b8];exact a2,by dsimp only;rw[b8,Jn];omega,a8,f4,b1,e9⟩)
 intro g1;obtain rfl:q=rl.length:=dF g1;rw[Jh]at a0 ⊢;have hf:Kp O w2 v2:=M6 a0 zo hT b' a9;have d7:=e7.upd a9 zd zo;have d1:=e6.upd a9 zd zo;have d3:w2.drew.cell? (nA nb 3)=some (.map (some nr)):=a'.c3;have d4:w2.drew.cell? (nA nb 4)=some (.map (some tr)):=a'.c4;have d9:Jl (fun _=>False) O2 w2 O2 w2.drew:=aa (fun h=>h) O2 (Jk w2).drew;have d6:=d7.upd d9 zd fun h=>h
 have d0:=d1.upd d9 zd fun h=>h
 have b0:∀W (S:Nat->Prop),Jl S O2 w2.drew O2 W->¬S i->W.cell? (nA nb 3)=some (.map (some nr))/\W.cell? (nA nb 4)=some (.map (some tr)):=fun W S u hS=>
  have hb:=h2.blk.drew.upd u zo hS
  ⟨hb.cell 3 rfl,hb.cell 4 rfl⟩
 refine zh ?_;refine aG (fun W=>W.cell? (nA nb 3)=some (.map (some nr))/\W.cell? (nA nb 4)=some (.map (some tr))) 18 rfl zk ?_
 refine zin ⟨d3,d4⟩ fun zS=>?_
 refine zrm 0 rfl zS rfl ?_;refine zr 1 rfl zS (fun _=>ao rfl) ?_
 refine zrf 2 rfl zS rfl ?_;refine zt 3 rfl zS (fun w1 c5=>RV.ld c5.1 rfl) ?_
 refine zrm 4 rfl zS rfl ?_;refine zrm 5 rfl zS rfl ?_
 refine zr 6 rfl zS (fun _=>ao rfl) ?_;refine zrf 7 rfl zS rfl ?_
 refine zt 8 rfl zS (fun w1 c5=>RV.ld c5.2 rfl) ?_;refine zrm 9 rfl zS rfl ?_
 refine zrm 10 rfl zS rfl ?_;refine zrm 11 rfl zS rfl ?_
 refine J9 12 zk rfl ?_;refine mu d6 Jq pQ zd (K4 _) p v2 rfl rfl rfl rfl ?_
 intro w4 c4 b4 e3 b5;refine zh ?_;refine ae (b0 _ _ b5 zo) ?_;refine zr 13 rfl (b0 _ _ b5 zo) (fun _=>Mh rfl rfl) ?_;refine J9 14 zk rfl ?_;refine js e3 rfl rfl rfl rfl ?_;intro w5 d5 b9;have c':=d0.upd b9 zd zd;refine zh ?_;refine ae (b0 _ _ b9 zo) ?_;refine J9 15 zk rfl ?_;refine mu c' Me pQ zd (Mq _) p (rl.foldl (fY g) 0) rfl rfl rfl rfl ?_;intro w6 c6 b6 e2 d';have hU6e:Jl (fun q=>q=1\/q=2) O2 w2.drew O2 w6:=(b9.mono (fun _ h=>.inl h) zo).trans (d'.mono (fun _ h=>.inr h) zo);refine zh ?_;refine ae (b0 _ _ hU6e zo) ?_;refine zr 16 rfl (b0 _ _ hU6e zo) (fun _=>Mh rfl rfl) ?_;refine J9 17 zk rfl ?_;refine js e2 rfl rfl rfl rfl ?_;intro w7 c9 f3;have d2:=d5.upd f3 zd zd;have b7:Jl (fun q=>q=1\/q=2) O2 w2.drew O2 w7:=(b9.mono (fun _ h=>.inl h) zo).trans (f3.mono (fun _ h=>.inr h) zo);refine zh ?_;refine ae (b0 _ _ b7 zo) ?_;have a7:=(d9.mono (S':=fun q=>q=1\/q=2) (fun _ h=>h.elim) zo).trans b7;have e':=(a9.mono (S':=fun q=>q=T\/q=1\/q=2) (fun _ h=>.inl h) zo).trans (a7.mono (fun _ h=>.inr h) zo)
 have g4:Jl (fun q=>q=1\/q=2) O w O w7:=Upd.fgt e' (fun b h=>by
  rcases h with h|h
  ·have:=hT b;omega
  exact h) zo
 have a1:=a0.upd a7 zo zo;have g5:=b'.upd a7;refine JZ zk ?_;refine aH rfl (⟨v2,g4,d2.fgt f',c9.fgt f9,a1.sl,M6 a1 zo hT g5 e'⟩)
theorem gV:∀(l:List Nd) (i:Nat),i<l.length->aT (l.take (i+1))=aT (l.take i)+cY (nth l i)
 |[],i,h=>absurd h (J2 i)
 |t::r,0,_=>by rw[ay];simp[aT]
 |t::r,i+1,h=>by
  have:=gV r i (by simpa using h);rw[bA];simp only[List.take_succ_cons,aT];omega
mutual
theorem lI:∀(t:Nd),cY t<=nsz t
 |.mk k c l=>by
  have:=iO l
  simp only[cY,nsz]
  split<;>omega
theorem iO:∀(l:List Nd),aT l<=dA l
 |[]=>by simp[aT]
 |t::r=>by
  have h1:=lI t
  have h2:=iO r
  simp only[aT,dA]
  omega
end
theorem pK:∀(n:Nat),n<=1000000->∀(t:Nd),nsz t<=n->∀(x:N3) (w:ka),Nt (fun _=>0) w t x->KN JF 65 [nv x] w fun v w'=>v=nI ((cY t:Nat):Int)/\Kw w w'
 |0,_,t,hn=>by have:=dJ t;omega
 |n+1,hn6,.mk k c l,hn=>by
  intro x w h;have ih:=pK n zo;have b5:=h.ones;obtain⟨ys,b3,hf,a7,a4⟩:=h.kids;simp only[Nd.kids]at a7 a4;simp only[nsz]at hn;generalize x.2.2=sv at *;subst b5;simp only[Nd.kind,Nd.cls];have d1:=eV l;have d2:=iO l;refine J4 func65 ntmps65 rfl rfl ?_;refine zh ?_;refine aE (ar w) 1 zo rfl rfl ?_;intro xb w1 O1 b0 d4 d6 a';have c0:w1.cell? (nA xb 0)=some (nI k):=b0.cell 0 rfl;have c2:w1.cell? (nA xb 2)=some sv:=b0.cell 2 rfl;have a6:=b3.ext a';have a2:=a';clear a';refine zh ?_
  by_cases hl:l=[]
  ·subst hl;have b4:ys.length=0:=a7.symm;refine az (d:=10) rfl (b':=true) ((by rw[b4];rfl)) ?_;refine zh ?_
   by_cases h9:k=9
   ·subst h9;have a0:cY (.mk 9 c [])=aT []:=by rw[cY,if_neg (by rintro⟨_,e⟩;exact e rfl)]
    refine zFH rfl rfl ?_;refine zlp (fun z:Nat×ka=>[(3,nI ((aT (([]:List Nd).take z.1):Nat):Int)),(16,sv),(17,nI ys.length),(18,nI z.1)]) (fun z=>z.2) (fun z=>z.1<=([]:List Nd).length/\Kw w1 z.2) (fun z=>([]:List Nd).length-z.1) (0,w1) (⟨J0 _,Jk _⟩) ?_
    rintro⟨q,w2⟩ ⟨hq,a1⟩;dsimp only at hq a1 ⊢;have a5:=a6.ext a1;have b6:q=0:=by simpa using hq
    refine zh ?_;refine zC ?_ ?_
    ·intro a3;exact absurd (of_decide_eq_true a3) zo
    intro b1;subst b6;refine zh ?_;refine ah rfl rfl (⟨by rw[a0,List.take_nil],a2.trans a1⟩)
   have a0:cY (.mk k c [])=1:=by rw[cY,if_pos ⟨rfl,h9⟩]
   rw[a0];refine zTH rfl ((by simpa using h9)) ?_;refine ah rfl rfl (⟨rfl,a2⟩)
  have a0:cY (.mk k c l)=aT l:=by rw[cY,if_neg (by rintro⟨e,_⟩;exact hl (by simpa using e))]
  have b7:=List.length_pos_iff.2 hl;refine az (d:=10) rfl (b':=false) ((by rw[beq_eq_false_iff_ne];omega)) ?_;refine zh ?_;refine zFH rfl rfl ?_;refine zlp (fun z:Nat×ka=>[(3,nI ((aT (l.take z.1):Nat):Int)),(16,sv),(17,nI ys.length),(18,nI z.1)]) (fun z=>z.2) (fun z=>z.1<=l.length/\Kw w1 z.2) (fun z=>l.length-z.1) (0,w1) (⟨J0 _,Jk _⟩) ?_;rintro⟨q,w2⟩ ⟨hq,a1⟩;dsimp only at hq a1 ⊢;have a5:=a6.ext a1;have c9:=cB l q;refine zh ?_;refine zC ?_ ?_
  ·intro a3;replace a3:q<l.length:=dT a3;have a8:=(a4 q zo).ext (a2.trans a1);have c5:=a8.one;have d0:=cu l q a3;have d3:=lI (nth l q);have b9:=iO (l.take q);have c':=dY l q a3;have b8:=cB l (q+1);refine zh ?_;refine zv (af (us:=aV (nth ys q)) (fun j u hu=>a5.cell zo hu) (L6 _) (Km _) rfl) ?_;refine aw (ar w2) 1 zo (LH _) rfl ?_;intro yb w3 O3 a9 c7 d5 d7;refine zsb (us:=#[nI (nth ys q).1,nI (nth ys q).2.1,(nth ys q).2.2]) a9 (Km _) (bZ c5) ?_;have b2:Kw w2 (w3.setRow yb #[nI (nth ys q).1,nI (nth ys q).2.1,(nth ys q).2.2]):=(c7.trans (Jv zd a9.tag rfl)).ext;have c6:=a9.setRow (us:=#[nI (nth ys q).1,nI (nth ys q).2.1,(nth ys q).2.2]);generalize w3.setRow yb #[nI (nth ys q).1,nI (nth ys q).2.1,(nth ys q).2.2]=w4 at *;refine zh ?_;refine zv (af (us:=aV (nth ys q)) c6.cellsAdd (L6 _) (Km _) rfl) ?_;refine zc call65 (ih (nth l q) zo (nth ys q) w4 (a8.ext b2)) ?_;rintro v w5 ⟨rfl,c8⟩;refine zh ?_;rw[show((aT (l.take q):Nat):Int)+((cY (nth l q):Nat):Int)=((aT (l.take (q+1)):Nat):Int)from by rw[gV l q a3];simp];refine zxd (q+1,w5) (⟨a3,(a1.trans b2).trans c8⟩)
  intro b1;obtain rfl:q=l.length:=dF b1;rw[Jh];refine zh ?_;refine ah rfl rfl (⟨by rw[a0],a2.trans a1⟩)
theorem zy(k c m:Int)(b:Nat)(w:ka):KN JF 143 [.agg #[nI k,nI c,nI (b:Nat)],nI m] w fun v w'=>v=.bool (dc k c m)/\Kw w w':=by
 refine J4 func143 ntmps143 rfl rfl ?_;refine zh ?_
 refine aE (ar w) 1 zo rfl rfl ?_;intro xb w1 O1 a4 a5 a6 a3;have c0:w1.cell? (nA xb 0)=some (nI k):=a4.cell 0 rfl;have c1:w1.cell? (nA xb 1)=some (nI c):=a4.cell 1 rfl;obtain⟨cl,a0⟩:∃cl,cl=(decide (0<=m)&&decide (m<36)):=⟨_,rfl⟩
 refine zh ?_;refine bG (fun W=>W=w1) (decide (m<36)) 2 (rfl) rfl rfl rfl rfl rfl ?_ ?_
 ·intro a1;refine zh ?_;refine nE 8 3 (rfl) a1
 rintro w9 rfl;rw[<-a0];refine zh ?_
 by_cases h0:k=0
 ·have hM:dc k c m=(cl&&(m==c)):=by unfold dc;rw[if_pos h0,a0]
  rw[hM];refine zTH rfl ((by simpa using h0)) ?_;refine bG (fun W=>W=w9) ((m==c)) 4 (rfl) rfl rfl rfl rfl rfl ?_ ?_
  ·intro a2;refine zh ?_;refine nE 17 5 (rfl) a2
  rintro w8 rfl;refine zh ?_;refine ah rfl rfl (⟨rfl,a3⟩)
 refine zFH rfl ((by simpa using h0)) ?_
 by_cases h1:k=1
 ·have hM:dc k c m=cl:=by unfold dc;rw[if_neg h0,if_pos h1,a0]
  rw[hM];refine zTH rfl ((by simpa using h1)) ?_;refine ah rfl rfl (⟨rfl,a3⟩)
 refine zFH rfl ((by simpa using h1)) ?_
 by_cases h2:k=2
 ·have hM:dc k c m=(cl&&(m != c)):=by unfold dc;rw[if_neg h0,if_neg h1,if_pos h2,a0]
  rw[hM];refine zTH rfl ((by simpa using h2)) ?_;refine bG (fun W=>W=w9) ((m != c)) 4 (rfl) rfl rfl rfl rfl rfl ?_ ?_
  ·intro a2;refine zh ?_;refine nE 29 5 (rfl) a2
  rintro w8 rfl;refine zh ?_;refine ah rfl rfl (⟨rfl,a3⟩)
 have hM:dc k c m=(m==36):=by unfold dc;rw[if_neg h0,if_neg h1,if_neg h2]
 rw[hM];refine zFH rfl ((by simpa using h2)) ?_;refine ah rfl rfl (⟨rfl,a3⟩)
structure NfD(w:ka)(nb:Nat)(se:Bool)(g:Gr):Prop where
 ex:∃nr tr lv kv xs l1 l2,NfR w nb se g (.map (some nr)) (.map (some tr)) lv kv xs/\JU kvI id (fun _=>0) w 0 nr l1/\JU kvI tvU (fun _=>0) w 0 tr l2/\
  (∀p:Nat,p<=g.ls.length->∃v,bm l1 (p:Int)=some v/\Sl aO 1 w v (cK g p))/\∀p:Nat,p<=g.ls.length->bm l2 (p:Int)=some (oG g p)
theorem ou{κ ν:Type}{kv:κ->ix}{vv:ν->ix}{w w':ka}{r:Nat}{l:List (κ×ν)}(h:JU kv vv (fun _=>0) w 0 r l)(e:Kw w w'):JU kv vv (fun _=>0) w' 0 r l:=by
 obtain⟨es,c,h1,h2⟩:=h.blk;have e1:=e.block r (bq h1);exact⟨⟨es,c,by rw[e1];exact h1,h2⟩,rfl,fun a0 c' h'=>h.born a0 c' (by rw[<-e1];exact h')⟩
theorem NfD.ext{w w':ka}{nb:Nat}{se:Bool}{g:Gr}(h:NfD w nb se g)(e:Kw w w'):NfD w' nb se g:=by
 obtain⟨nr,tr,lv,kv,xs,l1,l2,h1,h2,h3,h4,h5⟩:=h.ex;exact⟨nr,tr,lv,kv,xs,l1,l2,h1.ext e,ou h2 e,ou h3 e,fun p hp=>by obtain⟨v,a,b⟩:=h4 p hp;exact⟨v,a,b.ext e⟩,h5⟩
theorem By(w:ka)(nb:Nat):KN JF 71 [nP nb] w fun v w'=>Sl encI 1 w' v [0]/\Kw w w'/\∀(B:Nat) (O:Nat->Nat),Kk B O w->Kp O w' v:=by
 refine J4 func71 ntmps71 rfl rfl ?_;refine zh ?_
 refine zvH (ez (q:=some ⟨nb,0,none⟩) L4 rfl rfl) ?_;refine zFH rfl rfl ?_
 refine bK kL (enc:=encI) (ar w) 1 zd (0:Int) rfl rfl rfl zd rfl ?_;intro v0 w0 O0 a0 a1 a2;refine zh ?_
 refine ah rfl rfl (⟨a0.sl,a1.ext,fun B O hR=>a0.free zd a2 hR⟩)
def rV(g:Gr)(m:Int)(l:List Nat):List Int:=(l.filter fun j=>dc (nth g.ls (j-1)).1 (nth g.ls (j-1)).2.1 m).map fun(j:Nat)=>(j:Int)
theorem Bb{g:Gr}{m:Int}{l:List Nat}{j:Nat}(h:j<l.length):rV g m (l.take (j+1))=rV g m (l.take j)++if dc (nth g.ls (nth l j-1)).1 (nth g.ls (nth l j-1)).2.1 m=true then [((nth l j:Nat):Int)]else []:=by
 unfold rV;rw[aM h,K9,JN,Kz]
 split<;>rfl
theorem CV(g:Gr)(m:Int)(l:List Nat):(rV g m l).length<=l.length:=by unfold rV;rw[L3];exact KL _ _
theorem step_ret(w:ka)(nb:Nat)(se:Bool)(g:Gr)(s:List Int)(sv:ix)(m:Int)(h:NfD w nb se g)(hs:Sl encI 1 w sv s)(hw:WF g)(h0:0 < g.ks.length)(ht:Tot g)(hp:inP g s)(hsl:s.length ≤ 1000)(hll:g.ls.length ≤ 999):
  KN JF 112 [nP nb, sv, nI m] w fun v w' => Sl encI 1 w' v (cS se g s m) ∧ Kw w w' ∧ ∀(B:Nat) (O:Nat → Nat), Kk B O w → Kp O w' v := by
 have hbnd := h
 obtain⟨nr, tr, lv, kv, xs, l1, l2, hr, hm1, hm2, hn1, hn2⟩ := h.ex
 have hraw:∀q, q ≤ s.length → ((if se = true then [(0:Int)]else []) ++ (s.take q).flatMap fun p => rV g m (cK g p.toNat)).length ≤ 1 + q * 999 := fun q hq => by
  have h1 := D8 (se := se) hw h0 ht (m := m) (s := s.take q) fun x hx => hp x (Ll hx)
  have h2:(s.take q).length * g.ls.length ≤ q * 999 := Nat.mul_le_mul (by simp; omega) hll
  exact KH h1 (by omega)
 refine J4 func112 ntmps112 rfl rfl ?_
 refine Jo ?_
 refine J5 ?_
 refine zv (JX rfl) ?_
 refine J6 ?_
 refine aq ?_
 refine Jo ?_
 refine Jo ?_
 refine J5 ?_
 refine zv (Jp rfl) ?_
 refine zv (ez (q := some ⟨nb, 0, none⟩) L4 rfl rfl) ?_
 refine J6 ?_
 refine aq ?_
 refine aN rfl rfl ?_
 refine KJ ?_
 refine aq ?_
 refine Jo ?_
 refine J5 ?_
 refine zv (JX rfl) ?_
 refine J6 ?_
 refine aq ?_
 refine Jo ?_
 refine Jo ?_
 refine J5 ?_
 refine zv (Jp rfl) ?_
 refine zv (ao rfl) ?_
 refine zv (RV.fa rfl) ?_
 refine zv (RV.ld hr.c0 rfl) ?_
 refine J6 ?_
 refine aq ?_
 refine iy (fun z:ix×(Nat → Nat)×World => [(0, nP nb), (1, sv), (2, nI m), (7, z.1)]) (fun z:ix×(Nat → Nat)×World => z.2.2) (fun z:ix×(Nat → Nat)×World => JI encI 3 1 z.2.1 z.2.2 1 z.1 (if se = true then [0]else []) ∧ Jl (fun q => q = 1) (fun _ => 0) w z.2.1 z.2.2 ∧ Kk w.heap.size z.2.1 z.2.2) ?_ ?_
 ·intro Qm hN
  refine zC ?_ ?_
  ·intro hse
   have e0:([]:List Int).length = 0 := rfl
   refine J5 ?_
   refine zv (Jp rfl) ?_
   refine Ke kL (JC encI 3 1 (fun _ => 0) w 1) (ar w) ((0:Int)) (fun _ => rfl) rfl rfl rfl (by simp[J1]) (by omega) (by omega) (by omega) (by decide) rfl rfl ?_
   intro v1 w1 O1 hrow1 hU1 hR1
   refine zv (JX rfl) ?_
   refine J6 ?_
   exact iC (hN ((v1, O1, w1)) (⟨by rw[if_pos hse]; exact hrow1, hU1, hR1⟩)) ⟨rfl, rfl, rfl, rfl, trivial⟩ rfl
  ·intro hse
   refine KJ ?_
   exact iC (hN ((nS, fun _ => 0, w)) (⟨by rw[if_neg (by rw[hse]; decide)]; exact JC _ _ _ _ _ _, Kf (by decide) _ _, ar w⟩)) ⟨rfl, rfl, rfl, rfl, trivial⟩ rfl
 rintro⟨v1, O1, w1⟩ ⟨hrow1, hU1, hR1⟩
 dsimp only at hrow1 hU1 hR1 ⊢
 obtain⟨hd, hhd⟩:∃hd, hd = (if se = true then [(0:Int)]else []) := ⟨_, rfl⟩
 rw[← hhd]at hrow1 hraw
 refine aq ?_
 refine Jo ?_
 refine Jo ?_
 refine J5 ?_
 refine zv (Jp rfl) ?_
 refine zv (bh hs.sh ln rfl) ?_
 refine zv (Jp rfl) ?_
 refine J6 ?_
 refine aq ?_
 refine KD ?_
 refine zlp (fun z:Nat×ix×(Nat → Nat)×World => [(0, nP nb), (2, nI m), (7, z.2.1), (21, sv), (22, nI s.length), (23, nI z.1)]) (fun z => z.2.2.2) (fun z => z.1 ≤ s.length ∧ JI encI 3 1 z.2.2.1 z.2.2.2 1 z.2.1 (hd ++ (s.take z.1).flatMap fun p => rV g m (cK g p.toNat)) ∧ Jl (fun q => q = 1) (fun _ => 0) w z.2.2.1 z.2.2.2 ∧ Kk w.heap.size z.2.2.1 z.2.2.2) (fun z => s.length - z.1) (0, v1, O1, w1) (⟨J0 _, by simpa using hrow1, hU1, hR1⟩) ?_
 rintro⟨q, v2, O2, w2⟩ ⟨hq, hrow2, hU2, hR2⟩
 dsimp only at hq hrow2 hU2 hR2 ⊢
 have hlen2 := hraw q hq
 refine Jo ?_
 refine J5 ?_
 refine zv (LC rfl rfl) ?_
 refine J6 ?_
 refine aq ?_
 refine Jo ?_
 refine zC ?_ ?_
 ·intro hlt
  replace hlt:q < s.length := by have := of_decide_eq_true hlt; omega
  have hpq := hp _ (aI hlt)
  obtain⟨pn, hpn⟩:∃pn:Nat, nth s q = (pn:Int) := ⟨(nth s q).toNat, by omega⟩
  have hpl:pn ≤ g.ls.length := by have := hpq.2; rw[hpn]at this; simpa using this
  obtain⟨nv1, hnv1, hsn⟩ := hn1 pn hpl
  have hnl := vZ hw ht (uI hw h0 hpl)
  have hs2 := hs.ext hU2.ext
  have hm12 := ou hm1 hU2.ext
  have m2:w2.cell? (adr sv 1 q) = some (nI (nth s q)) := by have := hs2.cell (j := 0) hlt rfl; rwa[ax]at this
  rw[hpn]at m2
  have hr2 := hr.ext hU2.ext
  have hsn2 := hsn.ext hU2.ext
  have c3 := hr2.c3
  refine KJ ?_
  refine aq ?_
  refine Jo ?_
  refine KD ?_
  refine Jo ?_
  refine J5 ?_
  refine zv (KK (by first | exact hs2) ln (Jm _) rfl rfl _ rfl (by omega)) ?_
  refine zv (RV.ld m2 rfl) ?_
  refine zv (JX rfl) ?_
  refine J6 ?_
  refine aq ?_
  refine Jo ?_
  refine J5 ?_
  refine zv (Jp rfl) ?_
  refine zv (ao rfl) ?_
  refine zv (RV.fa rfl) ?_
  refine zv (RV.ld c3 rfl) ?_
  refine zv (Jp rfl) ?_
  refine zv (JW (u := nv1) hm12 Jq pQ (K4 _) (pn:Int) rfl rfl rfl (by rw[hnv1]; rfl)) ?_
  refine zv (bh hsn.sh ln rfl) ?_
  refine zv (Jp rfl) ?_
  refine J6 ?_
  refine aq ?_
  refine KD ?_
  refine zlp (fun y:Nat×ix×(Nat → Nat)×World => [(0, nP nb), (2, nI m), (7, y.2.1), (21, sv), (22, nI s.length), (23, nI q), (32, nv1), (33, nI (cK g pn).length), (34, nI y.1)]) (fun y => y.2.2.2) (fun y => y.1 ≤ (cK g pn).length ∧ JI encI 3 1 y.2.2.1 y.2.2.2 1 y.2.1 ((hd ++ (s.take q).flatMap fun p => rV g m (cK g p.toNat)) ++ rV g m ((cK g pn).take y.1)) ∧ Jl (fun q => q = 1) (fun _ => 0) w y.2.2.1 y.2.2.2 ∧ Kk w.heap.size y.2.2.1 y.2.2.2) (fun y => (cK g pn).length - y.1) (0, v2, O2, w2) (⟨J0 _, by simpa[rV]using hrow2, hU2, hR2⟩) ?_
  rintro⟨j, v3, O3, w3⟩ ⟨hj, hrow3, hU3, hR3⟩
  dsimp only at hj hrow3 hU3 hR3 ⊢
  have hsn3 := hsn.ext hU3.ext
  have hr3 := hr.ext hU3.ext
  have hfl := CV g m ((cK g pn).take j)
  have hlapp:((hd ++ (s.take q).flatMap fun p => rV g m (cK g p.toNat)) ++ rV g m ((cK g pn).take j)).length = (hd ++ (s.take q).flatMap fun p => rV g m (cK g p.toNat)).length + (rV g m ((cK g pn).take j)).length := Jn
  have htl:((cK g pn).take j).length ≤ j := by simp; omega
  refine Jo ?_
  refine J5 ?_
  refine zv (LC rfl rfl) ?_
  refine J6 ?_
  refine aq ?_
  refine Jo ?_
  refine zC ?_ ?_
  ·intro hlt2
   replace hlt2:j < (cK g pn).length := by have := of_decide_eq_true hlt2; omega
   have hjn:1 ≤ nth (cK g pn) j ∧ nth (cK g pn) j ≤ g.ls.length := by
    obtain⟨k, hk, hjk⟩ := (vY hw h0 hpl (nth (cK g pn) j)).1 (aI hlt2)
    exact hw.lv k _ (hk.lt hw (uI hw h0 hpl)) hjk
   have hft := Bb (g := g) (m := m) hlt2
   have m3:w3.cell? (adr nv1 1 j) = some (nI ((nth (cK g pn) j:Nat):Int)) := by have := hsn3.cell (j := 0) hlt2 rfl; rwa[ax]at this
   generalize nth (cK g pn) j = to at *
   have c1 := hr3.c1
   have hls3 := hr3.ls
   refine KJ ?_
   refine aq ?_
   refine Jo ?_
   refine KD ?_
   refine Jo ?_
   refine J5 ?_
   refine zv (KK (by first | exact hsn3) ln (Jm _) rfl rfl _ rfl (by omega)) ?_
   refine zv (RV.ld m3 rfl) ?_
   refine zv (JX rfl) ?_
   refine J6 ?_
   refine aq ?_
   refine Jo ?_
   refine J5 ?_
   refine zv (Jp rfl) ?_
   refine zv (ao rfl) ?_
   refine zv (RV.fa rfl) ?_
   refine zv (RV.ld c1 rfl) ?_
   refine zv (Jp rfl) ?_
   refine zv (RV.sub rfl rfl (KV (by omega))) ?_
   rw[show((to:Nat):Int) - 1 = ((to - 1:Nat):Int)from by omega]
   refine zv (KK hls3 Ln (L9 _) rfl rfl (to - 1) rfl (by omega)) ?_
   refine zv (af (us := rj (nth g.ls (to - 1))) (fun j u hu => hls3.cell (by omega) hu) (isAgg165 _) (L9 _) rfl) ?_
   refine zv (Jp rfl) ?_
   refine zc call143 (zy (nth g.ls (to - 1)).1 (nth g.ls (to - 1)).2.1 m (nth g.ls (to - 1)).2.2 w3) ?_
   rintro v w4 ⟨rfl, hE4⟩
   have hU4 := hU3.trans (aa (by decide) O3 hE4)
   have hR4 := hR3.ext hE4
   have hrow4:JI encI 3 1 O3 w4 1 v3 _ := hrow3.upd (aa (S := fun _ => False) (fun h => h) O3 hE4) (by decide) fun h => h
   refine J6 ?_
   refine aq ?_
   refine zC ?_ ?_
   ·intro hyes
    rw[if_pos hyes]at hft
    refine J5 ?_
    refine zv (Jp rfl) ?_
    refine zv (Jp rfl) ?_
    refine Ke kL hrow4 hR4 (((to:Nat):Int)) (fun _ => rfl) rfl rfl rfl (by simp[J1]) (by omega) (by omega) (by omega) (by decide) rfl rfl ?_
    intro v5 w5 O5 hrow5 hU5 hR5
    refine zv (JX rfl) ?_
    refine J6 ?_
    refine bU ?_
    refine aq ?_
    refine J5 ?_
    refine zv (Lk rfl rfl (KV (by omega))) ?_
    refine zv (Jp rfl) ?_
    refine J6 ?_
    refine zxd (j + 1, v5, O5, w5) (⟨hlt2, by dsimp only; rw[hft, ← JY]; exact hrow5, hU4.trans hU5, hR5⟩)
   ·intro hno
    rw[if_neg (by rw[hno]; decide), Jw]at hft
    refine KJ ?_
    refine bU ?_
    refine aq ?_
    refine J5 ?_
    refine zv (Lk rfl rfl (KV (by omega))) ?_
    refine zv (Jp rfl) ?_
    refine J6 ?_
    refine zxd (j + 1, v3, O3, w4) (⟨hlt2, by dsimp only; rw[hft]; exact hrow4, hU4, hR4⟩)
  ·intro hge2
   obtain rfl:j = (cK g pn).length := by have := of_decide_eq_false hge2; omega
   rw[Jh]at hrow3
   have htk:(s.take (q + 1)).flatMap (fun p => rV g m (cK g p.toNat)) = (s.take q).flatMap (fun p => rV g m (cK g p.toNat)) ++ rV g m (cK g pn) := by rw[aM hlt, JQ, hpn]; simp
   refine LN ?_
   refine bT ?_
   refine bT ?_
   refine dN ?_
   refine bU ?_
   refine aq ?_
   refine J5 ?_
   refine zv (Lk rfl rfl (KV (by omega))) ?_
   refine zv (Jp rfl) ?_
   refine J6 ?_
   refine zxd (q + 1, v3, O3, w3) (⟨hlt, by dsimp only; rw[htk, ← JY]; exact hrow3, hU3, hR3⟩)
 ·intro hge
  obtain rfl:q = s.length := by have := of_decide_eq_false hge; omega
  rw[Jh]at hrow2 hlen2
  have hmul:s.length * 999 ≤ 999000 := by omega
  refine LN ?_
  refine bT ?_
  refine bT ?_
  refine dN ?_
  refine aq ?_
  refine Jo ?_
  refine J5 ?_
  refine zv (Jp rfl) ?_
  refine zc call132 (jT hR2 hrow2 (by decide) (by omega)) ?_
  rintro _ w3 ⟨hrow3, hU3, hR3⟩
  refine J6 ?_
  refine aq ?_
  refine Jo ?_
  refine J5 ?_
  refine zv (Jp rfl) ?_
  refine zc call133 (eK hR3 hrow3 (by decide) (by rw[dS]; omega)) ?_
  rintro v4 w4 ⟨hrow4, hU4, hR4⟩
  have e:Lib.compact (gJ (hd ++ s.flatMap fun p => rV g m (cK g p.toNat))) = cS se g s m := by rw[hhd]; rfl
  rw[e]at hrow4
  refine zv (JX rfl) ?_
  refine J6 ?_
  refine aq ?_
  refine WC.ret ?_
  refine ah rfl rfl (⟨hrow4.sl, ((hU2.trans hU3).trans hU4).ext, fun B O hR => hrow4.free (by decide) hR4 hR⟩)
theorem jQ(w:ka)(nb:Nat)(se:Bool)(g:Gr)(s:List Int)(sv:ix)(h:NfD w nb se g)(hs:Sl encI 1 w sv s)(hp:inP g s)(he:∀q,g.en q<=40):
  KN JF 73 [nP nb,sv] w fun v w'=>v=.int .u64 ((dP g s:Nat):Int)/\w'=w:=by
 obtain⟨nr,tr,lv,kv,xs,l1,l2,hr,b3,a9,b2,a8⟩:=h.ex;have a4:∀p,oG g p<2^40:=fun p=>jR he _ 0 zd
 have b1:=hs.len_le;refine J4 func73 ntmps73 rfl rfl ?_;refine zh ?_;refine zvH (yW (q:=some ⟨nb,0,none⟩) L4 rfl rfl) ?_;refine zTH rfl rfl ?_;refine zlp (fun z:Nat=>[(0,nP nb),(5,.int .u64 ((dP g (s.take z):Nat):Int)),(10,sv),(11,nI s.length),(12,nI z)]) (fun z=>w) (fun z=>z<=s.length/\dP g (s.take z)<2^40) (fun z=>s.length-z) 0 (⟨J0 _,by rw[L7];show(0:Nat)<2^40;decide⟩) ?_;rintro q ⟨hq,a1⟩;refine zh ?_;refine zC ?_ ?_
 ·intro a0;replace a0:q<s.length:=dT a0;have a6:=hp _ (aI a0);obtain⟨pn,a2⟩:∃pn:Nat,nth s q=(pn:Int):=⟨(nth s q).toNat,zo⟩
  have a7:pn<=g.ls.length:=by have:=a6.2;rw[a2]at this;simpa using this
  have a':=a8 pn a7;have m2:w.cell? (adr sv 1 q)=some (nI (nth s q)):=by have:=hs.cell (j:=0) a0 rfl;rwa[ax]at this
  rw[a2]at m2;have c4:=hr.c4;have a5:=a4 pn;have a3:dP g (s.take (q+1))=dP g (s.take q) ||| oG g pn:=by
   unfold dP;rw[aM a0,Kv,a2];rfl
  refine zh ?_;refine zv (JW (u:=.int .u64 ((oG g pn:Nat):Int)) a9 Me pQ (Mq _) (pn:Int) rfl rfl rfl (by rw[a'];rfl)) ?_
  refine zvH (oo (a:=dP g (s.take q)) (b:=oG g pn) rfl rfl rfl rfl (by show _<=(18446744073709551615:Int);omega) (by show _<=(18446744073709551615:Int);omega)) ?_;rw[<-a3];refine zxd (q+1) (⟨a0,by rw[a3];exact KT a1 a5⟩)
 intro b0;obtain rfl:q=s.length:=dF b0;rw[Jh];refine zh ?_;refine ah rfl rfl (⟨rfl,rfl⟩)
mutual
theorem tz:∀(t:Nd) (wi:Bool),oW t wi=true->yo t=true/\gK t=true
 |.mk k c l,wi,h=>by
  unfold oW at h
  simp only[L0]at h
  obtain⟨h1,h2⟩:=h
  obtain⟨i1,i2⟩:=pX l h2
  unfold yo gK
  rw[i1,i2,LV,LV]
  have hl:l.isEmpty=true↔l.length=0:=by cases l<;>simp
  rcases yr h1 with⟨rfl,hn,_⟩|⟨rfl,hn,_⟩|⟨rfl,hn,_⟩|⟨rfl,hn,_⟩|⟨rfl,hn,_⟩|⟨rfl,hn,_⟩|⟨rfl,hn,_⟩|⟨rfl,hn,_⟩|⟨rfl,hn,_⟩|⟨rfl,hn,_⟩
  ·exact⟨by rw[if_neg zd];exact hl.2 hn,by rw[if_neg zd,if_neg zd]⟩
  ·exact⟨by rw[if_neg zd];exact hl.2 hn,by rw[if_neg zd,if_neg zd]⟩
  ·exact⟨by rw[if_neg zd];exact hl.2 hn,by rw[if_neg zd,if_neg zd]⟩
  ·exact⟨by rw[if_neg zd];exact hl.2 hn,by rw[if_neg zd,if_neg zd]⟩
  ·have:l.isEmpty=false:=by cases l;simp at hn;rfl
   exact⟨by rw[if_pos zd,this];rfl,by rw[if_pos rfl,this];rfl⟩
  ·have:l.isEmpty=false:=by cases l;simp at hn;rfl
   exact⟨by rw[if_pos zd,this];rfl,by rw[if_neg zd,if_neg zd]⟩
  ·have:l.isEmpty=false:=by cases l;simp at hn;rfl
   exact⟨by rw[if_pos zd,this];rfl,by rw[if_neg zd,if_pos zd,hn];rfl⟩
  ·have:l.isEmpty=false:=by cases l;simp at hn;rfl
   exact⟨by rw[if_pos zd,this];rfl,by rw[if_neg zd,if_pos zd,hn];rfl⟩
  ·have:l.isEmpty=false:=by cases l;simp at hn;rfl
   exact⟨by rw[if_pos zd,this];rfl,by rw[if_neg zd,if_pos zd,hn];rfl⟩
  exact⟨by rw[if_neg zd];exact hl.2 hn,by rw[if_neg zd,if_neg zd]⟩
theorem pX:∀(l:List Nd),tD l=true->jH l=true/\dV l=true
 |[],_=>⟨rfl,rfl⟩
 |t::r,h=>by
  rw[tD,L0]at h
  obtain⟨a1,a2⟩:=tz t true h.1
  obtain⟨b1,b2⟩:=pX r h.2
  unfold jH dV
  rw[a1,a2,b1,b2]
  exact⟨rfl,rfl⟩
end
theorem iJ{t:Nd}(h:bO t=true):yo t=true/\gK t=true/\nsz t<=2000:=by
 unfold bO at h;simp only[L0,decide_eq_true_eq]at h;obtain⟨h1,h2⟩:=tz t false h.2;exact⟨h1,h2,h.1⟩
theorem jz:∀ {l:List Nd},(∀t∈l,bO t=true)->jH l=true/\dV l=true
 |[],_=>⟨rfl,rfl⟩
 |t::r,h=>by
  obtain⟨a1,a2,_⟩:=iJ (h t (by simp));obtain⟨b1,b2⟩:=jz (l:=r) fun x hx=>h x (by simp[hx])
  unfold jH dV;rw[a1,a2,b1,b2];exact⟨rfl,rfl⟩
theorem xD:∀(xs:List Nd) (i:Nat) (g:Gr),WF g->0<g.ks.length->(∀k,g.en k<=i)->∀k,(dE xs i g).en k<=i+xs.length
 |[],i,g,_,_,h,k=>by have:=h k;show g.en k<=_;omega
 |x::r,i,g,hw,h0,h,k=>by
  obtain⟨h1,h2,h3⟩:=qH hw h0 x i
  have:=xD r (i+1) (sN x i g) h1 zo (fun q=>by
   rw[Ak hw h0]
   split
   ·omega
   split
   ·have:=h q;omega
   omega) k
  simp only[JR];show(dE r (i+1) (sN x i g)).en k<=_;omega
theorem Aq(xs:List Nd)(k:Nat):(rT xs).en k<=xs.length:=by
 have:=xD xs 0 g00 xm zd (fun q=>by
  unfold Gr.en g00
  by_cases e:q=0
  ·subst e;rw[ay];exact J7 _
  rw[eF (by simp;omega)];exact J7 _) k
 rw[Nat.zero_add]at this;exact this
theorem Fh(xs:List Nd):Tot (rT xs):=tS xs 0 g00 xm zd (by simp[Tot,uq,g00])
theorem pC{xs:List Nd}(h1:jH xs=true)(h2:dV xs=true):(rT xs).ls.length=aT xs:=by
 have:=mo xs 0 g00 h1 h2;unfold rT;rw[this];simp[g00]
theorem Bd.mark{g:Gr}{M:Nat}(h:Bd g M){a e:Nat}(ha:a<g.ks.length):Bd (g.mark a e) M:=⟨by rw[dr];exact h.ks,h.ls,fun k=>by rw[qO ha];exact h.fr k,fun k=>by rw[qN ha];exact h.lv k⟩
theorem Fc{g:Gr}(h:WF g)(h0:0<g.ks.length)(x:Nd)(i:Nat){M:Nat}(hM:Bd g M):Bd (sN x i g) (M+3+(9*nsz x-1)):=by
 have e1:=aL g;have e2:=dr g.knot g.ks.length (i+1);have e3:=aL (g.knot.mark g.ks.length (i+1));have hl:=fq g i;exact gi x _ _ _ _ (gI h h0 i).1 zo zo (((hM.knot.mark zo).knot).free zo)
theorem yL{xs:List Nd}{q:Nat}{g:Gr}(h:q<xs.length):dE (xs.drop q) q g=dE (xs.drop (q+1)) (q+1) (sN (nth xs q) q g):=by
 rw[lM h,dE]
theorem GC:Bd g00 1:=by
 refine⟨zd,zd,fun k=>?_,fun k=>?_⟩
 ·unfold Gr.fr g00
  by_cases e:k=0
  ·subst e;rw[ay];decide
  rw[eF (by simp;omega)];decide
 unfold Gr.lv g00
 by_cases e:k=0
 ·subst e;rw[ay];decide
 rw[eF (by simp;omega)];decide
def dB(ts:List Nd):Int:=if 40<ts.length then 3 else if ts.any (fun t=>!bO t)=true then 1 else if 1000<1+aT ts then 7 else 0
theorem Cx(t:Nd)(x:N3)(w:ka)(h:Nt (fun _=>0) w t x):KN JF 64 [nv x] w fun v w'=>v=.bool (!bO t)/\Kw w w':=by
 have hx:=h.ones;have a3:=h.one;refine J4 func64 ntmps64 rfl rfl ?_;refine zh ?_;refine aE (ar w) 1 zo rfl rfl ?_;intro xb w1 O1 a1 a4 a5 a0;refine zh ?_;refine zv (af (us:=aV x) a1.cellsAdd (L6 _) (Km _) rfl) ?_;refine zc call61 (fD t x w1 (h.ext a0)) ?_;rintro v w2 ⟨rfl,a2⟩;refine zh ?_;refine ah rfl rfl (⟨rfl,a0.trans a2⟩)
def Ar(nb:Nat)(e:Int):ix:=.pointer (if e=0 then some ⟨nb,0,none⟩else none)
theorem Fj(se:Bool)(ts:List Nd)(xs:List N3)(sv:ix)(w:ka)(hs:Sl aV 3 w sv xs)(hl:ts.length=xs.length)(hk:∀i,i<xs.length->Nt (fun _=>0) w (nth ts i) (nth xs i)):
  KN JF 35 [.bool se,sv] w fun v w'=>∃nb,v=.tuple #[Ar nb (dB ts),nI (dB ts)]/\Kw w w'/\(dB ts=0->NfD w' nb se (rT ts)):=by
 refine J4 func35 ntmps35 rfl rfl ?_;refine zh ?_
 by_cases g4:40<ts.length
 ·have hM:dB ts=3:=by unfold dB;rw[if_pos g4]
  rw[hM];refine zTH rfl ((decide_eq_true zo)) ?_;refine bx rfl rfl rfl (⟨0,rfl,Jk _,fun h=>by cases h⟩)
 have hq:∀i,i<xs.length->∀w',Kw w w'->KN JF 64 ([nv (nth xs i)]++(#[]:Array ix).toList) w' fun v w''=>v=.bool (!bO (nth ts i))/\Kw w' w'':=fun i hi w' hE=>Cx _ _ w' ((hk i hi).ext hE)
 have j2:jc (fun i=>!bO (nth ts i)) xs.length=ts.any (fun t=>!bO t):=by rw[<-hl];exact im (p:=fun t=>!bO t)
 refine zFH rfl ((decide_eq_false zo)) ?_;refine zc call63 (cQ call64 #[] xs sv (fun i=>!bO (nth ts i)) w hs hq) ?_
 rw[j2];rintro v w1 ⟨rfl,k1⟩;refine zh ?_
 cases b0:ts.any (fun t=>!bO t)with
 |true=>
  have hM:dB ts=1:=by unfold dB;rw[if_neg g4,if_pos b0]
  rw[hM];refine zTH rfl rfl ?_;refine bx rfl rfl rfl (⟨0,rfl,k1,fun h=>by cases h⟩)
 |false=>
  have a6:∀t∈ts,bO t=true:=fun t ht=>by
   have:=List.any_eq_false.1 b0 t ht;simpa using this
  obtain⟨e6,b7⟩:=jz a6;have hR:∀q,q<ts.length->bO (nth ts q)=true:=fun q hq=>a6 _ (aI hq)
  have p0:=hs.ext k1;refine zFH rfl rfl ?_;refine zlp (fun z:Nat×ka=>[(0,.bool se),(1,sv),(6,nI ((1+aT (ts.take z.1):Nat):Int)),(23,sv),(24,nI xs.length),(25,nI z.1)]) (fun z=>z.2) (fun z=>z.1<=ts.length/\Kw w z.2/\aT (ts.take z.1)<=z.1*2000) (fun z=>ts.length-z.1) (0,w1) (⟨J0 _,k1,by simp[aT]⟩) ?_;rintro⟨q,w2⟩ ⟨m',b5,l0⟩;dsimp only at m' b5 l0 ⊢;have k9:=hs.ext b5;refine zh ?_;refine zC ?_ ?_
  ·intro a0;replace a0:q<ts.length:=dT a0;have a7:=(hk q zo).ext b5;have i6:=a7.one;have p3:=lI (nth ts q);have m7:=(iJ (hR q a0)).2.2;have m6:=gV ts q a0;refine zh ?_;refine zv (af (us:=aV (nth xs q)) (fun j u hu=>k9.cell zo hu) (L6 _) (Km _) rfl) ?_;refine aw (ar w2) 1 zo (LH _) rfl ?_;intro yb w3 O3 j1 j4 l6 p4;refine zsb (us:=#[nI (nth xs q).1,nI (nth xs q).2.1,(nth xs q).2.2]) j1 (Km _) (bZ i6) ?_;have l8:Kw w2 (w3.setRow yb #[nI (nth xs q).1,nI (nth xs q).2.1,(nth xs q).2.2]):=(j4.trans (Jv zd j1.tag rfl)).ext;have o0:=j1.setRow (us:=#[nI (nth xs q).1,nI (nth xs q).2.1,(nth xs q).2.2]);generalize w3.setRow yb #[nI (nth xs q).1,nI (nth xs q).2.1,(nth xs q).2.2]=w4 at *;refine zh ?_;refine zv (af (us:=aV (nth xs q)) o0.cellsAdd (L6 _) (Km _) rfl) ?_;refine zc call65 (pK (nsz (nth ts q)) zo (nth ts q) (J7 _) (nth xs q) w4 (a7.ext l8)) ?_;rintro v w5 ⟨rfl,l7⟩;refine zh ?_;rw[show((1+aT (ts.take q):Nat):Int)+((cY (nth ts q):Nat):Int)=((1+aT (ts.take (q+1)):Nat):Int)from by rw[m6];omega];refine zxd (q+1,w5) (⟨a0,(b5.trans l8).trans l7,by dsimp only;omega⟩)
  intro i8;obtain rfl:q=ts.length:=dF i8;rw[Jh]at l0 ⊢;refine zh ?_
  by_cases e9:1000<1+aT ts
  ·have hM:dB ts=7:=by unfold dB;rw[if_neg g4,if_neg (by rw[b0];decide),if_pos e9]
   rw[hM];refine zTH rfl ((decide_eq_true zo)) ?_;refine bx rfl rfl rfl (⟨0,rfl,b5,fun h=>by cases h⟩)
  have hM:dB ts=0:=by unfold dB;rw[if_neg g4,if_neg (by rw[b0];decide),if_neg e9]
  rw[hM];refine zFH rfl ((decide_eq_false zo)) ?_;refine aS kvI id (ar w2) 1 zd rfl ?_;intro nr w3 O3 n4 j4 l6;refine aS kvI tvU l6 2 zd rfl ?_;intro tr w4 O4 n3 l4 o4;have h':=n4.upd l4 zd zd;refine zv (aF Il (zeroValue160 _) rfl (by first|rfl|(simp only[JP,Kl];rfl)) rfl rfl) ?_;refine aE o4 3 zo rfl rfl ?_;intro nb w5 O5 n' j3 o3 l7;have i5:=h'.upd j3 zd zd;have i2:=n3.upd j3 zd zd;have f6:Jl (fun q=>1<=q) (fun _=>0) w2 O5 w5:=((j4.mono (fun _ h=>zo) zo).trans (l4.mono (fun _ h=>zo) zo)).trans (j3.mono (fun _ h=>zo) zo);have h5:NfO O5 w5 3 nb se ⟨[],[]⟩ (.map (some nr)) (.map (some tr)) (nS) (nS) []:=⟨n',JC _ _ _ _ _ _,⟨JC _ _ _ _ _ _,rfl,fun k hk=>absurd hk (J2 k),fun k hk=>absurd hk (J2 k),fun k hk=>absurd hk (J2 k)⟩⟩
  refine zh ?_;refine zc Mu (iQ w2.heap.size O5 w5 3 nb se ⟨[],[]⟩ _ _ _ _ _ zd o3 h5 zd) ?_
  rintro _ w6 ⟨rfl,O6,m0,m2,l9,o1,o2,h6⟩;have o':=k9.ext f6.ext;refine zh ?_;refine zvH (bh hs.sh underlying65 rfl) ?_;refine zlp (fun z:Nat×(Nat->Nat)×World×Gr×ix×ix×List K3=>[(9,nP nb),(43,sv),(44,nI xs.length),(45,nI z.1)]) (fun z=>z.2.2.1) (fun z=>z.1<=ts.length/\Jl (fun q=>3<=q) O5 w5 z.2.1 z.2.2.1/\Kk w2.heap.size z.2.1 z.2.2.1/\NfO z.2.1 z.2.2.1 3 nb se z.2.2.2.1 (.map (some nr)) (.map (some tr)) z.2.2.2.2.1 z.2.2.2.2.2.1 z.2.2.2.2.2.2/\WF z.2.2.2.1/\0<z.2.2.2.1.ks.length/\Bd z.2.2.2.1 (1+z.1*18010)/\dE ts 0 g00=dE (ts.drop z.1) z.1 z.2.2.2.1) (fun z=>ts.length-z.1) (0,O6,w6,g00,m0,m2,l9) (⟨J0 _,o1,o2,h6,xm,(show 0<g00.ks.length by decide),(show Bd g00 (1+0*18010)from GC),rfl⟩) ?_;rintro⟨q,O7,w7,g,g1,g9,g5⟩ ⟨m9,f5,c9,h7,b6,f9,f3,b3⟩;dsimp only at m9 f5 c9 h7 b6 f9 f3 b3 ⊢;have c7:=f6.trans (f5.mono (S':=fun q=>1<=q) (fun q h=>zo) zo);have k2:=b5.trans c7.ext;refine zh ?_;refine zC ?_ ?_
  ·intro a0;replace a0:q<ts.length:=dT a0;rw[yL a0]at b3;have m8:=hs.ext k2;have a7:Nt O7 w7 (nth ts q) (nth xs q):=((hk q zo).ext b5).upd c7;have i6:=a7.one;have m7:=(iJ (hR q a0)).2.2;have h3:=(iJ (hR q a0)).2.1;obtain⟨T,j7,hT⟩:=c9.bound;refine zh ?_;refine zv (af (us:=aV (nth xs q)) (fun j u hu=>m8.cell zo hu) (L6 _) (Km _) rfl) ?_;refine aw c9 T zo (LH _) rfl ?_;intro yb w8 O8 g2 d2 l5 o5;refine zh ?_;refine zsb (us:=#[nI (nth xs q).1,nI (nth xs q).2.1,(nth xs q).2.2]) g2 (Km _) (bZ i6) ?_;have f4:Jl (fun j=>j=T) O8 w8 O8 (w8.setRow yb #[nI (nth xs q).1,nI (nth xs q).2.1,(nth xs q).2.2]):=Jv zo g2.tag rfl;obtain⟨g3,n7⟩:=FR j7 hT d2 f4 (g2.setRow (us:=#[nI (nth xs q).1,nI (nth xs q).2.1,(nth xs q).2.2]));generalize w8.setRow yb #[nI (nth xs q).1,nI (nth xs q).2.1,(nth xs q).2.2]=w9 at *;clear g2 d2 l5 o5 f4;have h9:=h7.ext g3 zd;have f8:=c9.ext g3;have c6:Jl (fun q=>3<=q) O7 w7 O7 w9:=aa zo O7 g3;have e7:=a7.ext g3;have n6:=f3.ks;have e1:=aL g;refine zh ?_;refine zc Mu (iQ w2.heap.size O7 w9 3 nb se g _ _ _ _ _ zd f8 h9 zo) ?_;rintro _ g0 ⟨rfl,O10,g8,h0,a5,b2,d0,a'⟩;have m4:=a'.ks.len;have d7:g.ks.length<a5.length:=zo;have c2:=a'.c2;refine zh ?_;rw[show((q:Nat):Int)+1=((q+1:Nat):Int)from by omega];refine zvH (ai a'.ks.row.sl.sh KX (Lt _) rfl rfl g.ks.length rfl d7) ?_
   refine oi a'.ks.row g.ks.length d7 2 zd (((nth a5 g.ks.length).1,(nth a5 g.ks.length).2.1,q+1):K3) (Jm _) rfl zo rfl rfl rfl rfl ?_;intro d4 b8 a4;have e2:=dr g.knot g.ks.length (q+1);have k5:NfO O10 d4 3 nb se (g.knot.mark g.ks.length (q+1)) (.map (some nr)) (.map (some tr)) g8 h0 (a5.set g.ks.length ((nth a5 g.ks.length).1,(nth a5 g.ks.length).2.1,q+1)):=by
    refine⟨a'.blk.upd a4 zd zd,a'.ls.upd a4 zd zd,⟨b8,by rw[Jj];omega,fun k hk=>?_,fun k hk=>?_,fun k hk=>?_⟩⟩
    ·rw[Jj]at hk;rw[aQ d7,qO zo]
     split
     ·rename_i e;subst e;exact(a'.ks.fr _ hk).upd a4 zo zo
     exact(a'.ks.fr k hk).upd a4 zo zo
    ·rw[Jj]at hk;rw[aQ d7,qN zo]
     split
     ·rename_i e;subst e;exact(a'.ks.lv _ hk).upd a4 zo zo
     exact(a'.ks.lv k hk).upd a4 zo zo
    rw[Jj]at hk;rw[aQ d7,AA zo]
    split
    ·rfl
    exact a'.ks.en k hk
   have c':=d0.upd a4;have f7:=Upd.hi a4 (i:=3) zd zd;refine zh ?_;refine zc Mu (iQ w2.heap.size O10 d4 3 nb se (g.knot.mark g.ks.length (q+1)) _ _ _ _ _ zd c' k5 zo) ?_;rintro _ f' ⟨rfl,O12,m1,m3,l',c8,j',o8⟩;have e3:=aL (g.knot.mark g.ks.length (q+1));rw[show((g.knot.mark g.ks.length (q+1)).ks.length:Nat)=g.ks.length+1 from by omega];have b4:=(f3.knot.mark (a:=g.ks.length) (e:=q+1) zo).knot;refine zh ?_;refine zc call67 (gj w2.heap.size O12 f' 3 nb se (g.knot.mark g.ks.length (q+1)).knot _ _ _ _ _ 0 (g.ks.length+1) zd j' o8 zo (by have:=b4.fr 0;omega) zo) ?_;rintro _ k7 ⟨O13,g7,g',g6,j6,j9,o7⟩;have k4:NfO O13 k7 3 nb se (gz g q) (.map (some nr)) (.map (some tr)) g7 g' g6:=o7;obtain⟨m5,k8⟩:=gI b6 f9 q;have o9:=fq g q;have n8:Bd (gz g q) (1+q*18010+3):=b4.free zo;have a8:=((b2.trans f7).trans c8).trans j6;refine zh ?_;refine zvH (af (us:=aV (nth xs q)) (fun j u hu=>((n7 j u hu).upd a8).c) (L6 _) (Km _) rfl) ?_;refine zc call68 (AK (nsz (nth ts q)) (nth ts q) (J7 _) w2.heap.size O13 k7 3 nb se (gz g q) _ _ _ _ _ (g.ks.length+1) g.ks.length (nth xs q) (1+q*18010+3) zd j9 k4 m5 zo zo n8 zo h3 (e7.upd a8)) ?_;rintro _ k6 ⟨O14,d5,d6,d3,j5,j8,o6⟩;have k3:NfO O14 k6 3 nb se (sN (nth ts q) q g) (.map (some nr)) (.map (some tr)) d5 d6 d3:=o6;obtain⟨n2,p2,p1⟩:=qH b6 f9 (nth ts q) q;have n1:=Fc b6 f9 (nth ts q) q f3;refine zh ?_
   refine zxd (q+1,O14,k6,sN (nth ts q) q g,d5,d6,d3) (⟨a0,((f5.trans c6).trans a8).trans j5,j8,k3,n2,by dsimp only;omega,n1.mono (by dsimp only;omega),b3⟩)
  intro i8;obtain rfl:q=ts.length:=dF i8;rw[LG,dE]at b3;have b3:rT ts=g:=b3;have i4:=i5.upd f5 zd zd;have i1:=i2.upd f5 zd zd;have l3:∀k,g.en k<=40:=fun k=>by rw[<-b3];have:=Aq ts k;omega
  have n5:=pC e6 b7;rw[b3]at n5 ⊢;have e':Bd g 1000000:=f3.mono zo;refine zh ?_;refine zc call69 (xh w2.heap.size O7 w7 3 nb se g nr tr g1 g9 g5 [] [] 0 0 1000000 zd c9 h7 i4 i1 b6 f9 e' zd l3) ?_;rintro _ w8 ⟨v0,d2,i3,i0,h2,i9⟩;have h8:=h7.upd d2 zd zo;have l5:=c9.upd d2;have c1:=h8.c1;have n0:g.pl 0=0:=rfl;refine zh ?_;refine zvH (bh h8.ls.sl.sh Ln rfl) ?_;refine zlp (fun z:Nat×ka×List (Int×ix)×List (Int×Nat)=>[(9,nP nb),(77,g1),(78,nI g.ls.length),(79,nI z.1)]) (fun z=>z.2.1) (fun z=>z.1<=g.ls.length/\Jl (fun q=>q=1\/q=2) O7 w7 O7 z.2.1/\JU kvI id O7 z.2.1 1 nr z.2.2.1/\JU kvI tvU O7 z.2.1 2 tr z.2.2.2/\(∀p:Nat,p<=z.1->∃v,bm z.2.2.1 (p:Int)=some v/\Sl aO 1 z.2.1 v (cK g p)/\Kp O7 z.2.1 v)/\(∀p:Nat,p<=z.1->bm z.2.2.2 (p:Int)=some (oG g p))) (fun z=>g.ls.length-z.1) (0,w8,cE [] 0 v0,cE [] 0 ((eT g 0).foldl (fY g) 0)) (⟨J0 _,d2,i3,i0,fun p hp=>⟨v0,by obtain rfl:p=0:=Lr.1 hp;rfl,by obtain rfl:p=0:=Lr.1 hp;exact h2,i9⟩,fun p hp=>by obtain rfl:p=0:=Lr.1 hp;rfl⟩) ?_;rintro⟨j,w9,l1,l2⟩ ⟨hj,c6,b',b9,h4,h1⟩;dsimp only at hj c6 b' b9 h4 h1 ⊢;have h9:=h7.upd c6 zd zo;have f8:=c9.upd c6;have e5:=h9.ls.sl;refine zh ?_;refine zC ?_ ?_
  ·intro a0;replace a0:j<g.ls.length:=dT a0;have n9:=b6.ls j a0;obtain⟨T,j7,hT⟩:=f8.bound;refine zh ?_;refine zv (KK e5 Ln (L9 _) rfl rfl j rfl a0) ?_;refine zv (af (us:=rj (nth g.ls j)) (fun q u hu=>e5.cell a0 hu) (isAgg165 _) (L9 _) rfl) ?_;refine aw f8 T zo (zeroValue165 _) rfl ?_;intro yb g0 O10 b1 b2 d0 k0;refine zh ?_;refine zsa (us:=(rj (nth g.ls j)).toArray) b1 (L9 _) ?_;have f4:Jl (fun j=>j=T) O10 g0 O10 (g0.setRow yb (rj (nth g.ls j)).toArray):=Jv zo b1.tag rfl;obtain⟨d1,j0⟩:=FR j7 hT b2 f4 (b1.setRow (us:=(rj (nth g.ls j)).toArray));generalize g0.setRow yb (rj (nth g.ls j)).toArray=d4 at *;clear b1 b2 d0 k0 f4;have c5:Jl (fun _=>False) O7 w9 O7 d4:=aa (fun h=>h) O7 d1;have k5:=h9.ext d1 zd;have c':=f8.ext d1;have e4:=b'.upd c5 zd fun h=>h
   have d':=b9.upd c5 zd fun h=>h
   have p5:=(j0 2 _ rfl).c;refine zh ?_;refine zc call69 (xh w2.heap.size O7 d4 3 nb se g nr tr g1 g9 g5 l1 l2 ((j:Nat)+1) (nth g.ls j).2.2 1000000 zd c' k5 e4 d' b6 n9 e' zd l3) ?_;rintro _ f' ⟨v1,c8,e0,d9,d8,e8⟩;have a9:Jl (fun q=>q=1\/q=2) O7 w9 O7 f':=(c5.mono (fun _ h=>h.elim) zo).trans c8;have k':g.pl (j+1)=(nth g.ls j).2.2:=by unfold Gr.pl;rw[if_neg zo];rfl
   refine zh ?_;refine zxd (j+1,f',cE l1 ((j:Nat)+1) v1,cE l2 ((j:Nat)+1) ((eT g (nth g.ls j).2.2).foldl (fY g) 0)) (⟨a0,c6.trans a9,e0,d9,fun p hp=>?_,fun p hp=>?_⟩)
   ·dsimp only at hp ⊢;rw[aP]
    by_cases e:p=j+1
    ·subst e;exact⟨v1,by rw[if_pos zo],by unfold cK;rw[k'];exact d8,e8⟩
    obtain⟨v,a1,a2,a3⟩:=h4 p zo;exact⟨v,by rw[if_neg zo];exact a1,a2.upd a3 a9,a3.upd a9⟩
   dsimp only at hp ⊢;rw[aP]
   by_cases e:p=j+1
   ·subst e;rw[if_pos zo];unfold oG;rw[k']
   rw[if_neg zo];exact h1 p zo
  intro i7;obtain rfl:j=g.ls.length:=dF i7;refine zh ?_;refine bx rfl rfl rfl (⟨nb,rfl,b5.trans (c7.trans (c6.mono (S':=fun q=>1<=q) (fun q h=>zo) zo)).ext,fun _=>⟨nr,tr,g1,g9,g5,l1,l2,h9.r,b'.fgt (i':=0) rfl,b9.fgt (i':=0) rfl,fun p hp=>by obtain⟨v,a1,a2,_⟩:=h4 p hp;exact⟨v,a1,a2⟩,h1⟩⟩)
abbrev Bn(b:UInt8):List ix:=[.int .u8 (b.toNat:Int)]
theorem IZ:LQ JF 174 5 1 1:=⟨KG,by kernel_rfl,zd⟩
theorem Du:LQ JF 70 22 1 24:=⟨JD,by kernel_rfl,zd⟩
theorem mF:LQ JF 31 28 1 8:=⟨Lx,by kernel_rfl,zd⟩
theorem qq(n:Nat):My.wrap (n:Int)=((JG (n % 256)).toNat:Int):=by
 rw[Mx];simp only[UInt8.toNat_ofNat'];omega
theorem yC(s:List Int)(sv:ix)(w:ka)(h:Sl encI 1 w sv s)(ho:okS s)(hl:s.length<=100000):KN JF 111 [sv] w fun v w'=>v=.string (bs (uh s))/\Kw w w':=by
 refine J4 func111 ntmps111 rfl rfl ?_;refine zh ?_
 refine zlp (fun z:Nat×ix×(Nat->Nat)×World=>[(3,z.2.1),(6,sv),(7,nI s.length),(8,nI z.1)]) (fun z=>z.2.2.2) (fun z=>z.1<=s.length/\JI Bn 5 1 z.2.2.1 z.2.2.2 1 z.2.1 (uh (s.take z.1))/\(uh (s.take z.1)).length=2*z.1/\Jl (fun q=>q=1) (fun _=>0) w z.2.2.1 z.2.2.2/\Kk w.heap.size z.2.2.1 z.2.2.2) (fun z=>s.length-z.1) (0,nS,fun _=>0,w) (⟨J0 _,JC _ _ _ _ _ _,rfl,Kf zd _ _,ar w⟩) ?_;rintro⟨q,v1,O1,w1⟩ ⟨hq,a0,a4,hU,hR⟩;dsimp only at hq a0 a4 hU hR ⊢;have h1:=h.ext hU.ext;refine zh ?_
 refine zC ?_ ?_
 ·intro a1;replace a1:q<s.length:=dT a1;have a7:=ho _ (aI a1);obtain⟨p,hp⟩:∃p:Nat,nth s q=(p:Int):=⟨(nth s q).toNat,zo⟩
  have b1:p<=999:=by have:=a7.2;rw[hp]at this;simpa using this
  have m1:w1.cell? (adr sv 1 q)=some (nI (nth s q)):=by have:=h1.cell (j:=0) a1 rfl;rwa[ax]at this
  rw[hp]at m1;have a3:uh (s.take (q+1))=uh (s.take q)++[JG (p / 256),JG (p % 256)]:=by
   unfold uh;rw[aM a1,JQ,hp];simp
  refine zh ?_;refine zv (gq (a:=p) (b:=8) rfl rfl rfl rfl zd) ?_
  refine zvH (mR KC KB rfl) ?_;refine zv (mR KC KB rfl) ?_
  rw[qq p,qq (p / 2^8),show p / 2^8 % 256=p / 256 from by omega];refine fT KG (sizeOf5 _) (Mt _) Bn [JG (p / 256),JG (p % 256)] rfl rfl rfl rfl zk (by simp) rfl ?_;intro bv w2 a9 a6;have a5:Jl (fun _=>False) O1 w1 O1 w2:=aa (fun h=>h) O1 a6;refine aC IZ (a0.upd a5 zd fun h=>h) (hR.ext a6) a9 (by simp) rfl rfl (by simp) (by simp[J1]) (by simp;omega) (by simp;omega) zd rfl ?_;intro v3 w3 O3 a2 a' b0;refine zh ?_;refine zxd (q+1,v3,O3,w3) (⟨a1,by dsimp only;rw[a3];exact a2,by dsimp only;rw[a3];simp[a4];omega,(hU.trans (a5.mono (fun _ h=>h.elim) zd)).trans a',b0⟩)
 intro a8;obtain rfl:q=s.length:=dF a8;rw[Jh]at a0;refine zh ?_;refine zvH (xK a0.sl KG KB LJ rfl) ?_;refine ah rfl rfl (⟨rfl,hU.ext⟩)
theorem Ii:ck JF 169 #[(0,1),(1,1),(2,1)]:=⟨_,underlying169,fun w=>by kernel_rfl⟩
theorem FS:ck JF 72 #[(0,1),(1,1)]:=⟨_,underlying72,fun w=>by kernel_rfl⟩
theorem tj:Mw JF 9 KA:=Db LJ
abbrev yZ(v:ix):List ix:=[v]
structure MkO(O:Nat->Nat)(w:ka)(i mb nb kr:Nat)(sv:ix)(vs:List ix)(S:List (List Int))(l:List (ByteArray×Int)):Prop where
 blk:Kg O w i mb #[nP nb,.map (some kr),sv] 169
 map:JU KA kvI O w (i+1) kr l
 row:JI yZ 22 1 O w (i+2) sv vs
 len:vs.length=S.length
 at_:∀k,k<S.length->Sl encI 1 w (nth vs k) (nth S k)/\Kp O w (nth vs k)
 ok:∀s∈S,okS s
 key:∀s,okS s->bm l (bs (uh s))=(B4 S s).map fun(k:Nat)=>(k:Int)
theorem MkO.upd{T:Nat->Prop}{O O':Nat->Nat}{w w':ka}{i mb nb kr:Nat}{sv:ix}{vs:List ix}{S:List (List Int)}{l:List (ByteArray×Int)}(h:MkO O w i mb nb kr sv vs S l)(u:Jl T O w O' w')(hi:i≠0)(h1:¬T i)(h2:¬T (i+1))(h3:¬T (i+2)):MkO O' w' i mb nb kr sv vs S l:=
 ⟨h.blk.upd u hi h1,h.map.upd u zo h2,h.row.upd u zo h3,h.len,fun k hk=>⟨(h.at_ k hk).1.upd (h.at_ k hk).2 u,(h.at_ k hk).2.upd u⟩,h.ok,h.key⟩
theorem AW{S:List (List Int)}{s t:List Int}(h:B4 S s=none):B4 (S++[s]) t=if s=t then some S.length else B4 S t:=by
 unfold B4 at h ⊢;rw[KM]
 by_cases e:s=t
 ·subst e;rw[h,if_pos rfl];simp[JL]
 rw[if_neg e]
 cases hq:S.findIdx? (· == t)with
 |some k=>simp
 |none=>simp[JL,e]
theorem mm(B:Nat)(O:Nat->Nat)(w:ka)(i mb nb kr:Nat)(mv:ix)(vs:List ix)(S:List (List Int))(l:List (ByteArray×Int))(s:List Int)(sv:ix)(hi:i≠0)(hR:Kk B O w)(h:MkO O w i mb nb kr mv vs S l)(hs:Sl encI 1 w sv s)(hf:Kp O w sv)(ho:okS s)(b8:s.length<=100000)(d1:S.length<=100000):
  KN JF 70 [nP mb,sv] w fun v w'=>∃O' mv' vs' l',v=nI ((B2 S s:Nat):Int)/\Jl (fun q=>i<=q/\q<=i+2) O w O' w'/\Kk B O' w'/\MkO O' w' i mb nb kr mv' vs' (qJ S s) l':=by
 have hz:¬(fun q=>i<=q/\q<=i+2) 0:=zo;have b9:=hs.shape;obtain⟨sa,sc,rfl,_⟩:=b9;refine J4 func70 ntmps70 rfl rfl ?_;refine zh ?_;refine zc call111 (yC s _ w hs ho b8) ?_;rintro _ w1 ⟨rfl,b7⟩;have a':Jl (fun _=>False) O w O w1:=aa (fun h=>h) O b7;have h1:=h.upd a' hi (fun h=>h) (fun h=>h) fun h=>h
 have b6:=hR.upd a';have b3:=hs.ext b7;have a9:=hf.upd a';have a4:=h.key s ho;have a7:Jl (fun q=>i<=q/\q<=i+2) O w O w1:=a'.mono (fun _ h=>h.elim) hz;have c1:w1.cell? (nA mb 1)=some (.map (some kr)):=h1.blk.cell 1 rfl;have c2:w1.cell? (nA mb 2)=some mv:=h1.blk.cell 2 rfl;refine zh ?_
 cases a0:B4 S s with
 |some k=>
  rw[a0]at a4;have hn:B2 S s=k:=by unfold B2;rw[a0];rfl
  have hS:qJ S s=S:=by unfold qJ;rw[a0];rfl
  rw[hn,hS];refine zvH (cN (u:=.tuple #[kvI (k:Int),.bool true]) h1.map JT tj (JS _) (bs (uh s)) rfl rfl rfl (by rw[a4];rfl)) ?_;refine zFH rfl rfl ?_;refine ah rfl rfl (⟨O,mv,vs,l,rfl,a7,b6,h1⟩)
 |none=>
  rw[a0]at a4;have hn:B2 S s=S.length:=by unfold B2;rw[a0];rfl
  have hS:qJ S s=S++[s]:=by unfold qJ;rw[a0];rfl
  rw[hn,hS];have a8:=h.len;refine zvH (cN (u:=.tuple #[kvI 0,.bool false]) h1.map JT tj (JS _) (bs (uh s)) rfl rfl rfl (by rw[a4];rfl)) ?_;refine zTH rfl rfl ?_;refine zvH (bh h1.row.sl.sh JD rfl) ?_;refine JK h1.map JT tj zo (bs (uh s)) (vs.length:Int) rfl rfl rfl rfl rfl ?_;intro w2 c6 a6;have b5:=h1.blk.upd a6 hi zo;have b':=h1.row.upd a6 zo zo;have c9:=b6.upd a6;have c':=b3.upd a9 a6;have d0:=a9.upd a6;have d2:w2.cell? (nA mb 2)=some mv:=b5.cell 2 rfl;refine zh ?_;refine Ke Du b' c9 ((.slice sa s.length sc:ix)) (fun _=>rfl) rfl rfl rfl (by simp[J1]) zo zo zo zd rfl rfl ?_;intro a5 w3 O3 b4 b2 c8;have b1:=b5.upd b2 hi zo;have c5:=c6.upd b2 zo zo;refine zh ?_;refine aj (j:=2) b1 rfl (LK _) b4.one rfl rfl rfl ?_;have b0:Jl (fun q=>q=i) O3 w3 O3 (w3.setCell ⟨mb,2,none⟩ a5):=Kc (fun e=>hi e.symm) b1.tag rfl;have c7:Kg O3 (w3.setCell ⟨mb,2,none⟩ a5) i mb #[nP nb,.map (some kr),a5] 169:=b1.set 2 a5;have a3:Jl (fun q=>i<=q/\q<=i+2) O w1 O3 (w3.setCell ⟨mb,2,none⟩ a5):=((a6.mono (fun q h=>zo) hz).trans (b2.mono (fun q h=>zo) hz)).trans (b0.mono (fun q h=>zo) hz);refine zh ?_;refine ah rfl rfl (⟨O3,a5,vs++[.slice sa s.length sc],cE l (bs (uh s)) (vs.length:Int),by rw[a8],a7.trans a3,(c8.upd b0),⟨c7,c5.upd b0 zo zo,b4.upd b0 zo zo,by simp[a8],fun k hk=>?_,fun t ht=>?_,fun t ht=>?_⟩⟩)
  ·rw[aA,aA,a8]
   by_cases e:k<S.length
   ·rw[if_pos e,if_pos e];obtain⟨a1,a2⟩:=h1.at_ k e;exact⟨a1.upd a2 a3,a2.upd a3⟩
   rw[if_neg e,if_neg e];simp only[Jn,JR,L2]at hk;rw[show k-S.length=0 from by omega,ay,ay];exact⟨b3.upd a9 a3,a9.upd a3⟩
  ·rcases Js.1 ht with ht|ht
   ·exact h.ok t ht
   rw[J3.1 ht];exact ho
  rw[aP,AW a0]
  by_cases e:s=t
  ·subst e;rw[if_pos rfl,if_pos rfl,a8];rfl
  rw[if_neg (fun e2=>e (xi ho ht (Dx e2))),if_neg e];exact h.key t ht
theorem Ch{r:List Nat}{m N x:Nat}(hr:r.length=m)(hm:m<N):(r++Jr (N-m) 0).set m x=(r++[x])++Jr (N-(m+1)) 0:=by
 obtain⟨k,hk⟩:∃k,N-m=k+1:=⟨N-m-1,zo⟩
 rw[show N-(m+1)=k from by omega,hk,List.set_append_right _ _ zo,hr,Ko,Ls,List.set_cons_zero,JY];rfl
theorem Free.lowT{O:Nat->Nat}{w:ka}{v:ix}(h:Kp O w v)(T:Nat):Kp (KQ O T) w v:=fun a n c e hn=>⟨jh (h a n c e hn).1,(h a n c e hn).2⟩
theorem MkO.lowT{O:Nat->Nat}{w:ka}{i mb nb kr:Nat}{sv:ix}{vs:List ix}{S:List (List Int)}{l:List (ByteArray×Int)}(h:MkO O w i mb nb kr sv vs S l){T:Nat}(hT:i+2<T):MkO (KQ O T) w i mb nb kr sv vs S l:=
 ⟨h.blk.lowT zo,h.map.fgt (by unfold KQ;rw[h.map.tag,if_neg zo]),h.row.lowT zo,h.len,fun k hk=>⟨(h.at_ k hk).1,Free.lowT (h.at_ k hk).2 T⟩,h.ok,h.key⟩
theorem Dr{g:Gr}(hl:g.ls.length<=999){s:List Int}(h:inP g s):okS s:=fun x hx=>⟨(h x hx).1,KH (h x hx).2 hl⟩
theorem Bq(B:Nat)(O:Nat->Nat)(w w0:ka)(i mb nb kr:Nat)(se:Bool)(g:Gr)(mv:ix)(vs:List ix)(S:List (List Int))(l:List (ByteArray×Int))(q:Nat)(hi:i≠0)(hR:Kk B O w)(h:MkO O w i mb nb kr mv vs S l)(hD:NfD w0 nb se g)(f5:Jl (fun q=>1<=q) (fun _=>0) w0 O w) 
  (hw:WF g) (h0:0<g.ks.length) (ht:Tot g) (d4:g.ls.length<=999) (d5:∀s∈S,inP g s) (c9:∀s∈S,s.length<=1000) (hq:q<S.length) (hS:S.length<=1000) :
  KN JF 72 [nP mb,nI (q:Nat)] w fun v w'=>∃O' mv' vs' l',Jl (fun q=>i<=q/\q<=i+2) O w O' w'/\Kk B O' w'/\MkO O' w' i mb nb kr mv' vs' (dm (cS se g) (nth S q) S 37).1 l'/\Sl aO 1 w' v (dm (cS se g) (nth S q) S 37).2/\Kp O' w' v/\(∀s∈(dm (cS se g) (nth S q) S 37).1,inP g s/\s.length<=1000):=by
 obtain⟨T0,g3,c6⟩:=hR.bound;obtain⟨T,g2⟩:∃T,T=T0+i+3:=⟨_,rfl⟩
 have hT:∀b,O b<T:=fun b=>by have:=c6 b;omega
 have a5:=ke (cS se g) (nth S q) S;have b5:=d5 _ (aI hq);have e3:=c9 _ (aI hq);refine J4 func72 ntmps72 rfl rfl ?_;refine zh ?_;obtain⟨N,hN⟩:∃N:Nat,N=37:=⟨_,rfl⟩
 refine dd kL (val:=fun n:Nat=>nI (n:Int)) (0:Nat) zk (fun _=>rfl) hR T zo 37 rfl rfl zd zd zd zd rfl ?_;intro w1 O1 ov e5 a4 d7 f8 g4;clear e5;have e8:=h.upd d7 hi zo zo zo;refine zh ?_
 refine zvH (bh a4.sl.sh ln rfl) ?_;rw[Li];refine zlp (fun z:Nat×(Nat->Nat)×World×ix×List ix×List (ByteArray×Int)=>[(0,nP mb),(1,nI (q:Nat)),(5,ov),(8,ov),(9,nI ((37:Nat):Int)),(10,nI z.1)]) (fun z=>z.2.2.1) (fun z=>z.1<=37/\Jl (fun j=>j=T\/i<=j/\j<=i+2) O w z.2.1 z.2.2.1/\Kk B z.2.1 z.2.2.1/\MkO z.2.1 z.2.2.1 i mb nb kr z.2.2.2.1 z.2.2.2.2.1 (dm (cS se g) (nth S q) S z.1).1 z.2.2.2.2.2/\JI aO 3 1 z.2.1 z.2.2.1 T ov ((dm (cS se g) (nth S q) S z.1).2++Jr (37-z.1) 0)/\∀s∈(dm (cS se g) (nth S q) S z.1).1,inP g s/\s.length<=1000) (fun z=>37-z.1) (0,O1,w1,mv,vs,l) (⟨J0 _,d7.mono (fun _ h=>.inl h) zo,f8,e8,a4,fun s hs=>⟨d5 s hs,c9 s hs⟩⟩) ?_
 rintro⟨m,O2,w2,a',a9,l2⟩ ⟨b7,b4,a8,b0,a0,a1⟩;dsimp only at b7 b4 a8 b0 a0 a1 ⊢;have c':=(a5 m).len;have c8:=(a5 m).top;have b2:((dm (cS se g) (nth S q) S m).2++Jr (37-m) 0).length=37:=by simp[c'];omega
 refine zh ?_;refine zC ?_ ?_
 ·intro b1;replace b1:m<37:=dT b1;obtain⟨pq,d0⟩:=(a5 m).pre;have e4:q<(dm (cS se g) (nth S q) S m).1.length:=by rw[d0];simp;omega
  have e6:nth (dm (cS se g) (nth S q) S m).1 q=nth S q:=by rw[d0,aA,if_pos hq]
  have c5:=f5.trans (b4.mono (S':=fun q=>1<=q) (fun j h=>zo) zo);have hU02d:=c5.drew;have f9:=hD.ext hU02d.ext;have hm2d:=b0.upd (aa (S:=fun _=>False) (fun h=>h) O2 (Jk w2).drew) hi (fun h=>h) (fun h=>h) fun h=>h
  have c0:w2.drew.cell? (nA mb 0)=some (nP nb):=hm2d.blk.cell 0 rfl;have c2:w2.drew.cell? (nA mb 2)=some a':=hm2d.blk.cell 2 rfl;have c7:=hm2d.row.sl;have g0:=hm2d.len;have cq:w2.drew.cell? (adr a' 1 q)=some (nth a9 q):=by have:=c7.cell (i:=q) (j:=0) zo rfl;rwa[ax]at this
  obtain⟨a6,f3⟩:=hm2d.at_ q e4;rw[e6]at a6;refine zh ?_;refine aG (fun W=>W.cell? (nA mb 0)=some (nP nb)) 19 rfl zk ?_;refine zrm 0 rfl c0 rfl ?_;refine zrm 1 rfl c0 rfl ?_;refine zrm 2 rfl c0 rfl ?_;refine zrm 3 rfl c0 rfl ?_;refine zr 4 rfl c0 (fun _=>ao rfl) ?_;refine zrf 5 rfl c0 rfl ?_;refine zt 6 rfl c0 (fun w1 e1=>RV.ld e1 rfl) ?_;refine zrm 7 rfl c0 rfl ?_;refine zr 8 rfl c0 (fun _=>ao rfl) ?_;refine zrf 9 rfl c0 rfl ?_;refine zrm 11 rfl c0 rfl ?_;refine zrm 14 rfl c0 rfl ?_;refine J9 10 zk rfl ?_;refine zvH (RV.ld c2 rfl) ?_;refine ae (c0) ?_;refine zr 12 rfl (c0) (fun _=>ai c7.sh JD (L5 _) rfl rfl q rfl zo) ?_;refine J9 13 zk rfl ?_;refine zvH (RV.ld cq rfl) ?_;refine ae (c0) ?_;refine J9 15 zk rfl ?_;refine zc call112 (step_ret w2.drew nb se g (nth S q) (nth a9 q) (m:Nat) f9 a6 hw h0 ht b5 e3 d4) ?_;rintro tv w3 ⟨e2,d8,e'⟩;refine zh ?_;refine ae (d8.cell c0) ?_;have b8:=e' B O2 a8.drew;have b3:Jl (fun _=>False) O2 w2 O2 w3:=aa (fun h=>h) O2 ((Jk w2).drew.trans d8);have e7:=b0.upd b3 hi (fun h=>h) (fun h=>h) fun h=>h
  have f7:=a8.upd b3;have a7:=a0.upd b3 zo fun h=>h
  have d1:=zI hw h0 (sk se g) b5 (m:Nat);have g1:=Cg (se:=se) hw h0 b5 (m:Nat);refine J9 16 zk rfl ?_;refine zc call70 (mm B O2 w3 i mb nb kr a' a9 (dm (cS se g) (nth S q) S m).1 l2 (cS se g (nth S q) (m:Nat)) tv hi f7 e7 e2 b8 (Dr d4 d1) zo zo) ?_;rintro _ w4 ⟨O4,e0,d',l4,rfl,d6,f6,d3⟩;have d9:w4.cell? (nA mb 0)=some (nP nb):=d3.blk.cell 0 rfl;refine zh ?_;refine ae (d9) ?_;have a3:=a7.upd d6 zo zo;have b6:=a3.sl;refine zr 17 rfl (d9) (fun _=>ai b6.sh ln (Jm _) rfl rfl m rfl zo) ?_;refine J9 18 zk rfl ?_;refine Kq a3 m zo (B2 (dm (cS se g) (nth S q) S m).1 (cS se g (nth S q) (m:Nat))) (Jm _) rfl zo rfl rfl rfl rfl ?_;intro w5 a2 b9;rw[Ch c' b1]at a2;have d2:=d3.upd b9 hi zo zo zo;have f':w5.cell? (nA mb 0)=some (nP nb):=d2.blk.cell 0 rfl;refine zh ?_;refine ae (f') ?_;have b':Jl (fun j=>j=T\/i<=j/\j<=i+2) O w O4 w5:=((b4.trans (b3.mono (fun _ h=>h.elim) zo)).trans (d6.mono (fun _ h=>.inr h) zo)).trans (b9.mono (fun _ h=>.inl h) zo);refine JZ zk ?_;refine zh ?_;refine zxd (m+1,O4,w5,e0,d',l4) (⟨b1,b',f6.upd b9,d2,a2,fun s hs=>?_⟩)
  ·have hs:s∈qJ (dm (cS se g) (nth S q) S m).1 (cS se g (nth S q) (m:Nat)):=hs;unfold qJ at hs
   split at hs
   ·exact a1 s hs
   rcases Js.1 hs with hs|hs
   ·exact a1 s hs
   rw[J3.1 hs];exact⟨d1,zo⟩
 intro e9;obtain rfl:m=37:=dF e9;rw[Ko,List.replicate_zero,Jw]at a0
 have f4:=b4.lowT (S':=fun q=>i<=q/\q<=i+2) hT (fun b hb=>by
  rcases hb with hb|hb
  ·have:=hT b;omega
  exact hb) zo
 refine zh ?_;refine ah rfl rfl (⟨lowT O2 T,a',a9,l2,f4,a8.lowT T,MkO.lowT b0 zo,a0.sl,fun a n c e hn=>?_,a1⟩)
 have hb:=a0.1.tag a.block (by subst e;rfl);refine⟨by unfold lowT;rw[hb,if_pos (J7 _)],(a8.rng a.block (by rw[hb];omega)).2⟩
abbrev fK(n:Nat):List ix:=[.int .u64 (n:Int)]
def RowsN(w:ka)(v:ix)(rows:List (List Nat)):Prop:=∃vs,Sl yZ 1 w v vs/\vs.length=rows.length/\∀i,i<rows.length->Sl aO 1 w (nth vs i) (nth rows i)
theorem RowsN.ext{w w':ka}{v:ix}{rows:List (List Nat)}(h:RowsN w v rows)(e:Kw w w'):RowsN w' v rows:=by
 obtain⟨vs,h1,h2,h3⟩:=h;exact⟨vs,h1.ext e,h2,fun i hi=>(h3 i hi).ext e⟩
structure RwO(O:Nat->Nat)(w:ka)(i:Nat)(v:ix)(vs:List ix)(rows:List (List Nat)):Prop where
 row:JI yZ 22 1 O w i v vs
 len:vs.length=rows.length
 at_:∀k,k<rows.length->Sl aO 1 w (nth vs k) (nth rows k)/\Kp O w (nth vs k)
theorem RwO.upd{S:Nat->Prop}{O O':Nat->Nat}{w w':ka}{i:Nat}{v:ix}{vs:List ix}{rows:List (List Nat)}(h:RwO O w i v vs rows)(u:Jl S O w O' w')(hi:i≠0)(hS:¬S i):RwO O' w' i v vs rows:=
 ⟨h.row.upd u hi hS,h.len,fun k hk=>⟨(h.at_ k hk).1.upd (h.at_ k hk).2 u,(h.at_ k hk).2.upd u⟩⟩
theorem RwO.drew{O:Nat->Nat}{w:ka}{i:Nat}{v:ix}{vs:List ix}{rows:List (List Nat)}(h:RwO O w i v vs rows):RwO O w.drew i v vs rows:=⟨h.row.drew,h.len,fun k hk=>⟨(h.at_ k hk).1.drew,(h.at_ k hk).2.upd (aa (S:=fun _=>False) (fun h=>h) O (Jk w).drew)⟩⟩
theorem RwO.rows{O:Nat->Nat}{w:ka}{i:Nat}{v:ix}{vs:List ix}{rows:List (List Nat)}(h:RwO O w i v vs rows):RowsN w v rows:=⟨vs,h.row.sl,h.len,fun k hk=>(h.at_ k hk).1⟩
def IP(w:ka)(v:ix):Option (List (List Nat)×List Nat)->Prop
 |some d=>∃nv tv,v=.tuple #[.agg #[nv,tv],nI 0]/\nv.oneCell'=true/\tv.oneCell'=true/\RowsN w nv d.1/\Sl fK 1 w tv d.2
 |none=>v=.tuple #[.agg #[nS,nS],nI 7]
set_option maxHeartbeats 1000000 in
theorem Br(nb:Nat)(se:Bool)(g:Gr)(w:ka)(hD:NfD w nb se g)(hw:WF g)(h0:0<g.ks.length)(ht:Tot g)(m0:g.ls.length<=999)(j0:∀q,g.en q<=40):
  KN JF 36 [nP nb] w fun v w'=>Kw w w'/\IP w' v (Dv (cS se g) (dP g)):=by
 have e4:∀s,dP g s<2^40:=fun s=>by
  have m8:∀(s:List Int) (b:Nat),b<2^40->s.foldl (fun b p=>b ||| oG g p.toNat) b<2^40:=fun s=>by
   induction s with
   |nil=>exact fun b hb=>hb
   |cons p s ih=>exact fun b hb=>ih _ (KT hb (jR j0 _ 0 zd))
  exact m8 s 0 zd
 refine J4 func36 ntmps36 rfl rfl ?_;refine zh ?_
 refine aw (ar w) 7 zo (K2 _) rfl ?_;intro cb wa Oa k8 n6 o0 o9;refine zh ?_
 refine zvH (ez (q:=some ⟨nb,0,none⟩) L4 rfl rfl) ?_;refine zFH rfl rfl ?_
 refine aS KA kvI o0 2 zd rfl ?_;intro kr wb Ob n1 m2 n';refine zv (aF Ii (zeroValue169 _) rfl (by first|rfl|(simp only[JP,Kl];rfl)) rfl rfl) ?_
 refine aE n' 1 zo rfl rfl ?_;intro mb wc Oc n0 l3 m3 o8;have k2:MkO Oc wc 1 mb nb kr (nS) [] [] []:=⟨n0,n1.upd l3 zd zd,JC _ _ _ _ _ _,rfl,fun k hk=>absurd hk (J2 k),fun s hs=>absurd hs (by simp),fun s _=>rfl⟩
 have l5:=((n6.mono (S':=fun j=>1<=j) (fun j h=>zo) zd).trans (m2.mono (fun j h=>zo) zd)).trans (l3.mono (fun j h=>zo) zd);refine zh ?_;refine zc call71 (By wc nb) ?_;rintro bv wd ⟨n4,o3,n5⟩;have k9:=n5 w.heap.size Oc m3;have j7:Jl (fun _=>False) Oc wc Oc wd:=aa (fun h=>h) Oc o3;have i':inP g [0]:=fun x hx=>by rw[J3.1 hx];exact⟨M8 _,J0 _⟩
 refine zc call70 (mm w.heap.size Oc wd 1 mb nb kr _ _ _ _ [0] bv zd (m3.upd j7) (k2.upd j7 zd (fun h=>h) (fun h=>h) fun h=>h) n4 k9 (Dr m0 i') zd zd) ?_;rintro _ we ⟨Oe,m7,m5,le,rfl,m1,n9,i9⟩;have n7:qJ [] [0]=[[0]]:=rfl;rw[n7]at i9;have l1:Jl (fun j=>1<=j) Oc wd Oe we:=m1.mono (fun j h=>zo) zd;refine zh ?_
 refine aw n9 4 zo (K2 _) rfl ?_;intro db wf Of k4 l0 n8 o7;have k7:=(((k8.upd m2 zd zd).upd l3 zd zd).upd j7 zd fun h=>h)
 have k6:=(k7.upd m1 zd zd).upd l0 zd zd;have l4:=((l5.trans (j7.mono (fun _ h=>h.elim) zd)).trans l1).trans (l0.mono (fun j h=>zo) zd);refine zh ?_;refine zlp (fun z:Nat×(Nat->Nat)×World×ix×List ix×List (List Int)×List (ByteArray×Int)×List (List Nat)×List Nat×List ix×ix×ix=>[(0,nP nb),(2,nP cb),(3,nI 0),(4,nP mb),(5,nP db),(6,nI z.1)]) (fun z=>z.2.2.1) (fun z=>Jl (fun j=>1<=j) (fun _=>0) w z.2.1 z.2.2.1/\Kk w.heap.size z.2.1 z.2.2.1/\MkO z.2.1 z.2.2.1 1 mb nb kr z.2.2.2.1 z.2.2.2.2.1 z.2.2.2.2.2.1 z.2.2.2.2.2.2.1/\Kg z.2.1 z.2.2.1 4 db #[z.2.2.2.2.2.2.2.2.2.2.1,z.2.2.2.2.2.2.2.2.2.2.2] 72/\RwO z.2.1 z.2.2.1 5 z.2.2.2.2.2.2.2.2.2.2.1 z.2.2.2.2.2.2.2.2.2.1 z.2.2.2.2.2.2.2.1/\JI fK 28 1 z.2.1 z.2.2.1 6 z.2.2.2.2.2.2.2.2.2.2.2 z.2.2.2.2.2.2.2.2.1/\Kg z.2.1 z.2.2.1 7 cb #[nS,nS] 72/\DI (cS se g) (dP g) z.1 z.2.2.2.2.2.1 z.2.2.2.2.2.2.2.1 z.2.2.2.2.2.2.2.2.1/\(∀s∈z.2.2.2.2.2.1,inP g s/\s.length<=1000)/\FD (cS se g) (dP g) (1002-z.1) z.1 z.2.2.2.2.2.1 z.2.2.2.2.2.2.2.1 z.2.2.2.2.2.2.2.2.1=Dv (cS se g) (dP g)) (fun z=>1002-z.1) (0,Of,wf,m7,m5,[[0]],le,[],[],[],nS,nS) (⟨l4,n8,i9.upd l0 zd zd zd zd,k4,⟨JC _ _ _ _ _ _,rfl,fun k hk=>absurd hk (J2 k)⟩,JC _ _ _ _ _ _,k6,xN _ _,fun s hs=>by rw[J3.1 hs];exact⟨i',zd⟩,rfl⟩) ?_;rintro⟨q,O1,w1,mv,vs,S,l,rows,i7,i4,nv,tv⟩ ⟨b2,m4,e9,f4,d',e3,e0,i6,f7,c6⟩;dsimp only at b2 m4 e9 f4 d' e3 e0 i6 f7 c6 ⊢;have o6:=i6.le
 have o5:=i6.rl;have o4:=i6.tl;have j3:=i6.len;have m':=d'.len;have c2:w1.cell? (nA mb 2)=some mv:=e9.blk.cell 2 rfl;have i5:=e9.len;refine zh ?_;refine zvH (bh e9.row.sl.sh JD rfl) ?_;refine zC ?_ ?_
 ·intro g0;replace g0:q<S.length:=dT g0;obtain⟨n,hn⟩:∃n,1002-q=n+1:=⟨1001-q,zo⟩
  rw[hn,FD,if_pos g0]at c6;have e':=ke (cS se g) (nth S q) S 37;have j2:=i6.next g0;have j6:=(f7 _ (aI g0)).1;have n3:w1.drew.cell? (nA db 0)=some nv:=f4.cell 0 rfl;have hmk1d:=e9.upd (aa (S:=fun _=>False) (fun h=>h) O1 (Jk w1).drew) zd (fun h=>h) (fun h=>h) fun h=>h
  have h1:=Bq w.heap.size O1 w1.drew w 1 mb nb kr se g mv vs S l q zd m4.drew hmk1d hD b2.drew hw h0 ht m0 (fun s hs=>(f7 s hs).1) (fun s hs=>(f7 s hs).2) g0 j3;generalize dm (cS se g) (nth S q) S 37=RT at *;obtain⟨S1,r1⟩:=RT;dsimp only at c6 e' j2 h1;refine zh ?_;refine aG (fun _=>True) 9 rfl zk ?_;refine zin trivial fun zS=>?_
  refine zrf 0 rfl zS rfl ?_;refine zrm 2 rfl zS rfl ?_
  refine zrm 3 rfl zS rfl ?_;refine bL 1 4 zk rfl rfl ?_ ?_
  ·refine zvH (RV.ld n3 rfl) ?_;refine ae trivial ?_
   refine J9 4 zk rfl ?_;refine zc call72 h1 ?_
   rintro rv w2 ⟨O2,a7,b',l2,k',l8,h6,e6,e8,f3⟩;have g9:=e6.shape;obtain⟨ra,rc,rfl,_⟩:=g9;have b6:Jl (fun j=>1<=j/\j<=3) O1 w1.drew O2 w2:=k';have g8:=d'.drew.upd b6 zd zd;have f8:=f4.drew.upd b6 zd zd;have h9:=e0.drew.upd b6 zd zd;have g6:=e3.drew.upd b6 zd zd;have h':Jl (fun j=>1<=j/\j<=3) O1 w1 O2 w2:=(aa zd O1 (Jk w1).drew).trans b6;refine zh ?_;refine ae trivial ?_;refine J9 5 zk rfl ?_;refine da Du (enc:=yZ) (.slice ra r1.length rc:ix) rfl rfl rfl zd rfl ?_;intro m6 w3 g7 l9;have c7:Jl (fun _=>False) O2 w2 O2 w3:=aa (fun h=>h) O2 l9;have i0:Jl (fun q=>1<=q) O1 w1 O2 w3:=(h'.mono (fun j h=>zo) zd).trans (c7.mono (fun _ h=>h.elim) zd);have l7:=l8.upd c7;have d2:=g8.upd c7 zd fun h=>h
   have h7:=f8.upd c7 zd fun h=>h
   have h8:=h9.upd c7 zd fun h=>h
   have g5:=g6.upd c7 zd fun h=>h
   have h5:=h6.upd c7 zd (fun h=>h) (fun h=>h) fun h=>h
   have g':=e6.upd e8 c7;have d3:=e8.upd c7;refine zh ?_;refine ae trivial ?_;refine J9 6 zk rfl ?_;refine aC Du (d2.row) l7 g7 (by simp) rfl rfl (by simp) (fun u hu c hc=>by rw[J3.1 hu]at hc;rw[J3.1 hc];rfl) (by simp;omega) (by simp;omega) zd rfl ?_;intro b3 w4 O4 c8 b8 l6;have d8:=h7.upd b8 zd zd;refine zh ?_;refine ae (trivial) ?_;refine zrf 7 rfl (trivial) rfl ?_;refine J9 8 zk rfl ?_;refine aj (j:=0) d8 rfl (LK _) c8.one rfl rfl rfl ?_;have c5:Jl (fun j=>j=4) O4 w4 O4 (w4.setCell ⟨db,0,none⟩ b3):=Kc zd d8.tag rfl;have d7:Kg O4 (w4.setCell ⟨db,0,none⟩ b3) 4 db #[b3,tv] 72:=d8.set 0 b3;refine zh ?_;refine ae (trivial) ?_;have j1:=l6.upd c5;have e7:=c8.upd c5 zd zd;have a8:=(h5.upd b8 zd zd zd zd).upd c5 zd zd zd zd;have e2:=(g5.upd b8 zd zd).upd c5 zd zd;have f5:=(h8.upd b8 zd zd).upd c5 zd zd;have e5:RwO O4 (w4.setCell ⟨db,0,none⟩ b3) 5 b3 (i4++[.slice ra r1.length rc]) (rows++[r1]):=by
    have i5:=d2.len;refine⟨e7,by simp[i5],fun k hk=>?_⟩;rw[aA,aA,i5]
    by_cases e:k<rows.length
    ·rw[if_pos e,if_pos e];obtain⟨a1,a2⟩:=d2.at_ k e;exact⟨(a1.upd a2 b8).upd (a2.upd b8) c5,(a2.upd b8).upd c5⟩
    rw[if_neg e,if_neg e];simp only[Jn,JR,L2]at hk;rw[show k-rows.length=0 from by omega,ay,ay];exact⟨(g'.upd d3 b8).upd (d3.upd b8) c5,(d3.upd b8).upd c5⟩
   have d9:Jl (fun q=>1<=q) O1 w1 O4 (w4.setCell ⟨db,0,none⟩ b3):=(i0.trans (b8.mono (fun j h=>zo) zd)).trans (c5.mono (fun j h=>zo) zd);generalize w4.setCell ⟨db,0,none⟩ b3=w5 at *;refine JZ zk ?_;refine zh ?_;have g4:=a8.len;have i8:q<b'.length:=by obtain⟨pq,h3⟩:=e'.pre;rw[g4,h3];simp;omega
   have h2:q<S1.length:=zo;have h4:nth S1 q=nth S q:=by obtain⟨pq,h3⟩:=e'.pre;rw[h3,aA,if_pos g0]
   have b0:w5.drew.cell? (nA mb 2)=some a7/\w5.drew.cell? (adr a7 1 q)=some (nth b' q):=⟨a8.blk.cell 2 rfl,by have:=a8.row.sl.cell (i:=q) (j:=0) i8 rfl;rwa[ax]at this⟩
   have sd:∀W,Kw w5.drew W->W.cell? (nA mb 2)=some a7/\W.cell? (adr a7 1 q)=some (nth b' q):=fun W hE=>⟨hE.cell b0.1,hE.cell b0.2⟩
   have j5:w5.drew.cell? (nA db 1)=some tv:=d7.cell 1 rfl;have j4:=hD.ext (b2.trans d9).drew.ext;obtain⟨d0,k0⟩:=a8.at_ q h2;rw[h4]at d0;have m9:=e4 (nth S q);refine aG (fun W=>W.cell? (nA mb 2)=some a7/\W.cell? (adr a7 1 q)=some (nth b' q)) 15 rfl zk ?_;refine zrf 0 rfl b0 rfl ?_;refine zrm 2 rfl b0 rfl ?_;refine zrm 3 rfl b0 rfl ?_;refine zr 4 rfl b0 (fun _=>ao rfl) ?_;refine zrf 5 rfl b0 rfl ?_;refine zt 6 rfl b0 (fun w1 g1=>RV.ld g1.1 rfl) ?_;refine zrm 7 rfl b0 rfl ?_;refine zr 8 rfl b0 (fun _=>ai a8.row.sl.sh JD (L5 _) rfl rfl q rfl i8) ?_;refine zt 9 rfl b0 (fun w1 g1=>RV.ld g1.2 rfl) ?_;refine bL 1 10 zk rfl rfl ?_ ?_
   ·refine zvH (RV.ld j5 rfl) ?_;refine ae b0 ?_
    refine J9 10 zk rfl ?_;refine zc M9 (jQ w5.drew nb se g (nth S q) _ j4 d0.drew j6 j0) ?_
    rintro j8 w9 ⟨rfl,e1⟩;rw[e1];clear e1 w9;refine zh ?_;refine ae b0 ?_;refine J9 11 zk rfl ?_;refine da mF (enc:=fK) (dP g (nth S q)) rfl rfl rfl zd rfl ?_;intro j9 w6 c' f';refine zh ?_;refine ae (sd _ f') ?_;have a':Jl (fun _=>False) O4 w5 O4 w6:=aa (fun h=>h) O4 ((Jk w5).drew.trans f');have c9:=e2.upd a' zd fun h=>h
    have d6:=d7.upd a' zd fun h=>h
    have d4:=a8.upd a' zd (fun h=>h) (fun h=>h) fun h=>h
    have i3:=j1.upd a';refine J9 12 zk rfl ?_;refine aC mF c9 i3 c' (by simp) rfl rfl (by simp) (by simp[J1]) (by simp;omega) (by simp;omega) zd rfl ?_;intro a3 w7 O7 a6 b7 i2;have a9:=d6.upd b7 zd zd;have a4:=d4.upd b7 zd zd zd zd;have g3:=a4.len;have s7:w7.cell? (nA mb 2)=some a7/\w7.cell? (adr a7 1 q)=some (nth b' q):=⟨a4.blk.cell 2 rfl,by have:=a4.row.sl.cell (i:=q) (j:=0) zo rfl;rwa[ax]at this⟩
    refine zh ?_;refine ae (s7) ?_
    refine zrf 13 rfl (s7) rfl ?_;refine J9 14 zk rfl ?_
    refine aj (j:=1) a9 rfl (Ld _) a6.one rfl rfl rfl ?_;have b1:Jl (fun j=>j=4) O7 w7 O7 (w7.setCell ⟨db,1,none⟩ a3):=Kc zd a9.tag rfl;have d5:Kg O7 (w7.setCell ⟨db,1,none⟩ a3) 4 db #[b3,a3] 72:=a9.set 1 a3;have a0:=a4.upd b1 zd zd zd zd;have g2:=a0.len;have s8:(w7.setCell ⟨db,1,none⟩ a3).cell? (nA mb 2)=some a7/\(w7.setCell ⟨db,1,none⟩ a3).cell? (adr a7 1 q)=some (nth b' q):=⟨a0.blk.cell 2 rfl,by have:=a0.row.sl.cell (i:=q) (j:=0) zo rfl;rwa[ax]at this⟩
    refine zh ?_;refine ae (s8) ?_
    have b4:=a6.upd b1 zd zd;have i1:=i2.upd b1;have d1:=((e5.upd a' zd fun h=>h).upd b7 zd zd).upd b1 zd zd;have a5:=((f5.upd a' zd fun h=>h).upd b7 zd zd).upd b1 zd zd;have b9:Jl (fun q=>1<=q) O1 w1 O7 (w7.setCell ⟨db,1,none⟩ a3):=((d9.trans (a'.mono (fun _ h=>h.elim) zd)).trans (b7.mono (fun j h=>zo) zd)).trans (b1.mono (fun j h=>zo) zd);generalize w7.setCell ⟨db,1,none⟩ a3=w8 at *;have l':=s8.1;refine JZ zk ?_;refine zh ?_;refine zvH (bh a0.row.sl.sh JD rfl) ?_
    by_cases b5:1000<S1.length
    ·rw[if_pos b5]at c6;rw[<-c6];refine zTH rfl ((decide_eq_true zo)) ?_;refine zv (aF FS (K2 _) rfl (by first|rfl|(simp only[JP,Kl];rfl)) rfl rfl) ?_;refine zsa (us:=#[nS,nS]) a5 (JE _) ?_;have f9:=a5.setRow (us:=#[nS,nS]);have f6:Jl (fun j=>j=7) O7 w8 O7 (w8.setRow cb #[nS,nS]):=Jv zd a5.tag rfl;refine zh ?_;refine bp rfl rfl rfl (f9.cellsAdd) (Kb _) (JE _) (⟨((b2.trans b9).trans (f6.mono (fun j h=>zo) zd)).ext,rfl⟩)
    rw[if_neg b5]at c6;refine zFH rfl ((decide_eq_false zo)) ?_;refine zxd (q+1,O7,w8,a7,b',S1,l2,rows++[r1],i7++[dP g (nth S q)],i4++[.slice ra r1.length rc],b3,a3) (⟨b2.trans b9,i1,a0,d5,d1,b4,a5,j2 zo,f3,by dsimp only;rw[show 1002-(q+1)=n from by omega];exact c6⟩)
   refine zc M9 (jQ w5.drew nb se g (nth S q) _ j4 d0.drew j6 j0) ?_;rintro j8 w9 ⟨rfl,e1⟩;rw[e1];clear e1 w9;refine zh ?_
   refine ae b0 ?_;refine bQ 1 11 mF (enc:=fK) (dP g (nth S q)) rfl rfl zk zk zk zk (fun W hE=>Lj (hE.cell j5) (Mm _) rfl) sd rfl rfl rfl zd rfl rfl rfl rfl rfl ?_
   intro j9 w6 c' f';have a':Jl (fun _=>False) O4 w5 O4 w6:=aa (fun h=>h) O4 ((Jk w5).drew.trans f');have c9:=e2.upd a' zd fun h=>h
   have d6:=d7.upd a' zd fun h=>h
   have d4:=a8.upd a' zd (fun h=>h) (fun h=>h) fun h=>h
   have i3:=j1.upd a';refine J9 12 zk rfl ?_;refine aC mF c9 i3 c' (by simp) rfl rfl (by simp) (by simp[J1]) (by simp;omega) (by simp;omega) zd rfl ?_;intro a3 w7 O7 a6 b7 i2;have a9:=d6.upd b7 zd zd;have a4:=d4.upd b7 zd zd zd zd;have g3:=a4.len;have s7:w7.cell? (nA mb 2)=some a7/\w7.cell? (adr a7 1 q)=some (nth b' q):=⟨a4.blk.cell 2 rfl,by have:=a4.row.sl.cell (i:=q) (j:=0) zo rfl;rwa[ax]at this⟩
   refine zh ?_;refine ae (s7) ?_
   refine zrf 13 rfl (s7) rfl ?_;refine J9 14 zk rfl ?_
   refine aj (j:=1) a9 rfl (Ld _) a6.one rfl rfl rfl ?_;have b1:Jl (fun j=>j=4) O7 w7 O7 (w7.setCell ⟨db,1,none⟩ a3):=Kc zd a9.tag rfl;have d5:Kg O7 (w7.setCell ⟨db,1,none⟩ a3) 4 db #[b3,a3] 72:=a9.set 1 a3;have a0:=a4.upd b1 zd zd zd zd;have g2:=a0.len;have s8:(w7.setCell ⟨db,1,none⟩ a3).cell? (nA mb 2)=some a7/\(w7.setCell ⟨db,1,none⟩ a3).cell? (adr a7 1 q)=some (nth b' q):=⟨a0.blk.cell 2 rfl,by have:=a0.row.sl.cell (i:=q) (j:=0) zo rfl;rwa[ax]at this⟩
   refine zh ?_;refine ae (s8) ?_
   have b4:=a6.upd b1 zd zd;have i1:=i2.upd b1;have d1:=((e5.upd a' zd fun h=>h).upd b7 zd zd).upd b1 zd zd;have a5:=((f5.upd a' zd fun h=>h).upd b7 zd zd).upd b1 zd zd;have b9:Jl (fun q=>1<=q) O1 w1 O7 (w7.setCell ⟨db,1,none⟩ a3):=((d9.trans (a'.mono (fun _ h=>h.elim) zd)).trans (b7.mono (fun j h=>zo) zd)).trans (b1.mono (fun j h=>zo) zd);generalize w7.setCell ⟨db,1,none⟩ a3=w8 at *;have l':=s8.1;refine JZ zk ?_;refine zh ?_;refine zvH (bh a0.row.sl.sh JD rfl) ?_
   by_cases b5:1000<S1.length
   ·rw[if_pos b5]at c6;rw[<-c6];refine zTH rfl ((decide_eq_true zo)) ?_;refine zv (aF FS (K2 _) rfl (by first|rfl|(simp only[JP,Kl];rfl)) rfl rfl) ?_;refine zsa (us:=#[nS,nS]) a5 (JE _) ?_;have f9:=a5.setRow (us:=#[nS,nS]);have f6:Jl (fun j=>j=7) O7 w8 O7 (w8.setRow cb #[nS,nS]):=Jv zd a5.tag rfl;refine zh ?_;refine bp rfl rfl rfl (f9.cellsAdd) (Kb _) (JE _) (⟨((b2.trans b9).trans (f6.mono (fun j h=>zo) zd)).ext,rfl⟩)
   rw[if_neg b5]at c6;refine zFH rfl ((decide_eq_false zo)) ?_;refine zxd (q+1,O7,w8,a7,b',S1,l2,rows++[r1],i7++[dP g (nth S q)],i4++[.slice ra r1.length rc],b3,a3) (⟨b2.trans b9,i1,a0,d5,d1,b4,a5,j2 zo,f3,by dsimp only;rw[show 1002-(q+1)=n from by omega];exact c6⟩)
  refine zc call72 h1 ?_;rintro rv w2 ⟨O2,a7,b',l2,k',l8,h6,e6,e8,f3⟩;have g9:=e6.shape;obtain⟨ra,rc,rfl,_⟩:=g9;have b6:Jl (fun j=>1<=j/\j<=3) O1 w1.drew O2 w2:=k';have g8:=d'.drew.upd b6 zd zd;have f8:=f4.drew.upd b6 zd zd;have h9:=e0.drew.upd b6 zd zd;have g6:=e3.drew.upd b6 zd zd;have h':Jl (fun j=>1<=j/\j<=3) O1 w1 O2 w2:=(aa zd O1 (Jk w1).drew).trans b6;refine zh ?_
  refine ae trivial ?_;have k5:w2.cell? (nA db 0)=some nv:=f8.cell 0 rfl;refine bQ 1 5 Du (enc:=yZ) (.slice ra r1.length rc:ix) rfl rfl zk zk zk zk (fun W hE=>Lj (hE.cell k5) (isAgg70 _) rfl) (fun _ _=>trivial) rfl rfl rfl zd rfl rfl rfl rfl rfl ?_
  intro m6 w3 g7 l9;have c7:Jl (fun _=>False) O2 w2 O2 w3:=aa (fun h=>h) O2 l9;have i0:Jl (fun q=>1<=q) O1 w1 O2 w3:=(h'.mono (fun j h=>zo) zd).trans (c7.mono (fun _ h=>h.elim) zd);have l7:=l8.upd c7;have d2:=g8.upd c7 zd fun h=>h
  have h7:=f8.upd c7 zd fun h=>h
  have h8:=h9.upd c7 zd fun h=>h
  have g5:=g6.upd c7 zd fun h=>h
  have h5:=h6.upd c7 zd (fun h=>h) (fun h=>h) fun h=>h
  have g':=e6.upd e8 c7;have d3:=e8.upd c7;refine J9 6 zk rfl ?_;refine aC Du (d2.row) l7 g7 (by simp) rfl rfl (by simp) (fun u hu c hc=>by rw[J3.1 hu]at hc;rw[J3.1 hc];rfl) (by simp;omega) (by simp;omega) zd rfl ?_;intro b3 w4 O4 c8 b8 l6;have d8:=h7.upd b8 zd zd;refine zh ?_;refine ae (trivial) ?_;refine zrf 7 rfl (trivial) rfl ?_;refine J9 8 zk rfl ?_;refine aj (j:=0) d8 rfl (LK _) c8.one rfl rfl rfl ?_;have c5:Jl (fun j=>j=4) O4 w4 O4 (w4.setCell ⟨db,0,none⟩ b3):=Kc zd d8.tag rfl;have d7:Kg O4 (w4.setCell ⟨db,0,none⟩ b3) 4 db #[b3,tv] 72:=d8.set 0 b3;refine zh ?_;refine ae (trivial) ?_;have j1:=l6.upd c5;have e7:=c8.upd c5 zd zd;have a8:=(h5.upd b8 zd zd zd zd).upd c5 zd zd zd zd;have e2:=(g5.upd b8 zd zd).upd c5 zd zd;have f5:=(h8.upd b8 zd zd).upd c5 zd zd;have e5:RwO O4 (w4.setCell ⟨db,0,none⟩ b3) 5 b3 (i4++[.slice ra r1.length rc]) (rows++[r1]):=by
   have i5:=d2.len;refine⟨e7,by simp[i5],fun k hk=>?_⟩;rw[aA,aA,i5]
   by_cases e:k<rows.length
   ·rw[if_pos e,if_pos e];obtain⟨a1,a2⟩:=d2.at_ k e;exact⟨(a1.upd a2 b8).upd (a2.upd b8) c5,(a2.upd b8).upd c5⟩
   rw[if_neg e,if_neg e];simp only[Jn,JR,L2]at hk;rw[show k-rows.length=0 from by omega,ay,ay];exact⟨(g'.upd d3 b8).upd (d3.upd b8) c5,(d3.upd b8).upd c5⟩
  have d9:Jl (fun q=>1<=q) O1 w1 O4 (w4.setCell ⟨db,0,none⟩ b3):=(i0.trans (b8.mono (fun j h=>zo) zd)).trans (c5.mono (fun j h=>zo) zd);generalize w4.setCell ⟨db,0,none⟩ b3=w5 at *;refine JZ zk ?_;refine zh ?_;have g4:=a8.len;have i8:q<b'.length:=by obtain⟨pq,h3⟩:=e'.pre;rw[g4,h3];simp;omega
  have h2:q<S1.length:=zo;have h4:nth S1 q=nth S q:=by obtain⟨pq,h3⟩:=e'.pre;rw[h3,aA,if_pos g0]
  have b0:w5.drew.cell? (nA mb 2)=some a7/\w5.drew.cell? (adr a7 1 q)=some (nth b' q):=⟨a8.blk.cell 2 rfl,by have:=a8.row.sl.cell (i:=q) (j:=0) i8 rfl;rwa[ax]at this⟩
  have sd:∀W,Kw w5.drew W->W.cell? (nA mb 2)=some a7/\W.cell? (adr a7 1 q)=some (nth b' q):=fun W hE=>⟨hE.cell b0.1,hE.cell b0.2⟩
  have j5:w5.drew.cell? (nA db 1)=some tv:=d7.cell 1 rfl;have j4:=hD.ext (b2.trans d9).drew.ext;obtain⟨d0,k0⟩:=a8.at_ q h2;rw[h4]at d0;have m9:=e4 (nth S q);refine aG (fun W=>W.cell? (nA mb 2)=some a7/\W.cell? (adr a7 1 q)=some (nth b' q)) 15 rfl zk ?_;refine zrf 0 rfl b0 rfl ?_;refine zrm 2 rfl b0 rfl ?_;refine zrm 3 rfl b0 rfl ?_;refine zr 4 rfl b0 (fun _=>ao rfl) ?_;refine zrf 5 rfl b0 rfl ?_;refine zt 6 rfl b0 (fun w1 g1=>RV.ld g1.1 rfl) ?_;refine zrm 7 rfl b0 rfl ?_;refine zr 8 rfl b0 (fun _=>ai a8.row.sl.sh JD (L5 _) rfl rfl q rfl i8) ?_;refine zt 9 rfl b0 (fun w1 g1=>RV.ld g1.2 rfl) ?_;refine bL 1 10 zk rfl rfl ?_ ?_
  ·refine zvH (RV.ld j5 rfl) ?_;refine ae b0 ?_
   refine J9 10 zk rfl ?_;refine zc M9 (jQ w5.drew nb se g (nth S q) _ j4 d0.drew j6 j0) ?_
   rintro j8 w9 ⟨rfl,e1⟩;rw[e1];clear e1 w9;refine zh ?_;refine ae b0 ?_;refine J9 11 zk rfl ?_;refine da mF (enc:=fK) (dP g (nth S q)) rfl rfl rfl zd rfl ?_;intro j9 w6 c' f';refine zh ?_;refine ae (sd _ f') ?_;have a':Jl (fun _=>False) O4 w5 O4 w6:=aa (fun h=>h) O4 ((Jk w5).drew.trans f');have c9:=e2.upd a' zd fun h=>h
   have d6:=d7.upd a' zd fun h=>h
   have d4:=a8.upd a' zd (fun h=>h) (fun h=>h) fun h=>h
   have i3:=j1.upd a';refine J9 12 zk rfl ?_;refine aC mF c9 i3 c' (by simp) rfl rfl (by simp) (by simp[J1]) (by simp;omega) (by simp;omega) zd rfl ?_;intro a3 w7 O7 a6 b7 i2;have a9:=d6.upd b7 zd zd;have a4:=d4.upd b7 zd zd zd zd;have g3:=a4.len;have s7:w7.cell? (nA mb 2)=some a7/\w7.cell? (adr a7 1 q)=some (nth b' q):=⟨a4.blk.cell 2 rfl,by have:=a4.row.sl.cell (i:=q) (j:=0) zo rfl;rwa[ax]at this⟩
   refine zh ?_;refine ae (s7) ?_
   refine zrf 13 rfl (s7) rfl ?_;refine J9 14 zk rfl ?_
   refine aj (j:=1) a9 rfl (Ld _) a6.one rfl rfl rfl ?_;have b1:Jl (fun j=>j=4) O7 w7 O7 (w7.setCell ⟨db,1,none⟩ a3):=Kc zd a9.tag rfl;have d5:Kg O7 (w7.setCell ⟨db,1,none⟩ a3) 4 db #[b3,a3] 72:=a9.set 1 a3;have a0:=a4.upd b1 zd zd zd zd;have g2:=a0.len;have s8:(w7.setCell ⟨db,1,none⟩ a3).cell? (nA mb 2)=some a7/\(w7.setCell ⟨db,1,none⟩ a3).cell? (adr a7 1 q)=some (nth b' q):=⟨a0.blk.cell 2 rfl,by have:=a0.row.sl.cell (i:=q) (j:=0) zo rfl;rwa[ax]at this⟩
   refine zh ?_;refine ae (s8) ?_
   have b4:=a6.upd b1 zd zd;have i1:=i2.upd b1;have d1:=((e5.upd a' zd fun h=>h).upd b7 zd zd).upd b1 zd zd;have a5:=((f5.upd a' zd fun h=>h).upd b7 zd zd).upd b1 zd zd;have b9:Jl (fun q=>1<=q) O1 w1 O7 (w7.setCell ⟨db,1,none⟩ a3):=((d9.trans (a'.mono (fun _ h=>h.elim) zd)).trans (b7.mono (fun j h=>zo) zd)).trans (b1.mono (fun j h=>zo) zd);generalize w7.setCell ⟨db,1,none⟩ a3=w8 at *;have l':=s8.1;refine JZ zk ?_;refine zh ?_;refine zvH (bh a0.row.sl.sh JD rfl) ?_
   by_cases b5:1000<S1.length
   ·rw[if_pos b5]at c6;rw[<-c6];refine zTH rfl ((decide_eq_true zo)) ?_;refine zv (aF FS (K2 _) rfl (by first|rfl|(simp only[JP,Kl];rfl)) rfl rfl) ?_;refine zsa (us:=#[nS,nS]) a5 (JE _) ?_;have f9:=a5.setRow (us:=#[nS,nS]);have f6:Jl (fun j=>j=7) O7 w8 O7 (w8.setRow cb #[nS,nS]):=Jv zd a5.tag rfl;refine zh ?_;refine bp rfl rfl rfl (f9.cellsAdd) (Kb _) (JE _) (⟨((b2.trans b9).trans (f6.mono (fun j h=>zo) zd)).ext,rfl⟩)
   rw[if_neg b5]at c6;refine zFH rfl ((decide_eq_false zo)) ?_;refine zxd (q+1,O7,w8,a7,b',S1,l2,rows++[r1],i7++[dP g (nth S q)],i4++[.slice ra r1.length rc],b3,a3) (⟨b2.trans b9,i1,a0,d5,d1,b4,a5,j2 zo,f3,by dsimp only;rw[show 1002-(q+1)=n from by omega];exact c6⟩)
  refine zc M9 (jQ w5.drew nb se g (nth S q) _ j4 d0.drew j6 j0) ?_;rintro j8 w9 ⟨rfl,e1⟩;rw[e1];clear e1 w9;refine zh ?_
  refine ae b0 ?_;refine bQ 1 11 mF (enc:=fK) (dP g (nth S q)) rfl rfl zk zk zk zk (fun W hE=>Lj (hE.cell j5) (Mm _) rfl) sd rfl rfl rfl zd rfl rfl rfl rfl rfl ?_
  intro j9 w6 c' f';have a':Jl (fun _=>False) O4 w5 O4 w6:=aa (fun h=>h) O4 ((Jk w5).drew.trans f');have c9:=e2.upd a' zd fun h=>h
  have d6:=d7.upd a' zd fun h=>h
  have d4:=a8.upd a' zd (fun h=>h) (fun h=>h) fun h=>h
  have i3:=j1.upd a';refine J9 12 zk rfl ?_;refine aC mF c9 i3 c' (by simp) rfl rfl (by simp) (by simp[J1]) (by simp;omega) (by simp;omega) zd rfl ?_;intro a3 w7 O7 a6 b7 i2;have a9:=d6.upd b7 zd zd;have a4:=d4.upd b7 zd zd zd zd;have g3:=a4.len;have s7:w7.cell? (nA mb 2)=some a7/\w7.cell? (adr a7 1 q)=some (nth b' q):=⟨a4.blk.cell 2 rfl,by have:=a4.row.sl.cell (i:=q) (j:=0) zo rfl;rwa[ax]at this⟩
  refine zh ?_;refine ae (s7) ?_
  refine zrf 13 rfl (s7) rfl ?_;refine J9 14 zk rfl ?_
  refine aj (j:=1) a9 rfl (Ld _) a6.one rfl rfl rfl ?_;have b1:Jl (fun j=>j=4) O7 w7 O7 (w7.setCell ⟨db,1,none⟩ a3):=Kc zd a9.tag rfl;have d5:Kg O7 (w7.setCell ⟨db,1,none⟩ a3) 4 db #[b3,a3] 72:=a9.set 1 a3;have a0:=a4.upd b1 zd zd zd zd;have g2:=a0.len;have s8:(w7.setCell ⟨db,1,none⟩ a3).cell? (nA mb 2)=some a7/\(w7.setCell ⟨db,1,none⟩ a3).cell? (adr a7 1 q)=some (nth b' q):=⟨a0.blk.cell 2 rfl,by have:=a0.row.sl.cell (i:=q) (j:=0) zo rfl;rwa[ax]at this⟩
  refine zh ?_;refine ae (s8) ?_
  have b4:=a6.upd b1 zd zd;have i1:=i2.upd b1;have d1:=((e5.upd a' zd fun h=>h).upd b7 zd zd).upd b1 zd zd;have a5:=((f5.upd a' zd fun h=>h).upd b7 zd zd).upd b1 zd zd;have b9:Jl (fun q=>1<=q) O1 w1 O7 (w7.setCell ⟨db,1,none⟩ a3):=((d9.trans (a'.mono (fun _ h=>h.elim) zd)).trans (b7.mono (fun j h=>zo) zd)).trans (b1.mono (fun j h=>zo) zd);generalize w7.setCell ⟨db,1,none⟩ a3=w8 at *;have l':=s8.1;refine JZ zk ?_;refine zh ?_;refine zvH (bh a0.row.sl.sh JD rfl) ?_
  by_cases b5:1000<S1.length
  ·rw[if_pos b5]at c6;rw[<-c6];refine zTH rfl ((decide_eq_true zo)) ?_;refine zv (aF FS (K2 _) rfl (by first|rfl|(simp only[JP,Kl];rfl)) rfl rfl) ?_;refine zsa (us:=#[nS,nS]) a5 (JE _) ?_;have f9:=a5.setRow (us:=#[nS,nS]);have f6:Jl (fun j=>j=7) O7 w8 O7 (w8.setRow cb #[nS,nS]):=Jv zd a5.tag rfl;refine zh ?_;refine bp rfl rfl rfl (f9.cellsAdd) (Kb _) (JE _) (⟨((b2.trans b9).trans (f6.mono (fun j h=>zo) zd)).ext,rfl⟩)
  rw[if_neg b5]at c6;refine zFH rfl ((decide_eq_false zo)) ?_;refine zxd (q+1,O7,w8,a7,b',S1,l2,rows++[r1],i7++[dP g (nth S q)],i4++[.slice ra r1.length rc],b3,a3) (⟨b2.trans b9,i1,a0,d5,d1,b4,a5,j2 zo,f3,by dsimp only;rw[show 1002-(q+1)=n from by omega];exact c6⟩)
 intro n2;obtain rfl:q=S.length:=dF n2;have k3:Dv (cS se g) (dP g)=some (rows,i7):=by
  rw[<-c6];obtain⟨n,hn⟩:∃n,1002-S.length=n+1:=⟨1001-S.length,zo⟩
  rw[hn,FD,if_neg zo]
 rw[k3];have o1:=d'.row.one;have o2:=e3.one;refine zh ?_;refine zv (af (us:=[nv,tv]) f4.cellsAdd (Kb _) (JE _) rfl) ?_;refine zsb (us:=#[nv,tv]) e0 (JE _) (by simp only[JP,o1,o2];rfl) ?_;have f9:=e0.setRow (us:=#[nv,tv]);have f6:Jl (fun j=>j=7) O1 w1 O1 (w1.setRow cb #[nv,tv]):=Jv zd e0.tag rfl;have k1:=d'.upd f6 zd zd;have j':=e3.upd f6 zd zd;refine zh ?_;refine bp rfl rfl rfl (f9.cellsAdd) (Kb _) (JE _) (⟨(b2.trans (f6.mono (fun j h=>zo) zd)).ext,nv,tv,rfl,o1,o2,k1.rows,j'.sl⟩)
def Az(l:List Nat):Nat:=l.foldl max 0
theorem Ay(l:List Nat)(x:Nat):Az (l++[x])=max (Az l) x:=by unfold Az;rw[Kv];rfl
theorem Fo{n:Nat}(h0:0<n):∀(l:List Nat),(∀x∈l,x<n)->Az l<n:=by
 have a0:∀(l:List Nat) (a:Nat),a<n->(∀x∈l,x<n)->l.foldl max a<n:=fun l=>by
  induction l with
  |nil=>exact fun a ha _=>ha
  |cons x l ih=>exact fun a ha h=>ih _ (by have:=h x (by simp);exact Nat.max_lt.2 ⟨ha,this⟩) fun y hy=>h y (by simp[hy])
 exact fun l h=>a0 l 0 h0 h
theorem CB(l:List Nat)(sv:ix)(w:ka)(h:Sl aO 1 w sv l)(a1:0<l.length):KN JF 77 [sv] w fun v w'=>v=nI ((Az l:Nat):Int)/\w'=w:=by
 have hl:=h.len_le;have m0:w.cell? (adr sv 1 0)=some (nI ((nth l 0:Nat):Int)):=by have:=h.cell (j:=0) a1 rfl;rwa[ax]at this
 have e1:nth l 0=Az (l.take 1):=by
  have h1:=aM a1;rw[h1];simp[Az]
 refine J4 func77 ntmps77 rfl rfl ?_;refine zh ?_
 refine zFH rfl ((decide_eq_false zo)) ?_;rw[e1];refine zh ?_
 refine zlp (fun z:Nat=>[(0,sv),(3,nI ((Az (l.take z):Nat):Int)),(4,nI z)]) (fun z=>w) (fun z=>1<=z/\z<=l.length) (fun z=>l.length-z) 1 (⟨J7 _,a1⟩) ?_;rintro q ⟨a3,hq⟩;refine zh ?_
 refine zC ?_ ?_
 ·intro a0;replace a0:q<l.length:=dT a0;have m1:w.cell? (adr sv 1 q)=some (nI ((nth l q:Nat):Int)):=by have:=h.cell (j:=0) a0 rfl;rwa[ax]at this
  refine zh ?_;refine zvH (jN rfl rfl) ?_
  rw[show max ((Az (l.take q):Nat):Int) ((nth l q:Nat):Int)=((Az (l.take (q+1)):Nat):Int)from by rw[aM a0,Ay];omega];refine zxd (q+1) (⟨zo,a0⟩)
 intro a2;obtain rfl:q=l.length:=dF a2;rw[Jh];refine zh ?_;refine ah rfl rfl (⟨rfl,rfl⟩)
theorem Cy(l:List Nat)(sv:ix)(w:ka)(h:Sl aO 1 w sv l)(a1:0<l.length):KN JF 76 [sv] w fun v w'=>(∃k:Nat,v=nI (k:Int))/\w'=w:=by
 have hl:=h.len_le;have m0:w.cell? (adr sv 1 0)=some (nI ((nth l 0:Nat):Int)):=by have:=h.cell (j:=0) a1 rfl;rwa[ax]at this
 refine J4 func76 ntmps76 rfl rfl ?_;refine zh ?_
 refine zFH rfl ((decide_eq_false zo)) ?_;refine zlp (fun z:Nat×Nat=>[(0,sv),(3,nI ((z.2:Nat):Int)),(4,nI z.1)]) (fun z=>w) (fun z=>1<=z.1/\z.1<=l.length) (fun z=>l.length-z.1) (1,nth l 0) (⟨J7 _,a1⟩) ?_
 rintro⟨q,k⟩ ⟨a2,hq⟩;dsimp only at a2 hq ⊢;refine zh ?_;refine zC ?_ ?_
 ·intro a0;replace a0:q<l.length:=dT a0;have m1:w.cell? (adr sv 1 q)=some (nI ((nth l q:Nat):Int)):=by have:=h.cell (j:=0) a0 rfl;rwa[ax]at this
  refine zh ?_;refine zvH (FP rfl rfl) ?_
  rw[show min ((k:Nat):Int) ((nth l q:Nat):Int)=((min k (nth l q):Nat):Int)from by omega];refine zxd (q+1,min k (nth l q)) (⟨by dsimp only;omega,a0⟩)
 intro a3;refine zh ?_;refine ah rfl rfl (⟨⟨k,rfl⟩,rfl⟩)
structure RightD(rows:List (List Nat))(tls:List Nat):Prop where
 pos:0<rows.length
 le:rows.length<=1000
 tl:tls.length=rows.length
 row:∀j,j<rows.length->(nth rows j).length=37/\∀m,m<37->nth (nth rows j) m<rows.length
theorem DI.right{step:List Int->Int->List Int}{a0:List Int->Nat}{S:List (List Int)}{rows:List (List Nat)}{a1:List Nat}(h:DI step a0 S.length S rows a1):RightD rows a1:=by
 have h1:=h.rl;have h2:=h.p0;have h3:=h.len;exact⟨zo,zo,by rw[h.tl,h1],fun j hj=>⟨(h.row j zo).1,fun m hm=>by have:=((h.row j zo).2 m hm).1;omega⟩⟩
theorem jJ(nv tv:ix)(rows:List (List Nat))(a5:List Nat)(w:ka)(hn:RowsN w nv rows)(b0:Sl fK 1 w tv a5)(hr:RightD rows a5):KN JF 41 [.agg #[nv,tv]] w fun v w'=>v=.bool true/\Kw w w':=by
 obtain⟨vs,a7,b1,a8⟩:=hn;have a4:=hr.pos;have b3:=hr.le;have a9:=hr.tl;refine J4 func41 ntmps41 rfl rfl ?_;refine zh ?_;refine aE (ar w) 1 zo rfl rfl ?_;intro db w1 O1 a6 b5 b6 a2;have c0:w1.cell? (nA db 0)=some nv:=a6.cell 0 rfl;have c1:w1.cell? (nA db 1)=some tv:=a6.cell 1 rfl;have a3:=a7.ext a2;have a':=b0.ext a2;refine zh ?_;refine az (d:=11) rfl (b':=false) ((by rw[beq_eq_false_iff_ne];omega)) ?_;refine zh ?_;refine az (d:=15) rfl (b':=false) ((decide_eq_false zo)) ?_;refine zh ?_;refine zFH rfl ((by rw[bne_eq_false_iff_eq];omega)) ?_;refine zlp (fun z:Nat×ka=>[(3,nI vs.length),(23,nv),(24,nI vs.length),(25,nI z.1)]) (fun z=>z.2) (fun z=>z.1<=vs.length/\z.2=w1) (fun z=>vs.length-z.1) (0,w1) (⟨J0 _,rfl⟩) ?_;rintro⟨q,w2⟩ ⟨hq,rfl⟩;dsimp only at hq ⊢;refine zh ?_;refine zC ?_ ?_
 ·intro a1;replace a1:q<vs.length:=dT a1;have m1:w2.cell? (adr nv 1 q)=some (nth vs q):=by have:=a3.cell (j:=0) a1 rfl;rwa[ax]at this
  obtain⟨r1,r2⟩:=hr.row q zo;have hk:=(a8 q zo).ext a2;have b2:Az (nth rows q)<rows.length:=Fo a4 _ fun x hx=>by
   obtain⟨j,hj,rfl⟩:=cG hx;exact r2 j zo
  refine zh ?_;refine az (d:=32) rfl (b':=false) ((by rw[r1];rfl)) ?_
  refine zh ?_;refine zc call76 (Cy (nth rows q) _ w2 hk zo) ?_
  rintro v w9 ⟨⟨k,rfl⟩,a0⟩;rw[a0];clear a0 w9;refine zh ?_;refine az (d:=37) rfl (b':=false) ((decide_eq_false zo)) ?_;refine zh ?_;refine zc call77 (CB (nth rows q) _ w2 hk zo) ?_;rintro v w9 ⟨rfl,a0⟩;rw[a0];clear a0 w9;refine zh ?_;refine zFH rfl ((decide_eq_false zo)) ?_;refine zxd (q+1,w2) (⟨a1,rfl⟩)
 intro b4;refine zh ?_;refine ah rfl rfl (⟨rfl,a2⟩)
def runN(nx:Nat->Nat->Nat)(w:List Nat)(q:Nat):Nat:=w.foldl nx q
def Alike(nx:Nat->Nat->Nat)(tl:Nat->Nat)(p q:Nat):Prop:=∀w:List Nat,(∀m∈w,m<37)->tl (runN nx w p)=tl (runN nx w q)
theorem Alike.step{nx:Nat->Nat->Nat}{tl:Nat->Nat}{p q:Nat}(h:Alike nx tl p q){m:Nat}(hm:m<37):Alike nx tl (nx p m) (nx q m):=fun w hw=>h (m::w) fun x hx=>by
 rcases Ji.1 hx with rfl|hx
 ·exact hm
 exact hw x hx
theorem Alike.symm{nx:Nat->Nat->Nat}{tl:Nat->Nat}{p q:Nat}(h:Alike nx tl p q):Alike nx tl q p:=fun w hw=>(h w hw).symm
structure Blk(nx:Nat->Nat->Nat)(tl:Nat->Nat)(n:Nat)(bl:List Nat)(st:Nat->List Nat)(many:Nat):Prop where
 len:bl.length=n
 lt:∀i,i<n->nth bl i<many
 mem:∀b,b<many->∀x,x∈st b↔x<n/\nth bl x=b
 nd:∀b,b<many->(st b).Nodup
 ne:∀b,b<many->st b≠[]
 told:∀p q,p<n->q<n->nth bl p=nth bl q->tl p=tl q
 alike:∀p q,p<n->q<n->Alike nx tl p q->nth bl p=nth bl q
theorem Blk.many_le{nx:Nat->Nat->Nat}{tl:Nat->Nat}{n:Nat}{bl:List Nat}{st:Nat->List Nat}{many:Nat}(h:Blk nx tl n bl st many):many<=n:=by
 have a0:∀b,b<many->(st b).headD 0∈st b:=fun b hb=>by
  have:=h.ne b hb
  cases hs:st b with
  |nil=>exact absurd hs this
  |cons a r=>simp
 have a1:((Ju many).map fun b=>(st b).headD 0).Nodup:=by
  refine List.pairwise_map.2 (M1 ?_ KY);intro a b ha hb a2 e;have ha:=JH.1 ha;have hb:=JH.1 hb;have h1:=((h.mem a ha _).1 (a0 a ha)).2;have h2:=((h.mem b hb _).1 (a0 b hb)).2;exact a2 (by rw[<-h1,<-h2,e])
 have:=eW a1 (n:=n) fun x hx=>by
  obtain⟨b,hb,rfl⟩:=KE.1 hx;have hb:=JH.1 hb;exact((h.mem b hb _).1 (a0 b hb)).1
 simpa using this
def Pend(nx:Nat->Nat->Nat)(n:Nat)(bl:List Nat)(td:Nat->Nat->Prop)(m0:Nat)(P0:Nat->Prop)(a0:Nat->Prop):Prop:=
 ∀p q m,p<n->q<n->m<37->nth bl p=nth bl q->nth bl (nx p m)≠nth bl (nx q m)->(td (nth bl (nx p m)) m\/td (nth bl (nx q m)) m)\/(m=m0/\¬(P0 p↔P0 q)/\a0 (nth bl p))
def Todo(nx:Nat->Nat->Nat)(n:Nat)(bl:List Nat)(td:Nat->Nat->Prop):Prop:=
 ∀p q m,p<n->q<n->m<37->nth bl p=nth bl q->nth bl (nx p m)≠nth bl (nx q m)->td (nth bl (nx p m)) m\/td (nth bl (nx q m)) m
theorem Todo.take{nx:Nat->Nat->Nat}{n:Nat}{bl:List Nat}{td a1:Nat->Nat->Prop}(h:Todo nx n bl td)(b0 m0:Nat)(ht:∀b m,td b m->a1 b m\/(b=b0/\m=m0))(a2:Nat->Prop)(hr:∀p,p<n->nth bl (nx p m0)=b0->a2 (nth bl p)):
  Pend nx n bl a1 m0 (fun p=>nth bl (nx p m0)=b0) a2:=fun p q m hp hq hm e a0=>by
 rcases h p q m hp hq hm e a0 with h1|h1
 ·rcases ht _ _ h1 with h2|⟨h2,rfl⟩
  ·exact .inl (.inl h2)
  exact .inr ⟨rfl,fun hi=>a0 (by rw[h2,hi.1 h2]),hr p hp h2⟩
 rcases ht _ _ h1 with h2|⟨h2,rfl⟩
 ·exact .inl (.inr h2)
 exact .inr ⟨rfl,fun hi=>a0 (by rw[h2,hi.2 h2]),by rw[e];exact hr q hq h2⟩
theorem Pend.done{nx:Nat->Nat->Nat}{n:Nat}{bl:List Nat}{td:Nat->Nat->Prop}{m0:Nat}{P0 a0:Nat->Prop}(h:Pend nx n bl td m0 P0 a0)(hr:∀b,¬a0 b):Todo nx n bl td:=fun p q m hp hq hm e a1=>by
 rcases h p q m hp hq hm e a1 with h1|⟨_,_,h1⟩
 ·exact h1
 exact absurd h1 (hr _)
theorem Pend.whole{nx:Nat->Nat->Nat}{n:Nat}{bl:List Nat}{td:Nat->Nat->Prop}{m0:Nat}{P0 a1 a0:Nat->Prop}(h:Pend nx n bl td m0 P0 a1){k:Nat}(hk:∀p,p<n->nth bl p=k->P0 p)(hr:∀b,a1 b->b=k\/a0 b):Pend nx n bl td m0 P0 a0:=fun p q m hp hq hm e a2=>by
 rcases h p q m hp hq hm e a2 with h1|⟨h1,h2,h3⟩
 ·exact .inl h1
 rcases hr _ h3 with h4|h4
 ·exact absurd ⟨fun _=>hk q hq (e.symm.trans h4),fun _=>hk p hp h4⟩ h2
 exact .inr ⟨h1,h2,h4⟩
structure Cut(n:Nat)(bl bl':List Nat)(st st':Nat->List Nat)(many k:Nat)(L:List Nat):Prop where
 len:bl'.length=n
 bl:∀x,x<n->nth bl' x=if x∈L then many else nth bl x
 new:st' many=L
 old:st' k=(st k).filter fun x=>!(L.contains x)
 oth:∀b,b≠many->b≠k->st' b=st b
theorem Blk.cut{nx:Nat->Nat->Nat}{tl:Nat->Nat}{n:Nat}{bl a4:List Nat}{st a6:Nat->List Nat}{many k:Nat}{L:List Nat}(h:Blk nx tl n bl st many)(c:Cut n bl a4 st a6 many k L)(hk:k<many)(hL:∀x∈L,x<n/\nth bl x=k)(a':L.Nodup)(b0:L≠[])(b1:L.length<(st k).length) 
  (a9:∀p q,p<n->q<n->Alike nx tl p q->p∈L->q∈L):Blk nx tl n a4 a6 (many+1):=by
 have a0:∀x,x<n->x∉L->nth a4 x=nth bl x:=fun x hx hn=>by rw[c.bl x hx,if_neg hn]
 have a3:∀x,x<n->x∈L->nth a4 x=many:=fun x hx hn=>by rw[c.bl x hx,if_pos hn]
 refine⟨c.len,fun i hi=>?_,fun b hb x=>?_,fun b hb=>?_,fun b hb=>?_,fun p q hp hq e=>?_,fun p q hp hq ha=>?_⟩
 ·have:=h.lt i hi
  by_cases a7:i∈L
  ·rw[a3 i hi a7];omega
  rw[a0 i hi a7];omega
 ·by_cases a1:b=many
  ·subst a1;rw[c.new]
   constructor
   ·intro hx;exact⟨(hL x hx).1,a3 x (hL x hx).1 hx⟩
   rintro⟨hx,e⟩;refine Jt fun hn=>?_
   rw[a0 x hx hn]at e;have:=h.lt x hx;omega
  have a8:b<many:=zo
  by_cases a2:b=k
  ·subst a2;rw[c.old,K7,h.mem b a8 x]
   constructor
   ·rintro⟨⟨h1,h2⟩,h3⟩;have hn:x∉L:=by simpa using h3
    exact⟨h1,by rw[a0 x h1 hn];exact h2⟩
   rintro⟨h1,h2⟩;have hn:x∉L:=fun hx=>by rw[a3 x h1 hx]at h2;omega
   exact⟨⟨h1,by rw[<-a0 x h1 hn];exact h2⟩,by simpa using hn⟩
  rw[c.oth b a1 a2,h.mem b a8 x]
  constructor
  ·rintro⟨h1,h2⟩;have hn:x∉L:=fun hx=>a2 (by rw[<-h2];exact(hL x hx).2)
   exact⟨h1,by rw[a0 x h1 hn];exact h2⟩
  rintro⟨h1,h2⟩;have hn:x∉L:=fun hx=>a1 (by rw[<-h2];exact a3 x h1 hx)
  exact⟨h1,by rw[<-a0 x h1 hn];exact h2⟩
 ·by_cases a1:b=many
  ·subst a1;rw[c.new];exact a'
  by_cases a2:b=k
  ·subst a2;rw[c.old];exact(h.nd b zo).filter _
  rw[c.oth b a1 a2];exact h.nd b zo
 ·by_cases a1:b=many
  ·subst a1;rw[c.new];exact b0
  by_cases a2:b=k
  ·subst a2;rw[c.old];intro e;have a5:st b ⊆ L:=fun x hx=>by
    refine Jt fun hn=>?_
    have:x∈(st b).filter fun x=>!(L.contains x):=K7.2 ⟨hx,by simpa using hn⟩
    rw[e]at this;simp at this
   have:=(h.nd b zo).length_le_of_subset a5;omega
  rw[c.oth b a1 a2];exact h.ne b zo
 ·refine h.told p q hp hq ?_
  by_cases h1:p∈L
  ·by_cases h2:q∈L
   ·rw[(hL p h1).2,(hL q h2).2]
   rw[a3 p hp h1,a0 q hq h2]at e;have:=h.lt q hq;omega
  by_cases h2:q∈L
  ·rw[a0 p hp h1,a3 q hq h2]at e;have:=h.lt p hp;omega
  rw[a0 p hp h1,a0 q hq h2]at e;exact e
 by_cases h1:p∈L
 ·rw[a3 p hp h1,a3 q hq (a9 p q hp hq ha h1)]
 have h2:q∉L:=fun hx=>h1 (a9 q p hq hp ha.symm hx)
 rw[a0 p hp h1,a0 q hq h2];exact h.alike p q hp hq ha
theorem Pend.cut{nx:Nat->Nat->Nat}{tl:Nat->Nat}{n:Nat}{bl a6:List Nat}{st b4:Nat->List Nat}{many k m0:Nat}{L:List Nat}{td a3:Nat->Nat->Prop}{P0 a' a5:Nat->Prop}(hB:Blk nx tl n bl st many)(h:Pend nx n bl td m0 P0 a')(c:Cut n bl a6 st b4 many k L)(_:k<many) 
  (b2:∀p m,p<n->m<37->nx p m<n) (hL:∀x,x∈L↔x<n/\nth bl x=k/\P0 x)
  (ht:∀b m,td b m->a3 b m) (b5:∀m,m<37->td k m->a3 many m) (b1:∀m,m<37->a3 many m\/a3 k m) (hr:∀b,a' b->b=k\/a5 b):Pend nx n a6 a3 m0 P0 a5:=fun p q m hp hq hm e b3=>by
 have a0:∀x,x<n->x∉L->nth a6 x=nth bl x:=fun x hx hn=>by rw[c.bl x hx,if_neg hn]
 have a2:∀x,x<n->x∈L->nth a6 x=many:=fun x hx hn=>by rw[c.bl x hx,if_pos hn]
 have a4:∀x,x∈L->nth bl x=k:=fun x hx=>((hL x).1 hx).2.1
 have a1:nth bl p=nth bl q/\(p∈L↔q∈L):=by
  by_cases h1:p∈L
  ·by_cases h2:q∈L
   ·exact⟨by rw[a4 p h1,a4 q h2],by simp[h1,h2]⟩
   rw[a2 p hp h1,a0 q hq h2]at e;have:=hB.lt q hq;omega
  by_cases h2:q∈L
  ·rw[a0 p hp h1,a2 q hq h2]at e;have:=hB.lt p hp;omega
  rw[a0 p hp h1,a0 q hq h2]at e;exact⟨e,by simp[h1,h2]⟩
 have hx:=b2 p m hp hm;have hy:=b2 q m hq hm;have hh:=h p q m hp hq hm a1.1;generalize nx p m=x at *;generalize nx q m=y at *;have b0:∀z,z<n->td (nth bl z) m->a3 (nth a6 z) m:=fun z hz a9=>by
  by_cases h1:z∈L
  ·rw[a2 z hz h1];rw[a4 z h1]at a9;exact b5 m hm a9
  rw[a0 z hz h1];exact ht _ _ a9
 by_cases a7:nth bl x=nth bl y
 ·by_cases h1:x∈L
  ·by_cases h2:y∈L
   ·exact absurd (by rw[a2 x hx h1,a2 y hy h2]) b3
   have e1:=a4 x h1;rw[a2 x hx h1,a0 y hy h2,<-a7,e1];exact .inl (b1 m hm)
  by_cases h2:y∈L
  ·have e1:=a4 y h2;rw[a2 y hy h2,a0 x hx h1,a7,e1];exact .inl ((b1 m hm).symm)
  exact absurd (by rw[a0 x hx h1,a0 y hy h2,a7]) b3
 rcases hh a7 with(h1|h1)|⟨h1,h2,h3⟩
 ·exact .inl (.inl (b0 x hx h1))
 ·exact .inl (.inr (b0 y hy h1))
 by_cases a8:nth bl p=k
 ·exact absurd ⟨fun a=>((hL q).1 (a1.2.1 ((hL p).2 ⟨hp,a8,a⟩))).2.2,fun a=>((hL p).1 (a1.2.2 ((hL q).2 ⟨hq,by rw[<-a1.1];exact a8,a⟩))).2.2⟩ h2
 have b6:p∉L:=fun a=>a8 (a4 p a)
 rcases hr _ h3 with h4|h4
 ·exact absurd h4 a8
 exact .inr ⟨h1,h2,by rw[a0 p hp b6];exact h4⟩
theorem Blk.final{nx:Nat->Nat->Nat}{tl:Nat->Nat}{n:Nat}{bl:List Nat}{st:Nat->List Nat}{many:Nat}(h:Blk nx tl n bl st many)(ht:Todo nx n bl fun _ _=>False)(a0:∀p m,p<n->m<37->nx p m<n)(p q:Nat)(hp:p<n)(hq:q<n):nth bl p=nth bl q↔Alike nx tl p q:=by
 refine⟨fun e w=>?_,h.alike p q hp hq⟩
 induction w generalizing p q with
 |nil=>exact fun _=>h.told p q hp hq e
 |cons m w ih=>
  intro hw;have hm:=hw m (by simp);refine ih (nx p m) (nx q m) (a0 p m hp hm) (a0 q m hq hm) (Jt fun a1=>?_) fun x hx=>hw x (by simp[hx])
  rcases ht p q m hp hq hm e a1 with h1|h1<;>exact h1
section
variable(cl:Nat→Nat)(nx:Nat→Nat→Nat)
def tq(F:List Nat)(t:Nat):Option Nat:=F.findIdx? fun o=>cl o==cl t
def fnI(F:List Nat)(t:Nat):Nat:=(tq cl F t).getD F.length
def fnF(F:List Nat)(t:Nat):List Nat:=if(tq cl F t).isSome=true then F else F++[t]
def gG(p:Nat)(F:List Nat):Nat->List Nat×List Nat
 |0=>(F,[])
 |m+1=>(fnF cl (gG p F m).1 (nx p m),(gG p F m).2++[fnI cl (gG p F m).1 (nx p m)])
end
theorem A8{cl:Nat->Nat}{F:List Nat}{t k:Nat}(h:tq cl F t=some k):k<F.length/\cl (nth F k)=cl t:=by
 obtain⟨h1,h2,_⟩:=JA.1 h;exact⟨h1,by rw[aB h1];simpa using h2⟩
theorem Ba{cl:Nat->Nat}{F:List Nat}{t:Nat}(h:tq cl F t=none):∀o∈F,cl o≠cl t:=by
 intro o ho e;have:=K1.1 h o ho;simp[e]at this
theorem Fz(cl:Nat->Nat)(F:List Nat)(t:Nat):∃r,fnF cl F t=F++r:=by
 unfold fnF
 split
 ·exact⟨[],by simp⟩
 exact⟨_,rfl⟩
theorem GE(cl:Nat->Nat)(F:List Nat)(t:Nat):fnI cl F t<(fnF cl F t).length/\cl (nth (fnF cl F t) (fnI cl F t))=cl t:=by
 unfold fnI fnF
 cases h:tq cl F t with
 |some k=>exact A8 h
 |none=>
  simp only[Option.getD_none,Option.isSome_none,Bool.false_eq_true,if_false];exact⟨by simp,by rw[aA,if_neg zo,Ko,ay]⟩
structure Reps(cl:Nat->Nat)(n:Nat)(F:List Nat):Prop where
 lt:∀o∈F,o<n
 nd:F.Pairwise fun a b=>cl a≠cl b
theorem Reps.add{cl:Nat->Nat}{n:Nat}{F:List Nat}(h:Reps cl n F){t:Nat}(ht:t<n):Reps cl n (fnF cl F t):=by
 unfold fnF
 cases hf:tq cl F t with
 |some k=>exact h
 |none=>
  have a0:=Ba hf
  exact⟨fun o ho=>by
   rcases Js.1 ho with ho|ho
   ·exact h.lt o ho
   rw[J3.1 ho];exact ht,List.pairwise_append.2 ⟨h.nd,by simp,fun a ha b hb=>by rw[J3.1 hb];exact a0 a ha⟩⟩
theorem Reps.len{cl:Nat->Nat}{n:Nat}{F:List Nat}(h:Reps cl n F):F.length<=n:=
 eW (h.nd.imp fun {a b} a0 e=>a0 (by rw[e])) h.lt
structure RowR(cl:Nat->Nat)(nx:Nat->Nat->Nat)(n p:Nat)(F F' r:List Nat)(m:Nat):Prop where
 pre:∃q,F'=F++q
 len:r.length=m
 lt:∀j,j<m->nth r j<F'.length/\cl (nth F' (nth r j))=cl (nx p j)
 reps:Reps cl n F'
theorem qz{cl:Nat->Nat}{nx:Nat->Nat->Nat}{n p:Nat}{F:List Nat}(hF:Reps cl n F)(a3:∀m,m<37->nx p m<n):∀m,m<=37->RowR cl nx n p F (gG cl nx p F m).1 (gG cl nx p F m).2 m
 |0,_=>⟨⟨[],by simp[gG]⟩,rfl,fun j hj=>absurd hj (J2 j),hF⟩
 |m+1,hm=>by
  have ih:=qz hF a3 m zo;unfold gG;generalize gG cl nx p F m=R at *;obtain⟨F1,r⟩:=R;dsimp only at ih ⊢;obtain⟨q,hq⟩:=ih.pre;obtain⟨q2,a0⟩:=Fz cl F1 (nx p m);have a5:=GE cl F1 (nx p m);have a4:=ih.len;have a6:F1.length<=(fnF cl F1 (nx p m)).length:=by rw[a0];simp
  refine⟨⟨q++q2,by rw[a0,hq,JY]⟩,by simp[a4],fun j hj=>?_,ih.reps.add (a3 m zo)⟩;rw[aA]
  by_cases e:j<r.length
  ·rw[if_pos e];obtain⟨a1,a2⟩:=ih.lt j zo;exact⟨zo,by rw[a0,aA,if_pos a1];exact a2⟩
  rw[if_neg e,show j-r.length=0 from by omega,ay];obtain rfl:j=m:=zo;exact a5
def ei(cl:Nat->Nat)(nx:Nat->Nat->Nat)(tl:Nat->Nat):Nat->Nat->List Nat->List (List Nat)->List Nat->List (List Nat)×List Nat
 |0,_,_,rows,tls=>(rows,tls)
 |n+1,i,F,rows,tls=>
  if i<F.length then ei cl nx tl n (i+1) (gG cl nx (nth F i) F 37).1 (rows++[(gG cl nx (nth F i) F 37).2]) (tls++[tl (nth F i)])
  else(rows,tls)
def nxD(rows:List (List Nat))(q m:Nat):Nat:=nth (nth rows q) m
def cI(cl:Nat->Nat)(rows:List (List Nat))(a0:List Nat):List (List Nat)×List Nat:=ei cl (nxD rows) (nth a0) (rows.length+1) 0 [0] [] []
structure LI(cl:Nat->Nat)(nx:Nat->Nat->Nat)(tl:Nat->Nat)(n i:Nat)(F:List Nat)(rows:List (List Nat))(tls:List Nat):Prop where
 le:i<=F.length
 rl:rows.length=i
 tln:tls.length=i
 p0:0<F.length
 fst:nth F 0=0
 reps:Reps cl n F
 row:∀j,j<i->(nth rows j).length=37/\∀m,m<37->nth (nth rows j) m<F.length/\cl (nth F (nth (nth rows j) m))=cl (nx (nth F j) m)
 tel:∀j,j<i->nth tls j=tl (nth F j)
theorem rQ{cl:Nat->Nat}{nx:Nat->Nat->Nat}{tl:Nat->Nat}{n:Nat}(h0:0<n):LI cl nx tl n 0 [0] [] []:=⟨zd,rfl,rfl,zd,ay _ _,⟨fun o ho=>by rw[J3.1 ho];exact h0,by simp⟩,fun j hj=>absurd hj (J2 j),fun j hj=>absurd hj (J2 j)⟩
theorem LI.next{cl:Nat->Nat}{nx:Nat->Nat->Nat}{tl:Nat->Nat}{n i:Nat}{F:List Nat}{rows:List (List Nat)}{a3:List Nat}(h:LI cl nx tl n i F rows a3)(hi:i<F.length)(a4:∀p m,p<n->m<37->nx p m<n):
  LI cl nx tl n (i+1) (gG cl nx (nth F i) F 37).1 (rows++[(gG cl nx (nth F i) F 37).2]) (a3++[tl (nth F i)]):=by
 have hr:=qz (p:=nth F i) h.reps (fun m hm=>a4 (nth F i) m (h.reps.lt _ (aI hi)) hm) 37 (J7 _);generalize gG cl nx (nth F i) F 37=R at *;obtain⟨F1,r⟩:=R;dsimp only at hr ⊢;obtain⟨q,hq⟩:=hr.pre;have a0:∀k,k<F.length->nth F1 k=nth F k:=fun k hk=>by rw[hq,aA,if_pos hk]
 have a5:F.length<=F1.length:=by rw[hq];simp
 have h1:=h.rl;have h2:=h.tln;have h3:=h.p0;refine⟨zo,by simp[h1],by simp[h2],zo,by rw[a0 0 h3];exact h.fst,hr.reps,fun j hj=>?_,fun j hj=>?_⟩
 ·rw[aA]
  by_cases e:j<rows.length
  ·rw[if_pos e];obtain⟨a1,a2⟩:=h.row j zo;refine⟨a1,fun m hm=>?_⟩;obtain⟨b1,b2⟩:=a2 m hm;exact⟨zo,by rw[a0 _ b1,a0 j zo];exact b2⟩
  rw[if_neg e,show j-rows.length=0 from by omega,ay];obtain rfl:j=i:=zo;refine⟨hr.len,fun m hm=>?_⟩;obtain⟨b1,b2⟩:=hr.lt m hm;exact⟨b1,by rw[a0 j hi];exact b2⟩
 rw[aA]
 by_cases e:j<a3.length
 ·rw[if_pos e,a0 j zo];exact h.tel j zo
 rw[if_neg e,show j-a3.length=0 from by omega,ay];obtain rfl:j=i:=zo;rw[a0 j hi]
theorem jG{cl:Nat->Nat}{nx:Nat->Nat->Nat}{tl:Nat->Nat}{n:Nat}(a1:∀p m,p<n->m<37->nx p m<n):∀(f i:Nat) (F:List Nat) (rows:List (List Nat)) (a0:List Nat),LI cl nx tl n i F rows a0->n+1<=i+f->∃F',LI cl nx tl n F'.length F' (ei cl nx tl f i F rows a0).1 (ei cl nx tl f i F rows a0).2
 |0,i,F,rows,a0,h,hf=>by have:=h.le;have:=h.reps.len;omega
 |f+1,i,F,rows,a0,h,hf=>by
  unfold ei
  split
  ·rename_i hi;exact jG a1 f (i+1) _ _ _ (h.next hi a1) zo
  rename_i hi;have:=h.le;obtain rfl:i=F.length:=zo;exact⟨F,h⟩
def I2(F:LU)(cs:Array ix)(i:Nat)(_:Nat)(O:Nat->Nat)(w:ka)(l:List Nat)(q:Nat->Bool):Prop:=
 ∀x∈l,∀(O':Nat->Nat) (W:ka),Jl (fun k=>k=i) O w O' W->KN JF F ([nI (x:Nat)]++cs.toList) W fun v W'=>v=.bool (q x)/\Kw W W'
theorem oR{F:LU}(hF:∀(args:Array ix) (w:ka),(callFunc F args).run JF w=.ok (.enter F args) w)(cs:Array ix)(B:Nat)(O:Nat->Nat)(w:ka)(i:Nat)(sv:ix)(l:List Nat)(q:Nat->Bool)(hi:i≠0)(_:Kk B O w)(hr:JI aO 3 1 O w i sv l)(hq:I2 F cs i B O w l q):
  KN JF 146 [sv,.func (.func F) #[] cs] w fun v w'=>v=nI (dC (fun j=>q (nth l j)) l.length)/\Kw w w':=by
 have hl:=hr.sl.len_le;refine J4 func146 ntmps146 rfl rfl ?_;refine zh ?_;refine zvH (bh hr.sl.sh ln rfl) ?_;refine zlp (fun x:Nat×ka=>[(0,sv),(1,.func (.func F) #[] cs),(7,nI l.length),(8,nI x.1)]) (fun x=>x.2) (fun x=>x.1<=l.length/\Kw w x.2/\∀j,j<x.1->q (nth l j)=false) (fun x=>l.length-x.1) (0,w) (⟨J0 _,Jk _,fun i hi=>absurd hi (J2 i)⟩) ?_;rintro⟨k,w1⟩ ⟨hk,hE,a1⟩;dsimp only at hk hE a1 ⊢;have h1:=hr.sl.ext hE;refine zh ?_;refine zC ?_ ?_
 ·intro a0;replace a0:k<l.length:=dT a0;have m1:w1.cell? (adr sv 1 k)=some (nI ((nth l k:Nat):Int)):=by have:=h1.cell (j:=0) a0 rfl;rwa[ax]at this
  refine zh ?_;refine du rfl hF rfl (hq _ (aI a0) O w1 (aa (fun e=>hi e.symm) O hE)) rfl ?_
  rintro v w2 ⟨rfl,a3⟩;refine zh ?_;refine zC ?_ ?_
  ·intro hy;refine zh ?_;refine ah rfl rfl (⟨by rw[cD (q:=fun j=>q (nth l j)) a0 hy a1],hE.trans a3⟩)
  intro hy;refine zh ?_;refine zxd (k+1,w2) (⟨a0,hE.trans a3,fun i hi=>(Lc.1 hi).elim (a1 i) (fun e=>by rw[e];exact hy)⟩)
 intro a2;replace a2:l.length<=k:=dF a2;refine zh ?_;refine ah rfl rfl (⟨by rw[cC (q:=fun j=>q (nth l j)) fun i hi=>a1 i zo],hE⟩)
def gF(q:Nat->Bool)(l:List Nat):List Nat:=l.filter fun x=>!q x
theorem iS{q:Nat->Bool}{l:List Nat}{j:Nat}(h:j<l.length):gF q (l.take (j+1))=gF q (l.take j)++if q (nth l j)=true then []else [nth l j]:=by
 unfold gF;rw[aM h,K9,Kz]
 cases q (nth l j)<;>rfl
theorem oX{F:LU}(hF:∀(args:Array ix) (w:ka),(callFunc F args).run JF w=.ok (.enter F args) w)(cs:Array ix)(B:Nat)(O:Nat->Nat)(w:ka)(i:Nat)(sv:ix)(l:List Nat)(q:Nat->Bool)(hi:i≠0)(hR:Kk B O w)(hr:JI aO 3 1 O w i sv l)(hq:I2 F cs i B O w l q):
  KN JF 144 [sv,.func (.func F) #[] cs] w fun v w'=>JI aO 3 1 O w' i v (gF q l)/\Jl (fun k=>k=i) O w O w':=by
 have hl:=hr.sl.len_le;have hz:¬(fun k=>k=i) 0:=fun e=>hi e.symm
 refine J4 func144 ntmps144 rfl rfl ?_;refine zh ?_
 refine zc call146 (oR hF cs B O w i sv l q hi hR hr hq) ?_;rintro _ w1 ⟨rfl,d1⟩;have d0:Jl (fun k=>k=i) O w O w1:=aa hz O d1;have c5:JI aO 3 1 O w1 i sv l:=hr.upd (aa (S:=fun _=>False) (fun h=>h) O d1) hi fun h=>h
 refine zh ?_
 by_cases a':jc (fun j=>q (nth l j)) l.length=true
 ·obtain⟨j0,b1,b5,a9⟩:∃j0,j0<l.length/\q (nth l j0)=true/\∀j,j<j0->q (nth l j)=false:=by
   have hf:=(firstN_any (q:=fun j=>q (nth l j)) (n:=l.length)).trans a'
   cases c9:(Ju l.length).find? (fun j=>q (nth l j))with
   |none=>rw[dC,c9]at hf;exact absurd hf zd
   |some k=>
    obtain⟨a1,a2,a3⟩:=List.find?_range_eq_some.1 c9;exact⟨k,JH.1 a2,a1,fun j hj=>by simpa using a3 j hj⟩
  have b7:dC (fun j=>q (nth l j)) l.length=(j0:Int):=cD b1 b5 a9;rw[b7];have c8:∀j,j<=j0->gF q (l.take j)=l.take j:=fun j=>by
   induction j with
   |zero=>intro _;rfl
   |succ j ih=>
    intro hj;rw[iS zo,ih zo,a9 j zo,aM zo];rfl
  refine zFH rfl ((by rw[beq_eq_false_iff_ne];omega)) ?_;refine zlp (fun z:Nat×Nat×ka×List Nat=>[(0,sv),(1,.func (.func F) #[] cs),(5,nI z.1),(6,nI z.2.1)]) (fun z=>z.2.2.1) (fun z=>z.2.1<=l.length/\z.1<z.2.1/\z.1=(gF q (l.take z.2.1)).length/\z.2.2.2.length=l.length/\z.2.2.2.take z.1=gF q (l.take z.2.1)/\(∀j,z.2.1<=j->j<l.length->nth z.2.2.2 j=nth l j)/\JI aO 3 1 O z.2.2.1 i sv z.2.2.2/\Jl (fun k=>k=i) O w O z.2.2.1) (fun z=>l.length-z.2.1) (j0,j0+1,w1,l) (⟨b1,Nat.lt_succ_self _,by dsimp only;rw[iS b1,b5,if_pos rfl,Jw,c8 j0 (J7 _)];simp;omega,rfl,by dsimp only;rw[iS b1,b5,if_pos rfl,Jw,c8 j0 (J7 _)],fun _ _ _=>rfl,c5,d0⟩) ?_
  rintro⟨a,j,w2,l2⟩ ⟨hj,d6,ha,b6,a7,a0,b0,b3⟩;dsimp only at hj d6 ha b6 a7 a0 b0 b3 ⊢;have b':=b0.sl;refine zh ?_;refine zC ?_ ?_
  ·intro a4;replace a4:j<l.length:=dT a4;have d3:=a0 j (J7 _) a4;have m1:w2.cell? (adr sv 1 j)=some (nI ((nth l j:Nat):Int)):=by have:=b'.cell (i:=j) (j:=0) zo rfl;rw[ax,d3]at this;exact this
   have a6:=iS (q:=q) a4;refine zh ?_;refine du rfl hF rfl (hq _ (aI a4) O w2 b3) rfl ?_;rintro v w3 ⟨rfl,d8⟩;have c':Jl (fun _=>False) O w2 O w3:=aa (fun h=>h) O d8;have a5:=b0.upd c' hi fun h=>h
   have b2:=b3.trans (c'.mono (fun _ h=>h.elim) hz);refine zh ?_
   cases c6:q (nth l j)with
   |true=>
    rw[c6,if_pos rfl,Jw]at a6;refine zFH rfl rfl ?_;refine zxd (a,j+1,w3,l2) (⟨a4,by dsimp only;omega,by dsimp only;rw[a6];exact ha,b6,by dsimp only;rw[a6];exact a7,fun x h1 h2=>a0 x (by dsimp only at h1;omega) h2,a5,b2⟩)
   |false=>
    rw[c6,if_neg zd]at a6;have b9:=a5.sl;refine zTH rfl rfl ?_;refine Kq a5 a zo (nth l j) (Jm _) rfl hi rfl rfl rfl rfl ?_;intro w4 d2 d7;refine zh ?_;refine zxd (a+1,j+1,w4,l2.set a (nth l j)) (⟨a4,by dsimp only;omega,by dsimp only;rw[a6,Jn,<-ha];rfl,by dsimp only;rw[Jj];exact b6,?_,fun x h1 h2=>?_,d2,b2.trans d7⟩)
    ·dsimp only;have d5:a<(l2.set a (nth l j)).length:=by rw[Jj];omega
     rw[a6,List.take_succ_eq_append_getElem d5,List.getElem_set_self,List.take_set_of_le (J7 _),a7]
    dsimp only at h1 ⊢;rw[aQ zo,if_neg zo];exact a0 x zo h2
  intro d4;obtain rfl:j=l.length:=dF d4;rw[Jh]at ha a7;refine zh ?_;refine zv (qm b' ln (Jm _) rfl rfl a rfl zo) ?_;refine tZ b0 a zo (0:Nat) hi ln (JS) rfl rfl rfl rfl ?_;intro w3 l3 a5 b4 d9 b2;have b8:=a5.short (n:=a) zo;rw[b4,a7]at b8;have b9:=a5.sl;refine zh ?_;refine zvH (yV b9 ln (Jm _) rfl rfl a rfl zo) ?_;refine ah rfl rfl (⟨b8,b3.trans b2⟩)
 have c7:=cF.1 (by simpa using a');have b7:dC (fun j=>q (nth l j)) l.length = -1:=cC c7;rw[b7];have a8:gF q l=l:=List.filter_eq_self.2 fun x hx=>by
  obtain⟨j,hj,rfl⟩:=cG hx;rw[c7 j hj];rfl
 rw[a8];refine zTH rfl rfl ?_;refine ah rfl rfl (⟨c5,d0⟩)
theorem G1:Mw JF 206 dX:=BW Ka KC zk zk
theorem Ih:ck JF 205 #[(0,2),(2,1),(3,1),(4,1),(5,1),(6,1)]:=⟨_,underlying205,fun w=>by kernel_rfl⟩
theorem pL(B:Nat)(O:Nat->Nat)(w:ka)(sb tr:Nat)(td:List ((Int×Int)×Bool))(hR:Kk B O w)(hc:Cell0 O w (nA sb 5) (.map (some tr))\/(O (nA sb 5).block=1/\w.cell? (nA sb 5)=some (.map (some tr))))(hm:JU dX Jy O w 4 tr td):
  KN JF 115 [nP sb] w fun v w'=>
   (td=[]/\v=.tuple #[dX (0,0),.bool false]/\Jl (fun q=>q=4) O w O w'/\JU dX Jy O w' 4 tr td)\/
   ∃b4 k x b3,td=b4++(k,x)::b3/\v=.tuple #[dX k,.bool true]/\Jl (fun q=>q=4) O w O w'/\JU dX Jy O w' 4 tr (pc td k):=by
 obtain⟨T0,d',c'⟩:=hR.bound;obtain⟨T,e3⟩:∃T,T=T0+10:=⟨_,rfl⟩
 have hT:∀b,O b<T:=fun b=>by have:=c' b;omega
 have d4:=hm.tag;have a2:w.cell? (nA sb 5)=some (.map (some tr)):=by
  rcases hc with h|h
  ·exact h.c
  exact h.2
 have d5:O (nA sb 5).block=0\/O (nA sb 5).block=1:=by
  rcases hc with h|h
  ·exact .inl h.z
  exact .inr h.1
 have a3:∀ {S:Nat->Prop} {O':Nat->Nat} {W:ka},Jl S O w O' W->¬S 1->W.cell? (nA sb 5)=some (.map (some tr)):=fun {S O' W} u hS=>by
  refine ij (u.blk _ (Lb w _ a2) ?_) a2
  rcases d5 with h|h
  ·rw[h];exact u.z
  rw[h];exact hS
 refine J4 func115 ntmps115 rfl rfl ?_;refine zh ?_
 refine aw hR T zo (K5 _) rfl ?_;intro cb w1 O1 a1 c9 e2 e6;have d9:=hm.upd c9 zd zo;have c1:=a3 c9 zo;refine zh ?_
 refine oj d9 KF e2 (T+1) zo zd rfl rfl ?_;intro q w2 O2 d3 d0 b0 e1;have a5:Jl (fun k=>T<=k) O w O2 w2:=(c9.mono (fun _ h=>zo) zo).trans (b0.mono (fun _ h=>zo) zo);have c2:=a3 a5 zo;refine zh ?_
 refine zlp (fun x:Unit=>[(0,nP sb),(2,nP cb),(9,nP q)]) (fun x=>w2) (fun x=>True) (fun x=>0) () (trivial) ?_;rintro⟨⟩ -;refine zh ?_
 refine qk d3 zo zo rfl rfl ?_ ?_
 ·intro h0;refine zh ?_;refine zFH rfl rfl ?_;refine zv (eM Ka (Jm _) (K5 _) rfl rfl) ?_;refine zsa (us:=#[nI 0,nI 0]) (a1.upd b0 zo zo) (K6 _) ?_;have a8:=a1.upd b0 zo zo;have b8:=a8.setRow (us:=#[nI 0,nI 0]);have a9:Jl (fun k=>T<=k) O2 w2 O2 (w2.setRow cb #[nI 0,nI 0]):=Jv zo a8.tag (J7 _);have b9:=a5.trans a9;refine zh ?_;refine bp rfl rfl rfl (b8.cellsAdd) (Le _) (K6 _) (.inl ⟨h0,rfl,b9.fgt (fun b h=>by have:=hT b;omega) zd,(d0.upd a9 zd zo).fgt hm.tag⟩)
 intro b4 k x b3 w3 d2 b5 a';obtain⟨k1,k2⟩:=k;refine zh ?_;refine zTH rfl rfl ?_;refine zvH (Ms b5 rfl) ?_;have c8:Jl (fun k=>T<=k) O w O2 w3:=a5.trans (a'.mono (fun _ h=>zo) zo);have e0:=e1.upd a';have d8:=d0.upd a' zo zo;refine aw e0 (T+2) zo (K5 _) rfl ?_;intro eb w4 O4 a0 b2 e4 e5;have d7:=d8.upd b2 zo zo;refine zsa (us:=#[nI k1,nI k2]) a0 (K6 _) ?_;have a6:=a0.setRow (us:=#[nI k1,nI k2]);have d1:Jl (fun k=>T<=k) O4 w4 O4 (w4.setRow eb #[nI k1,nI k2]):=Jv zo a0.tag zo;have b6:=d7.upd d1 zd zo;have a7:=(((a1.upd b0 zo zo).upd a' zo zo).upd b2 zo zo)
 have c6:Jl (fun k=>T+1<=k) O2 w3 O4 (w4.setRow eb #[nI k1,nI k2]):=(b2.mono (fun _ h=>zo) zo).trans (Jv zo a0.tag zo);have a7:=((a1.upd b0 zo zo).upd a' zo zo).upd c6 zo zo;have b1:=(c8.trans (b2.mono (fun _ h=>zo) zo)).trans d1;generalize w4.setRow eb #[nI k1,nI k2]=w5 at *;have c5:=a3 b1 zo;refine zh ?_;refine LL 5 rfl rfl zk zk ?_;refine zh ?_;refine zw (af (us:=[nI k1,nI k2]) a6.drew.cellsAdd (Le _) (K6 _) rfl) ?_;refine Ma ?_;have hm5d:JU dX Jy O4 w5.drew 4 tr td:=⟨b6.blk,b6.tag,b6.born⟩
 refine WL.delete hm5d KF G1 zd (k1,k2) rfl rfl rfl ?_;intro w6 d6 b';have b7:=a6.drew.upd b' zo zo;have a4:=a7.drew.upd b' zo zo;have c7:Jl (fun k=>k=4\/T<=k) O w O4 w6:=(b1.drew.mono (fun _ h=>.inr h) zo).trans (b'.mono (fun _ h=>.inl h) zo);refine zh ?_
 refine zv (af (us:=[nI k1,nI k2]) b7.cellsAdd (Le _) (K6 _) rfl) ?_;refine zsa (us:=#[nI k1,nI k2]) a4 (K6 _) ?_
 have b8:=a4.setRow (us:=#[nI k1,nI k2]);have a9:Jl (fun k=>k=T) O4 w6 O4 (w6.setRow cb #[nI k1,nI k2]):=Jv zo a4.tag rfl;have b9:=c7.trans (a9.mono (fun _ h=>.inr zo) zo);refine zh ?_;refine bp rfl rfl rfl (b8.cellsAdd) (Le _) (K6 _) (.inr ⟨b4,(k1,k2),x,b3,d2,rfl,b9.priv hT zd,(d6.upd a9 zd zo).fgt hm.tag⟩)
end Go.Proofs.YtjemhjcngaokpaaGreatDoor
section
namespace Go.Proofs.YtjemhjcngaokpaaGreatDoor
open Go.VL Go.Proofs
set_option maxRecDepth 10000
abbrev KVR:=Int×ix×List Nat
abbrev ti(e:KVR):Int×ix:=(e.1,e.2.1)
theorem vw(E:List KVR)(k:Int)(v:ix)(l:List Nat):(cE E k (v,l)).map ti=cE (E.map ti) k v:=by
 induction E with
 |nil=>rfl
 |cons e r ih=>
  simp only[cE,JB,ti]
  by_cases h:e.1=k
  ·rw[if_pos h,if_pos h];rfl
  rw[if_neg h,if_neg h,JB,ih]
theorem C7(E:List KVR)(k:Int):bm (E.map ti) k=(bm E k).map (·.1):=by
 induction E with
 |nil=>rfl
 |cons e r ih=>
  simp only[bm,JB,ti]
  by_cases h:e.1=k
  ·rw[if_pos h,if_pos h];rfl
  rw[if_neg h,if_neg h];exact ih
structure MpR(base i:Nat)(O:Nat->Nat)(w:ka)(r:Nat)(E:List KVR):Prop where
 map:JU (fun k:Int=>nI k) (fun v:ix=>v) O w i r (E.map ti)
 row:∀k,k<E.length->JI aO 3 1 O w (base+k) (nth E k).2.1 (nth E k).2.2
theorem MpR.upd{base i:Nat}{S:Nat->Prop}{O O':Nat->Nat}{w w':ka}{r:Nat}{E:List KVR}(h:MpR base i O w r E)(u:Jl S O w O' w')(hi:i≠0)(hb:0<base)(hS:¬S i)(a0:∀k,¬S (base+k)):MpR base i O' w' r E:=
 ⟨h.map.upd u hi hS,fun k hk=>(h.row k hk).upd u zo (a0 k)⟩
def lj(E:List KVR)(k:Int):Nat:=(iU E k).getD E.length
def dp(E:List KVR)(k:Int):List Nat:=((bm E k).map (·.2)).getD []
def BY(E:List KVR)(k:Int):ix:=((bm E k).map (·.1)).getD (nS)
theorem MpR.at{base i:Nat}{O:Nat->Nat}{w:ka}{r:Nat}{E:List KVR}(h:MpR base i O w r E)(k:Int):JI aO 3 1 O w (base+lj E k) (BY E k) (dp E k):=by
 unfold lj BY dp;rw[kU]
 cases ha:iU E k with
 |none=>exact JC _ _ _ _ _ _
 |some j=>
  obtain⟨x,hx⟩:=iq ha;obtain⟨hj,a0⟩:=Ku.1 hx;have h1:=h.row j hj;rw[aB hj,a0]at h1;simp only[Lw,hx,Ly,Lv];exact h1
theorem MpR.put{base i:Nat}{O O' O2:Nat->Nat}{w w' w2:ka}{r:Nat}{E:List KVR}(h:MpR base i O w r E)(k:Int){v:ix}{l:List Nat}(_:i≠0)(hb:i<base)(u:Jl (fun q=>q=base+lj E k) O w O' w')(hr:JI aO 3 1 O' w' (base+lj E k) v l) 
  (hm:JU (fun k:Int=>nI k) (fun v:ix=>v) O2 w2 i r (cE (E.map ti) k v)) (u2:Jl (fun q=>q=i) O' w' O2 w2):MpR base i O2 w2 r (cE E k (v,l)):=by
 refine⟨by rw[vw];exact hm,fun n hn=>?_⟩;have a0:=hr.upd u2 zo zo;have old:∀n,n<E.length->n≠lj E k->JI aO 3 1 O2 w2 (base+n) (nth E n).2.1 (nth E n).2.2:=fun n hn a1=>((h.row n hn).upd u zo zo).upd u2 zo zo
 rw[eu]at hn ⊢
 cases ha:iU E k with
 |none=>
  rw[ha]at hn;dsimp only at hn ⊢;have hs:lj E k=E.length:=by unfold lj;rw[ha];rfl
  rw[hs]at a0 old;rw[Jn,J8]at hn
  by_cases he:n=E.length
  ·subst he;rw[aA,if_neg zo,Ko,show nth [((k,v,l):KVR)] 0=(k,v,l)from by rw[aB (Nat.zero_lt_one)];rfl];exact a0
  rw[aA,if_pos zo];exact old n zo he
 |some j=>
  rw[ha]at hn;dsimp only at hn ⊢;have hs:lj E k=j:=by unfold lj;rw[ha];rfl
  rw[hs]at a0 old;rw[Jj]at hn;obtain⟨x,hx⟩:=iq ha;obtain⟨hj,_⟩:=Ku.1 hx;rw[aQ hj]
  by_cases he:n=j
  ·rw[if_pos he];subst he;exact a0
  rw[if_neg he];exact old n hn he
theorem dO(E:List KVR)(k k':Int)(v:ix)(l:List Nat):dp (cE E k (v,l)) k'=if k=k' then l else dp E k':=by
 unfold dp;rw[aP]
 split<;>rfl
theorem kQ(E:List KVR)(k:Int)(x:ix×List Nat):(cE E k x).map (·.1)=if k∈E.map (·.1)then E.map (·.1)else E.map (·.1)++[k]:=by
 induction E with
 |nil=>rfl
 |cons e r ih=>
  simp only[cE]
  by_cases h:e.1=k
  ·rw[if_pos h,if_pos (by simp[h])];simp[h]
  rw[if_neg h,JB,ih];have h':¬k=e.1:=fun e=>h e.symm
  by_cases hm:k∈r.map (·.1)
  ·rw[if_pos hm,if_pos (by rw[JB];exact Jz _ hm)];rfl
  rw[if_neg hm,if_neg (by rw[JB,Ji];exact fun h=>h.elim h' hm)];rfl
theorem yQ{E:List KVR}(h:(E.map (·.1)).Nodup)(k:Int)(x:ix×List Nat):((cE E k x).map (·.1)).Nodup:=by
 rw[kQ]
 split
 ·exact h
 rename_i hk;refine KS.2 ⟨h,by simp,fun a ha b hb e=>?_⟩;rw[J3]at hb;subst hb;subst e;exact hk ha
end Go.Proofs.YtjemhjcngaokpaaGreatDoor
namespace Go.VL
open Go.Proofs
theorem iw{P:KO}{N:Nat}{ops:Array Lp}{S:ka->Prop}{Q:M4->MB->ka->Prop}{a1:Nat}{a0:Array Bool}{st:St}{w:ka} 
  {T E:Ki} {o:Op} {sz a2:Nat} {α:Type} {enc:α->List ix} {y:Lz} {t t':Ki} {p p':String} {e e':Array Mz} {d d':Nat} {v xv:ix}
  (i j:Nat) (he:LQ P T E sz a2) (u:α) (hi:ops[i]? = some ⟨some d,o,t,p,e,none⟩) (hj:ops[j]? = some ⟨some d',.buildSlice T 1 #[(0,y)],t',p',e',none⟩)
  (hr:JJ .any ops a0=[i,j]) (a':JJ .any ops (a0.setIfInBounds i true)=[j]) (a9:JJ .any ops (a0.setIfInBounds j true)=[i])
  (a4:(a0.setIfInBounds j true).setIfInBounds i true=(a0.setIfInBounds i true).setIfInBounds j true)
  (hv:∀w',Kw w w'->RV P N o t st w' v) (hS:∀w',Kw w w'->S w')
  (hy:ev st y=some xv) (a5:xv.cells.toList=enc u) (a6:(enc u).length=sz) (hs:sz<=16777216) (hd:KU d N=true) (a7:KU d' N=true) (b0:Kx d d'=false) (hf:(cA st d').isNone=true) (a8:ev ((d,v)::st) y=some xv)
  (h:∀sv w',Sl enc sz w' sv [u]->Kw w w'->WH P N ops S Q a1 ((a0.setIfInBounds i true).setIfInBounds j true) ((d',sv)::(d,v)::st) w'):WH P N ops S Q (a1+2) a0 st w:=by
 refine bL i j hr hi hj ?_ ?_
 ·refine mr (hv w (Jk w)) hd (J6 (ae (hS w (Jk w)) (J9 j a' hj ?_)));refine da he u a8 a5 a6 hs a7 fun sv w' a3 hE=>J6 (ae (hS w' hE) (h sv w' a3 hE))
 refine da he u hy a5 a6 hs a7 fun sv w' a3 hE=>J6 (ae (hS w' hE) (J9 i a9 hi ?_))
 refine mr (fun a ha=>hv w' hE a (ha.fresh hf)) hd (J6 (ae (hS w' hE) ?_));rw[a4];exact fun a ha=>h sv w' a3 hE a (ha.swap b0)
end Go.VL
end
namespace Go.Proofs.YtjemhjcngaokpaaGreatDoor
structure LeadsI(bl xs:List Nat)(E:List KVR):Prop where
 nd:(E.map (·.1)).Nodup
 row:∀k,dp E k=xs.filter fun i=>decide (((nth bl i:Nat):Int)=k)
 key:∀k,k∈E.map (·.1)↔∃i∈xs,((nth bl i:Nat):Int)=k
theorem LeadsI.nil(bl:List Nat):LeadsI bl [] []:=⟨L8,fun _=>rfl,fun k=>by simp⟩
theorem LeadsI.push{bl xs:List Nat}{E:List KVR}(h:LeadsI bl xs E)(i:Nat)(v:ix):LeadsI bl (xs++[i]) (cE E ((nth bl i:Nat):Int) (v,dp E ((nth bl i:Nat):Int)++[i])):=by
 refine⟨yQ h.nd _ _,fun k=>?_,fun k=>?_⟩
 ·rw[dO,K9,h.row,h.row]
  by_cases hk:((nth bl i:Nat):Int)=k
  ·rw[if_pos hk,hk,List.filter_cons_of_pos (by simpa using hk)];rfl
  rw[if_neg hk,List.filter_cons_of_neg (by simpa using hk)];simp
 rw[kQ]
 constructor
 ·intro hm
  split at hm
  ·obtain⟨x,hx,e⟩:=(h.key k).1 hm;exact⟨x,K0 _ hx,e⟩
  rcases Js.1 hm with hm|hm
  ·obtain⟨x,hx,e⟩:=(h.key k).1 hm;exact⟨x,K0 _ hx,e⟩
  exact⟨i,by simp,(J3.1 hm).symm⟩
 rintro⟨x,hx,e⟩
 rcases Js.1 hx with hx|hx
 ·have:=(h.key k).2 ⟨x,hx,e⟩
  split
  ·exact this
  exact K0 _ this
 obtain rfl:=J3.1 hx;subst e
 split
 ·assumption
 exact JV _ (J3.2 rfl)
def dK(n:Nat)(nx:Nat->Nat)(to:Nat):List Nat:=(Ju n).filter fun x=>decide (nx x=to)
theorem gT{n:Nat}{nx:Nat->Nat}{to x:Nat}:x∈dK n nx to↔x<n/\nx x=to:=by
 simp[dK,JH]
theorem CT(n:Nat)(nx:Nat->Nat)(to:Nat):(dK n nx to).Nodup:=KY.sublist Kj
theorem gS{n:Nat}{nx:Nat->Nat}{l:List Nat}{x:Nat}:x∈l.flatMap (dK n nx)↔x<n/\nx x∈l:=by
 rw[List.mem_flatMap]
 constructor
 ·rintro⟨a,ha,hx⟩;obtain⟨h1,rfl⟩:=gT.1 hx;exact⟨h1,ha⟩
 rintro⟨h1,h2⟩;exact⟨_,h2,gT.2 ⟨h1,rfl⟩⟩
theorem qZ{n:Nat}{nx:Nat->Nat}:∀ {l:List Nat},l.Nodup->(l.flatMap (dK n nx)).Nodup
 |[],_=>L8
 |a::r,h=>by
  obtain⟨h1,h2⟩:=L1.1 h;rw[JO];refine KS.2 ⟨CT n nx a,qZ h2,fun x hx y hy e=>?_⟩;subst e;have a1:=(gT.1 hx).2;have a0:=(gS.1 hy).2;rw[a1]at a0;exact h1 a0
theorem LeadsI.mem{n b:Nat}{nx:Nat->Nat}{bl st:List Nat}{E:List KVR}(h:LeadsI bl (st.flatMap (dK n nx)) E)(a1:∀x,x<n->nx x<n)(a0:∀x,x∈st↔x<n/\nth bl x=b)(k x:Nat):x∈dp E (k:Int)↔x<n/\nth bl x=k/\nth bl (nx x)=b:=by
 rw[h.row,K7,gS,a0,decide_eq_true_eq]
 constructor
 ·rintro⟨⟨h1,_,h2⟩,h3⟩;exact⟨h1,zo,h2⟩
 rintro⟨h1,h2,h3⟩;exact⟨⟨h1,a1 x h1,h3⟩,zo⟩
theorem LeadsI.rnd{n:Nat}{nx:Nat->Nat}{bl st:List Nat}{E:List KVR}(h:LeadsI bl (st.flatMap (dK n nx)) E)(a0:st.Nodup)(k:Int):(dp E k).Nodup:=by
 rw[h.row];exact(qZ a0).sublist Kj
theorem LeadsI.ne{bl xs:List Nat}{E:List KVR}(h:LeadsI bl xs E){k:Int}(hk:k∈E.map (·.1)):dp E k≠[]:=fun e=>by
 obtain⟨i,hi,hb⟩:=(h.key k).1 hk;have:i∈dp E k:=by rw[h.row];exact K7.2 ⟨hi,decide_eq_true hb⟩
 rw[e]at this;exact absurd this (by simp)
structure FromO(O:Nat->Nat)(w:ka)(i:Nat)(fv:ix)(n:Nat)(nx:Nat->Nat->Nat):Prop where
 ex:∃(ms:List ix) (vss:List (List ix)),JI yZ 70 1 O w i fv ms/\ms.length=37/\∀m,m<37->JI yZ 22 1 O w i (nth ms m) (nth vss m)/\(nth vss m).length=n/\
  ∀t,t<n->JI aO 3 1 O w i (nth (nth vss m) t) (dK n (fun x=>nx x m) t)
theorem FromO.upd{S:Nat->Prop}{O O':Nat->Nat}{w w':ka}{i:Nat}{fv:ix}{n:Nat}{nx:Nat->Nat->Nat}(h:FromO O w i fv n nx)(u:Jl S O w O' w')(hi:i≠0)(hS:¬S i):FromO O' w' i fv n nx:=by
 obtain⟨ms,a0,h1,h2,h3⟩:=h.ex;exact⟨ms,a0,h1.upd u hi hS,h2,fun m hm=>⟨(h3 m hm).1.upd u hi hS,(h3 m hm).2.1,fun t ht=>((h3 m hm).2.2 t ht).upd u hi hS⟩⟩
structure SpO(O:Nat->Nat)(w:ka)(sb:Nat)(nv tv fv bv:ix)(sr tr n:Nat)(nx:Nat->Nat->Nat)(bl:List Nat)(E:List KVR)(td:List ((Int×Int)×Bool))(many:Nat):Prop where
 blk:Kg O w 1 sb #[nv,tv,fv,bv,.map (some sr),.map (some tr),nI (many:Nat)] 205
 row:JI aO 3 1 O w 2 bv bl
 st:MpR 10 3 O w sr E
 todo:JU dX Jy O w 4 tr td
 frm:FromO O w 5 fv n nx
theorem SpO.upd{S:Nat->Prop}{O O':Nat->Nat}{w w':ka}{sb:Nat}{nv tv fv bv:ix}{sr tr n:Nat}{nx:Nat->Nat->Nat}{bl:List Nat}{E:List KVR}{td:List ((Int×Int)×Bool)}{many:Nat}(h:SpO O w sb nv tv fv bv sr tr n nx bl E td many) 
  (u:Jl S O w O' w') (hS:∀k,0<k->k<10+E.length->¬S k):SpO O' w' sb nv tv fv bv sr tr n nx bl E td many:=
 ⟨h.blk.upd u zd (hS 1 zo zo),h.row.upd u zd (hS 2 zo zo),⟨h.st.map.upd u zd (hS 3 zo zo),fun k hk=>(h.st.row k hk).upd u zo (hS _ zo zo)⟩,h.todo.upd u zd (hS 4 zo zo),h.frm.upd u zd (hS 5 zo zo)⟩
theorem lT(E:List KVR)(k:Int):FJ (fun v:ix=>v) (nS) (bm (E.map ti) k)=BY E k:=by
 unfold BY;rw[C7]
 cases bm E k<;>rfl
theorem uX(B:Nat)(O:Nat->Nat)(w:ka)(sb:Nat)(nv tv fv bv:ix)(sr tr n:Nat)(nx:Nat->Nat->Nat)(bl:List Nat)(E:List KVR)(td:List ((Int×Int)×Bool))(many b m:Nat)(hR:Kk B O w)(hS:SpO O w sb nv tv fv bv sr tr n nx bl E td many) 
  (hE:E.length<=1000) (hm:m<37) (d4:∀x∈dp E (b:Nat),x<n) (hn:n<=1000) (g0:bl.length=n) (d5:(dp E (b:Nat)).Nodup) (_:∀q,O q<2000) :
  KN JF 116 [nP sb,nI (b:Nat),nI (m:Nat)] w fun v w'=>
   ∃r O' G,v=.map (some r)/\Jl (fun q=>2000<=q) O w O' w'/\Kk B O' w'/\MpR 3000 2000 O' w' r G/\LeadsI bl ((dp E (b:Nat)).flatMap (dK n fun x=>nx x m)) G:=by
 obtain⟨ms,b2,e5,f6,a8⟩:=hS.frm.ex;refine J4 func116 ntmps116 rfl rfl ?_;refine zh ?_;refine aS (fun k:Int=>nI k) (fun v:ix=>v) hR 2000 zd rfl ?_;intro r w1 O1 e0 c8 e9;have b6:=hS.upd c8 zo;have c3:w1.cell? (nA sb 4)=some (.map (some sr)):=b6.blk.cell 4 rfl;have d7:=b6.st.at (b:Int);have d6:=hS.st.at (b:Int);refine zh ?_;refine zv (JW b6.st.map Jq pQ (K4 _) (b:Int) rfl rfl rfl (lT E _)) ?_;refine zvH (bh d7.sl.sh ln rfl) ?_;refine zlp (fun z:Nat×(Nat->Nat)×World×List KVR=>[(0,nP sb),(2,nI (m:Nat)),(7,.map (some r)),(18,BY E (b:Nat)),(19,nI (dp E (b:Nat)).length),(20,nI z.1)]) (fun z=>z.2.2.1) (fun z=>z.1<=(dp E (b:Nat)).length/\Jl (fun q=>2000<=q) O w z.2.1 z.2.2.1/\Kk B z.2.1 z.2.2.1/\MpR 3000 2000 z.2.1 z.2.2.1 r z.2.2.2/\LeadsI bl (((dp E (b:Nat)).take z.1).flatMap (dK n fun x=>nx x m)) z.2.2.2) (fun z=>(dp E (b:Nat)).length-z.1) (0,O1,w1,[]) (⟨J0 _,c8.mono (fun _ h=>zo) zd,e9,⟨e0,fun k hk=>absurd hk (J2 k)⟩,LeadsI.nil _⟩) ?_;rintro⟨q,O2,w2,G⟩ ⟨hq,a3,b8,hG,hL⟩;dsimp only at hq a3 b8 hG hL ⊢;have c':=hS.upd a3 zo;have c6:=(c'.st.at (b:Int)).sl;have f8:=c6.len_le;refine zh ?_;refine zC ?_ ?_
 ·intro a2;replace a2:q<(dp E (b:Nat)).length:=dT a2;have m1:w2.cell? (adr (BY E (b:Nat)) 1 q)=some (nI ((nth (dp E (b:Nat)) q:Nat):Int)):=by have:=c6.cell (i:=q) (j:=0) a2 rfl;rwa[ax]at this
  obtain⟨to,a7⟩:∃to,to=nth (dp E (b:Nat)) q:=⟨_,rfl⟩
  have c5:to<n:=by rw[a7];exact d4 _ (aI a2)
  rw[<-a7]at m1;have e7:=(e5.upd a3 zd zo).sl;have e6:=((a8 m hm).1.upd a3 zd zo).sl;have f':=(((a8 m hm).2.2 to c5).upd a3 zd zo).sl;have f5:=(a8 m hm).2.1;have c1:w2.cell? (nA sb 2)=some fv:=c'.blk.cell 2 rfl;have m2:w2.cell? (adr fv 1 m)=some (nth ms m):=by have:=e7.cell (i:=m) (j:=0) zo rfl;rwa[ax]at this
  have m3:w2.cell? (adr (nth ms m) 1 to)=some (nth (nth b2 m) to):=by have:=e6.cell (i:=to) (j:=0) zo rfl;rwa[ax]at this
  refine zh ?_;refine zlp (fun y:Nat×(Nat->Nat)×World×List KVR=>[(0,nP sb),(2,nI (m:Nat)),(7,.map (some r)),(18,BY E (b:Nat)),(19,nI (dp E (b:Nat)).length),(20,nI q),(33,nth (nth b2 m) to),(34,nI (dK n (fun x=>nx x m) to).length),(35,nI y.1)]) (fun y=>y.2.2.1) (fun y=>y.1<=(dK n (fun x=>nx x m) to).length/\Jl (fun q=>2000<=q) O w y.2.1 y.2.2.1/\Kk B y.2.1 y.2.2.1/\MpR 3000 2000 y.2.1 y.2.2.1 r y.2.2.2/\LeadsI bl (((dp E (b:Nat)).take q).flatMap (dK n fun x=>nx x m)++(dK n (fun x=>nx x m) to).take y.1) y.2.2.2) (fun y=>(dK n (fun x=>nx x m) to).length-y.1) (0,O2,w2,G) (⟨J0 _,a3,b8,hG,by dsimp only;rw[L7,Jw];exact hL⟩) ?_
  rintro⟨j,O3,w3,G3⟩ ⟨hj,a5,b7,b',a6⟩;dsimp only at hj a5 b7 b' a6 ⊢;have b5:=hS.upd a5 zo;have c7:=(((a8 m hm).2.2 to c5).upd a5 zd zo).sl;have f7:=c7.len_le;refine zh ?_;refine zC ?_ ?_
  ·intro a4;replace a4:j<(dK n (fun x=>nx x m) to).length:=dT a4;obtain⟨i,hi⟩:∃i,i=nth (dK n (fun x=>nx x m) to) j:=⟨_,rfl⟩
   have f9:i<n:=by rw[hi];exact(gT.1 (aI a4)).1
   have k1:w3.cell? (adr (nth (nth b2 m) to) 1 j)=some (nI (i:Int)):=by have:=c7.cell (i:=j) (j:=0) a4 rfl;rw[ax]at this;rw[hi];exact this
   refine zh ?_;have a0:=b5.row.sl;have d1:w3.drew.cell? (nA sb 3)=some bv:=b5.blk.cell 3 rfl;have d2:w3.drew.cell? (adr bv 1 i)=some (nI ((nth bl i:Nat):Int)):=by have:=a0.cell (i:=i) (j:=0) zo rfl;rwa[ax]at this
   have a':Jl (fun _=>False) O3 w3 O3 w3.drew:=aa (fun h=>h) O3 (Jk w3).drew;have d3:=b'.upd a' zd zd (fun h=>h) (fun _ h=>h);refine aG (fun W=>W.cell? (nA sb 3)=some bv/\W.cell? (adr bv 1 i)=some (nI ((nth bl i:Nat):Int))) 21 rfl zk ?_;refine zin ⟨d1,d2⟩ fun zS=>?_
   refine zrm 0 rfl zS rfl ?_;refine zrm 1 rfl zS rfl ?_
   refine zr 2 rfl zS (fun _=>ao rfl) ?_;refine zrf 3 rfl zS rfl ?_
   refine zt 4 rfl zS (fun w1 a1=>RV.ld a1.1 rfl) ?_;refine zrm 5 rfl zS rfl ?_
   refine zr 6 rfl zS (fun _=>ai a0.sh ln (Jm _) rfl rfl i rfl zo) ?_;refine zt 7 rfl zS (fun w1 a1=>RV.ld a1.2 rfl) ?_
   refine zrm 8 rfl zS rfl ?_;refine zrm 9 rfl zS rfl ?_
   refine zr 10 rfl zS (fun _=>ao rfl) ?_;refine zrf 11 rfl zS rfl ?_
   refine zt 12 rfl zS (fun w1 a1=>RV.ld a1.1 rfl) ?_;refine zrm 13 rfl zS rfl ?_
   refine zr 14 rfl zS (fun _=>ai a0.sh ln (Jm _) rfl rfl i rfl zo) ?_;refine zt 15 rfl zS (fun w1 a1=>RV.ld a1.2 rfl) ?_
   refine zrm 17 rfl zS rfl ?_;refine iw 16 18 kL (enc:=aO) i rfl rfl zk zk zk zk (fun W hE=>JW (d3.upd (aa (S:=fun _=>False) (fun h=>h) O3 hE) zd zd (fun h=>h) (fun _ h=>h)).map Jq pQ (K4 _) ((nth bl i:Nat):Int) rfl rfl rfl (lT G3 _)) (fun W hE=>⟨hE.cell d1,hE.cell d2⟩) rfl rfl rfl zd rfl rfl rfl rfl rfl ?_
   intro f4 w4 b3 f3;have a9:Jl (fun _=>False) O3 w3.drew O3 w4:=aa (fun h=>h) O3 f3;have b9:=d3.upd a9 zd zd (fun h=>h) (fun _ h=>h);have g1:(dp G3 ((nth bl i:Nat):Int)).length<=n:=by
    have d9:(((dp E (b:Nat)).take q).flatMap (dK n fun x=>nx x m)++(dK n (fun x=>nx x m) to)).Nodup:=by
     have:=qZ (n:=n) (nx:=fun x=>nx x m) (d5.sublist (LA (q+1) _))
     rwa[aM a2,JQ,<-a7,JO,LF,Jw]at this
    rw[a6.row];refine eW ((d9.sublist (M7 (LA j _) _)).sublist Kj) fun x hx=>?_
    rcases Js.1 (K7.1 hx).1 with h1|h1
    ·exact(gS.1 h1).1
    exact(gT.1 (Ll h1)).1
   refine J9 19 zk rfl ?_;refine aC kL (b9.at ((nth bl i:Nat):Int)) ((b7.upd a').upd a9) b3 (by simp) rfl rfl (by simp) (by simp[J1]) (by rw[J8];omega) (by rw[J8];omega) zo rfl ?_
   intro v5 w5 O5 d8 b1 e8;have b4:=((b5.upd a' (fun _ _ _ h=>h)).upd a9 (fun _ _ _ h=>h)).upd b1 zo;have e2:w5.cell? (adr bv 1 i)=some (nI ((nth bl i:Nat):Int)):=by have:=b4.row.sl.cell (i:=i) (j:=0) zo rfl;rwa[ax]at this
   refine zh ?_;refine ae (⟨b4.blk.cell 3 rfl,e2⟩) ?_
   refine J9 20 zk rfl ?_;refine JK (b9.map.upd b1 zd zo) Jq pQ zd ((nth bl i:Nat):Int) v5 rfl rfl rfl rfl rfl ?_
   intro w6 d' b0;have c9:=b4.upd b0 zo;have e3:w6.cell? (adr bv 1 i)=some (nI ((nth bl i:Nat):Int)):=by have:=c9.row.sl.cell (i:=i) (j:=0) zo rfl;rwa[ax]at this
   have e':=b9.put ((nth bl i:Nat):Int) zd zd b1 d8 d' b0;have d0:=a6.push i v5;rw[JY,hi,<-aM a4,<-hi]at d0;refine zh ?_;refine ae (⟨c9.blk.cell 3 rfl,e3⟩) ?_;refine JZ zk ?_;refine zh ?_;refine zxd (j+1,O5,w6,cE G3 ((nth bl i:Nat):Int) (v5,dp G3 ((nth bl i:Nat):Int)++[i])) (⟨a4,(((a5.trans (a'.mono (fun _ h=>h.elim) zd)).trans (a9.mono (fun _ h=>h.elim) zd)).trans (b1.mono (fun _ h=>zo) zd)).trans (b0.mono (fun _ h=>zo) zd),e8.upd b0,e',d0⟩)
  intro e1;obtain rfl:j=(dK n (fun x=>nx x m) to).length:=dF e1;rw[Jh]at a6;refine zh ?_;refine zxd (q+1,O3,w3,G3) (⟨a2,a5,b7,b',by dsimp only;rw[aM a2,JQ,<-a7,JO,LF,Jw];exact a6⟩)
 intro e4;obtain rfl:q=(dp E (b:Nat)).length:=dF e4;rw[Jh]at hL;refine zh ?_;refine ah rfl rfl (⟨r,O2,G,rfl,a3,b8,hG,hL⟩)
theorem C2(c k:Nat):((c:Int)==(k:Int))=(c==k):=by
 by_cases h:c=k
 ·subst h;simp
 rw[beq_eq_false_iff_ne.2 h,beq_eq_false_iff_ne.2 zo]
theorem sZ(w:ka)(xb yb sb i c k len:Nat)(bv:ix)(a0:Shape bv len)(hi:i<len)(c1:w.cell? ⟨xb,0,none⟩=some (nP sb))(c2:w.cell? (nA sb 3)=some bv)(c3:w.cell? (adr bv 1 i)=some (nI (c:Nat)))(c4:w.cell? ⟨yb,0,none⟩=some (nI (k:Nat))):
  KN JF 145 [nI (i:Nat),nP xb,nP yb] w fun v w'=>v=.bool (c==k)/\Kw w w':=by
 refine J4 func145 ntmps145 rfl rfl ?_;refine zh ?_
 refine LX zk zk ?_;refine zh ?_
 refine zwH (ai a0 ln (Jm _) rfl rfl i rfl zo) ?_;refine Mf ?_
 refine zh ?_;refine ah rfl rfl (⟨by rw[C2 c k],(Jk w).drew⟩)
def tdL(td:List ((Int×Int)×Bool))(b many:Nat)(lt:Bool):Nat->List ((Int×Int)×Bool)
 |0=>td
 |m+1=>cE (tdL td b many lt m) (((if(bm (tdL td b many lt m) ((b:Int),(m:Int))).getD false=true then(many:Int)else if lt=true then(b:Int)else(many:Int)),(m:Int))) true
theorem BD(td:List ((Int×Int)×Bool))(k:Int×Int):FJ Jy (.bool false) (bm td k)=.bool ((bm td k).getD false):=by
 cases bm td k<;>rfl
def cH(bl:List Nat)(k:Nat)(L:List Nat):List Nat:=L.foldl (fun bl x=>bl.set x k) bl
theorem iK(k:Nat):∀(L bl:List Nat),(cH bl k L).length=bl.length
 |[],_=>rfl
 |x::L,bl=>by rw[cH,LP];exact(iK k L (bl.set x k)).trans Jj
theorem uG{bl:List Nat}{k:Nat}{L:List Nat}{j:Nat}(h:j<L.length):cH bl k (L.take (j+1))=(cH bl k (L.take j)).set (nth L j) k:=by
 unfold cH;rw[aM h,Kv];rfl
theorem lE(k:Nat):∀(L bl:List Nat) (x:Nat),x<bl.length->nth (cH bl k L) x=if x∈L then k else nth bl x
 |[],_,_,_=>by simp[cH]
 |y::L,bl,x,hx=>by
  rw[cH,LP];have:=lE k L (bl.set y k) x (by rw[Jj];exact hx);rw[cH]at this;rw[this]
  by_cases h1:x∈L
  ·rw[if_pos h1,if_pos (Jz _ h1)]
  rw[if_neg h1]
  by_cases h2:x=y
  ·subst h2;rw[if_pos (K8 ..),aQ hx,if_pos rfl]
  rw[if_neg (fun h=>(Ji.1 h).elim h2 h1)]
  by_cases hy:y<bl.length
  ·rw[aQ hy,if_neg h2]
  rw[List.set_eq_of_length_le zo]
def tdP(td:List ((Int×Int)×Bool))(b m:Nat):Prop:=bm td ((b:Int),(m:Int))=some true
theorem qD{a b c d:Int}(h:b≠d):¬((a,b)=(c,d)):=fun e=>h (KR e).2
theorem zq(td:List ((Int×Int)×Bool))(b many:Nat)(lt:Bool)(c j:Nat):∀m,m<=j->bm (tdL td b many lt m) ((c:Int),(j:Int))=bm td ((c:Int),(j:Int))
 |0,_=>rfl
 |m+1,h=>by
  unfold tdL;rw[aP,if_neg (qD zo)];exact zq td b many lt c j m zo
theorem Ce{td:List ((Int×Int)×Bool)}{c j:Nat}(q:Int×Int)(h:tdP td c j):tdP (cE td q true) c j:=by
 unfold tdP;rw[aP]
 split
 ·rfl
 exact h
theorem vR{td:List ((Int×Int)×Bool)}{b many:Nat}{lt:Bool}{c j:Nat}(h:tdP td c j):∀m,tdP (tdL td b many lt m) c j
 |0=>h
 |m+1=>Ce _ (vR h m)
theorem vQ{td:List ((Int×Int)×Bool)}{b many:Nat}{lt:Bool}{j:Nat}(h:tdP td b j):∀m,j<m->tdP (tdL td b many lt m) many j
 |0,hj=>absurd hj (J2 j)
 |m+1,hj=>by
  unfold tdP tdL;rw[aP]
  by_cases e:j=m
  ·subst e;rw[zq td b many lt b j j (J7 _),show bm td ((b:Int),(j:Int))=some true from h];simp
  rw[if_neg (qD zo)];exact vQ h m zo
theorem Di{td:List ((Int×Int)×Bool)}{b many:Nat}{lt:Bool}{j:Nat}:∀m,j<m->tdP (tdL td b many lt m) many j\/tdP (tdL td b many lt m) b j
 |0,hj=>absurd hj (J2 j)
 |m+1,hj=>by
  by_cases e:j=m
  ·subst e;unfold tdP;rw[show tdL td b many lt (j+1)=cE (tdL td b many lt j) (((if(bm (tdL td b many lt j) ((b:Int),(j:Int))).getD false=true then(many:Int)else if lt=true then(b:Int)else(many:Int)),(j:Int))) true from rfl];rw[aP,aP]
   split
   ·exact .inl (if_pos rfl)
   split
   ·exact .inr (if_pos rfl)
   exact .inl (if_pos rfl)
  have:=Di (td:=td) (b:=b) (many:=many) (lt:=lt) (j:=j) m zo;unfold tdP at this ⊢;rw[show tdL td b many lt (m+1)=cE (tdL td b many lt m) (((if(bm (tdL td b many lt m) ((b:Int),(m:Int))).getD false=true then(many:Int)else if lt=true then(b:Int)else(many:Int)),(m:Int))) true from rfl];rw[aP,aP,if_neg (qD zo),if_neg (qD zo)];exact this
section
variable{κ ν:Type}[DecidableEq κ]
theorem rG(k:κ)(x:ν):∀(l:List (κ×ν)),(cE l k x).length<=l.length+1
 |[]=>J7 _
 |(a,y)::r=>by
  unfold cE
  split
  ·simp
  simp only[JR];exact Nat.succ_le_succ (rG k x r)
theorem rF(k:κ)(x:ν):∀(l:List (κ×ν)) (e:κ×ν),e∈cE l k x->e∈l\/e=(k,x)
 |[],e,h=>.inr (J3.1 h)
 |(a,y)::r,e,h=>by
  unfold cE at h
  split at h
  ·rcases Ji.1 h with h|h
   ·exact .inr h
   exact .inl (Jz _ h)
  rcases Ji.1 h with h|h
  ·exact .inl (by rw[h];exact K8 ..)
  rcases rF k x r e h with h|h
  ·exact .inl (Jz _ h)
  exact .inr h
theorem xG(k:κ):∀(l:List (κ×ν)) (e:κ×ν),e∈pc l k->e∈l
 |[],e,h=>h
 |(a,y)::r,e,h=>by
  unfold pc at h
  split at h
  ·exact Jz _ h
  rcases Ji.1 h with h|h
  ·rw[h];exact K8 ..
  exact Jz _ (xG k r e h)
theorem xH(k:κ)(x:ν):∀(l:List (κ×ν)),(k,x)∈l->(pc l k).length+1=l.length
 |(a,y)::r,h=>by
  unfold pc
  split
  ·rfl
  rename_i hn
  rcases Ji.1 h with h|h
  ·exact absurd (KR h).1.symm hn
  simp only[JR];rw[xH k x r h]
theorem qi{k k':κ}(hne:k'≠k):∀(l:List (κ×ν)),bm (pc l k) k'=bm l k'
 |[]=>rfl
 |(a,y)::r=>by
  unfold pc
  split
  ·rename_i e;subst e;rw[show bm ((a,y)::r) k'=if a=k' then some y else bm r k' from rfl,if_neg (fun e=>hne e.symm)]
  rw[show bm ((a,y)::r) k'=if a=k' then some y else bm r k' from rfl,show bm ((a,y)::pc r k) k'=if a=k' then some y else bm (pc r k) k' from rfl,qi hne r]
end
theorem zu(td:List ((Int×Int)×Bool))(b many:Nat)(lt:Bool):∀m,(tdL td b many lt m).length<=td.length+m
 |0=>J7 _
 |m+1=>by
  have:=rG (((if(bm (tdL td b many lt m) ((b:Int),(m:Int))).getD false=true then(many:Int)else if lt=true then(b:Int)else(many:Int)),(m:Int))) true (tdL td b many lt m);have h2:=zu td b many lt m;unfold tdL;omega
def tdR(td:List ((Int×Int)×Bool))(many:Nat):Prop:=∀e∈td,∃c j:Nat,c<many/\j<37/\e.1=((c:Int),(j:Int))
theorem zp{td:List ((Int×Int)×Bool)}{b many:Nat}{lt:Bool}(h:tdR td many)(hb:b<many):∀m,m<=37->tdR (tdL td b many lt m) (many+1)
 |0,_=>fun e he=>by
  obtain⟨c,j,h1,h2,h3⟩:=h e he;exact⟨c,j,zo,h2,h3⟩
 |m+1,hm=>fun e he=>by
  unfold tdL at he
  rcases rF _ _ _ _ he with he|he
  ·exact zp h hb m zo e he
  rw[he]
  split
  ·exact⟨many,m,zo,zo,rfl⟩
  split
  ·exact⟨b,m,zo,zo,rfl⟩
  exact⟨many,m,zo,zo,rfl⟩
theorem tdR.del{td:List ((Int×Int)×Bool)}{many:Nat}(h:tdR td many)(k:Int×Int):tdR (pc td k) many:=fun e he=>h e (xG k td e he)
def KeysE(E:List KVR)(many:Nat):Prop:=E.map (·.1)=(Ju many).map fun(k:Nat)=>(k:Int)
theorem KeysE.len{E:List KVR}{many:Nat}(h:KeysE E many):E.length=many:=by
 have:=congrArg M0 h;simpa using this
theorem KeysE.mem{E:List KVR}{many:Nat}(h:KeysE E many){k:Nat}:(k:Int)∈E.map (·.1)↔k<many:=by
 rw[h,KE]
 constructor
 ·rintro⟨a,ha,e⟩;have:=JH.1 ha;omega
 intro hk;exact⟨k,JH.2 hk,rfl⟩
theorem KeysE.idx{E:List KVR}{many:Nat}(h:KeysE E many){k:Nat}(hk:k<many):iU E (k:Int)=some k:=by
 rw[<-ec,h];refine JA.2 ⟨by simpa using hk,by simp,fun j hj=>?_⟩;simp;omega
theorem KeysE.idxN{E:List KVR}{many:Nat}(h:KeysE E many){k:Nat}(hk:many<=k):iU E (k:Int)=none:=by
 rw[<-ec,h];refine K1.2 fun x hx=>?_
 obtain⟨a,ha,rfl⟩:=KE.1 hx;have:=JH.1 ha;simp;omega
theorem KeysE.slot{E:List KVR}{many:Nat}(h:KeysE E many){k:Nat}(hk:k<many):lj E (k:Int)=k:=by
 unfold lj;rw[h.idx hk];rfl
theorem KeysE.add{E:List KVR}{many:Nat}(h:KeysE E many)(x:ix×List Nat):cE E (many:Int) x=E++[((many:Int),x)]:=by
 rw[eu,h.idxN (J7 _)]
theorem KeysE.put{E:List KVR}{many:Nat}(h:KeysE E many){k:Nat}(hk:k<many)(x:ix×List Nat):cE E (k:Int) x=E.set k ((k:Int),x):=by
 rw[eu,h.idx hk]
theorem KeysE.more{E:List KVR}{many:Nat}(h:KeysE E many)(x:ix×List Nat):KeysE (cE E (many:Int) x) (many+1):=by
 unfold KeysE;rw[kQ,if_neg (fun hm=>by have:=h.mem.1 hm;omega),h,KI,JN];rfl
theorem KeysE.same{E:List KVR}{many:Nat}(h:KeysE E many){k:Nat}(hk:k<many)(x:ix×List Nat):KeysE (cE E (k:Int) x) many:=by
 unfold KeysE;rw[kQ,if_pos (h.mem.2 hk)];exact h
theorem vS(E:List KVR)(k:Int):lj E k<=E.length:=by
 unfold lj
 cases h:iU E k with
 |none=>exact J7 _
 |some j=>
  obtain⟨x,hx⟩:=iq h;exact Nat.le_of_lt (Ku.1 hx).1
theorem GI{n many b:Nat}{bl:List Nat}{E:List KVR}{L:List Nat}{ov v':ix}(hb:b<many)(a0:bl.length=n)(a1:∀x,x∈dp E (b:Int)↔x<n/\nth bl x=b):
  Cut n bl (cH bl many L) (fun k=>dp E (k:Int)) (fun k=>dp (cE (cE E (many:Int) (ov,L)) (b:Int) (v',gF (fun x=>nth (cH bl many L) x==many) (dp E (b:Int)))) (k:Int)) many b L:=by
 have a2:=iK many L bl;refine⟨by rw[a2,a0],fun x hx=>lE many L bl x zo,?_,?_,fun c h1 h2=>?_⟩
 ·rw[dO,if_neg zo,dO,if_pos rfl]
 ·rw[dO,if_pos rfl];unfold gF;refine LB fun x hx=>?_
  obtain⟨h1,h2⟩:=(a1 x).1 hx;show(!(nth (cH bl many L) x==many)) = !(L.contains x);rw[lE many L bl x zo]
  by_cases hL:x∈L
  ·rw[if_pos hL];simp[hL]
  rw[if_neg hL,h2];simp[hL];omega
 rw[dO,if_neg zo,dO,if_neg zo]
end Go.Proofs.YtjemhjcngaokpaaGreatDoor
section
namespace Go.VL
open Go.Proofs
def reF(f:Nat->Nat)(O:Nat->Nat):Nat->Nat:=fun b=>f (O b)
theorem Upd.re{S:Nat->Prop}{O O':Nat->Nat}{w w':ka}(h:Jl S O w O' w')(f:Nat->Nat)(f0:f 0=0)(hf:∀b,O b≠0->f (O b)=O b):Jl S O w (reF f O') w':=
 ⟨h.os,h.tape,h.output,h.size,h.blk,fun b hb=>by unfold reF;rw[h.tag b hb];exact hf b hb,fun b hb=>h.new b fun e=>hb (by unfold reF;rw[e];exact f0),h.z⟩
theorem Rng.re{B:Nat}{O:Nat->Nat}{w:ka}(h:Kk B O w)(f:Nat->Nat)(f0:f 0=0):Kk B (reF f O) w:=⟨h.le,fun b hb=>h.rng b fun e=>hb (by unfold reF;rw[e];exact f0)⟩
theorem RowT.re{α:Type}{enc:α->List ix}{E:Ki}{sz:Nat}{O:Nat->Nat}{w:ka}{i:Nat}{v:ix}{l:List α}(h:JI enc E sz O w i v l)(f:Nat->Nat){j:Nat}(hj:f i=j):JI enc E sz (reF f O) w j v l:=
 ⟨⟨h.1.row,fun g hg=>by unfold reF;rw[h.1.tag g hg];exact hj⟩,h.2⟩
theorem BlkO.re{O:Nat->Nat}{w:ka}{i b:Nat}{cs:Array ix}{E:Ki}(h:Kg O w i b cs E)(f:Nat->Nat){j:Nat}(hj:f i=j):Kg (reF f O) w j b cs E:=⟨h.blk,by unfold reF;rw[h.tag];exact hj⟩
theorem MapO.re{κ ν:Type}{kv:κ->ix}{vv:ν->ix}{O:Nat->Nat}{w:ka}{i r:Nat}{l:List (κ×ν)}(h:JU kv vv O w i r l)(f:Nat->Nat){j:Nat}(hj:f i=j):JU kv vv (reF f O) w j r l:=⟨h.blk,by unfold reF;rw[h.tag];exact hj,h.born⟩
theorem RangeO.re{κ ν:Type}{kv:κ->ix}{vv:ν->ix}{O:Nat->Nat}{w:ka}{i j r q:Nat}{a0:List (κ×ν)}{a1:Option (κ×ν)}(h:Mv kv vv O w i j r q a0 a1)(f:Nat->Nat){i' j':Nat}(hi:f i=i')(hj:f j=j'):Mv kv vv (reF f O) w i' j' r q a0 a1:=
 ⟨h.ex,by unfold reF;rw[h.tag];exact hi,by unfold reF;rw[h.tagq];exact hj⟩
theorem MapO.lowT{κ ν:Type}{kv:κ->ix}{vv:ν->ix}{O:Nat->Nat}{w:ka}{i r:Nat}{l:List (κ×ν)}(h:JU kv vv O w i r l){T:Nat}(hi:i<T):JU kv vv (KQ O T) w i r l:=⟨h.blk,by unfold KQ;rw[h.tag,if_neg zo],h.born⟩
def Fe(a b:Nat):Nat->Nat:=fun t=>if t=a then b else t
theorem Al(a b:Nat):Fe a b a=b:=if_pos rfl
theorem qI{a b t:Nat}(h:t≠a):Fe a b t=t:=if_neg h
end Go.VL
namespace Go.Proofs.YtjemhjcngaokpaaGreatDoor
open Go.VL Go.Proofs
set_option maxRecDepth 10000
theorem FromO.re{O:Nat->Nat}{w:ka}{i:Nat}{fv:ix}{n:Nat}{nx:Nat->Nat->Nat}(h:FromO O w i fv n nx)(f:Nat->Nat){j:Nat}(hj:f i=j):FromO (reF f O) w j fv n nx:=by
 obtain⟨ms,a0,h1,h2,h3⟩:=h.ex;exact⟨ms,a0,h1.re f hj,h2,fun m hm=>⟨(h3 m hm).1.re f hj,(h3 m hm).2.1,fun t ht=>((h3 m hm).2.2 t ht).re f hj⟩⟩
theorem SpO.cut{S:Nat->Prop}{O O':Nat->Nat}{w w':ka}{sb:Nat}{nv tv fv bv:ix}{sr tr n:Nat}{nx:Nat->Nat->Nat}{bl a4:List Nat}{E:List KVR}{td a0:List ((Int×Int)×Bool)}{many b tg:Nat}{ov v':ix}{L L':List Nat} 
  (h:SpO O w sb nv tv fv bv sr tr n nx bl E td many) (hk:KeysE E many) (hb:b<many) (a7:10+many<=tg) (a5:JI aO 3 1 O w tg ov L)
  (u:Jl S O w O' w') (hS:∀q,S q->1<=q/\q<=4\/q=10+b)
  (h1:Kg O' w' 1 sb #[nv,tv,fv,bv,.map (some sr),.map (some tr),nI ((many+1:Nat):Int)] 205) (h2:JI aO 3 1 O' w' 2 bv a4)
  (h3:JU (fun k:Int=>nI k) (fun v:ix=>v) O' w' 3 sr (cE (cE (E.map ti) (many:Nat) ov) (b:Nat) v')) (h4:JI aO 3 1 O' w' (10+b) v' L') (h5:JU dX Jy O' w' 4 tr a0) :
  SpO (reF (Fe tg (10+many)) O') w' sb nv tv fv bv sr tr n nx a4 (cE (cE E (many:Int) (ov,L)) (b:Int) (v',L')) a0 (many+1):=by
 have n1:∀ {t:Nat},t<10+many->Fe tg (10+many) t=t:=fun h=>qI zo
 have a6:=hk.len;have a2:=hk.more (ov,L);have a1:=a2.len;refine⟨h1.re _ (n1 zo),h2.re _ (n1 zo),⟨?_,fun k a3=>?_⟩,h5.re _ (n1 zo),(h.frm.upd u zd (fun hs=>by rcases hS _ hs with h|h<;>omega)).re _ (n1 zo)⟩
 ·rw[vw,vw];exact h3.re _ (n1 zo)
 rw[a2.put zo]at a3 ⊢;rw[Jj]at a3;rw[aQ zo]
 by_cases e1:k=b
 ·rw[if_pos e1];subst e1;exact h4.re _ (n1 zo)
 rw[if_neg e1,hk.add,aA]
 by_cases e2:k<E.length
 ·rw[if_pos e2];exact((h.st.row k e2).upd u zo (fun hs=>by rcases hS _ hs with h|h<;>omega)).re _ (n1 zo)
 rw[if_neg e2,show k-E.length=0 from by omega,ay];obtain rfl:k=many:=zo;exact(a5.upd u zo (fun hs=>by rcases hS _ hs with h|h<;>omega)).re _ (Al _ _)
end Go.Proofs.YtjemhjcngaokpaaGreatDoor
end
namespace Go.Proofs.YtjemhjcngaokpaaGreatDoor
theorem uV(B:Nat)(O:Nat → Nat)(w:ka)(sb:Nat)(nv tv fv bv:ix)(sr tr n:Nat)(nx:Nat → Nat → Nat)(bl:List Nat)(E:List KVR)(td:List ((Int×Int)×Bool))(many b tg:Nat)(ov:ix)(L:List Nat)(hR:Kk B O w)(hS:SpO O w sb nv tv fv bv sr tr n nx bl E td many)
  (hov:JI aO 3 1 O w tg ov L) (hk:KeysE E many) (htg:10 + many ≤ tg) (hL:∀x ∈ L, x < bl.length) (hmany:many ≤ 1000) (hbm:b < many) (hbs:∀x ∈ dp E (b:Nat), x < bl.length) :
  KN JF 117 [nP sb, nI (b:Nat), ov] w fun _ w' =>
   ∃v' O', Jl (fun q => 1 ≤ q ∧ q ≤ 4 ∨ q = 10 + b) O w O' w' ∧ Kk B O' w' ∧ Kg O' w' 1 sb #[nv, tv, fv, bv, .map (some sr), .map (some tr), nI ((many + 1:Nat):Int)] 205 ∧
    JI aO 3 1 O' w' 2 bv (cH bl many L) ∧ JU (fun k:Int => nI k) (fun v:ix => v) O' w' 3 sr (cE (cE (E.map ti) (many:Nat) ov) (b:Nat) v') ∧
    JI aO 3 1 O' w' (10 + b) v' (gF (fun x => nth (cH bl many L) x == many) (dp E (b:Nat))) ∧ JU dX Jy O' w' 4 tr (tdL td b many (decide ((gF (fun x => nth (cH bl many L) x == many) (dp E (b:Nat))).length < L.length)) 37) := by
 have hElen := hk.len
 obtain⟨T0, hT00, hT0'⟩ := hR.bound
 obtain⟨T, hTd⟩:∃T, T = T0 + 10 + tg := ⟨_, rfl⟩
 have hT:∀b, O b < T := fun b => by have := hT0' b; omega
 have hSl := hk.slot hbm
 have hrb0 := hS.st.at (b:Int)
 rw[hSl]at hrb0
 refine J4 func117 ntmps117 rfl rfl ?_
 refine Jo ?_
 refine J5 ?_
 refine aE hR T (by omega) rfl rfl ?_
 intro xb w1 O1 hx1 hU1 hR1 hE1
 have hS1 := hS.upd hU1 (by omega)
 have x1:w1.cell? ⟨xb, 0, none⟩ = some (nP sb) := hx1.cell 0 rfl
 have c1:w1.cell? (nA sb 6) = some (nI (many:Nat)) := hS1.blk.cell 6 rfl
 refine J6 ?_
 refine aq ?_
 refine Jo ?_
 refine J5 ?_
 refine zv (RV.ld x1 rfl) ?_
 refine zv (ao rfl) ?_
 refine zv (RV.fa rfl) ?_
 refine zv (RV.ld c1 rfl) ?_
 refine aw hR1 (T + 1) (by omega) (JS _) rfl ?_
 intro yb w2 O2 hy2 hU2 hR2 hE2
 have x2:w2.cell? ⟨xb, 0, none⟩ = some (nP sb) := (hx1.upd hU2 (by omega) (by omega)).cell 0 rfl
 have hS2 := hS1.upd hU2 (by omega)
 refine aj (j := 0) hy2 rfl (Jm _) rfl rfl rfl rfl ?_
 have hU3:Jl (fun j => j = T + 1) O2 w2 O2 (w2.setCell ⟨yb, 0, none⟩ (nI (many:Nat))) := Kc (by omega) hy2.tag rfl
 have hy3:Kg O2 (w2.setCell ⟨yb, 0, none⟩ (nI (many:Nat))) (T + 1) yb #[nI (many:Nat)] 3 := hy2.set 0 _
 have hx3 := (hx1.upd hU2 (by omega) (by omega)).upd hU3 (by omega) (by omega)
 have hR3 := hR2.upd hU3
 have hS3 := hS2.upd hU3 (by omega)
 have hov3 := ((hov.upd hU1 (by omega) (by omega)).upd hU2 (by omega) (by omega)).upd hU3 (by omega) (by omega)
 have hU03:Jl (fun q => (1 ≤ q ∧ q ≤ 4 ∨ q = 10 + b) ∨ T ≤ q) O w O2 (w2.setCell ⟨yb, 0, none⟩ (nI (many:Nat))) := ((hU1.mono (fun _ h => .inr (by omega)) (by omega)).trans (hU2.mono (fun _ h => .inr (by omega)) (by omega))).trans (hU3.mono (fun _ h => .inr (by omega)) (by omega))
 generalize w2.setCell ⟨yb, 0, none⟩ (nI (many:Nat)) = w3 at *
 have x3:w3.cell? ⟨xb, 0, none⟩ = some (nP sb) := hx3.cell 0 rfl
 have c3:w3.cell? (nA sb 6) = some (nI (many:Nat)) := hS3.blk.cell 6 rfl
 refine J6 ?_
 refine aq ?_
 refine Jo ?_
 refine J5 ?_
 refine zv (RV.ld x3 rfl) ?_
 refine zv (ao rfl) ?_
 refine zv (RV.fa rfl) ?_
 refine zv (RV.ld c3 rfl) ?_
 refine zv (Lk rfl rfl (KV (by omega))) ?_
 refine zv (ao rfl) ?_
 refine zv (RV.fa rfl) ?_
 refine aj (j := 6) hS3.blk rfl (Jm _) rfl rfl rfl rfl ?_
 have hU4:Jl (fun j => j = 1) O2 w3 O2 (w3.setCell ⟨sb, 6, none⟩ (nI ((many:Int) + 1))) := Kc (by decide) hS3.blk.tag rfl
 have hb4:Kg O2 (w3.setCell ⟨sb, 6, none⟩ (nI ((many:Int) + 1))) 1 sb #[nv, tv, fv, bv, .map (some sr), .map (some tr), nI ((many:Int) + 1)] 205 := hS3.blk.set 6 _
 have hx4 := hx3.upd hU4 (by omega) (by omega)
 have hy4 := hy3.upd hU4 (by omega) (by omega)
 have hR4 := hR3.upd hU4
 have hrow4 := hS3.row.upd hU4 (by decide) (by omega)
 have hst4 := hS3.st.map.upd hU4 (by decide) (by omega)
 have htd4 := hS3.todo.upd hU4 (by decide) (by omega)
 have hov4 := hov3.upd hU4 (by omega) (by omega)
 have hrb4 := (((hrb0.upd hU1 (by omega) (by omega)).upd hU2 (by omega) (by omega)).upd hU3 (by omega) (by omega)).upd hU4 (by omega) (by omega)
 have hU04 := hU03.trans (hU4.mono (fun _ h => .inl (.inl (by omega))) (by omega))
 generalize w3.setCell ⟨sb, 6, none⟩ (nI ((many:Int) + 1)) = w4 at *
 have hLl := hov4.sl.len_le
 have hsh := hov4.sl
 refine J6 ?_
 refine aq ?_
 refine Jo ?_
 refine Jo ?_
 refine J5 ?_
 refine zv (Jp rfl) ?_
 refine zv (bh hsh.sh ln rfl) ?_
 refine zv (Jp rfl) ?_
 refine J6 ?_
 refine aq ?_
 refine KD ?_
 refine zlp (fun z:Nat×ka => [(1, nI (b:Nat)), (2, ov), (3, nP xb), (6, nP yb), (22, ov), (23, nI L.length), (24, nI z.1)]) (fun z => z.2) (fun z => z.1 ≤ L.length ∧ Jl (fun q => q = 2) O2 w4 O2 z.2 ∧ JI aO 3 1 O2 z.2 2 bv (cH bl many (L.take z.1))) (fun z => L.length - z.1) (0, w4) (⟨J0 _, Kf (by decide) _ _, hrow4⟩) ?_
 rintro⟨j, w5⟩ ⟨hj, hU5, hrow5⟩
 dsimp only at hj hU5 hrow5 ⊢
 have hov5 := hov4.upd hU5 (by omega) (by omega)
 have hx5 := hx4.upd hU5 (by omega) (by omega)
 have hy5 := hy4.upd hU5 (by omega) (by omega)
 have hb5 := hb4.upd hU5 (by omega) (by omega)
 have x5:w5.cell? ⟨xb, 0, none⟩ = some (nP sb) := hx5.cell 0 rfl
 have y5:w5.cell? ⟨yb, 0, none⟩ = some (nI (many:Nat)) := hy5.cell 0 rfl
 refine Jo ?_
 refine J5 ?_
 refine zv (LC rfl rfl) ?_
 refine J6 ?_
 refine aq ?_
 refine Jo ?_
 refine zC ?_ ?_
 ·intro hlt
  replace hlt:j < L.length := by have := of_decide_eq_true hlt; omega
  have hs5 := hov5.sl
  have m1:w5.cell? (adr ov 1 j) = some (nI ((nth L j:Nat):Int)) := by have := hs5.cell (i := j) (j := 0) hlt rfl; rwa[ax]at this
  have c5:w5.cell? (nA sb 3) = some bv := hb5.cell 3 rfl
  obtain⟨i, hi⟩:∃i, i = nth L j := ⟨_, rfl⟩
  have hil:i < (cH bl many (L.take j)).length := by rw[iK, hi]; exact hL _ (aI hlt)
  rw[← hi]at m1
  refine KJ ?_
  refine aq ?_
  refine Jo ?_
  refine KD ?_
  refine Jo ?_
  refine J5 ?_
  refine zv (KK (by first | exact hs5) ln (Jm _) rfl rfl _ rfl (by omega)) ?_
  refine zv (RV.ld m1 rfl) ?_
  refine zv (JX rfl) ?_
  refine J6 ?_
  refine aq ?_
  refine LL 7 rfl rfl (by kernel_rfl) (by kernel_rfl) ?_
  refine zw (RV.ld x5 rfl) ?_
  refine zw (ao rfl) ?_
  refine zw (RV.fa rfl) ?_
  refine zw (RV.ld c5 rfl) ?_
  refine zw (Jp rfl) ?_
  refine zw (RV.ld y5 rfl) ?_
  refine zw (ai hrow5.sl.sh ln (Jm _) rfl rfl i rfl hil) ?_
  refine Ma ?_
  refine Kq hrow5.drew i hil many (Jm _) rfl (by decide) rfl rfl rfl rfl ?_
  intro w6 hrow6 hU6
  refine J6 ?_
  refine bU ?_
  refine aq ?_
  refine J5 ?_
  refine zv (Lk rfl rfl (KV (by omega))) ?_
  refine zv (Jp rfl) ?_
  refine J6 ?_
  refine zxd (j + 1, w6) (⟨hlt, hU5.drew.trans hU6, by dsimp only; rw[uG hlt, ← hi]; exact hrow6⟩)
 ·intro hge
  obtain rfl:j = L.length := by have := of_decide_eq_false hge; omega
  rw[Jh]at hrow5
  have c5:w5.cell? (nA sb 4) = some (.map (some sr)) := hb5.cell 4 rfl
  have hst5 := hst4.upd hU5 (by decide) (by decide)
  refine LN ?_
  refine bT ?_
  refine bT ?_
  refine dN ?_
  refine aq ?_
  refine Jo ?_
  refine LL 6 rfl rfl (by kernel_rfl) (by kernel_rfl) ?_
  refine zw (RV.ld x5 rfl) ?_
  refine zw (ao rfl) ?_
  refine zw (RV.fa rfl) ?_
  refine zw (RV.ld c5 rfl) ?_
  refine zw (RV.ld y5 rfl) ?_
  refine zw (Jp rfl) ?_
  refine Ma ?_
  refine JK (O := O2) (i := 3) (⟨hst5.blk, hst5.tag, hst5.born⟩:JU (fun k:Int => nI k) (fun v:ix => v) O2 w5.drew 3 sr (E.map ti)) Jq pQ (by decide) (many:Int) ov rfl rfl rfl rfl rfl ?_
  intro w6 hst6 hU6'
  have hU6:Jl (fun q => q = 3) O2 w5 O2 w6 := hU6'.ofDrew
  have hU46:Jl (fun q => q = 2 ∨ q = 3) O2 w4 O2 w6 := (hU5.mono (fun _ h => .inl h) (by decide)).trans (hU6.mono (fun _ h => .inr h) (by decide))
  have hov6 := hov4.upd hU46 (by omega) (by omega)
  have hx6 := hx4.upd hU46 (by omega) (by omega)
  have hy6 := hy4.upd hU46 (by omega) (by omega)
  have hb6 := hb4.upd hU46 (by omega) (by omega)
  have hrow6 := hrow5.upd hU6 (by decide) (by decide)
  have hrb6 := hrb4.upd hU46 (by omega) (by omega)
  have htd6 := htd4.upd hU46 (by decide) (by decide)
  have hR6 := hR4.upd hU46
  have x6:w6.cell? ⟨xb, 0, none⟩ = some (nP sb) := hx6.cell 0 rfl
  have y6:w6.cell? ⟨yb, 0, none⟩ = some (nI (many:Nat)) := hy6.cell 0 rfl
  have c6:w6.cell? (nA sb 4) = some (.map (some sr)) := hb6.cell 4 rfl
  have hbl' := iK many L bl
  obtain⟨bl', hbe⟩:∃bl', bl' = cH bl many L := ⟨_, rfl⟩
  rw[← hbe]at hrow6 hbl' ⊢
  refine J6 ?_
  refine aq ?_
  refine Jo ?_
  refine aG (fun W => W.cell? ⟨xb, 0, none⟩ = some (nP sb) ∧ W.cell? (nA sb 4) = some (.map (some sr))) 14 rfl (by kernel_rfl) ?_
  refine zin ⟨x6, c6⟩ fun zS => ?_
  refine zt 0 rfl zS (fun w1 hw1 => RV.ld hw1.1 rfl) ?_
  refine zr 1 rfl zS (fun _ => ao rfl) ?_
  refine zrf 2 rfl zS rfl ?_
  refine zt 3 rfl zS (fun w1 hw1 => RV.ld hw1.2 rfl) ?_
  refine zrm 4 rfl zS rfl ?_
  refine zt 5 rfl zS (fun w1 hw1 => RV.ld hw1.1 rfl) ?_
  refine zr 6 rfl zS (fun _ => ao rfl) ?_
  refine zrf 7 rfl zS rfl ?_
  refine zt 8 rfl zS (fun w1 hw1 => RV.ld hw1.2 rfl) ?_
  refine zrm 9 rfl zS rfl ?_
  refine zr 11 rfl zS (fun _ => dw rfl rfl) ?_
  refine J9 10 (by kernel_rfl) rfl ?_
  refine zv (JW (O := O2) (i := 3) (⟨hst6.blk, hst6.tag, hst6.born⟩:JU (fun k:Int => nI k) (fun v:ix => v) O2 w6.drew 3 sr (cE (E.map ti) (many:Int) ov)) Jq pQ (K4 _) (b:Int) rfl rfl rfl ((congrArg (FJ (fun v:ix => v) (nS)) ((aP (E.map ti) (many:Int) (b:Int) ov).trans (if_neg (by omega)))).trans (lT E _))) ?_
  refine J6 ?_
  refine ae (⟨x6, c6⟩) ?_
  refine J9 12 (by kernel_rfl) rfl ?_
  refine zc call144 (oX call145 #[nP xb, nP yb] B O2 w6.drew (10 + b) (BY E (b:Nat)) (dp E (b:Nat)) (fun x => nth bl' x == many) (by omega) hR6.drew hrb6.drew (fun x hx O' W u => sZ W xb yb sb x (nth bl' x) many bl'.length bv hrow6.sl.sh (by rw[hbl']; exact hbs x hx) ((hx6.drew.upd u (by omega) (by omega)).cell 0 rfl) ((hb6.drew.upd u (by omega) (by omega)).cell 3 rfl) (by have := (hrow6.drew.upd u (by decide) (by omega)).sl.cell (i := x) (j := 0) (by rw[hbl']; exact hbs x hx) rfl; rwa[ax]at this) ((hy6.drew.upd u (by omega) (by omega)).cell 0 rfl))) ?_
  rintro v7 w7 ⟨hkeep7, hU7'⟩
  have hU7:Jl (fun q => q = 10 + b) O2 w6 O2 w7 := hU7'.ofDrew
  have hst7 := hst6.upd hU7 (by decide) (by omega)
  have x7:w7.cell? ⟨xb, 0, none⟩ = some (nP sb) := (hx6.upd hU7 (by omega) (by omega)).cell 0 rfl
  have c7:w7.cell? (nA sb 4) = some (.map (some sr)) := (hb6.upd hU7 (by omega) (by omega)).cell 4 rfl
  refine J6 ?_
  refine ae (⟨x7, c7⟩) ?_
  refine J9 13 (by kernel_rfl) rfl ?_
  refine JK hst7 Jq pQ (by decide) (b:Int) v7 rfl rfl rfl rfl rfl ?_
  intro w8 hst8 hU8
  have hU68:Jl (fun q => q = 10 + b ∨ q = 3) O2 w6 O2 w8 := (hU7.mono (fun _ h => .inl h) (by omega)).trans (hU8.mono (fun _ h => .inr h) (by omega))
  have hov8 := hov6.upd hU68 (by omega) (by omega)
  have hx8 := hx6.upd hU68 (by omega) (by omega)
  have hy8 := hy6.upd hU68 (by omega) (by omega)
  have hb8 := hb6.upd hU68 (by omega) (by omega)
  have hrow8 := hrow6.upd hU68 (by decide) (by omega)
  have htd8 := htd6.upd hU68 (by decide) (by omega)
  have hkeep8 := hkeep7.upd hU8 (by omega) (by omega)
  refine J6 ?_
  refine ae (⟨hx8.cell 0 rfl, hb8.cell 4 rfl⟩) ?_
  have hU08 := (hU04.trans (hU46.mono (S' := fun q => (1 ≤ q ∧ q ≤ 4 ∨ q = 10 + b) ∨ T ≤ q) (fun _ h => .inl (by omega)) (by omega))).trans (hU68.mono (fun _ h => .inl (by omega)) (by omega))
  obtain⟨lt, hlt⟩:∃lt, lt = decide ((gF (fun x => nth bl' x == many) (dp E (b:Nat))).length < L.length) := ⟨_, rfl⟩
  rw[← hlt]
  obtain⟨kp, hkp⟩:∃kp, kp = gF (fun x => nth bl' x == many) (dp E (b:Nat)) := ⟨_, rfl⟩
  rw[← hkp]at hkeep8 hlt ⊢
  refine JZ (by kernel_rfl) ?_
  refine aq ?_
  refine Jo ?_
  refine J5 ?_
  refine zv (Jp rfl) ?_
  refine J6 ?_
  refine aq ?_
  refine KD ?_
  refine zlp (fun z:Nat×ka => [(1, nI (b:Nat)), (2, ov), (3, nP xb), (6, nP yb), (55, nI z.1)]) (fun z => z.2) (fun z => z.1 ≤ 37 ∧ Jl (fun q => q = 4) O2 w8 O2 z.2 ∧ JU dX Jy O2 z.2 4 tr (tdL td b many lt z.1)) (fun z => 37 - z.1) (0, w8) (⟨J0 _, Kf (by decide) _ _, htd8⟩) ?_
  rintro⟨m, w9⟩ ⟨hm, hU9, htd9⟩
  dsimp only at hm hU9 htd9 ⊢
  have hov9 := (hov8.upd hU9 (by omega) (by omega)).sl
  have hx9 := hx8.upd hU9 (by omega) (by omega)
  have hy9 := hy8.upd hU9 (by omega) (by omega)
  have hb9 := hb8.upd hU9 (by omega) (by omega)
  have hst9 := hst8.upd hU9 (by decide) (by omega)
  have hkeep9 := (hkeep8.upd hU9 (by omega) (by omega)).sl
  refine Jo ?_
  refine J5 ?_
  refine zv (LC rfl rfl) ?_
  refine J6 ?_
  refine aq ?_
  refine Jo ?_
  refine zC ?_ ?_
  ·intro hlm
   replace hlm:m < 37 := by have := of_decide_eq_true hlm; omega
   have x9:w9.cell? ⟨xb, 0, none⟩ = some (nP sb) := hx9.cell 0 rfl
   have y9:w9.cell? ⟨yb, 0, none⟩ = some (nI (many:Nat)) := hy9.cell 0 rfl
   have c9:w9.cell? (nA sb 4) = some (.map (some sr)) := hb9.cell 4 rfl
   have d9:w9.cell? (nA sb 5) = some (.map (some tr)) := hb9.cell 5 rfl
   refine KJ ?_
   refine aq ?_
   refine Jo ?_
   refine KD ?_
   refine Jo ?_
   refine J5 ?_
   refine zv (Jp rfl) ?_
   refine zv (JX rfl) ?_
   refine J6 ?_
   refine aq ?_
   refine Jo ?_
   refine J5 ?_
   refine zv (RV.ld y9 rfl) ?_
   refine zv (JX rfl) ?_
   refine J6 ?_
   refine aq ?_
   refine Jo ?_
   refine Jo ?_
   refine J5 ?_
   refine zv (RV.ld x9 rfl) ?_
   refine zv (ao rfl) ?_
   refine zv (RV.fa rfl) ?_
   refine zv (RV.ld c9 rfl) ?_
   refine zv (Jp rfl) ?_
   refine zv (JW hst9 Jq pQ (K4 _) (b:Int) rfl rfl rfl (congrArg (FJ (fun v:ix => v) (nS)) ((aP _ (b:Int) (b:Int) v7).trans (if_pos rfl)))) ?_
   refine zv (bh hkeep9.sh ln rfl) ?_
   refine zv (Jp rfl) ?_
   refine zv (bh hov9.sh ln rfl) ?_
   refine zv (LC rfl rfl) ?_
   refine J6 ?_
   refine aq ?_
   refine iy (fun z:Int => [(1, nI (b:Nat)), (2, ov), (3, nP xb), (6, nP yb), (55, nI (m:Nat)), (9, nI (m:Nat)), (10, nI z)]) (fun z:Int => w9) (fun z:Int => z = if lt = true then(b:Int)else(many:Int)) ?_ ?_
   ·intro Qm hN
    refine zC ?_ ?_
    ·intro h1
     refine J5 ?_
     refine zv (Jp rfl) ?_
     refine zv (JX rfl) ?_
     refine J6 ?_
     exact iC (hN ((b:Int)) (by rw[if_pos (by rw[hlt]; have := of_decide_eq_true h1; exact decide_eq_true (by omega))])) ⟨rfl, rfl, rfl, rfl, rfl, rfl, rfl, trivial⟩ rfl
    ·intro h1
     refine KJ ?_
     exact iC (hN ((many:Int)) (by rw[if_neg (by rw[hlt]; have := of_decide_eq_false h1; simp; omega)])) ⟨rfl, rfl, rfl, rfl, rfl, rfl, rfl, trivial⟩ rfl
   rintro z hz
   refine aq ?_
   refine Jo ?_
   refine Jo ?_
   refine J5 ?_
   refine zv (RV.ld x9 rfl) ?_
   refine zv (ao rfl) ?_
   refine zv (RV.fa rfl) ?_
   refine zv (RV.ld d9 rfl) ?_
   refine zv (Jp rfl) ?_
   refine zv (Jp rfl) ?_
   refine zv (eM Ka (Jm _) (K5 _) rfl rfl) ?_
   refine zv (JW htd9 KF G1 (zeroValue4 _) ((b:Int), (m:Int)) rfl rfl rfl (BD _ _)) ?_
   refine J6 ?_
   refine aq ?_
   refine iy (fun y:Int => [(1, nI (b:Nat)), (2, ov), (3, nP xb), (6, nP yb), (55, nI (m:Nat)), (9, nI (m:Nat)), (10, nI y)]) (fun y:Int => w9) (fun y:Int => y = if(bm (tdL td b many lt m) ((b:Int), (m:Int))).getD false = true then(many:Int)else z) ?_ ?_
   ·intro Qm hN
    refine zC ?_ ?_
    ·intro h1
     refine J5 ?_
     refine zv (RV.ld y9 rfl) ?_
     refine zv (JX rfl) ?_
     refine J6 ?_
     exact iC (hN ((many:Int)) (by rw[if_pos h1])) ⟨rfl, rfl, rfl, rfl, rfl, rfl, rfl, trivial⟩ rfl
    ·intro h1
     refine KJ ?_
     exact iC (hN (z) (by rw[if_neg (by rw[h1]; decide)])) ⟨rfl, rfl, rfl, rfl, rfl, rfl, rfl, trivial⟩ rfl
   rintro y hy
   refine aq ?_
   refine J5 ?_
   refine zv (RV.ld x9 rfl) ?_
   refine zv (ao rfl) ?_
   refine zv (RV.fa rfl) ?_
   refine zv (RV.ld d9 rfl) ?_
   refine zv (Jp rfl) ?_
   refine zv (Jp rfl) ?_
   refine zv (eM Ka (Jm _) (K5 _) rfl rfl) ?_
   refine JK htd9 KF G1 (by decide) (y, (m:Int)) true rfl rfl rfl rfl rfl ?_
   intro w10 htd10 hU10
   refine J6 ?_
   refine bU ?_
   refine aq ?_
   refine J5 ?_
   refine zv (Lk rfl rfl (KV (by omega))) ?_
   refine zv (Jp rfl) ?_
   refine J6 ?_
   refine zxd (m + 1, w10) (⟨hlm, hU9.trans hU10, by dsimp only; unfold tdL; rw[← hz, ← hy]; exact htd10⟩)
  ·intro hgm
   obtain rfl:m = 37 := by have := of_decide_eq_false hgm; omega
   refine LN ?_
   refine bT ?_
   refine bT ?_
   refine dN ?_
   have hR9 := ((hR6.upd hU68).upd hU9).lowT T
   refine aH rfl (⟨v7, lowT O2 T, (hU08.trans (hU9.mono (fun _ h => .inl (by omega)) (by omega))).lowT hT (fun b h => by have := hT b; omega) (by omega), hR9, hb9.lowT (by omega), (hrow8.upd hU9 (by decide) (by decide)).lowT (by omega), hst9.lowT (by omega), (hkeep8.upd hU9 (by omega) (by omega)).lowT (by omega), htd9.lowT (by omega)⟩)
structure FI(tl:Nat->Nat)(n i:Nat)(D:List (Int×Int))(bl:List Nat)(E:List KVR)(many:Nat):Prop where
 blen:bl.length=n
 val:∀j,j<i->bm D ((tl j:Nat):Int)=some ((nth bl j:Nat):Int)
 inj:∀u u' b,bm D u=some b->bm D u'=some b->u=u'
 rng:∀u b,bm D u=some b->∃k:Nat,b=(k:Int)/\k<many
 keys:KeysE E many
 row:∀k:Nat,dp E (k:Int)=(Ju i).filter fun x=>nth bl x==k
 ne:∀k,k<many->dp E (k:Int)≠[]
 mi:many<=i
theorem Dc(tl:Nat->Nat)(n:Nat):FI tl n 0 [] (Jr n 0) [] 0:=
 ⟨by simp,fun j hj=>absurd hj (J2 j),fun u u' b h=>absurd h (by simp[bm]),fun u b h=>absurd h (by simp[bm]),rfl,fun k=>rfl,fun k hk=>absurd hk (J2 k),J7 _⟩
theorem FI.rowsN{tl:Nat->Nat}{n i:Nat}{D:List (Int×Int)}{bl:List Nat}{E:List KVR}{many:Nat}(h:FI tl n i D bl E many)(k:Nat):(dp E (k:Int)).length<=i:=by
 rw[h.row];exact KH (KL _ _) (by simp)
theorem pY{bl:List Nat}{i b k:Nat}(hi:i<bl.length):(Ju (i+1)).filter (fun x=>nth (bl.set i b) x==k)=(Ju i).filter (fun x=>nth bl x==k)++if b=k then [i]else []:=by
 rw[KI,K9];have h1:(Ju i).filter (fun x=>nth (bl.set i b) x==k)=(Ju i).filter (fun x=>nth bl x==k):=LB fun x hx=>by
  have:=JH.1 hx;rw[aQ hi,if_neg zo]
 rw[h1];congr 1;rw[Kz,aQ hi,if_pos rfl]
 by_cases e:b=k
 ·subst e;simp
 rw[if_neg e,if_neg (by simpa using e)];rfl
theorem FI.old{tl:Nat->Nat}{n i:Nat}{D:List (Int×Int)}{bl:List Nat}{E:List KVR}{many:Nat}(h:FI tl n i D bl E many)(hi:i<n){b:Int}(hb:bm D ((tl i:Nat):Int)=some b)(v:ix):
  ∃k:Nat,b=(k:Int)/\k<many/\FI tl n (i+1) D (bl.set i k) (cE E (k:Int) (v,dp E (k:Int)++[i])) many:=by
 obtain⟨k,rfl,hk⟩:=h.rng _ _ hb;have a0:=h.blen;refine⟨k,rfl,hk,by rw[Jj];exact a0,fun j hj=>?_,h.inj,h.rng,h.keys.same hk _,fun c=>?_,fun c hc=>?_,by have:=h.mi;omega⟩
 ·rw[aQ zo]
  by_cases e:j=i
  ·rw[if_pos e,e];exact hb
  rw[if_neg e];exact h.val j zo
 ·rw[dO,pY zo]
  by_cases e:k=c
  ·subst e;rw[if_pos rfl,if_pos rfl,h.row]
  rw[if_neg zo,if_neg e,Jw,h.row]
 rw[dO]
 split
 ·simp
 exact h.ne c hc
theorem FI.new{tl:Nat->Nat}{n i:Nat}{D:List (Int×Int)}{bl:List Nat}{E:List KVR}{many:Nat}(h:FI tl n i D bl E many)(hi:i<n)(hb:bm D ((tl i:Nat):Int)=none)(v:ix):
  FI tl n (i+1) (cE D ((tl i:Nat):Int) (many:Int)) (bl.set i many) (cE E (many:Int) (v,dp E (many:Int)++[i])) (many+1):=by
 have a1:=h.blen;have a0:∀u b,bm D u=some b->b<many:=fun u b hu=>by
  obtain⟨k,rfl,hk⟩:=h.rng u b hu;omega
 refine⟨by rw[Jj];exact a1,fun j hj=>?_,fun u u' b h1 h2=>?_,fun u b h1=>?_,h.keys.more _,fun c=>?_,fun c hc=>?_,by have:=h.mi;omega⟩
 ·rw[aP,aQ zo]
  by_cases e:j=i
  ·rw[if_pos (by rw[e]),if_pos e]
  rw[if_neg e];have:=h.val j zo;rw[if_neg (fun e2=>by rw[<-e2,hb]at this;cases this)];exact this
 ·rw[aP]at h1 h2
  split at h1
  ·split at h2
   ·rename_i e1 e2;rw[<-e1,<-e2]
   cases h1
   have:=a0 _ _ h2;omega
  split at h2
  ·cases h2
   have:=a0 _ _ h1;omega
  exact h.inj u u' b h1 h2
 ·rw[aP]at h1
  split at h1
  ·cases h1;exact⟨many,rfl,zo⟩
  obtain⟨k,e,hk⟩:=h.rng u b h1;exact⟨k,e,zo⟩
 ·rw[dO,pY zo]
  by_cases e:many=c
  ·subst e;rw[if_pos rfl,if_pos rfl,h.row]
  rw[if_neg zo,if_neg e,Jw,h.row]
 rw[dO]
 split
 ·simp
 exact h.ne c zo
theorem FI.blk{tl:Nat->Nat}{n:Nat}{D:List (Int×Int)}{bl:List Nat}{E:List KVR}{many:Nat}(h:FI tl n n D bl E many)(nx:Nat->Nat->Nat):Blk nx tl n bl (fun k=>dp E (k:Int)) many:=by
 refine⟨h.blen,fun i hi=>?_,fun b _ x=>?_,fun b _=>?_,fun b hb=>h.ne b hb,fun p q hp hq e=>?_,fun p q hp hq ha=>?_⟩
 ·obtain⟨k,e,hk⟩:=h.rng _ _ (h.val i hi);omega
 ·rw[h.row,K7,JH];simp
 ·rw[h.row];exact KY.sublist Kj
 ·have:=h.inj _ _ _ (h.val p hp) (by rw[e];exact h.val q hq);omega
 have e:tl p=tl q:=ha [] fun m hm=>absurd hm (by simp)
 have h1:=h.val p hp;rw[e,h.val q hq]at h1;have:=Mc h1;omega
structure TdI(td:List ((Int×Int)×Bool))(many b m:Nat):Prop where
 rng:tdR td many
 all:∀c j,c<b\/c=b/\j<m->j<37->tdP td c j
 len:td.length<=b*37+m
theorem BR(many:Nat):TdI [] many 0 0:=⟨fun e he=>absurd he (by simp),fun c j h _=>zo,J7 _⟩
theorem TdI.put{td:List ((Int×Int)×Bool)}{many b m:Nat}(h:TdI td many b m)(hb:b<many)(hm:m<37):TdI (cE td ((b:Int),(m:Int)) true) many b (m+1):=by
 refine⟨fun e he=>?_,fun c j hc hj=>?_,?_⟩
 ·rcases rF _ _ _ _ he with he|he
  ·exact h.rng e he
  exact⟨b,m,hb,hm,by rw[he]⟩
 ·unfold tdP;rw[aP]
  split
  ·rfl
  rename_i hne;refine h.all c j ?_ hj
  rcases hc with hc|⟨rfl,hc⟩
  ·exact .inl hc
  exact .inr ⟨rfl,by
   have:¬j=m:=fun e=>hne (by rw[e])
   omega⟩
 have:=rG ((b:Int),(m:Int)) true td;have:=h.len;omega
theorem TdI.next{td:List ((Int×Int)×Bool)}{many b:Nat}(h:TdI td many b 37):TdI td many (b+1) 0:=⟨h.rng,fun c j hc hj=>h.all c j zo hj,by have:=h.len;omega⟩
structure BO(nx:Nat->Nat->Nat)(tl:Nat->Nat)(n:Nat)(bl:List Nat)(E:List KVR)(td:List ((Int×Int)×Bool))(many:Nat):Prop where
 blk:Blk nx tl n bl (fun k=>dp E (k:Int)) many
 keys:KeysE E many
 tdr:tdR td many
 todo:Todo nx n bl (tdP td)
structure BI(nx:Nat->Nat->Nat)(tl:Nat->Nat)(n:Nat)(bl0:List Nat)(m0 b0 many0:Nat)(left:List (Int×ix))(bl:List Nat)(E:List KVR)(td:List ((Int×Int)×Bool))(many:Nat):Prop where
 blk:Blk nx tl n bl (fun k=>dp E (k:Int)) many
 keys:KeysE E many
 tdr:tdR td many
 le:many0<=many
 pend:Pend nx n bl (tdP td) m0 (fun p=>nth bl0 (nx p m0)=b0) (fun b=>(b:Int)∈left.map (·.1))
 same:∀k:Nat,(k:Int)∈left.map (·.1)->k<many0/\∀x,x<n->(nth bl x=k↔nth bl0 x=k)
 nd:(left.map (·.1)).Nodup
theorem BO.take{nx:Nat->Nat->Nat}{tl:Nat->Nat}{n:Nat}{bl:List Nat}{E:List KVR}{td:List ((Int×Int)×Bool)}{many:Nat}(h:BO nx tl n bl E td many)(b0 m0:Nat)(_:m0<37)(_:∀p m,p<n->m<37->nx p m<n)(a0:List (Int×ix)) 
  (hl:∀k,k∈a0.map (·.1)↔∃i,i<n/\nth bl (nx i m0)=b0/\((nth bl i:Nat):Int)=k) (hn:(a0.map (·.1)).Nodup):BI nx tl n bl m0 b0 many a0 bl E (pc td ((b0:Int),(m0:Int))) many:=by
 refine⟨h.blk,h.keys,h.tdr.del _,J7 _,?_,fun k hk=>?_,hn⟩
 ·refine h.todo.take b0 m0 (fun b m hb=>?_) _ fun p hp e=>(hl _).2 ⟨p,hp,e,rfl⟩
  by_cases e:b=b0/\m=m0
  ·exact .inr e
  refine .inl ?_;unfold tdP;rw[qi (fun e2=>e ?_)]
  ·exact hb
  have:=KR e2;omega
 obtain⟨i,hi,_,e⟩:=(hl _).1 hk;have:=h.blk.lt i hi;exact⟨zo,fun x _=>Iff.rfl⟩
theorem qM{a1 a0:List (Int×ix)}{k:Int}{v:ix}(hn:((a1++(k,v)::a0).map (·.1)).Nodup):((a1++a0).map (·.1)).Nodup/\k∉(a1++a0).map (·.1)/\∀b,b∈(a1++(k,v)::a0).map (·.1)->b=k\/b∈(a1++a0).map (·.1):=by
 simp only[JN,JB]at hn ⊢;have hp:=(List.perm_middle (a:=k) (l₁:=a1.map (·.1)) (l₂:=a0.map (·.1)))
 have h2:=hp.nodup_iff.1 hn;obtain⟨h3,h4⟩:=L1.1 h2;exact⟨h4,h3,fun b hb=>Ji.1 (hp.mem_iff.1 hb)⟩
section
variable{nx:Nat→Nat→Nat}{tl:Nat→Nat}{n:Nat}{bl0:List Nat}{m0 b0 many0:Nat}{pre suf:List (Int×ix)}{k:Nat}{v:ix}{bl:List Nat}{E:List KVR}{td:List ((Int×Int)×Bool)}{many:Nat}{L:List Nat}
theorem BI.here(h:BI nx tl n bl0 m0 b0 many0 (pre++((k:Int),v)::suf) bl E td many)(hL:∀x,x∈L↔x<n/\nth bl0 x=k/\nth bl0 (nx x m0)=b0):k<many/\∀x,x∈L↔x<n/\nth bl x=k/\nth bl0 (nx x m0)=b0:=by
 obtain⟨h1,h2⟩:=h.same k (by simp);refine⟨by have:=h.le;omega,fun x=>?_⟩;rw[hL]
 constructor
 ·rintro⟨a,b,c⟩;exact⟨a,(h2 x a).2 b,c⟩
 rintro⟨a,b,c⟩;exact⟨a,(h2 x a).1 b,c⟩
theorem BI.skip(h:BI nx tl n bl0 m0 b0 many0 (pre++((k:Int),v)::suf) bl E td many)(hL:∀x,x∈L↔x<n/\nth bl0 x=k/\nth bl0 (nx x m0)=b0)(a4:L.Nodup)(a5:(dp E (k:Int)).length<=L.length):BI nx tl n bl0 m0 b0 many0 (pre++suf) bl E td many:=by
 obtain⟨hk,a1⟩:=h.here hL;obtain⟨r1,r2,r3⟩:=qM h.nd;refine⟨h.blk,h.keys,h.tdr,h.le,?_,fun c hc=>h.same c ?_,r1⟩
 ·refine h.pend.whole (k:=k) (fun p hp e=>?_) fun b hb=>?_
  ·refine Jt fun hn=>?_
   have a2:p∉L:=fun hx=>hn ((a1 p).1 hx).2.2
   have a3:(p::L).Nodup:=L1.2 ⟨a2,a4⟩;have a0:(p::L) ⊆ dp E (k:Int):=fun x hx=>by
    rcases Ji.1 hx with rfl|hx
    ·exact(h.blk.mem k hk _).2 ⟨hp,e⟩
    exact(h.blk.mem k hk x).2 ⟨((a1 x).1 hx).1,((a1 x).1 hx).2.1⟩
   have:=a3.length_le_of_subset a0;simp only[JR]at this;omega
  rcases r3 _ hb with h1|h1
  ·exact .inl zo
  exact .inr h1
 simp only[JN,JB,Js,Ji]at hc ⊢
 rcases hc with hc|hc
 ·exact .inl hc
 exact .inr (.inr hc)
theorem BI.cut(h:BI nx tl n bl0 m0 b0 many0 (pre++((k:Int),v)::suf) bl E td many)(a3:∀p m,p<n->m<37->nx p m<n)(h0:∀p q,p<n->q<n->Alike nx tl p q->nth bl0 p=nth bl0 q)(a4:m0<37) 
  (hL:∀x,x∈L↔x<n/\nth bl0 x=k/\nth bl0 (nx x m0)=b0) (a8:L.Nodup) (a6:L≠[]) (a7:L.length<(dp E (k:Int)).length) (ov v':ix) (lt:Bool) :
  BI nx tl n bl0 m0 b0 many0 (pre++suf) (cH bl many L) (cE (cE E (many:Int) (ov,L)) (k:Int) (v',gF (fun x=>nth (cH bl many L) x==many) (dp E (k:Int)))) (tdL td k many lt 37) (many+1):=by
 obtain⟨hk,a1⟩:=h.here hL;obtain⟨r1,r2,r3⟩:=qM h.nd;have hc:=GI (L:=L) (ov:=ov) (v':=v') hk h.blk.len (h.blk.mem k hk);refine⟨?_,?_,zp h.tdr hk 37 (J7 _),by have:=h.le;omega,?_,fun c a0=>?_,r1⟩
 ·refine h.blk.cut hc hk (fun x hx=>⟨((a1 x).1 hx).1,((a1 x).1 hx).2.1⟩) a8 a6 a7 fun p q hp hq ha a5=>?_
  obtain⟨_,e1,e2⟩:=(hL p).1 a5;refine(hL q).2 ⟨hq,by rw[<-h0 p q hp hq ha];exact e1,?_⟩;rw[<-h0 (nx p m0) (nx q m0) (a3 p m0 hp a4) (a3 q m0 hq a4) (ha.step a4)];exact e2
 ·exact(h.keys.more _).same zo _
 ·refine Pend.cut h.blk h.pend hc hk a3 a1 (fun b m hb=>vR hb 37) (fun m hm hb=>vQ hb 37 hm) (fun m hm=>Di 37 hm) fun b hb=>?_
  rcases r3 _ hb with h1|h1
  ·exact .inl zo
  exact .inr h1
 have a9:c≠k:=fun e=>r2 (by rw[<-e];exact a0)
 obtain⟨h1,h2⟩:=h.same c (by
  simp only[JN,JB,Js,Ji]at a0 ⊢
  rcases a0 with a0|a0
  ·exact .inl a0
  exact .inr (.inr a0))
 refine⟨h1,fun x hx=>?_⟩;rw[<-h2 x hx,hc.bl x hx];have:=h.le
 by_cases a2:x∈L
 ·rw[if_pos a2];have:=((a1 x).1 a2).2.1
  constructor<;>omega
 rw[if_neg a2]
end
theorem BI.done{nx:Nat->Nat->Nat}{tl:Nat->Nat}{n:Nat}{a1:List Nat}{m0 b0 a0:Nat}{bl:List Nat}{E:List KVR}{td:List ((Int×Int)×Bool)}{many:Nat}(h:BI nx tl n a1 m0 b0 a0 [] bl E td many):BO nx tl n bl E td many:=
 ⟨h.blk,h.keys,h.tdr,h.pend.done fun b hb=>absurd hb (by simp)⟩
theorem BO.final{nx:Nat->Nat->Nat}{tl:Nat->Nat}{n:Nat}{bl:List Nat}{E:List KVR}{many:Nat}(h:BO nx tl n bl E [] many)(a0:∀p m,p<n->m<37->nx p m<n)(p q:Nat)(hp:p<n)(hq:q<n):nth bl p=nth bl q↔Alike nx tl p q:=by
 refine h.blk.final (fun p q m a b c d e=>?_) a0 p q hp hq
 rcases h.todo p q m a b c d e with h1|h1<;>cases h1
theorem FI.bo{nx:Nat->Nat->Nat}{tl:Nat->Nat}{n:Nat}{D:List (Int×Int)}{bl:List Nat}{E:List KVR}{many:Nat}{td:List ((Int×Int)×Bool)}(h:FI tl n n D bl E many)(ht:TdI td many many 0)(a0:∀p m,p<n->m<37->nx p m<n):BO nx tl n bl E td many:=by
 have hb:=h.blk nx;exact⟨hb,h.keys,ht.rng,fun p q m hp hq hm e a1=>.inl (ht.all _ m (.inl (hb.lt _ (a0 p m hp hm))) hm)⟩
theorem Iz:Mw JF 28 (fun n:Int=>Value.int .u64 n):=Mj underlying28
theorem uY(B:Nat)(O:Nat->Nat)(w:ka)(sb:Nat)(nv tv bv:ix)(sr tr:Nat)(a0:List Nat)(hR:Kk B O w)(hB:Kg O w 1 sb #[nv,tv,nS,bv,.map (some sr),.map (some tr),nI 0] 205) 
  (e6:JI aO 3 1 O w 2 bv (Jr a0.length 0)) (g':MpR 10 3 O w sr []) (g9:JU dX Jy O w 4 tr []) (g2:Sl fK 1 w tv a0) (e':Kp O w tv) (hn:a0.length<=1000) (_:∀q,O q<2000) :
  KN JF 113 [nP sb] w fun _ w'=>
   ∃O' D bl E many td,Jl (fun q=>1<=q/\q<=4\/10<=q) O w O' w'/\Kk B O' w'/\Kg O' w' 1 sb #[nv,tv,nS,bv,.map (some sr),.map (some tr),nI ((many:Nat):Int)] 205/\
    JI aO 3 1 O' w' 2 bv bl/\MpR 10 3 O' w' sr E/\JU dX Jy O' w' 4 tr td/\FI (nth a0) a0.length a0.length D bl E many/\TdI td many many 0:=by
 refine J4 func113 ntmps113 rfl rfl ?_;refine zh ?_
 refine aS (fun k:Int=>.int .u64 k) (fun v:Int=>nI v) hR 2000 zd rfl ?_;intro r w1 O1 i2 c9 h';have g6:=hB.upd c9 zd zd;have c1:w1.cell? ((nA sb 0).add 1)=some tv:=g6.cell 1 rfl;have g8:=g2.upd e' c9;have h5:=e'.upd c9;refine zh ?_
 refine zlp (fun z:Nat×(Nat->Nat)×World×List (Int×Int)×List Nat×List KVR×Nat=>[(0,nP sb),(2,.map (some r)),(14,tv),(15,nI a0.length),(16,nI z.1)]) (fun z=>z.2.2.1) (fun z=>z.1<=a0.length/\Jl (fun q=>1<=q/\q<=3\/10<=q) O w z.2.1 z.2.2.1/\Kk B z.2.1 z.2.2.1/\Kg z.2.1 z.2.2.1 1 sb #[nv,tv,nS,bv,.map (some sr),.map (some tr),nI ((z.2.2.2.2.2.2:Nat):Int)] 205/\JI aO 3 1 z.2.1 z.2.2.1 2 bv z.2.2.2.2.1/\MpR 10 3 z.2.1 z.2.2.1 sr z.2.2.2.2.2.1/\JU (fun k:Int=>.int .u64 k) (fun v:Int=>nI v) z.2.1 z.2.2.1 2000 r z.2.2.2.1/\FI (nth a0) a0.length z.1 z.2.2.2.1 z.2.2.2.2.1 z.2.2.2.2.2.1 z.2.2.2.2.2.2) (fun z=>a0.length-z.1) (0,O1,w1,[],Jr a0.length 0,[],0) (⟨J0 _,c9.mono (fun _ h=>zo) zd,h',g6,e6.upd c9 zd zd,⟨g'.map.upd c9 zd zd,fun k hk=>absurd hk (J2 k)⟩,i2,Dc _ _⟩) ?_;rintro⟨i,O2,w2,D,bl,E,many⟩ ⟨hi,c8,d9,b3,a1,a8,d3,hF⟩;dsimp only at hi c8 d9 b3 a1 a8 d3 hF ⊢;have e1:=g2.upd e' c8;have i4:=hF.blen;have g4:many<=i:=hF.mi;refine zh ?_
 refine zC ?_ ?_
 ·intro a3;replace a3:i<a0.length:=dT a3;have m1:w2.cell? (adr tv 1 i)=some (.int .u64 ((nth a0 i:Nat):Int)):=by have:=e1.cell (i:=i) (j:=0) a3 rfl;rwa[ax]at this
  have g3:=hF.rowsN;refine zh ?_
  cases d0:bm D ((nth a0 i:Nat):Int)with
  |some b=>
   have e8:=hF.old a3 d0;obtain⟨k,rfl,hk,_⟩:=hF.old a3 d0 (nS);have f9:∀v,FI (nth a0) a0.length (i+1) D (bl.set i k) (cE E (k:Int) (v,dp E (k:Int)++[i])) many:=fun v=>by
    obtain⟨k',e,_,h⟩:=e8 v;obtain rfl:k=k':=zo;exact h
   have h1:=g3 k;have h0:=vS E (k:Int);have h6:=hF.keys.len;refine zvH (cN (u:=.tuple #[nI (k:Int),.bool true]) d3 Lm Iz (JS _) ((nth a0 i:Nat):Int) rfl rfl rfl (by rw[d0];rfl)) ?_;refine aN rfl rfl ?_;have e0:=Mn a1;have i3:LW w2 (nA sb 3)=some bv:=Md b3 3 rfl;refine zh ?_;refine Kq a1 i zo (k:Nat) (Jm _) rfl zd rfl rfl rfl rfl ?_;intro wa a' b0;have d7:=Mk b3 b0 zd zd;have b8:=MpR.upd a8 b0 zd zd zd (fun _=>zo);have f6:=Mr d9 b0;have c7:=Mi d3 b0 zd zd;refine zh ?_;have d1:wa.drew.cell? (nA sb 4)=some (.map (some sr)):=d7.cell 4 rfl;have a5:Jl (fun _=>False) O2 wa O2 wa.drew:=aa (fun h=>h) O2 (Jk wa).drew;have d2:=b8.upd a5 zd zd (fun h=>h) (fun _ h=>h);refine aG (fun W=>W.cell? (nA sb 4)=some (.map (some sr))) 15 rfl zk ?_;refine zrm 0 rfl d1 rfl ?_;refine zr 1 rfl d1 (fun _=>ao rfl) ?_;refine zrf 2 rfl d1 rfl ?_;refine zt 3 rfl d1 (fun w1 b4=>RV.ld b4 rfl) ?_;refine zrm 4 rfl d1 rfl ?_;refine zrm 5 rfl d1 rfl ?_;refine zr 6 rfl d1 (fun _=>ao rfl) ?_;refine zrf 7 rfl d1 rfl ?_;refine zt 8 rfl d1 (fun w1 b4=>RV.ld b4 rfl) ?_;refine zrm 9 rfl d1 rfl ?_;refine zrm 11 rfl d1 rfl ?_
   refine iw 10 12 kL (enc:=aO) i rfl rfl zk zk zk zk (fun W hE=>JW (d2.upd (aa (S:=fun _=>False) (fun h=>h) O2 hE) zd zd (fun h=>h) (fun _ h=>h)).map Jq pQ (K4 _) ((k:Nat):Int) rfl rfl rfl (lT E _)) (fun W hE=>hE.cell d1) rfl rfl rfl zd rfl rfl rfl rfl rfl ?_;intro g7 wb b7 f';have a4:Jl (fun _=>False) O2 wa.drew O2 wb:=aa (fun h=>h) O2 f';have b':=d2.upd a4 zd zd (fun h=>h) (fun _ h=>h);refine J9 13 zk rfl ?_
   refine aC kL (b'.at ((k:Nat):Int)) ((f6.upd a5).upd a4) b7 (by simp) rfl rfl (by simp) (by simp[J1]) (by rw[J8];omega) (by rw[J8];omega) zo rfl ?_;intro vc wc Oc e7 a7 f5;have d6:=((d7.upd a5 zd (fun h=>h)).upd a4 zd (fun h=>h)).upd a7 zd zo;refine zh ?_
   refine ae (d6.cell 4 rfl) ?_;refine J9 14 zk rfl ?_
   refine JK (b'.map.upd a7 zd zo) Jq pQ zd ((k:Nat):Int) vc rfl rfl rfl rfl rfl ?_;intro wd e9 a6;have d5:=d6.upd a6 zd zd;have b9:=b'.put ((k:Nat):Int) zd zd a7 e7 e9 a6;refine zh ?_
   refine ae (d5.cell 4 rfl) ?_;have f3:Jl (fun q=>1<=q/\q<=3\/10<=q) O2 w2 Oc wd:=((((b0.mono (fun _ h=>zo) zd).trans (a5.mono (fun _ h=>h.elim) zd)).trans (a4.mono (fun _ h=>h.elim) zd)).trans (a7.mono (fun _ h=>zo) zd)).trans (a6.mono (fun _ h=>zo) zd);have a9:=(((a'.upd a5 zd (fun h=>h)).upd a4 zd (fun h=>h)).upd a7 zd zo).upd a6 zd zd;have c5:=(((c7.upd a5 zd (fun h=>h)).upd a4 zd (fun h=>h)).upd a7 zd zo).upd a6 zd zd;refine JZ zk ?_
   refine zh ?_;refine zxd (i+1,Oc,wd,D,bl.set i k,cE E ((k:Nat):Int) (vc,dp E ((k:Nat):Int)++[i]),many) (⟨a3,c8.trans f3,f5.upd a6,d5,a9,b9,c5,f9 vc⟩)
  |none=>
   have f9:=hF.new a3 d0;have h1:=g3 many;have h0:=vS E (many:Int);have h6:=hF.keys.len;refine zvH (cN (u:=.tuple #[nI 0,.bool false]) d3 Lm Iz (JS _) ((nth a0 i:Nat):Int) rfl rfl rfl (by rw[d0];rfl)) ?_;refine aR rfl rfl ?_;have c6:w2.cell? (nA sb 6)=some (nI (many:Nat)):=b3.cell 6 rfl;refine zh ?_;refine JK d3 Lm Iz zd ((nth a0 i:Nat):Int) (many:Int) rfl rfl rfl rfl rfl ?_;intro w3 i1 a2;have d':=b3.upd a2 zd zd;have c':=a1.upd a2 zd zd;have e5:MpR 10 3 O2 w3 sr E:=⟨a8.map.upd a2 zd zd,fun k hk=>(a8.row k hk).upd a2 zo (by have:=hF.keys.len;omega)⟩
   have h9:=d9.upd a2;have i5:w3.cell? (nA sb 6)=some (nI (many:Nat)):=d'.cell 6 rfl;refine zh ?_;refine aj (j:=6) d' rfl (Jm _) rfl rfl rfl rfl ?_;have b1:Jl (fun j=>j=1) O2 w3 O2 (w3.setCell ⟨sb,6,none⟩ (nI ((many:Int)+1))):=Kc zd d'.tag rfl;have g5:Kg O2 (w3.setCell ⟨sb,6,none⟩ (nI ((many:Int)+1))) 1 sb #[nv,tv,nS,bv,.map (some sr),.map (some tr),nI ((many+1:Nat):Int)] 205:=d'.set 6 _;have b2:=c'.upd b1 zd zd;have e4:=e5.upd b1 zd zd zd (fun _=>zo);have h8:=h9.upd b1;have i0:=i1.upd b1 zd zd;have f4:=(c8.trans (a2.mono (fun _ h=>zo) zd)).trans (b1.mono (fun _ h=>zo) zd);generalize w3.setCell ⟨sb,6,none⟩ (nI ((many:Int)+1))=w4 at *;have e0:=Mn b2;have i3:LW w4 (nA sb 3)=some bv:=Md g5 3 rfl;refine zh ?_;refine Kq b2 i zo (many:Nat) (Jm _) rfl zd rfl rfl rfl rfl ?_;intro wa a' b0;have d7:=Mk g5 b0 zd zd;have b8:=MpR.upd e4 b0 zd zd zd (fun _=>zo);have f6:=Mr h8 b0;have c7:=Mi i0 b0 zd zd;refine zh ?_;have d1:wa.drew.cell? (nA sb 4)=some (.map (some sr)):=d7.cell 4 rfl;have a5:Jl (fun _=>False) O2 wa O2 wa.drew:=aa (fun h=>h) O2 (Jk wa).drew;have d2:=b8.upd a5 zd zd (fun h=>h) (fun _ h=>h);refine aG (fun W=>W.cell? (nA sb 4)=some (.map (some sr))) 15 rfl zk ?_;refine zrm 0 rfl d1 rfl ?_;refine zr 1 rfl d1 (fun _=>ao rfl) ?_;refine zrf 2 rfl d1 rfl ?_;refine zt 3 rfl d1 (fun w1 b4=>RV.ld b4 rfl) ?_;refine zrm 4 rfl d1 rfl ?_;refine zrm 5 rfl d1 rfl ?_
   refine zr 6 rfl d1 (fun _=>ao rfl) ?_;refine zrf 7 rfl d1 rfl ?_
   refine zt 8 rfl d1 (fun w1 b4=>RV.ld b4 rfl) ?_;refine zrm 9 rfl d1 rfl ?_
   refine zrm 11 rfl d1 rfl ?_;refine iw 10 12 kL (enc:=aO) i rfl rfl zk zk zk zk (fun W hE=>JW (d2.upd (aa (S:=fun _=>False) (fun h=>h) O2 hE) zd zd (fun h=>h) (fun _ h=>h)).map Jq pQ (K4 _) ((many:Nat):Int) rfl rfl rfl (lT E _)) (fun W hE=>hE.cell d1) rfl rfl rfl zd rfl rfl rfl rfl rfl ?_
   intro g7 wb b7 f';have a4:Jl (fun _=>False) O2 wa.drew O2 wb:=aa (fun h=>h) O2 f';have b':=d2.upd a4 zd zd (fun h=>h) (fun _ h=>h);refine J9 13 zk rfl ?_;refine aC kL (b'.at ((many:Nat):Int)) ((f6.upd a5).upd a4) b7 (by simp) rfl rfl (by simp) (by simp[J1]) (by rw[J8];omega) (by rw[J8];omega) zo rfl ?_;intro vc wc Oc e7 a7 f5;have d6:=((d7.upd a5 zd (fun h=>h)).upd a4 zd (fun h=>h)).upd a7 zd zo;refine zh ?_;refine ae (d6.cell 4 rfl) ?_;refine J9 14 zk rfl ?_;refine JK (b'.map.upd a7 zd zo) Jq pQ zd ((many:Nat):Int) vc rfl rfl rfl rfl rfl ?_;intro wd e9 a6;have d5:=d6.upd a6 zd zd;have b9:=b'.put ((many:Nat):Int) zd zd a7 e7 e9 a6;refine zh ?_;refine ae (d5.cell 4 rfl) ?_;have f3:Jl (fun q=>1<=q/\q<=3\/10<=q) O2 w4 Oc wd:=((((b0.mono (fun _ h=>zo) zd).trans (a5.mono (fun _ h=>h.elim) zd)).trans (a4.mono (fun _ h=>h.elim) zd)).trans (a7.mono (fun _ h=>zo) zd)).trans (a6.mono (fun _ h=>zo) zd);have a9:=(((a'.upd a5 zd (fun h=>h)).upd a4 zd (fun h=>h)).upd a7 zd zo).upd a6 zd zd;have c5:=(((c7.upd a5 zd (fun h=>h)).upd a4 zd (fun h=>h)).upd a7 zd zo).upd a6 zd zd;refine JZ zk ?_;refine zh ?_;refine zxd (i+1,Oc,wd,(cE D ((nth a0 i:Nat):Int) (many:Int)),bl.set i many,cE E ((many:Nat):Int) (vc,dp E ((many:Nat):Int)++[i]),(many+1)) (⟨a3,f4.trans f3,f5.upd a6,d5,a9,b9,c5,f9 vc⟩)
 intro h3;obtain rfl:i=a0.length:=dF h3;have c6:w2.cell? (nA sb 6)=some (nI (many:Nat)):=b3.cell 6 rfl;have e3:=g9.upd c8 zd zo;refine zh ?_;refine zlp (fun z:Nat×ka×List ((Int×Int)×Bool)=>[(0,nP sb),(68,nI (many:Nat)),(69,nI z.1)]) (fun z=>z.2.1) (fun z=>z.1<=many/\Jl (fun q=>q=4) O2 w2 O2 z.2.1/\JU dX Jy O2 z.2.1 4 tr z.2.2/\TdI z.2.2 many z.1 0) (fun z=>many-z.1) (0,w2,[]) (⟨J0 _,Kf zd _ _,e3,BR _⟩) ?_;rintro⟨b,w3,g1⟩ ⟨hb,a2,b6,f8⟩;dsimp only at hb a2 b6 f8 ⊢;refine zh ?_;refine zC ?_ ?_
 ·intro a3;replace a3:b<many:=dT a3;refine zh ?_;refine zlp (fun y:Nat×ka×List ((Int×Int)×Bool)=>[(0,nP sb),(68,nI (many:Nat)),(69,nI (b:Nat)),(7,nI (b:Nat)),(72,nI y.1)]) (fun y=>y.2.1) (fun y=>y.1<=37/\Jl (fun q=>q=4) O2 w2 O2 y.2.1/\JU dX Jy O2 y.2.1 4 tr y.2.2/\TdI y.2.2 many b y.1) (fun y=>37-y.1) (0,w3,g1) (⟨J0 _,a2,b6,f8⟩) ?_;rintro⟨m,w4,g0⟩ ⟨hm,b1,b5,f7⟩;dsimp only at hm b1 b5 f7 ⊢;refine zh ?_;refine zC ?_ ?_
  ·intro d8;replace d8:m<37:=dT d8;have d4:w4.cell? (nA sb 5)=some (.map (some tr)):=(b3.upd b1 zd zd).cell 5 rfl;refine zh ?_;refine zv (eM Ka (Jm _) (K5 _) rfl rfl) ?_;refine JK b5 KF G1 zd ((b:Int),(m:Int)) true rfl rfl rfl rfl rfl ?_;intro w5 e2 h7;refine zh ?_;refine zxd (m+1,w5,cE g0 ((b:Int),(m:Int)) true) (⟨d8,b1.trans h7,e2,f7.put a3 d8⟩)
  intro h2;obtain rfl:m=37:=dF h2;refine zh ?_;refine zxd (b+1,w4,g0) (⟨a3,b1,b5,f7.next⟩)
 intro h4;obtain rfl:b=many:=dF h4;refine zh ?_;refine aH rfl (⟨O2,D,bl,E,b,g1,(c8.mono (fun _ h=>zo) zd).trans (a2.mono (fun _ h=>zo) zd),d9.upd a2,b3.upd a2 zd zd,a1.upd a2 zd zd,a8.upd a2 zd zd zd (fun _=>zo),b6,hF,f8⟩)
end Go.Proofs.YtjemhjcngaokpaaGreatDoor
section
namespace Go.VL
open Go.Proofs
theorem vA{P:KO}{N:Nat}{ops:Array Lp}{Q:M4->MB->ka->Prop}{a0:List Lp}{st:St}{w:ka}{t:Ki}{p:String}{e:Array Mz}{d:Nat}{x y:Lz} 
  {T E:Ki} {bytes:Nat} (he:LQ P T E 1 bytes) (z0:ix) (a3:(P.info? E).bind (·.zero)=some z0) (h1:z0.oneCell'=true) {B:Nat} {O:Nat->Nat} (r:Kk B O w) (i:Nat) (a8:i≠0) (n:Nat) {kl kc:IntKind} {m1 m2:Int}
  (hx:ev st x=some (.int kl m1)) (hy:ev st y=some (.int kc m2)) (a7:m1=n) (a6:m2=n) (hb:bytes*n<=281474976710656) (b1:n<=9223372036854775807) (hd:KU d N=true)
  (h:∀w' O' v,JI (fun x:ix=>[x]) E 1 O' w' i v (Jr n z0)->Jl (fun k=>k=i) O w O' w'->Kk B O' w'->Kw w w'->WL P N ops Q a0 ((d,v)::st) w') :
  WL P N ops Q (⟨some d,.makeSlice T x y,t,p,e,none⟩::a0) st w:=by
 obtain⟨a2,z,hi,hz,a5,a',b2⟩:=he.parts;have a4:z=z0:=by rw[hi]at a3;simpa[hz]using a3
 subst a4;subst a7;subst a6;have a9:z.cells = #[z]:=by cases z<;>first|rfl|simp[J1]at h1
 have b0:(a2.bytes:Int)*(n:Int)<=281474976710656:=by
  have h:((a2.bytes*n:Nat):Int)<=281474976710656:=by rw[a'];omega
  rwa[Int.natCast_mul]at h
 have a1:=run_make (P:=P) w T E a2 _ he.ht hi hz kl kc n n zo (M8 _) b0 zo;simp only[Int.toNat_natCast,a5,Nat.mul_one,a9]at a1;have hz:¬(fun k=>k=i) 0:=fun h=>a8 h.symm
 have u:=Mg (S:=fun k=>k=i) hz r (.cells (madeCells #[z] n) E) i;refine WL.val (v:=.slice (some ⟨w.heap.size,0,none⟩) n n) hd (fun a ha=>by simp only[execOp,ha.ev hx,ha.ev hy,LZ,a1,Lo];rfl) (h _ _ _ ⟨⟨?_,fun g hg=>?_⟩,fun a _=>rfl⟩ u (r.upd u) (Ext.alloc _ _))
 ·rw[Li];have:=Lu (base:=0) (size:=1) (e:=E) w (madeCells #[z] n) n (J0 _) (by simpa[maxLen]using b1) (by rw[size_madeCells];omega);rw[toList_madeCells_one]at this;have e2:(Jr n z).flatMap (fun x=>[x])=Jr n z:=by
   induction n with
   |zero=>rfl
   |succ n ih=>simp only[Ls,JO];congr 1;simp[List.flatMap_replicate]
  rw[e2];exact this
 simp only[LO,Mb]at hg;subst hg;exact ed _ _ _
theorem Sl.free0{α:Type}[Inhabited α]{f:α->List ix}{sz:Nat}{w:ka}{v:ix}{xs:List α}(h:Sl f sz w v xs)(hf:∀a,f a≠[]):Kp (fun _=>0) w v:=fun a n c e hn=>by
 obtain⟨a',c',e1,_,_,e2⟩:=h.shape;subst e
 cases e1
 obtain⟨b,o,e3⟩:=e2 hn
 cases e3
 refine⟨rfl,?_⟩;have hl:0<xs.length:=Nat.pos_of_ne_zero hn
 cases hx:f xs[0]with
 |nil=>exact absurd hx (hf _)
 |cons u r=>
  have hc:=h.cells 0 hl 0 u (by rw[hx];rfl);have:=Lb _ _ hc;have hb:((adr (.slice (some ⟨b,o,none⟩) xs.length c) sz 0).add 0).block=b:=by simp only[adr,Addr.add];split<;>rfl
  rwa[hb]at this
end Go.VL
namespace Go.Proofs.YtjemhjcngaokpaaGreatDoor
open Go.VL Go.Proofs
set_option maxRecDepth 10000
def RowsF(O:Nat->Nat)(w:ka)(v:ix)(rows:List (List Nat)):Prop:=∃vs,Sl yZ 1 w v vs/\Kp O w v/\vs.length=rows.length/\∀i,i<rows.length->Sl aO 1 w (nth vs i) (nth rows i)/\Kp O w (nth vs i)
theorem RowsF.upd{S:Nat->Prop}{O O':Nat->Nat}{w w':ka}{v:ix}{rows:List (List Nat)}(h:RowsF O w v rows)(u:Jl S O w O' w'):RowsF O' w' v rows:=by
 obtain⟨vs,h1,h2,h3,h4⟩:=h;exact⟨vs,h1.upd h2 u,h2.upd u,h3,fun i hi=>⟨(h4 i hi).1.upd (h4 i hi).2 u,(h4 i hi).2.upd u⟩⟩
theorem RowsN.free{w:ka}{v:ix}{rows:List (List Nat)}(h:RowsN w v rows):RowsF (fun _=>0) w v rows:=by
 obtain⟨vs,h1,h2,h3⟩:=h;exact⟨vs,h1,h1.free0 (fun a=>by simp),h2,fun i hi=>⟨h3 i hi,(h3 i hi).free0 (fun a=>by simp)⟩⟩
def RowsG(B:Nat)(w:ka)(v:ix)(rows:List (List Nat)):Prop:=∃vs,Sl yZ 1 w v vs/\Mo B v/\vs.length=rows.length/\∀i,i<rows.length->Sl aO 1 w (nth vs i) (nth rows i)/\Mo B (nth vs i)
theorem RowsG.rows{B:Nat}{w:ka}{v:ix}{rows:List (List Nat)}(h:RowsG B w v rows):RowsN w v rows:=by
 obtain⟨vs,h1,h2,h3,h4⟩:=h;exact⟨vs,h1,h3,fun i hi=>(h4 i hi).1⟩
theorem RowsG.mono{B B':Nat}{w:ka}{v:ix}{rows:List (List Nat)}(h:RowsG B w v rows)(hb:B'<=B):RowsG B' w v rows:=by
 obtain⟨vs,h1,h2,h3,h4⟩:=h;exact⟨vs,h1,h2.mono hb,h3,fun i hi=>⟨(h4 i hi).1,(h4 i hi).2.mono hb⟩⟩
theorem RowsG.ext{B:Nat}{w w':ka}{v:ix}{rows:List (List Nat)}(h:RowsG B w v rows)(e:Kw w w'):RowsG B w' v rows:=by
 obtain⟨vs,h1,h2,h3,h4⟩:=h;exact⟨vs,h1.ext e,h2,h3,fun i hi=>⟨(h4 i hi).1.ext e,(h4 i hi).2⟩⟩
theorem yw{n i:Nat}{nx:Nat->Nat}{to:Nat}(_:i<n):dK (i+1) nx to=dK i nx to++if nx i=to then [i]else []:=by
 unfold dK;rw[KI,K9,Kz]
 by_cases e:nx i=to
 ·rw[if_pos (by simpa using e),if_pos e];rfl
 rw[if_neg (by simpa using e),if_neg e];rfl
theorem A6(i:Nat)(nx:Nat->Nat)(to:Nat):(dK i nx to).length<=i:=by
 unfold dK;exact KH (KL _ _) (by simp)
structure TuI(O:Nat->Nat)(W:ka)(sb:Nat)(nv tv fv bv:ix)(sr tr many n m:Nat)(nx:Nat->Nat->Nat)(ms:List ix)(vss:List (List ix)):Prop where
 blk:Kg O W 1 sb #[nv,tv,fv,bv,.map (some sr),.map (some tr),nI ((many:Nat):Int)] 205
 row:JI yZ 70 1 O W 6 fv ms
 len:ms.length=m
 lenv:vss.length=m
 at_:∀j,j<m->JI yZ 22 1 O W 5 (nth ms j) (nth vss j)/\(nth vss j).length=n/\∀t,t<n->JI aO 3 1 O W 5 (nth (nth vss j) t) (dK n (fun x=>nx x j) t)
theorem TuI.upd{S:Nat->Prop}{O O':Nat->Nat}{w w':ka}{sb:Nat}{nv tv fv bv:ix}{sr tr many n m:Nat}{nx:Nat->Nat->Nat}{ms:List ix}{a0:List (List ix)}(h:TuI O w sb nv tv fv bv sr tr many n m nx ms a0) 
  (u:Jl S O w O' w') (h1:¬S 1) (h5:¬S 5) (h6:¬S 6):TuI O' w' sb nv tv fv bv sr tr many n m nx ms a0:=
 ⟨h.blk.upd u zd h1,h.row.upd u zd h6,h.len,h.lenv,fun j hj=>⟨(h.at_ j hj).1.upd u zd h5,(h.at_ j hj).2.1,fun t ht=>((h.at_ j hj).2.2 t ht).upd u zd h5⟩⟩
theorem GH:LQ JF 203 70 1 24:=⟨underlying203,by kernel_rfl,zd⟩
theorem sY(B:Nat)(O:Nat->Nat)(w:ka)(sb:Nat)(nv tv bv:ix)(sr tr many:Nat)(rows:List (List Nat))(e2:List Nat)(hR:Kk B O w)(hB:Kg O w 1 sb #[nv,tv,nS,bv,.map (some sr),.map (some tr),nI ((many:Nat):Int)] 205) 
  (hn:RowsF O w nv rows) (hr:RightD rows e2) (hT:∀q,O q<2000) (f8:∀q,O q≠6) :
  KN JF 114 [nP sb] w fun _ w'=>
   ∃O' fv,Jl (fun q=>q=1\/q=5\/q=6\/2000<=q) O w O' w'/\Kk B O' w'/\Kg O' w' 1 sb #[nv,tv,fv,bv,.map (some sr),.map (some tr),nI ((many:Nat):Int)] 205/\FromO O' w' 5 fv rows.length (nxD rows):=by
 have g5:=hr.le;obtain⟨vs,b4,a',g4,c9⟩:=hn;refine J4 func114 ntmps114 rfl rfl ?_;refine zh ?_;refine zlp (fun z:Nat×(Nat->Nat)×World×ix×List ix×List (List ix)=>[(0,nP sb),(6,nI z.1)]) (fun z=>z.2.2.1) (fun z=>z.1<=37/\Jl (fun q=>q=1\/q=5\/q=6\/2000<=q) O w z.2.1 z.2.2.1/\Kk B z.2.1 z.2.2.1/\TuI z.2.1 z.2.2.1 sb nv tv z.2.2.2.1 bv sr tr many rows.length z.1 (nxD rows) z.2.2.2.2.1 z.2.2.2.2.2) (fun z=>37-z.1) (0,O,w,nS,[],[]) (⟨J0 _,Kf zd _ _,hR,hB,JC _ _ _ _ _ _,rfl,rfl,fun j hj=>absurd hj (J2 j)⟩) ?_;rintro⟨m,O2,w2,fv,ms,c5⟩ ⟨hm,b8,d9,hI⟩;dsimp only at hm b8 d9 hI ⊢;refine zh ?_;refine zC ?_ ?_
 ·intro c6;replace c6:m<37:=dT c6;have e4:=b4.upd a' b8;have e6:=a'.upd b8;have c1:w2.cell? ((nA sb 0).add 0)=some nv:=hI.blk.cell 0 rfl;refine zh ?_;refine vA Du (nS) zk rfl d9 2000 zd rows.length rfl rfl zo zo zo zo rfl ?_;intro w3 O3 d' d5 d7 g0 g7;have e1:=hI.upd d7 zd zd zd;have e3:=e4.upd e6 d7;have c3:w3.cell? ((nA sb 0).add 0)=some nv:=e1.blk.cell 0 rfl;refine zh ?_;refine zlp (fun y:Nat×(Nat->Nat)×World×List ix=>[(0,nP sb),(2,nI (m:Nat)),(3,d'),(6,nI (m:Nat)),(20,nv),(21,nI vs.length),(22,nI y.1)]) (fun y=>y.2.2.1) (fun y=>y.1<=rows.length/\Jl (fun q=>q=1\/q=5\/q=6\/2000<=q) O w y.2.1 y.2.2.1/\Kk B y.2.1 y.2.2.1/\TuI y.2.1 y.2.2.1 sb nv tv fv bv sr tr many rows.length m (nxD rows) ms c5/\JI yZ 22 1 y.2.1 y.2.2.1 2000 d' y.2.2.2/\y.2.2.2.length=rows.length/\∀t,t<rows.length->JI aO 3 1 y.2.1 y.2.2.1 (3000+t) (nth y.2.2.2 t) (dK y.1 (fun x=>nxD rows x m) t)) (fun y=>rows.length-y.1) (0,O3,w3,Jr rows.length (nS)) (⟨J0 _,b8.trans (d7.mono (fun _ h=>zo) zd),g0,e1,d5,by simp,fun t ht=>by rw[aB (by simpa using ht)];simp only[List.getElem_replicate];exact JC _ _ _ _ _ _⟩) ?_;rintro⟨i,O4,w4,bs⟩ ⟨hi,b7,d8,a8,a0,b1,a6⟩;dsimp only at hi b7 d8 a8 a0 b1 a6 ⊢;have c8:=b4.upd a' b7;refine zh ?_;refine zC ?_ ?_
  ·intro b2;replace b2:i<rows.length:=dT b2;obtain⟨d2,b0⟩:=c9 i b2;have d1:=d2.upd b0 b7;obtain⟨r1,r2⟩:=hr.row i b2;obtain⟨to,b5⟩:∃to,to=nxD rows i m:=⟨_,rfl⟩
   have c':to<rows.length:=by rw[b5];exact r2 m c6
   have m1:w4.cell? (adr nv 1 i)=some (nth vs i):=by have:=c8.cell (i:=i) (j:=0) zo rfl;rwa[ax]at this
   refine zh ?_;have k1:w4.drew.cell? (adr (nth vs i) 1 m)=some (nI (to:Int)):=by have:=d1.cell (i:=m) (j:=0) zo rfl;rw[ax]at this;rw[b5];exact this
   have g1:w4.drew.cell? (adr d' 1 to)=some (nth bs to):=by have:=a0.sl.cell (i:=to) (j:=0) zo rfl;rwa[ax]at this
   have f7:Jl (fun _=>False) O4 w4 O4 w4.drew:=aa (fun h=>h) O4 (Jk w4).drew;refine aG (fun W=>W.cell? (adr (nth vs i) 1 m)=some (nI (to:Int))) 17 rfl zk ?_;refine zrm 0 rfl k1 rfl ?_;refine zrm 1 rfl k1 rfl ?_;refine zrm 2 rfl k1 rfl ?_;refine zr 3 rfl k1 (fun _=>ai d1.sh ln (Jm _) rfl rfl m rfl zo) ?_;refine zt 4 rfl k1 (fun w1 c7=>RV.ld c7 rfl) ?_;refine zrm 5 rfl k1 rfl ?_;refine zrm 6 rfl k1 rfl ?_;refine zrm 7 rfl k1 rfl ?_;refine zr 8 rfl k1 (fun _=>ai d1.sh ln (Jm _) rfl rfl m rfl zo) ?_;refine zt 9 rfl k1 (fun w1 c7=>RV.ld c7 rfl) ?_;refine zr 10 rfl k1 (fun _=>ai a0.sl.sh JD (L5 _) rfl rfl to rfl zo) ?_;refine zrm 12 rfl k1 rfl ?_;refine bQ 11 13 kL (enc:=aO) i rfl rfl zk zk zk zk (fun W hE=>Lj (hE.cell g1) (isAgg22 _) rfl) (fun W hE=>hE.cell k1) rfl rfl rfl zd rfl rfl rfl rfl rfl ?_;intro g3 w5 d0 g2;have f6:Jl (fun _=>False) O4 w4.drew O4 w5:=aa (fun h=>h) O4 g2;have a4:=f7.trans f6;have g6:=A6 i (fun x=>nxD rows x m) to;refine J9 14 zk rfl ?_;refine aC kL ((a6 to c').upd a4 zo (fun h=>h)) (d8.upd a4) d0 (by simp) rfl rfl (by simp) (by simp[J1]) (by rw[J8];omega) (by rw[J8];omega) zo rfl ?_;intro v6 w6 O6 e0 a5 f9
   have a7:Jl (fun q=>q=1\/q=5\/q=6\/2000<=q) O w O6 w6:=(b7.trans (a4.mono (fun _ h=>h.elim) zd)).trans (a5.mono (fun _ h=>zo) zd);have k6:w6.cell? (adr (nth vs i) 1 m)=some (nI (to:Int)):=by have:=(d2.upd b0 a7).cell (i:=m) (j:=0) zo rfl;rw[ax]at this;rw[b5];exact this
   have d4:=(a0.upd a4 zd (fun h=>h)).upd a5 zd zo;refine zh ?_;refine ae (k6) ?_;refine zr 15 rfl (k6) (fun _=>ai a0.sl.sh JD (L5 _) rfl rfl to rfl zo) ?_;refine J9 16 zk rfl ?_;refine Kq d4 to zo v6 (L5 _) e0.one zd rfl rfl rfl rfl ?_;intro w7 d3 b6;have b9:Jl (fun q=>q=1\/q=5\/q=6\/2000<=q) O w O6 w7:=a7.trans (b6.mono (fun _ h=>zo) zd);have k7:w7.cell? (adr (nth vs i) 1 m)=some (nI (to:Int)):=by have:=(d2.upd b0 b9).cell (i:=m) (j:=0) zo rfl;rw[ax]at this;rw[b5];exact this
   refine zh ?_;refine ae (k7) ?_
   refine JZ zk ?_;refine zh ?_
   refine zxd (i+1,O6,w7,bs.set to v6) (⟨b2,b9,f9.upd b6,((a8.upd a4 (fun h=>h) (fun h=>h) (fun h=>h)).upd a5 zo zo zo).upd b6 zd zd zd,d3,by dsimp only;rw[Jj];exact b1,fun t ht=>?_⟩)
   ·dsimp only;rw[yw b2,aQ zo,<-b5]
    by_cases e:t=to
    ·subst e;rw[if_pos rfl,if_pos rfl];exact e0.upd b6 zo zo
    rw[if_neg e,if_neg (fun h=>e h.symm),Jw];exact(((a6 t ht).upd a4 zo (fun h=>h)).upd a5 zo zo).upd b6 zo zo
  intro e9;obtain rfl:i=rows.length:=dF e9;obtain⟨ba,bc,e',_⟩:=a0.sl.shape;subst e';have e7:=a8.len;have f4:w4.cell? (nA sb 2)=some fv:=a8.blk.cell 2 rfl;refine zh ?_;refine Ke GH a8.row d8 ((.slice ba bs.length bc:ix)) (fun _=>rfl) rfl rfl rfl (by simp[J1]) zo zo zo zd rfl rfl ?_;intro b' w5 O5 a9 b3 f';have d6:=a8.blk.upd b3 zd zd;refine zh ?_;refine aj (j:=2) d6 rfl (sizeOf203 _) a9.one rfl rfl rfl ?_;have a5:Jl (fun j=>j=1) O5 w5 O5 (w5.setCell ⟨sb,2,none⟩ b'):=Kc zd d6.tag rfl;have f3:Kg O5 (w5.setCell ⟨sb,2,none⟩ b') 1 sb #[nv,tv,b',bv,.map (some sr),.map (some tr),nI ((many:Nat):Int)] 205:=d6.set 2 _;generalize w5.setCell ⟨sb,2,none⟩ b'=w6 at *;have a7:Jl (fun q=>q=1\/q=5\/q=6\/2000<=q) O w O5 w6:=(b7.trans (b3.mono (fun _ h=>zo) zd)).trans (a5.mono (fun _ h=>zo) zd);obtain⟨f,hf⟩:∃f:Nat->Nat,f=fun t=>if 2000<=t then 5 else t:=⟨_,rfl⟩
  have f2:∀t,t<2000->f t=t:=fun t ht=>by rw[hf];exact if_neg zo
  have f5:∀t,2000<=t->f t=5:=fun t ht=>by rw[hf];exact if_pos ht
  refine zh ?_;refine zxd (m+1,reF f O5,w6,b',ms++[.slice ba bs.length bc],c5++[bs]) (⟨c6,a7.re f (f2 0 zd) (fun b _=>f2 _ (hT b)),(f'.upd a5).re f (f2 0 zd),⟨f3.re f (f2 1 zd),(a9.upd a5 zd zd).re f (f2 6 zd),by simp[e7],by simp[a8.lenv],fun j hj=>?_⟩⟩)
  ·have e5:=a8.lenv;rw[aA,aA]
   by_cases e:j<m
   ·rw[if_pos zo,if_pos zo];obtain⟨a1,a2,a3⟩:=a8.at_ j e;exact⟨((a1.upd b3 zd zd).upd a5 zd zd).re f (f2 5 zd),a2,fun t ht=>(((a3 t ht).upd b3 zd zd).upd a5 zd zd).re f (f2 5 zd)⟩
   obtain rfl:j=m:=zo;rw[if_neg zo,if_neg zo,show j-ms.length=0 from by omega,show j-c5.length=0 from by omega,ay,ay];exact⟨((a0.upd b3 zd zd).upd a5 zd zd).re f (f5 _ zd),b1,fun t ht=>(((a6 t ht).upd b3 zo zo).upd a5 zo zo).re f (f5 _ zo)⟩
 intro e8;obtain rfl:m=37:=dF e8;refine zh ?_;refine aH rfl (⟨reF (Fe 6 5) O2,fv,b8.re _ rfl (fun b _=>qI (f8 b)),d9.re _ rfl,hI.blk.re _ rfl,⟨ms,c5,hI.row.re _ rfl,hI.len,fun m hm=>⟨(hI.at_ m hm).1.re _ rfl,(hI.at_ m hm).2.1,fun t ht=>((hI.at_ m hm).2.2 t ht).re _ rfl⟩⟩⟩)
end Go.Proofs.YtjemhjcngaokpaaGreatDoor
end
namespace Go.VL
theorem Fits.look{N:Nat}{a:MB}{st a0:St}(h:Fits N a st)(hs:∀t,cA a0 t=cA st t):Fits N a a0:=⟨h.size,h.defers,fun t v hv=>h.get t v ((hs t).symm.trans hv)⟩
theorem fw{d1 d2 d3:Nat}(v1 v2 v3:ix)(st:St)(a2:Kx d1 d2=false)(a1:Kx d1 d3=false)(a0:Kx d2 d3=false)(t:Nat):
  (cA ((d3,v3)::(d2,v2)::(d1,v1)::st) t=cA ((d2,v2)::(d3,v3)::(d1,v1)::st) t)/\(cA ((d3,v3)::(d2,v2)::(d1,v1)::st) t=cA ((d3,v3)::(d1,v1)::(d2,v2)::st) t)/\
  (cA ((d3,v3)::(d2,v2)::(d1,v1)::st) t=cA ((d1,v1)::(d3,v3)::(d2,v2)::st) t)/\(cA ((d3,v3)::(d2,v2)::(d1,v1)::st) t=cA ((d2,v2)::(d1,v1)::(d3,v3)::st) t)/\(cA ((d3,v3)::(d2,v2)::(d1,v1)::st) t=cA ((d1,v1)::(d2,v2)::(d3,v3)::st) t):=by
 simp only[cA]
 cases h1:Kx d1 t<;>cases h2:Kx d2 t<;>cases h3:Kx d3 t<;>simp only[cond_true,cond_false,and_self] <;>
  first
  |(have e1:=JM h1;have e2:=JM h2;subst e1;subst e2;rw[Lh]at a2;cases a2)
  |(have e1:=JM h1;have e2:=JM h3;subst e1;subst e2;rw[Lh]at a1;cases a1)
  |(have e1:=JM h2;have e2:=JM h3;subst e1;subst e2;rw[Lh]at a0;cases a0)
theorem BM{P:KO}{N:Nat}{ops:Array Lp}{S:ka->Prop}{Q:M4->MB->ka->Prop}{st:St}{w:ka}{a1:Nat}{a0:Array Bool}(i j k:Nat){o o' o2:Lp}(hr:JJ .any ops a0=[i,j,k])(hi:ops[i]? = some o)(hj:ops[j]? = some o')(hk:ops[k]? = some o2) 
  (h:WL P N ops (rR P ops S Q a1 (a0.setIfInBounds i true)) [o] st w) (h':WL P N ops (rR P ops S Q a1 (a0.setIfInBounds j true)) [o'] st w) (h2:WL P N ops (rR P ops S Q a1 (a0.setIfInBounds k true)) [o2] st w):WH P N ops S Q (a1+1) a0 st w:=
 WH.all [i,j,k] hr (by simp) fun m hm q hq=>by
  simp only[Ji,List.not_mem_nil,or_false]at hm
  rcases hm with rfl|rfl|rfl
  ·rw[hi]at hq;cases hq;exact h
  ·rw[hj]at hq;cases hq;exact h'
  rw[hk]at hq;cases hq;exact h2
theorem yU{P:KO}{N:Nat}{ops:Array Lp}{S:ka->Prop}{Q:M4->MB->ka->Prop}{st:St}{w:ka}{b9:Nat}{a0:Array Bool}{T E T2 T3:Ki}{a5:Nat}{x y:Lz} 
  {t t2 t3:Ki} {p p2 p3:String} {e e2 e3:Array Mz} {d1 d2 d3:Nat} (i j k:Nat) (he:LQ P T E 1 a5) {α:Type} {val:α->ix} (z0:α) (b1:(P.info? E).bind (·.zero)=some (val z0)) (h1:∀a,(val a).oneCell'=true)
  {κ ν κ' ν':Type} (kv:κ->ix) (vv:ν->ix) (a8:κ'->ix) (a6:ν'->ix) {B:Nat} {O:Nat->Nat} (r:Kk B O w) (g1 g2 g3:Nat) (a3:g1≠0) (a2:g2≠0) (a1:g3≠0) (b0:g1≠g2) (a':g1≠g3) (a9:g2≠g3) (n:Nat)
  (hi:ops[i]? = some ⟨some d1,.makeSlice T x y,t,p,e,none⟩) (hj:ops[j]? = some ⟨some d2,.makeMap T2 none,t2,p2,e2,none⟩) (hk:ops[k]? = some ⟨some d3,.makeMap T3 none,t3,p3,e3,none⟩)
  (hr:JJ .any ops a0=[i,j,k]) (d5:JJ .any ops (a0.setIfInBounds i true)=[j,k]) (d4:JJ .any ops (a0.setIfInBounds j true)=[i,k]) (d0:JJ .any ops (a0.setIfInBounds k true)=[i,j])
  (b4:JJ .any ops ((a0.setIfInBounds i true).setIfInBounds j true)=[k]) (b3:JJ .any ops ((a0.setIfInBounds i true).setIfInBounds k true)=[j]) (b2:JJ .any ops ((a0.setIfInBounds j true).setIfInBounds k true)=[i])
  (c':(a0.setIfInBounds j true).setIfInBounds i true=(a0.setIfInBounds i true).setIfInBounds j true) (c9:(a0.setIfInBounds k true).setIfInBounds i true=(a0.setIfInBounds i true).setIfInBounds k true) (c8:(a0.setIfInBounds k true).setIfInBounds j true=(a0.setIfInBounds j true).setIfInBounds k true)
  (q1:((a0.setIfInBounds i true).setIfInBounds k true).setIfInBounds j true=((a0.setIfInBounds i true).setIfInBounds j true).setIfInBounds k true) (q2:((a0.setIfInBounds j true).setIfInBounds k true).setIfInBounds i true=((a0.setIfInBounds i true).setIfInBounds j true).setIfInBounds k true)
  (hS:∀O' W,Jl (fun q=>q=g1\/q=g2\/q=g3) O w O' W->S W) {m:Int} (hx:∀l,evs ((d2,l)::st) [x,y]=some [nI m,nI m]/\evs ((d3,l)::st) [x,y]=some [nI m,nI m]/\evs st [x,y]=some [nI m,nI m]/\(∀l',evs ((d3,l')::(d2,l)::st) [x,y]=some [nI m,nI m])/\∀l',evs ((d2,l')::(d3,l)::st) [x,y]=some [nI m,nI m])
  (hm:m=n) (hb:a5*n<=281474976710656) (b8:n<=9223372036854775807) (b7:KU d1 N=true) (b6:KU d2 N=true) (b5:KU d3 N=true) (c6:Kx d1 d2=false) (c5:Kx d1 d3=false) (b':Kx d2 d3=false)
  (h:∀bv sr tr W O',JI (fun x=>[val x]) E 1 O' W g1 bv (Jr n z0)->JU kv vv O' W g2 sr []->JU a8 a6 O' W g3 tr []->Jl (fun q=>q=g1\/q=g2\/q=g3) O w O' W->Kk B O' W->
   WH P N ops S Q b9 (((a0.setIfInBounds i true).setIfInBounds j true).setIfInBounds k true) ((d3,.map (some tr))::(d2,.map (some sr))::(d1,bv)::st) W):WH P N ops S Q (b9+3) a0 st w:=by
 have two:∀ {a7:St} {m:Int},evs a7 [x,y]=some [nI m,nI m]->ev a7 x=some (nI m)/\ev a7 y=some (nI m):=fun {a7 m} h=>by
  simp only[evs]at h
  cases h1:ev a7 x<;>cases h2:ev a7 y<;>rw[h1,h2]at h<;>simp at h ⊢
  exact h
 have c7:¬(fun q=>q=g1\/q=g2\/q=g3) 0:=by rintro(h|h|h)<;>omega
 have o1:∀ {O O':Nat->Nat} {w w':ka},Jl (fun q=>q=g1) O w O' w'->Jl (fun q=>q=g1\/q=g2\/q=g3) O w O' w':=fun h=>h.mono (fun _ h=>.inl h) c7
 have o2:∀ {O O':Nat->Nat} {w w':ka},Jl (fun q=>q=g2) O w O' w'->Jl (fun q=>q=g1\/q=g2\/q=g3) O w O' w':=fun h=>h.mono (fun _ h=>.inr (.inl h)) c7
 have o3:∀ {O O':Nat->Nat} {w w':ka},Jl (fun q=>q=g3) O w O' w'->Jl (fun q=>q=g1\/q=g2\/q=g3) O w O' w':=fun h=>h.mono (fun _ h=>.inr (.inr h)) c7
 refine BM i j k hr hi hj hk ?_ ?_ ?_
 ·refine dd he z0 b1 h1 r g1 a3 n (two ((hx default).2.2.1)).1 (two ((hx default).2.2.1)).2 hm hm hb b8 b7 fun wr Or vr _ fr ur rr _=>J6 (ae (hS Or wr (o1 ur)) ?_)
  refine bL j k d5 hj hk ?_ ?_
  ·refine aS kv vv rr g2 a2 b6 fun va wa Oa fa ua ra=>J6 (ae (hS Oa wa ((o1 ur).trans (o2 ua))) ?_)
   refine J9 k b4 hk ?_;refine aS a8 a6 ra g3 a1 b5 fun vb wb Ob fb ub rb=>J6 (ae (hS Ob wb (((o1 ur).trans (o2 ua)).trans (o3 ub))) ?_)
   exact h vr va vb wb Ob ((fr.upd ua a3 b0).upd ub a3 a') (fa.upd ub a2 a9) fb (((o1 ur).trans (o2 ua)).trans (o3 ub)) rb
  refine aS a8 a6 rr g3 a1 b5 fun vb wb Ob fb ub rb=>J6 (ae (hS Ob wb ((o1 ur).trans (o3 ub))) ?_)
  refine J9 j b3 hj ?_;refine aS kv vv rb g2 a2 b6 fun va wa Oa fa ua ra=>J6 (ae (hS Oa wa (((o1 ur).trans (o3 ub)).trans (o2 ua))) ?_)
  exact by rw[q1];exact fun ac a4=>h vr va vb wa Oa ((fr.upd ub a3 a').upd ua a3 b0) fa (fb.upd ua a1 (fun h=>a9 h.symm)) (((o1 ur).trans (o3 ub)).trans (o2 ua)) ra ac (a4.look fun t=>(fw vr (.map (some va)) (.map (some vb)) st c6 c5 b' t).1)
 ·refine aS kv vv r g2 a2 b6 fun va wa Oa fa ua ra=>J6 (ae (hS Oa wa (o2 ua)) ?_)
  refine bL i k d4 hi hk ?_ ?_
  ·refine dd he z0 b1 h1 ra g1 a3 n (two ((hx _).1)).1 (two ((hx _).1)).2 hm hm hb b8 b7 fun wr Or vr _ fr ur rr _=>J6 (ae (hS Or wr ((o2 ua).trans (o1 ur))) ?_)
   refine J9 k (by rw[c'];exact b4) hk ?_;refine aS a8 a6 rr g3 a1 b5 fun vb wb Ob fb ub rb=>J6 (ae (hS Ob wb (((o2 ua).trans (o1 ur)).trans (o3 ub))) ?_)
   exact by rw[c'];exact fun ac a4=>h vr va vb wb Ob (fr.upd ub a3 a') ((fa.upd ur a2 (fun h=>b0 h.symm)).upd ub a2 a9) fb (((o2 ua).trans (o1 ur)).trans (o3 ub)) rb ac (a4.look fun t=>(fw vr (.map (some va)) (.map (some vb)) st c6 c5 b' t).2.1)
  refine aS a8 a6 ra g3 a1 b5 fun vb wb Ob fb ub rb=>J6 (ae (hS Ob wb ((o2 ua).trans (o3 ub))) ?_)
  refine J9 i b2 hi ?_;refine dd he z0 b1 h1 rb g1 a3 n (two ((hx _).2.2.2.1 _)).1 (two ((hx _).2.2.2.1 _)).2 hm hm hb b8 b7 fun wr Or vr _ fr ur rr _=>J6 (ae (hS Or wr (((o2 ua).trans (o3 ub)).trans (o1 ur))) ?_)
  exact by rw[q2];exact fun ac a4=>h vr va vb wr Or fr ((fa.upd ub a2 a9).upd ur a2 (fun h=>b0 h.symm)) (fb.upd ur a1 (fun h=>a' h.symm)) (((o2 ua).trans (o3 ub)).trans (o1 ur)) rr ac (a4.look fun t=>(fw vr (.map (some va)) (.map (some vb)) st c6 c5 b' t).2.2.1)
 refine aS a8 a6 r g3 a1 b5 fun vb wb Ob fb ub rb=>J6 (ae (hS Ob wb (o3 ub)) ?_)
 refine bL i j d0 hi hj ?_ ?_
 ·refine dd he z0 b1 h1 rb g1 a3 n (two ((hx _).2.1)).1 (two ((hx _).2.1)).2 hm hm hb b8 b7 fun wr Or vr _ fr ur rr _=>J6 (ae (hS Or wr ((o3 ub).trans (o1 ur))) ?_)
  refine J9 j (by rw[c9];exact b3) hj ?_;refine aS kv vv rr g2 a2 b6 fun va wa Oa fa ua ra=>J6 (ae (hS Oa wa (((o3 ub).trans (o1 ur)).trans (o2 ua))) ?_)
  exact by rw[c9,q1];exact fun ac a4=>h vr va vb wa Oa (fr.upd ua a3 b0) fa ((fb.upd ur a1 (fun h=>a' h.symm)).upd ua a1 (fun h=>a9 h.symm)) (((o3 ub).trans (o1 ur)).trans (o2 ua)) ra ac (a4.look fun t=>(fw vr (.map (some va)) (.map (some vb)) st c6 c5 b' t).2.2.2.1)
 refine aS kv vv rb g2 a2 b6 fun va wa Oa fa ua ra=>J6 (ae (hS Oa wa ((o3 ub).trans (o2 ua))) ?_)
 refine J9 i (by rw[c8];exact b2) hi ?_;refine dd he z0 b1 h1 ra g1 a3 n (two ((hx _).2.2.2.2 _)).1 (two ((hx _).2.2.2.2 _)).2 hm hm hb b8 b7 fun wr Or vr _ fr ur rr _=>J6 (ae (hS Or wr (((o3 ub).trans (o2 ua)).trans (o1 ur))) ?_)
 exact by rw[c8,q2];exact fun ac a4=>h vr va vb wr Or fr (fa.upd ur a2 (fun h=>b0 h.symm)) ((fb.upd ua a1 (fun h=>a9 h.symm)).upd ur a1 (fun h=>a' h.symm)) (((o3 ub).trans (o2 ua)).trans (o1 ur)) rr ac (a4.look fun t=>(fw vr (.map (some va)) (.map (some vb)) st c6 c5 b' t).2.2.2.2)
theorem ud{P:KO}{N:Nat}{ops:Array Lp}{S:ka->Prop}{Q:M4->MB->ka->Prop}{st:St}{w:ka}{a3:Nat}{a1:Array Bool}{α:Type}(f:α->St)(g:α->ka)(I:α->Prop)(a0:Array Bool)(a2:Nat) 
 (h1:(∀x,I x->WH P N ops S Q a2 a0 (f x) (g x))->WH P N ops S Q a3 a1 st w) (h2:∀x,I x->WH P N ops S Q a2 a0 (f x) (g x)):WH P N ops S Q a3 a1 st w:=h1 h2
theorem WH.leaf{P:KO}{N:Nat}{ops:Array Lp}{S:ka->Prop}{Q:M4->MB->ka->Prop}{st a3:St}{w w':ka}{a2:Nat}{a1 a0:Array Bool}(h:WH P N ops S Q a2 a0 a3 w')(hl:a1=a0)(hc:Cov st a3)(hw:w'=w):WH P N ops S Q a2 a1 st w:=by
 subst hl;subst hw;exact fun a ha=>h a (ha.cov hc)
end Go.VL
namespace Go.Proofs.YtjemhjcngaokpaaGreatDoor
theorem FH{E:List KVR}(h:(E.map (·.1)).Nodup){j:Nat}(hj:j<E.length):iU E (nth E j).1=some j:=by
 rw[<-ec];refine JA.2 ⟨by simpa using hj,by simp[aB hj],fun i hi=>?_⟩;have:=Kr.1 h i j (by simp;omega) (by simpa using hj) hi;simp only[LD]at this ⊢;rw[aB hj];simpa using this
theorem D7{E:List KVR}(h:(E.map (·.1)).Nodup){j:Nat}(hj:j<E.length):dp E (nth E j).1=(nth E j).2.2/\BY E (nth E j).1=(nth E j).2.1:=by
 unfold dp BY;rw[kU,FH h hj];simp only[Lw,List.getElem?_eq_getElem hj,Ly,Lv,aB hj,and_self]
structure BlI(w0:ka)(nv tv:ix)(rows:List (List Nat))(tls:List Nat)(sb:Nat)(fv bv:ix)(sr tr tb b0 m0:Nat)(O:Nat->Nat)(W:ka)(bl:List Nat)(E:List KVR)(td:List ((Int×Int)×Bool))(many:Nat):Prop where
 upd:Jl (fun q=>1<=q) (fun _=>0) w0 O W
 rng:Kk w0.heap.size O W
 sp:SpO O W sb nv tv fv bv sr tr rows.length (nxD rows) bl E td many
 tb:Kg O W 8 tb #[nI (b0:Nat),nI (m0:Nat)] 206
 low:∀q,O q<2000
def BlT(rows:List (List Nat))(a0:List Nat)(b0 m0:Nat)(fl:Bool)(bl:List Nat)(E:List KVR)(td:List ((Int×Int)×Bool))(many:Nat):Prop:=
 (fl=true->∃td0,BO (nxD rows) (nth a0) rows.length bl E td0 many/\td=pc td0 ((b0:Int),(m0:Int))/\b0<many/\m0<37)/\(fl=false->BO (nxD rows) (nth a0) rows.length bl E [] many)
structure BiI(w0:ka)(nv tv:ix)(rows:List (List Nat))(tls:List Nat)(sb:Nat)(fv bv:ix)(sr tr tb b0 m0 r q many0 M:Nat)(bl0:List Nat)(G:List KVR)(O:Nat->Nat)(W:ka)(left:List (Int×ix))(cur:Option (Int×ix))(bl:List Nat)(E:List KVR)(td:List ((Int×Int)×Bool))(many:Nat):Prop where
 upd:Jl (fun q=>1<=q) (fun _=>0) w0 O W
 rng:Kk w0.heap.size O W
 sp:SpO O W sb nv tv fv bv sr tr rows.length (nxD rows) bl E td many
 tb:Kg O W 8 tb #[nI (b0:Nat),nI (m0:Nat)] 206
 rg:Mv (fun k:Int=>nI k) (fun v:ix=>v) O W 2000 2001 r q left cur
 gr:∀k,k<G.length->(nth G k).1∈left.map (·.1)->JI aO 3 1 O W (3000+k) (nth G k).2.1 (nth G k).2.2
 bi:BI (nxD rows) (nth tls) rows.length bl0 m0 b0 many0 left bl E td many
 ms:(rows.length-many)*37+td.length<=M
 sub:∀e∈left,e∈G.map ti
theorem BX{rows:List (List Nat)}{a0:List Nat}{bl:List Nat}{E:List KVR}{td:List ((Int×Int)×Bool)}{many:Nat}(h:BO (nxD rows) (nth a0) rows.length bl E td many){a2 a1:List ((Int×Int)×Bool)}{k:Int×Int}{x:Bool}(e:td=a2++(k,x)::a1):
  ∃b0 m0:Nat,k=((b0:Int),(m0:Int))/\BlT rows a0 b0 m0 true bl E (pc td k) many/\(pc td k).length+1=td.length:=by
 have hm:(k,x)∈td:=by rw[e];simp
 obtain⟨c,j,h1,h2,h3⟩:=h.tdr _ hm;dsimp only at h3;exact⟨c,j,h3,⟨fun _=>⟨td,h,by rw[h3],h1,h2⟩,fun e=>absurd e zd⟩,xH k x td hm⟩
theorem RightD.nx{rows:List (List Nat)}{a0:List Nat}(h:RightD rows a0):∀p m,p<rows.length->m<37->nxD rows p m<rows.length:=fun p m hp hm=>(h.row p hp).2 m hm
theorem SpO.todoN{S:Nat->Prop}{O O':Nat->Nat}{w w':ka}{sb:Nat}{nv tv fv bv:ix}{sr tr n:Nat}{nx:Nat->Nat->Nat}{bl:List Nat}{E:List KVR}{td a0:List ((Int×Int)×Bool)}{many:Nat}(h:SpO O w sb nv tv fv bv sr tr n nx bl E td many) 
  (u:Jl S O w O' w') (hS:∀k,0<k->k<10+E.length->k≠4->k≠8->k≠9->¬S k) (ht:JU dX Jy O' w' 4 tr a0):SpO O' w' sb nv tv fv bv sr tr n nx bl E a0 many:=
 ⟨h.blk.upd u zd (hS 1 zo zo zo zo zo),h.row.upd u zd (hS 2 zo zo zo zo zo),⟨h.st.map.upd u zd (hS 3 zo zo zo zo zo),fun k hk=>(h.st.row k hk).upd u zo (hS _ zo zo zo zo zo)⟩,ht,h.frm.upd u zd (hS 5 zo zo zo zo zo)⟩
theorem SpO.reN{O:Nat->Nat}{w:ka}{sb:Nat}{nv tv fv bv:ix}{sr tr n:Nat}{nx:Nat->Nat->Nat}{bl:List Nat}{E:List KVR}{td:List ((Int×Int)×Bool)}{many:Nat}(h:SpO O w sb nv tv fv bv sr tr n nx bl E td many) 
  (f:Nat->Nat) (hf:∀t,t<10+E.length->t≠8->t≠9->f t=t):SpO (reF f O) w sb nv tv fv bv sr tr n nx bl E td many:=
 ⟨h.blk.re f (hf 1 zo zo zo),h.row.re f (hf 2 zo zo zo),⟨h.st.map.re f (hf 3 zo zo zo),fun k hk=>(h.st.row k hk).re f (hf _ zo zo zo)⟩,h.todo.re f (hf 4 zo zo zo),h.frm.re f (hf 5 zo zo zo)⟩
def nxF:Nat->Nat:=fun t=>if t=9 then 8 else if t=8 then 0 else if t<2000 then t else 0
theorem Gu{t:Nat}(h:t<2000)(h8:t≠8)(h9:t≠9):nxF t=t:=by unfold nxF;rw[if_neg h9,if_neg h8,if_pos h]
theorem Gt(t:Nat):nxF t<2000:=by unfold nxF;split;omega;split;omega;split<;>omega
theorem te(nv tv:ix)(rows:List (List Nat))(b5:List Nat)(w:ka)(hn:RowsN w nv rows)(m4:Sl fK 1 w tv b5)(hr:RightD rows b5):
  KN JF 74 [.agg #[nv,tv]] w fun v w'=>
   ∃bl,Sl aO 1 w' v bl/\Kw w w'/\bl.length=rows.length/\(∀p q,p<rows.length->q<rows.length->(nth bl p=nth bl q↔Alike (nxD rows) (nth b5) p q))/\∀(B:Nat) (O:Nat->Nat),Kk B O w->Kp O w' v:=by
 have t':=hr.le;have o7:=hr.pos;have e6:=hr.tl;have d9:=hr.nx;have o8:=hn.free;have g2:Kp (fun _=>0) w tv:=m4.free0 fun a=>by simp
 obtain⟨vs,i6,i7,t6,o2⟩:=o8;refine J4 func74 ntmps74 rfl rfl ?_;refine zg ?_;refine aE (ar w) 7 zo rfl rfl ?_;intro db w1 O1 i1 n3 s3 u6;have c0:w1.cell? (nA db 0)=some nv:=i1.cell 0 rfl;have i5:=i6.upd i7 n3;refine zg ?_;refine aG (fun W=>∀j u,[nv,tv][j]? = some u->W.cell? (nA db j)=some u) 10 rfl zk ?_;refine zin i1.drew.cellsAdd fun zS=>?_
 refine zt 0 rfl zS (fun w1 i4=>af (us:=[nv,tv]) i4 (Kb _) (JE _) rfl) ?_;refine zrf 1 rfl zS rfl ?_
 refine zt 2 rfl zS (fun w1 i4=>RV.ld (i4 0 _ rfl) rfl) ?_;refine zr 3 rfl zS (fun _=>bh i5.sh JD rfl) ?_
 refine yU 4 5 6 kL (val:=fun n:Nat=>nI (n:Int)) (0:Nat) zk (fun _=>rfl) (fun k:Int=>nI k) (fun v:ix=>v) dX Jy s3.drew 2 3 4 zd zd zd zd zd zd rows.length rfl rfl rfl zk zk zk zk zk zk zk zk zk zk zk zk (fun O' W u=>(i1.drew.upd u zd zd).cellsAdd) (fun l=>⟨rfl,rfl,rfl,fun _=>rfl,fun _=>rfl⟩) zo zo zo rfl rfl rfl rfl rfl rfl ?_;intro bv sr tr w4 O4 c5 j7 j1 n2 s2;have d3:=i1.drew.upd n2 zd zd;obtain⟨ba,bc,p9,_⟩:=c5.sl.shape;refine zr 7 rfl (d3.cellsAdd) (fun _=>RV.build (cells:=#[nv,tv,nS,bv,.map (some sr),.map (some tr),nI 0]) Ih (zeroValue205 _) rfl (by rw[p9];rfl)) ?_
 refine J9 8 zk rfl ?_;refine aE s2 1 zd rfl rfl ?_
 intro sb w5 O5 r6 d' s1 u5;refine zg ?_;refine ae ((d3.upd d' zd zd).cellsAdd) ?_;have f9:=c5.upd d' zd zd;have j6:=j7.upd d' zd zd;have j0:=j1.upd d' zd zd;have l5:Jl (fun q=>1<=q) (fun _=>0) w O5 w5:=((n3.mono (fun _ h=>by omega) zd).trans (Upd.ofDrew (n2.mono (fun _ h=>by omega) zd))).trans (d'.mono (fun _ h=>by omega) zd);obtain⟨f,hf⟩:∃f:Nat->Nat,f=fun t=>if t<=7 then t else 0:=⟨_,rfl⟩
 have f7:∀t,t<=7->f t=t:=fun t ht=>by rw[hf];exact if_pos ht
 have s7:∀t,f t<=7:=fun t=>by rw[hf];dsimp only;split<;>omega
 have l2:=l5.re f (f7 0 zd) (fun b hb=>absurd rfl hb);refine zra 9 rfl ((d3.upd d' zd zd).cellsAdd) rfl ?_;refine JZ zk ?_;refine zg ?_;refine zc call113 (uY w.heap.size (reF f O5) w5 sb nv tv bv sr tr b5 (s1.re f (f7 0 zd)) (r6.re f (f7 1 zd)) (by rw[e6];exact f9.re f (f7 2 zd)) ⟨j6.re f (f7 3 zd),fun k hk=>absurd hk (J2 k)⟩ (j0.re f (f7 4 zd)) (m4.upd g2 l2) (g2.upd l2) zo (fun q=>by have:=s7 (O5 q);show f (O5 q)<2000;omega)) ?_;rintro _ w6 ⟨O6,D,bl,E,many,td,r8,s0,q',f8,e',i',hF,hI⟩;have m8:=hF.mi;obtain⟨g,hg⟩:∃g:Nat->Nat,g=fun t=>if t<=4\/10<=t/\t<2000 then t else 0:=⟨_,rfl⟩
 have g1:∀t,(t<=4\/10<=t/\t<2000)->g t=t:=fun t ht=>by rw[hg];exact if_pos ht
 have n8:∀t,g t<2000/\g t≠6/\g t≠5:=fun t=>by rw[hg];dsimp only;split<;>omega
 have g9:=(l2.trans (r8.mono (fun _ h=>by omega) zd)).re g (g1 0 zd) (fun b hb=>absurd rfl hb);have m6:RowsF (reF g O6) w6 nv rows:=hn.free.upd g9;refine zg ?_;refine zc call114 (sY w.heap.size (reF g O6) w6 sb nv tv bv sr tr many rows b5 (s0.re g (g1 0 zd)) (q'.re g (g1 1 zd)) m6 hr (fun q=>(n8 _).1) (fun q=>(n8 _).2.1)) ?_;rintro _ w7 ⟨O7,fv,g5,r',p',k9⟩;obtain⟨f3,m'⟩:∃f:Nat->Nat,f=fun t=>if t<2000 then t else 0:=⟨_,rfl⟩
 have b4:∀t,t<2000->f3 t=t:=fun t ht=>by rw[m'];exact if_pos ht
 have f3lt:∀t,f3 t<2000:=fun t=>by rw[m'];dsimp only;split<;>omega
 have l4:=(g9.trans (g5.mono (fun _ h=>by omega) zd)).re f3 (b4 0 zd) (fun b hb=>absurd rfl hb);have u3:=hF.keys.len;have b8:SpO (reF f3 O7) w7 sb nv tv fv bv sr tr rows.length (nxD rows) bl E td many:=⟨p'.re f3 (b4 1 zd),((f8.re g (g1 2 zd)).upd g5 zd zd).re f3 (b4 2 zd),⟨((e'.map.re g (g1 3 zd)).upd g5 zd zd).re f3 (b4 3 zd),fun k hk=>(((e'.row k hk).re g (g1 _ zo)).upd g5 zo zo).re f3 (b4 _ zo)⟩,((i'.re g (g1 4 zd)).upd g5 zd zd).re f3 (b4 4 zd),k9.re f3 (b4 5 zd)⟩
 rw[e6]at hF;have h6:BO (nxD rows) (nth b5) rows.length bl E td many:=hF.bo hI d9;have g':=r'.re f3 (b4 0 zd);have u0:∀q,reF f3 O7 q<2000:=fun q=>f3lt _
 generalize reF f3 O7=O8 at *;refine zg ?_;refine zc call115 (pL w.heap.size O8 w7 sb tr td g' (.inr ⟨b8.blk.tag,b8.blk.cell 5 rfl⟩) b8.todo) ?_;intro vn w8 j8;have hq:∃b0 m0 fl b',vn=.tuple #[dX ((b0:Nat),(m0:Nat)),.bool fl]/\Jl (fun q=>q=4) O8 w7 O8 w8/\JU dX Jy O8 w8 4 tr b'/\BlT rows b5 b0 m0 fl bl E b' many:=by
  rcases j8 with⟨h0,rfl,h1,h2⟩|⟨d8,k,x,d7,e,rfl,h1,h2⟩
  ·rw[h0]at h2 h6;exact⟨0,0,false,[],rfl,h1,h2,⟨fun e=>absurd e zd,fun _=>h6⟩⟩
  obtain⟨b0,m0,rfl,h3,_⟩:=BX h6 e;exact⟨b0,m0,true,_,rfl,h1,h2,h3⟩
 obtain⟨b0,m0,fl,b',rfl,n1,i9,s6⟩:=hq;refine zg ?_;refine aw (g'.upd n1) 8 zo (K5 _) rfl ?_;intro tb w9 O9 d0 n0 r9 u4;refine zsa (us:=#[nI (b0:Nat),nI (m0:Nat)]) d0 (K6 _) ?_;have e9:=d0.setRow (us:=#[nI (b0:Nat),nI (m0:Nat)]);have d5:Jl (fun k=>k=8) O9 w9 O9 (w9.setRow tb #[nI (b0:Nat),nI (m0:Nat)]):=Jv zd d0.tag rfl;generalize w9.setRow tb #[nI (b0:Nat),nI (m0:Nat)]=w10 at *;have c7:Jl (fun q=>q=4\/q=8) O8 w7 O9 w10:=((n1.mono (fun _ h=>.inl h) zd).trans (n0.mono (fun _ h=>.inr h) zd)).trans (d5.mono (fun _ h=>.inr h) zd);have f6:=b8.todoN c7 zo ((i9.upd n0 zd zd).upd d5 zd zd);have n7:=h6.keys.len;have t9:=h6.blk.many_le;have f3i:∀t,t<10+E.length->t≠8->t≠9->f3 t=t:=fun t h _ _=>b4 t zo
 clear m6 hF hI;refine zg ?_;refine zlp (fun z:(Nat->Nat)×World×List Nat×List KVR×List ((Int×Int)×Bool)×Nat×Nat×Nat×Nat×Bool=>[(3,nP sb),(4,.pointer (some ⟨z.2.2.2.2.2.2.1,0,none⟩)),(5,.bool z.2.2.2.2.2.2.2.2.2)]) (fun z=>z.2.1) (fun z=>BlI w nv tv rows b5 sb fv bv sr tr z.2.2.2.2.2.2.1 z.2.2.2.2.2.2.2.1 z.2.2.2.2.2.2.2.2.1 z.1 z.2.1 z.2.2.1 z.2.2.2.1 z.2.2.2.2.1 z.2.2.2.2.2.1/\BlT rows b5 z.2.2.2.2.2.2.2.1 z.2.2.2.2.2.2.2.2.1 z.2.2.2.2.2.2.2.2.2 z.2.2.1 z.2.2.2.1 z.2.2.2.2.1 z.2.2.2.2.2.1) (fun z=>(rows.length-z.2.2.2.2.2.1)*37+z.2.2.2.2.1.length+z.2.2.2.2.2.2.2.2.2.toNat) (reF f3 O9,w10,bl,E,b',many,tb,b0,m0,fl) (⟨⟨(l4.trans (c7.mono (fun _ h=>by omega) zd)).re f3 (b4 0 zd) (fun b hb=>absurd rfl hb),(r9.upd d5).re f3 (b4 0 zd),f6.reN f3 f3i,e9.re f3 (b4 8 zd),fun q=>f3lt _⟩,s6⟩) ?_;rintro⟨O11,e4,e2,E1,i3,a9,h7,b1,m1,s9⟩ ⟨hI,hT⟩;dsimp only at hI hT ⊢;refine zg ?_
 cases s9 with
 |false=>
  have g3:=hT.2 rfl;have cb:e4.cell? (nA sb 3)=some bv:=hI.sp.blk.cell 3 rfl;refine zFG rfl rfl ?_;refine zvG (RV.ld cb rfl) ?_;refine ah rfl rfl (⟨e2,hI.sp.row.sl,hI.upd.ext,g3.blk.len,fun p q hp hq=>g3.final d9 p q hp hq,fun B O hO=>hI.sp.row.free zd hI.rng hO⟩)
 |true=>
  obtain⟨t3,a5,j2,l1,g0⟩:=hT.1 rfl;have p5:=a5.keys;have p3:=p5.len;have p0:=a5.blk.many_le;have b7:=a5.blk.mem b1 l1;have t0:e4.cell? ⟨h7,0,none⟩=some (nI (b1:Nat)):=hI.tb.cell 0 rfl;have s':e4.cell? ⟨h7,1,none⟩=some (nI (m1:Nat)):=hI.tb.cell 1 rfl;refine zTG rfl rfl ?_;refine zv (fo Ka (Jm _) rfl rfl 0 rfl zd) ?_;refine zv (RV.ld t0 rfl) ?_;refine zv (fo Ka (Jm _) rfl rfl 1 rfl zd) ?_;refine zv (RV.ld s' rfl) ?_;refine zc call116 (uX w.heap.size O11 e4 sb nv tv fv bv sr tr rows.length (nxD rows) e2 E1 i3 a9 b1 m1 hI.rng hI.sp zo g0 (fun x hx=>((b7 x).1 hx).1) zo a5.blk.len (a5.blk.nd b1 l1) hI.low) ?_;rintro _ t2 ⟨r,O12,G,rfl,l3,l8,hG,hL⟩;refine oj hG.map Jq l8 2001 zd zd rfl rfl ?_;intro q m2 O13 o6 p1 g8 l7;have a8:Jl (fun q=>2000<=q) O11 e4 O13 m2:=l3.trans (g8.mono (fun _ h=>by omega) zd);have n6:∀k,k∈(G.map ti).map (·.1)↔k∈G.map (·.1):=fun k=>by rw[LY];rfl
  have s4:((G.map ti).map (·.1)).Nodup:=by rw[LY];exact hL.nd
  obtain⟨M,hM⟩:∃M,M=(rows.length-a9)*37+i3.length:=⟨_,rfl⟩
  refine zg ?_;refine zlp (fun y:(Nat->Nat)×World×List (Int×ix)×Option (Int×ix)×List Nat×List KVR×List ((Int×Int)×Bool)×Nat=>[(3,nP sb),(4,nP h7),(38,nP q)]) (fun y=>y.2.1) (fun y=>BiI w nv tv rows b5 sb fv bv sr tr h7 b1 m1 r q a9 M e2 G y.1 y.2.1 y.2.2.1 y.2.2.2.1 y.2.2.2.2.1 y.2.2.2.2.2.1 y.2.2.2.2.2.2.1 y.2.2.2.2.2.2.2) (fun y=>y.2.2.1.length) (O13,m2,G.map ti,none,e2,E1,i3,a9) (⟨hI.upd.trans (a8.mono (fun _ h=>by omega) zd),l7,hI.sp.upd a8 zo,hI.tb.upd a8 zd zd,o6,fun k hk _=>(hG.row k hk).upd g8 zo zo,?_,Nat.le_of_eq hM.symm,fun e h=>h⟩) ?_
  ·dsimp only;rw[j2];refine a5.take b1 m1 g0 d9 _ (fun k=>?_) s4;rw[n6,hL.key]
   constructor
   ·rintro⟨i,hi,e⟩;obtain⟨h1,h2⟩:=gS.1 hi;exact⟨i,h1,((b7 _).1 h2).2,e⟩
   rintro⟨i,h1,h2,e⟩;exact⟨i,gS.2 ⟨h1,(b7 _).2 ⟨d9 i m1 h1 g0,h2⟩⟩,e⟩
  rintro⟨O14,t1,o1,u7,c8,E2,e5,a0⟩ hJ;dsimp only at hJ ⊢;refine zg ?_;refine qk hJ.rg zd zd rfl rfl ?_ ?_
  ·intro h0;subst h0;have b9:=hJ.bi.done;have k3:=b9.keys.len;have j9:=b9.blk.many_le;refine zg ?_;refine zFG rfl rfl ?_;refine zvG (af (us:=[nI (b1:Nat),nI (m1:Nat)]) hJ.tb.cellsAdd (Le _) (K6 _) rfl) ?_;refine aw hJ.rng 9 zo (K5 _) rfl ?_;intro tc c9 O15 j5 a2 h5 s5;refine zsa (us:=#[nI (b1:Nat),nI (m1:Nat)]) j5 (K6 _) ?_;have j4:=j5.setRow (us:=#[nI (b1:Nat),nI (m1:Nat)]);have a4:Jl (fun k=>k=9) O15 c9 O15 (c9.setRow tc #[nI (b1:Nat),nI (m1:Nat)]):=Jv zd j5.tag rfl;generalize c9.setRow tc #[nI (b1:Nat),nI (m1:Nat)]=d6 at *;have a7:=a2.trans a4;have a1:=hJ.sp.todoN a7 zo ((hJ.sp.todo.upd a7 zd zd));refine zg ?_;refine zc call115 (pL w.heap.size O15 d6 sb tr e5 (h5.upd a4) (.inr ⟨a1.blk.tag,a1.blk.cell 5 rfl⟩) a1.todo) ?_;intro n9 e3 f';have m7:=hJ.ms;have hq:∃b0 m0 fl b',n9=.tuple #[dX ((b0:Nat),(m0:Nat)),.bool fl]/\Jl (fun q=>q=4) O15 d6 O15 e3/\JU dX Jy O15 e3 4 tr b'/\BlT rows b5 b0 m0 fl c8 E2 b' a0/\(rows.length-a0)*37+b'.length+fl.toNat<=M:=by
    rcases f' with⟨h0,rfl,h1,h2⟩|⟨d8,k,x,d7,e,rfl,h1,h2⟩
    ·subst h0;exact⟨0,0,false,[],rfl,h1,h2,⟨fun e=>absurd e zd,fun _=>b9⟩,m7⟩
    obtain⟨b0,m0,rfl,h3,h4⟩:=BX b9 e;exact⟨b0,m0,true,_,rfl,h1,h2,h3,by show _+_+1<=M;omega⟩
   obtain⟨b3,m3,s8,n',rfl,g7,e7,l',o9⟩:=hq;have c':=j4.upd g7 zd zd;refine zg ?_;refine zsa (us:=#[nI (b3:Nat),nI (m3:Nat)]) c' (K6 _) ?_;have j3:=c'.setRow (us:=#[nI (b3:Nat),nI (m3:Nat)]);have g6:Jl (fun k=>k=9) O15 e3 O15 (e3.setRow tc #[nI (b3:Nat),nI (m3:Nat)]):=Jv zd c'.tag rfl;generalize e3.setRow tc #[nI (b3:Nat),nI (m3:Nat)]=w18 at *;have a6:Jl (fun q=>q=4\/q=9) O15 d6 O15 w18:=(g7.mono (fun _ h=>.inl h) zd).trans (g6.mono (fun _ h=>.inr h) zd);have f5:=a1.todoN a6 zo (e7.upd g6 zd zd);have r7:=(hJ.upd.trans (a7.mono (fun _ h=>by omega) zd)).trans (a6.mono (fun _ h=>by omega) zd);refine zg ?_;refine zx (reF nxF O15,w18,c8,E2,n',a0,tc,b3,m3,s8) (⟨⟨r7.re nxF rfl (fun b hb=>absurd rfl hb),((h5.upd a4).upd a6).re nxF rfl,f5.reN nxF (fun t h h8 h9=>Gu zo h8 h9),j3.re nxF rfl,fun q=>Gt _⟩,l'⟩) (by dsimp only;show _<_+1;omega)
  intro d8 k v d7 c9 k0 b6 a2;subst k0;have m9:k∈G.map (·.1):=(n6 k).1 (KE.2 ⟨_,hJ.sub _ (JV _ (K8 ..)),rfl⟩);obtain⟨i0,u1,p4⟩:=(hL.key k).1 m9;obtain⟨kn,p2⟩:∃kn:Nat,k=(kn:Int):=⟨_,p4.symm⟩
  subst p2;obtain⟨e0,p8,p7⟩:=KE.1 (hJ.sub _ (JV _ (K8 ..)));obtain⟨j,hj,p6⟩:=cG p8;subst p6;obtain⟨k4,o3⟩:=KR p7;have m5:=hJ.gr j hj (by rw[k4];simp);obtain⟨h',t7⟩:=D7 hL.nd hj;obtain⟨L,n5⟩:∃L,L=(nth G j).2.2:=⟨_,rfl⟩
  rw[o3,<-n5]at m5;rw[k4,<-n5]at h';have i2:∀x,x∈L↔x<rows.length/\nth e2 x=kn/\nth e2 (nxD rows x m1)=b1:=fun x=>by rw[<-h'];exact hL.mem (fun x hx=>d9 x m1 hx g0) b7 kn x
  have n4:L.Nodup:=by rw[<-h'];exact hL.rnd (a5.blk.nd b1 l1) _
  have l9:L≠[]:=by rw[<-h'];exact hL.ne m9
  obtain⟨k1,u2⟩:=hJ.bi.here i2;have k5:=hJ.bi.keys;have k3:=k5.len;have j9:=hJ.bi.blk.many_le;have g4:=hJ.bi.blk.len;have a3:=hJ.sp.upd a2 zo;have a':=m5.upd a2 zo zo;have c6:=a3.st.at (kn:Int);have o5:=a'.sl.len_le;have o4:=c6.sl.len_le;have cs:c9.cell? (nA sb 4)=some (.map (some sr)):=a3.blk.cell 4 rfl;obtain⟨t5,o0,t4⟩:=qM hJ.bi.nd;refine zg ?_;refine zTG rfl rfl ?_;refine zvG (Ms b6 rfl) ?_;refine zvG (bh a'.sl.sh ln rfl) ?_;refine zvG (RV.ld cs rfl) ?_;refine zv (JW a3.st.map Jq pQ (K4 _) (kn:Int) rfl rfl rfl (lT E2 _)) ?_;refine zvG (bh c6.sl.sh ln rfl) ?_;refine zC ?_ ?_
  ·intro j';replace j':L.length<(dp E2 (kn:Int)).length:=by have:=of_decide_eq_true j';omega
   have k':=hJ.bi.cut d9 a5.blk.alike g0 i2 n4 l9 j' v;refine zg ?_;refine zc call117 (uV w.heap.size O14 c9 sb nv tv fv bv sr tr rows.length (nxD rows) c8 E2 e5 a0 kn (3000+j) v L (hJ.rng.upd a2) a3 a' k5 zo (fun x hx=>by rw[g4];exact((i2 x).1 hx).1) zo k1 (fun x hx=>by rw[g4];exact((hJ.bi.blk.mem kn k1 x).1 hx).1)) ?_;rintro _ d6 ⟨v',O16,a4,l6,l0,d1,f4,k6,e8⟩;have a1:=a3.cut k5 k1 zo a' a4 (fun q h=>h) l0 d1 f4 k6 e8;obtain⟨f,hf⟩:∃f,f=Fe (3000+j) (10+a0):=⟨_,rfl⟩
   have e1:∀t,t≠3000+j->f t=t:=fun t ht=>by rw[hf];exact qI ht
   rw[<-hf]at a1;have b2:=k' v' (decide ((gF (fun x=>nth (cH c8 a0 L) x==a0) (dp E2 (kn:Nat))).length<L.length));have o':=b2.blk.many_le;generalize decide ((gF (fun x=>nth (cH c8 a0 L) x==a0) (dp E2 (kn:Nat))).length<L.length)=lt at a1 b2;have i8:=zu e5 kn a0 lt 37;generalize tdL e5 kn a0 lt 37=td5 at a1 b2 i8;generalize cE (cE E2 (a0:Int) (v,L)) (kn:Int) (v',gF (fun x=>nth (cH c8 a0 L) x==a0) (dp E2 (kn:Nat)))=E3 at a1 b2;generalize cH c8 a0 L=bl3 at a1 b2;have m7:=hJ.ms;have d4:Jl (fun q=>1<=q) (fun _=>0) w O16 d6:=(hJ.upd.trans (a2.mono (fun _ h=>by omega) zd)).trans (a4.mono (fun _ h=>by omega) zo);refine zg ?_;refine zx (reF f O16,d6,d8++d7,some ((kn:Int),v),bl3,E3,td5,a0+1) (⟨d4.re f (e1 0 zo) (fun b hb=>absurd rfl hb),l6.re f (e1 0 zo),a1,((hJ.tb.upd a2 zd zd).upd a4 zd zo).re f (e1 8 zo),(b6.upd a4 zd zd zo zo).re f (e1 _ zo) (e1 _ zo),fun k2 d2 hm=>?_,b2,?_,fun e he=>hJ.sub e ?_⟩) (by dsimp only;simp)
   ·have t8:k2≠j:=fun e=>by
     subst e;exact o0 (by rw[<-k4];exact hm)
    have k7:(nth G k2).1∈(d8++((kn:Int),v)::d7).map (·.1):=by
     simp only[JN,JB,Js,Ji]at hm ⊢
     rcases hm with hm|hm
     ·exact .inl hm
     exact .inr (.inr hm)
    exact(((hJ.gr k2 d2 k7).upd a2 zo zo).upd a4 zo zo).re f (e1 _ zo)
   ·dsimp only;omega
   rcases Js.1 he with he|he
   ·exact K0 _ he
   exact JV _ (Jz _ he)
  intro k8;replace k8:(dp E2 (kn:Int)).length<=L.length:=by have:=of_decide_eq_false k8;omega
  have k':=hJ.bi.skip i2 n4 k8;refine zg ?_;refine zx (O14,c9,d8++d7,some ((kn:Int),v),c8,E2,e5,a0) (⟨hJ.upd.trans (a2.mono (fun _ h=>by omega) zd),hJ.rng.upd a2,a3,hJ.tb.upd a2 zd zd,b6,fun k2 d2 hm=>?_,k',hJ.ms,fun e he=>hJ.sub e ?_⟩) (by dsimp only;simp)
  ·have k7:(nth G k2).1∈(d8++((kn:Int),v)::d7).map (·.1):=by
    simp only[JN,JB,Js,Ji]at hm ⊢
    rcases hm with hm|hm
    ·exact .inl hm
    exact .inr (.inr hm)
   exact(hJ.gr k2 d2 k7).upd a2 zo zo
  rcases Js.1 he with he|he
  ·exact K0 _ he
  exact JV _ (Jz _ he)
end Go.Proofs.YtjemhjcngaokpaaGreatDoor
section
namespace Go.VL
section
variable{κ ν:Type}[DecidableEq κ]{kv:κ→ix}{vv:ν→ix}{P:KO}{N:Nat}{ops:Array Lp}{Q:M4→MB→ka→Prop}{rest:List Lp}{st:St}{w:ka}{t:Ki}{p:String}{e:Array Mz}{x y z:Lz}
theorem WL.insert{T K E:Ki}{O:Nat->Nat}{i r:Nat}{l:List (κ×ν)}(hm:JU kv vv O w i r l)(hT:P.underlying T=some (.map K E))(hK:Mw P K kv)(a0:i≠0) 
  (k:κ) (u:ν) {kx ux:ix} (hx:ev st x=some (.map (some r))) (hy:ev st y=some kx) (hz:ev st z=some ux) (hk:kx=kv k) (hu:ux=vv u)
  (h:∀w',JU kv vv O w' i r (cE l k u)->Jl (fun j=>j=i) O w O w'->WL P N ops Q rest st w'):WL P N ops Q (⟨none,.insert T x y z,t,p,e,none⟩::rest) st w:=by
 subst hk;subst hu;obtain⟨w',h1,h2,h3⟩:=dH hT hK hm a0 k u;exact ir (fun a ha=>by simp only[execOp,ha.ev hx,ha.ev hy,ha.ev hz,LZ,h1,Lo,Sem.run_pure]) (h w' h2 h3)
end
end Go.VL
namespace Go.VL
open Go.Proofs
theorem RowT.freeRe{α:Type}{enc:α->List ix}{E:Ki}{sz B:Nat}{O:Nat->Nat}{w:ka}{i:Nat}{v:ix}{l:List α}(h:JI enc E sz O w i v l)(hi:i≠0)(r:Kk B O w)(f:Nat->Nat)(hf:f i=0):Kp (reF f O) w v:=fun a n c e _=>by
 have h1:=h.1.tag a.block (by subst e;rfl);exact⟨by unfold reF;rw[h1];exact hf,(r.rng a.block (by rw[h1];exact hi)).2⟩
theorem Free.re{O:Nat->Nat}{w:ka}{v:ix}(h:Kp O w v)(f:Nat->Nat)(hf:f 0=0):Kp (reF f O) w v:=fun a n c e hn=>⟨by unfold reF;rw[(h a n c e hn).1];exact hf,(h a n c e hn).2⟩
end Go.VL
namespace Go.Proofs.YtjemhjcngaokpaaGreatDoor
open Go.VL Go.Proofs
set_option maxRecDepth 10000
theorem RwO.re{O:Nat->Nat}{w:ka}{i:Nat}{v:ix}{vs:List ix}{rows:List (List Nat)}(h:RwO O w i v vs rows)(f:Nat->Nat)(h0:f 0=0)(hi:f i=i):RwO (reF f O) w i v vs rows:=
 ⟨h.row.re f hi,h.len,fun k hk=>⟨(h.at_ k hk).1,(h.at_ k hk).2.re f h0⟩⟩
theorem A9{cl:Nat->Nat}{F:List Nat}{s t:Nat}(h:tq cl F s=none):tq cl (F++[s]) t=if cl s=cl t then some F.length else tq cl F t:=by
 unfold tq at h ⊢;rw[KM]
 by_cases e:cl s=cl t
 ·rw[if_pos e];have:KP (fun o=>cl o==cl t) F=none:=by rw[<-e];exact h
  rw[this];simp[JL,e]
 rw[if_neg e]
 cases KP (fun o=>cl o==cl t) F with
 |some k=>simp
 |none=>simp[JL,e]
def NumI(cl:Nat->Nat)(D:List (Int×Int))(F:List Nat):Prop:=∀t,bm D ((cl t:Nat):Int)=(tq cl F t).map fun k:Nat=>(k:Int)
theorem yX(cl:Nat->Nat):NumI cl (cE [] ((cl 0:Nat):Int) 0) [0]:=fun t=>by
 simp only[cE,bm,tq,JL,List.findIdx?_nil]
 by_cases e:cl 0=cl t
 ·rw[if_pos (by rw[e]),if_pos (by simpa using e)];rfl
 rw[if_neg zo,if_neg (by simpa using e)];rfl
theorem NumI.add{cl:Nat->Nat}{D:List (Int×Int)}{F:List Nat}(h:NumI cl D F){s:Nat}(hs:tq cl F s=none):NumI cl (cE D ((cl s:Nat):Int) (F.length:Int)) (F++[s]):=fun t=>by
 rw[aP,A9 hs]
 by_cases e:cl s=cl t
 ·rw[if_pos (by rw[e]),if_pos e];rfl
 rw[if_neg zo,if_neg e];exact h t
theorem uW(nv tv:ix)(rows:List (List Nat))(a':List Nat)(w:ka)(hn:RowsN w nv rows)(i8:Sl fK 1 w tv a')(hr:RightD rows a'):
  KN JF 37 [.agg #[nv,tv]] w fun v w'=>
   ∃cl nv' tv',v=.agg #[nv',tv']/\nv'.oneCell'=true/\tv'.oneCell'=true/\Kw w w'/\(∀p q,p<rows.length->q<rows.length->(cl p=cl q↔Alike (nxD rows) (nth a') p q))/\RowsG w.heap.size w' nv' (cI cl rows a').1/\Sl fK 1 w' tv' (cI cl rows a').2/\Mo w.heap.size tv':=by
 have v1:=hr.le;have n3:=hr.pos;have s7:=hr.tl;have n5:=hr.nx;obtain⟨vs,m9,n0,u',m'⟩:=hn.free;have f6:Kp (fun _=>0) w tv:=i8.free0 fun a=>by simp
 refine J4 func37 ntmps37 rfl rfl ?_;refine zh ?_
 refine aE (ar w) 1 zo rfl rfl ?_;intro db w1 O1 k7 t9 u3 v7;refine aw u3 2 zo (K2 _) rfl ?_
 intro cb w2 O2 k9 r9 r' v6;have g8:=k7.upd r9 zd zd;have i1:Jl (fun q=>1<=q) (fun _=>0) w O2 w2:=(t9.mono (fun _ h=>zo) zd).trans (r9.mono (fun _ h=>zo) zd);refine zh ?_;refine zv (af (us:=[nv,tv]) g8.cellsAdd (Kb _) (JE _) rfl) ?_;refine zc call41 (jJ nv tv rows a' w2 (hn.ext i1.ext) (i8.ext i1.ext) hr) ?_;rintro _ w3 ⟨rfl,u7⟩;have l0:Jl (fun _=>False) O2 w2 O2 w3:=aa (fun h=>h) O2 u7;have g7:=g8.upd l0 zd (fun h=>h);have k8:=k9.upd l0 zd (fun h=>h);have i0:=i1.trans (l0.mono (fun _ h=>h.elim) zd);refine zh ?_;refine zFH rfl rfl ?_;refine zv (af (us:=[nv,tv]) g7.cellsAdd (Kb _) (JE _) rfl) ?_;refine zc call74 (te nv tv rows a' w3 (hn.ext i0.ext) (i8.ext i0.ext) hr) ?_;rintro bv w4 ⟨bl,e0,u6,t8,h5,o7⟩;have l9:Jl (fun _=>False) O2 w3 O2 w4:=aa (fun h=>h) O2 u6;have u2:=(r'.upd l0).upd l9;have g6:=g7.upd l9 zd (fun h=>h);have h0:=k8.upd l9 zd (fun h=>h);have p3:=i0.trans (l9.mono (fun _ h=>h.elim) zd);have o8:Kp O2 w4 bv:=o7 _ _ (r'.upd l0);have t7:∀p q,p<rows.length->q<rows.length->(nth bl p=nth bl q↔Alike (nxD rows) (nth a') p q):=h5;obtain⟨cl,d'⟩:∃cl,cl=nth bl:=⟨_,rfl⟩
 have b0:w4.cell? (adr bv 1 0)=some (nI ((cl 0:Nat):Int)):=by have:=e0.cell (i:=0) (j:=0) zo rfl;rw[ax]at this;rw[d'];exact this
 refine zh ?_;refine aS (fun k:Int=>nI k) (fun v:Int=>nI v) u2 3 zd rfl ?_
 intro r w5 O5 s1 p1 u1;have h3:=e0.upd o8 p1;have v8:w5.cell? (adr bv 1 0)=some (nI ((cl 0:Nat):Int)):=by have:=h3.cell (i:=0) (j:=0) zo rfl;rw[ax]at this;rw[d'];exact this
 refine zh ?_;refine zvH (ai h3.sh ln (Jm _) rfl rfl 0 rfl zo) ?_
 refine WL.insert s1 KW pQ zd ((cl 0:Nat):Int) (0:Int) rfl rfl rfl rfl rfl ?_;intro w6 s0 p0;have e4:=p1.trans p0;have o4:=g6.upd e4 zd zd;have o5:=h0.upd e4 zd zd;have u0:=u1.upd p0;refine zh ?_
 refine bK kL (enc:=aO) u0 4 zd (0:Nat) rfl rfl rfl zd rfl ?_;intro s5 w7 O7 j' o' t';refine zh ?_
 refine aw t' 5 zo (K2 _) rfl ?_;intro ob w8 O8 g0 l' p5 v5;have b9:Jl (fun q=>3<=q) O2 w4 O8 w8:=((e4.mono (fun _ h=>zo) zd).trans (o'.mono (fun _ h=>zo) zd)).trans (l'.mono (fun _ h=>zo) zd);have l3:=(o'.mono (S':=fun q=>q=4\/q=5) (fun _ h=>.inl h) zd).trans (l'.mono (fun _ h=>.inr h) zd);have p9:=s0.upd l3 zd zd;have f9:=j'.upd l' zd zd;have b4:=p3.trans (b9.mono (fun _ h=>zo) zd);have o6:=e0.upd o8 b9;have h4:=o8.upd b9;have d9:=g6.upd b9 zd zd;have g':=h0.upd b9 zd zd;obtain⟨f7,r8⟩:∃f:Nat->Nat,f=fun t=>if t<=7 then t else 0:=⟨_,rfl⟩
 have f7i:∀t,t<=7->f7 t=t:=fun t ht=>by rw[r8];exact if_pos ht
 have f7l:∀t,f7 t<=7:=fun t=>by rw[r8];dsimp only;split<;>omega
 replace p9:=p9.re f7 (f7i 3 zd);replace f9:=f9.re f7 (f7i 4 zd);replace g0:=g0.re f7 (f7i 5 zd);replace d9:=d9.re f7 (f7i 1 zd);replace g':=g'.re f7 (f7i 2 zd);replace p5:=p5.re f7 (f7i 0 zd);replace b4:=b4.re f7 (f7i 0 zd) (fun b hb=>absurd rfl hb);replace h4:=h4.re f7 (f7i 0 zd);have u4:∀b,reF f7 O8 b<=7:=fun b=>f7l _
 generalize reF f7 O8=O8' at *;clear e0 h3 g8 g7 k9 k8 k7 h0 g6 s1 s0 j' l3 o' l' e4 p1 p0 b9 o4 o5;refine zh ?_;refine zlp (fun z:Nat×(Nat->Nat)×World×List (Int×Int)×List Nat×ix×ix×ix×List ix×List (List Nat)×List Nat=>[(1,nP db),(2,nP cb),(3,bv),(4,.map (some r)),(5,z.2.2.2.2.2.1),(6,nP ob),(7,nI z.1)]) (fun z=>z.2.2.1) (fun z=>Jl (fun q=>3<=q) O8' w8 z.2.1 z.2.2.1/\Kk w.heap.size z.2.1 z.2.2.1/\JU (fun k:Int=>nI k) (fun v:Int=>nI v) z.2.1 z.2.2.1 3 r z.2.2.2.1/\NumI cl z.2.2.2.1 z.2.2.2.2.1/\JI aO 3 1 z.2.1 z.2.2.1 4 z.2.2.2.2.2.1 z.2.2.2.2.1/\Kg z.2.1 z.2.2.1 5 ob #[z.2.2.2.2.2.2.1,z.2.2.2.2.2.2.2.1] 72/\RwO z.2.1 z.2.2.1 6 z.2.2.2.2.2.2.1 z.2.2.2.2.2.2.2.2.1 z.2.2.2.2.2.2.2.2.2.1/\JI fK 28 1 z.2.1 z.2.2.1 7 z.2.2.2.2.2.2.2.1 z.2.2.2.2.2.2.2.2.2.2/\LI cl (nxD rows) (nth a') rows.length z.1 z.2.2.2.2.1 z.2.2.2.2.2.2.2.2.2.1 z.2.2.2.2.2.2.2.2.2.2/\ei cl (nxD rows) (nth a') (rows.length+1-z.1) z.1 z.2.2.2.2.1 z.2.2.2.2.2.2.2.2.2.1 z.2.2.2.2.2.2.2.2.2.2=cI cl rows a'/\(∀k,k<z.2.2.2.2.2.2.2.2.2.1.length->Mo w.heap.size (nth z.2.2.2.2.2.2.2.2.1 k))) (fun z=>rows.length-z.1) (0,O8',w8,cE [] ((cl 0:Nat):Int) (0:Int),[0],s5,nS,nS,[],[],[]) (⟨Kf zd _ _,p5,p9,yX cl,f9,g0,⟨JC _ _ _ _ _ _,rfl,fun k hk=>absurd hk (J2 k)⟩,JC _ _ _ _ _ _,rQ n3,rfl,fun k hk=>absurd hk (J2 k)⟩) ?_;rintro⟨i,O9,w9,D,F,j0,i7,f5,i6,a7,i'⟩ ⟨h9,m0,m4,l5,b7,f',c7,d7,f4,i9,g4⟩
 dsimp only at h9 m0 m4 l5 b7 f' c7 d7 f4 i9 g4 ⊢;have v4:=f4.reps.len;have t1:=b7.sl.len_le;have v0:=f4.rl;have s8:=f4.tln;have n2:=c7.len;refine zh ?_;refine zvH (bh b7.sl.sh ln rfl) ?_;refine zC ?_ ?_
 ·intro g5;replace g5:i<F.length:=dT g5;obtain⟨fu,o3⟩:∃fu,rows.length+1-i=fu+1:=⟨rows.length-i,zo⟩
  rw[o3,ei,if_pos g5]at i9;have n':rows.length+1-(i+1)=fu:=zo;have p7:=f4.next g5 n5;obtain⟨p,hp⟩:∃p,p=nth F i:=⟨_,rfl⟩
  have l6:p<rows.length:=by rw[hp];exact f4.reps.lt _ (aI g5)
  rw[<-hp]at i9 p7;have h8:=b4.trans (h9.mono (fun _ h=>zo) zd);have m8:=m9.upd n0 h8;obtain⟨r7,k5⟩:=m' p l6;have v2:=r7.upd k5 h8;obtain⟨s4,u9⟩:=hr.row p l6;have m1:w9.cell? (adr j0 1 i)=some (nI (p:Int)):=by have:=b7.sl.cell (i:=i) (j:=0) g5 rfl;rw[ax]at this;rw[hp];exact this
  have m2:w9.cell? (nA db 0)=some nv:=(d9.upd h9 zd zd).cell 0 rfl;have m3:w9.cell? (adr nv 1 p)=some (nth vs p):=by have:=m8.cell (i:=p) (j:=0) zo rfl;rwa[ax]at this
  refine zh ?_;refine LX zk zk ?_
  refine zh ?_;refine zwH (ai b7.sl.sh ln (Jm _) rfl rfl i rfl zo) ?_
  refine Mf ?_;refine zh ?_
  rw[s4];have n9:=fun m=>qz (p:=p) f4.reps (fun m hm=>n5 p m l6 hm) m
  refine zlp (fun y:Nat×(Nat->Nat)×World×List (Int×Int)×Value×ix=>[(1,nP db),(2,nP cb),(3,bv),(4,.map (some r)),(5,y.2.2.2.2.1),(6,nP ob),(7,nI (i:Nat)),(8,y.2.2.2.2.2),(38,nth vs p),(39,nI (37:Nat)),(40,nI y.1)]) (fun y=>y.2.2.1) (fun y=>y.1<=37/\Jl (fun q=>q=3\/q=4\/q=8) O9 w9 y.2.1 y.2.2.1/\Kk w.heap.size y.2.1 y.2.2.1/\JU (fun k:Int=>nI k) (fun v:Int=>nI v) y.2.1 y.2.2.1 3 r y.2.2.2.1/\NumI cl y.2.2.2.1 (gG cl (nxD rows) p F y.1).1/\JI aO 3 1 y.2.1 y.2.2.1 4 y.2.2.2.2.1 (gG cl (nxD rows) p F y.1).1/\JI aO 3 1 y.2.1 y.2.2.1 8 y.2.2.2.2.2 (gG cl (nxD rows) p F y.1).2) (fun y=>37-y.1) (0,O9,w9.drew,D,j0,nS) (⟨J0 _,aa zd O9 (Jk w9).drew,m0.drew,⟨m4.blk,m4.tag,m4.born⟩,l5,b7.drew,JC _ _ _ _ _ _⟩) ?_;rintro⟨j,O10,m5,D10,b6,rv⟩ ⟨hj,a9,b',b1,c5,a2,a0⟩;dsimp only at hj a9 b' b1 c5 a2 a0 ⊢;have l7:=n9 j hj;have n8:=l7.len;have n7:=l7.reps.len;have l1:=h8.trans (a9.mono (fun _ h=>zo) zd);refine zh ?_
  refine zC ?_ ?_
  ·intro k4;replace k4:j<37:=dT k4;have n6:=r7.upd k5 l1;obtain⟨to,n1⟩:∃to,to=nxD rows p j:=⟨_,rfl⟩
   have s6:to<rows.length:=by rw[n1];exact n5 p j l6 k4
   have k':=o6.upd h4 ((h9.trans (a9.mono (fun _ h=>zo) zd)));have k1:m5.cell? (adr (nth vs p) 1 j)=some (nI (to:Int)):=by have:=n6.cell (i:=j) (j:=0) zo rfl;rw[ax]at this;rw[n1];exact this
   have k2:m5.cell? (adr bv 1 to)=some (nI ((cl to:Nat):Int)):=by have:=k'.cell (i:=to) (j:=0) zo rfl;rw[ax]at this;rw[d'];exact this
   have l8:=c5 to;have e1:gG cl (nxD rows) p F (j+1)=(fnF cl (gG cl (nxD rows) p F j).1 to,(gG cl (nxD rows) p F j).2++[fnI cl (gG cl (nxD rows) p F j).1 to]):=by rw[n1];rfl
   refine zh ?_
   cases h6:tq cl (gG cl (nxD rows) p F j).1 to with
   |some k=>
    rw[h6]at l8;have h1:fnF cl (gG cl (nxD rows) p F j).1 to=(gG cl (nxD rows) p F j).1:=by unfold fnF;rw[h6];rfl
    have h2:fnI cl (gG cl (nxD rows) p F j).1 to=k:=by unfold fnI;rw[h6];rfl
    rw[h1,h2]at e1;refine zvH (cN (u:=.tuple #[nI (k:Int),.bool true]) b1 KW pQ (JS _) ((cl to:Nat):Int) rfl rfl rfl (by rw[l8];rfl)) ?_;refine zFH rfl rfl ?_;refine Ke kL a0 b' ((k:Nat)) (fun _=>rfl) rfl rfl rfl (by simp[J1]) zo zo zo zd rfl rfl ?_;intro m6 wz Oz c8 b8 p4;refine zh ?_;refine zxd (j+1,Oz,wz,D10,b6,m6) (⟨k4,a9.trans (b8.mono (fun _ h=>zo) zd),p4,b1.upd b8 zd zd,by dsimp only;rw[e1];exact c5,by dsimp only;rw[e1];exact a2.upd b8 zd zd,by dsimp only;rw[e1];exact c8⟩)
   |none=>
    rw[h6]at l8;have h1:fnF cl (gG cl (nxD rows) p F j).1 to=(gG cl (nxD rows) p F j).1++[to]:=by unfold fnF;rw[h6];rfl
    have h2:fnI cl (gG cl (nxD rows) p F j).1 to=(gG cl (nxD rows) p F j).1.length:=by unfold fnI;rw[h6];rfl
    rw[h1,h2]at e1;have u5:=c5.add h6;refine zvH (cN (u:=.tuple #[nI 0,.bool false]) b1 KW pQ (JS _) ((cl to:Nat):Int) rfl rfl rfl (by rw[l8];rfl)) ?_;refine zTH rfl rfl ?_;refine zvH (bh a2.sl.sh ln rfl) ?_;refine JK b1 KW pQ zd ((cl to:Nat):Int) (((gG cl (nxD rows) p F j).1.length:Nat):Int) rfl rfl rfl rfl rfl ?_;intro i5 p' a5;have i3:=b'.upd a5;have k0:=a2.upd a5 zd zd;have a8:=a0.upd a5 zd zd;refine zh ?_;refine Ke kL k0 i3 ((to:Nat)) (fun _=>rfl) rfl rfl rfl (by simp[J1]) zo zo zo zd rfl rfl ?_;intro m7 d6 O12 a3 b3 i2;have f8:=a8.upd b3 zd zd;have i4:=p'.upd b3 zd zd;refine zh ?_;refine Ke kL f8 i2 (((gG cl (nxD rows) p F j).1.length:Nat)) (fun _=>rfl) rfl rfl rfl (by simp[J1]) zo zo zo zd rfl rfl ?_;intro m6 wz Oz c8 b8 p4;refine zh ?_;refine zxd (j+1,Oz,wz,cE D10 ((cl to:Nat):Int) (((gG cl (nxD rows) p F j).1.length:Nat):Int),m7,m6) (⟨k4,((a9.trans (a5.mono (fun _ h=>.inl h) zd)).trans (b3.mono (fun _ h=>.inr (.inl h)) zd)).trans (b8.mono (fun _ h=>.inr (.inr h)) zd),p4,i4.upd b8 zd zd,by dsimp only;rw[e1];exact u5,by dsimp only;rw[e1];exact a3.upd b8 zd zd,by dsimp only;rw[e1];exact c8⟩)
  intro t4;obtain rfl:j=37:=dF t4;generalize v3:gG cl (nxD rows) p F 37=RQ at *;obtain⟨F2,r2⟩:=RQ;dsimp only at l7 n8 n7 c5 a2 a0 i9 p7;obtain⟨ra,rc,t0,_⟩:=a0.sl.shape;subst t0
  -- the row is nobody's now
  obtain⟨f,hf⟩:∃f:Nat->Nat,f=Fe 8 0:=⟨_,rfl⟩
  have e5:∀t,t≠8->f t=t:=fun t ht=>by rw[hf];exact qI ht
  have f3:=(h9.trans (a9.mono (S':=fun q=>3<=q) (fun _ h=>zo) zd)).re f (e5 0 zd) (fun b _=>e5 _ (by have:=u4 b;omega));have l4:=b'.re f (e5 0 zd);have s9:=a0.sl;have q':=a0.freeRe zd b' f (by rw[hf];exact Al _ _);replace a2:=a2.re f (e5 4 zd);replace b1:=b1.re f (e5 3 zd);have e9:=(f'.upd a9 zd zd).re f (e5 5 zd);have b5:=(c7.upd a9 zd zd).re f (e5 0 zd) (e5 6 zd);have j5:=(d7.upd a9 zd zd).re f (e5 7 zd);have s':=a0.newV zd b';clear a0;generalize reF f O10=O11 at *;have k6:=d9.upd f3 zd zd;obtain⟨qF,r6⟩:=l7.pre;have n4:nth F2 i=p:=by rw[r6,aA,if_pos g5,hp]
  have hF2l:F.length<=F2.length:=by rw[r6];simp
  have o0:m5.cell? (nA ob 0)=some i7:=e9.cell 0 rfl;refine zh ?_;refine Ke Du b5.row l4 ((.slice ra r2.length rc:ix)) (fun _=>rfl) rfl rfl rfl (by simp[J1]) zo zo zo zd rfl rfl ?_;intro b2 i5 O12 a8 a5 i3;have c':=e9.upd a5 zd zd
  have j8:RwO O12 i5 6 b2 (i6++[.slice ra r2.length rc]) (a7++[r2]):=⟨a8,by simp[n2],fun k hk=>by
   rw[aA,aA]
   by_cases e:k<a7.length
   ·rw[if_pos zo,if_pos e];exact⟨(b5.at_ k e).1.upd (b5.at_ k e).2 a5,(b5.at_ k e).2.upd a5⟩
   have t3:k=a7.length:=by simp at hk;omega
   subst t3;rw[if_neg zo,if_neg e,show a7.length-i6.length=0 from by omega,Ko,ay,ay]
   exact⟨s9.upd q' a5,q'.upd a5⟩⟩
  refine zh ?_;refine aj (j:=0) c' rfl (LK _) a8.one rfl rfl rfl ?_
  have b3:Jl (fun j=>j=5) O12 i5 O12 (i5.setCell ⟨ob,0,none⟩ b2):=Kc zd c'.tag rfl;have e8:Kg O12 (i5.setCell ⟨ob,0,none⟩ b2) 5 ob #[b2,f5] 72:=c'.set 0 _;have j7:=j8.upd b3 zd zd;have i2:=i3.upd b3;generalize i5.setCell ⟨ob,0,none⟩ b2=d6 at *;have a6:=(a5.mono (S':=fun q=>q=5\/q=6) (fun _ h=>.inr h) zd).trans (b3.mono (fun _ h=>.inl h) zd);have j4:=j5.upd a6 zd zd;have a3:=a2.upd a6 zd zd;have i4:=b1.upd a6 zd zd;have d0:=k6.upd a6 zd zd;have d5:=f3.trans (a6.mono (fun _ h=>zo) zd);have j3:=i8.upd f6 (b4.trans (d5.mono (fun _ h=>zo) zd));refine zh ?_;have d1:d6.drew.cell? (nA db 1)=some tv:=d0.cell 1 rfl;have d2:d6.drew.cell? (adr b6 1 i)=some (nI (p:Int)):=by have:=a3.sl.cell (i:=i) (j:=0) zo rfl;rw[ax,n4]at this;exact this
  have d3:d6.drew.cell? (adr tv 1 p)=some (.int .u64 ((nth a' p:Nat):Int)):=by have:=j3.cell (i:=p) (j:=0) zo rfl;rwa[ax]at this
  have d4:d6.drew.cell? (nA ob 1)=some f5:=e8.cell 1 rfl;have o9:Jl (fun _=>False) O12 d6 O12 d6.drew:=aa (fun h=>h) O12 (Jk d6).drew;refine aG (fun W=>W.cell? (nA db 1)=some tv/\W.cell? (adr b6 1 i)=some (nI (p:Int))/\W.cell? (adr tv 1 p)=some (.int .u64 ((nth a' p:Nat):Int))) 14 rfl zk ?_;refine zin ⟨d1,d2,d3⟩ fun zS=>?_
  refine zrf 0 rfl zS rfl ?_;refine zrf 2 rfl zS rfl ?_
  refine zt 3 rfl zS (fun w1 j1=>RV.ld j1.1 rfl) ?_;refine zrm 4 rfl zS rfl ?_
  refine zrm 5 rfl zS rfl ?_;refine zr 6 rfl zS (fun _=>ai a3.sl.sh ln (Jm _) rfl rfl i rfl zo) ?_
  refine zt 7 rfl zS (fun w1 j1=>RV.ld j1.2.1 rfl) ?_;refine zr 8 rfl zS (fun _=>ai j3.sh Lx (sizeOf28 _) rfl rfl p rfl zo) ?_
  refine zt 9 rfl zS (fun w1 j1=>RV.ld j1.2.2 rfl) ?_;refine bQ 1 10 mF (enc:=fK) (nth a' p) rfl rfl zk zk zk zk (fun W hE=>Lj (hE.cell d4) (Mm _) rfl) (fun W hE=>⟨hE.cell d1,hE.cell d2,hE.cell d3⟩) rfl rfl rfl zd rfl rfl rfl rfl rfl ?_
  intro s3 s2 j6 p8;have h7:Jl (fun _=>False) O12 d6 O12 s2:=o9.trans (aa (fun h=>h) O12 p8);refine J9 11 zk rfl ?_;refine aC mF (j4.upd h7 zd (fun h=>h)) (i2.upd h7) j6 (by simp) rfl rfl (by simp) (by simp[J1]) (by rw[J8];omega) (by rw[J8];omega) zd rfl ?_;intro c6 e6 O15 e7 p2 p6;have a4:Jl (fun q=>q=7) O12 d6 O15 e6:=(h7.mono (fun _ h=>h.elim) zd).trans p2;have c9:=e8.upd a4 zd zd;have l2:=d5.trans (a4.mono (fun _ h=>zo) zd);have e1:e6.cell? (nA db 1)=some tv:=(d0.upd a4 zd zd).cell 1 rfl;have e2:e6.cell? (adr b6 1 i)=some (nI (p:Int)):=by have:=(a3.upd a4 zd zd).sl.cell (i:=i) (j:=0) zo rfl;rw[ax,n4]at this;exact this
  have e3:e6.cell? (adr tv 1 p)=some (.int .u64 ((nth a' p:Nat):Int)):=by have:=(i8.upd f6 (b4.trans (l2.mono (fun _ h=>zo) zd))).cell (i:=p) (j:=0) zo rfl;rwa[ax]at this
  refine zh ?_;refine ae (⟨e1,e2,e3⟩) ?_
  refine zrf 12 rfl (⟨e1,e2,e3⟩) rfl ?_;refine J9 13 zk rfl ?_
  refine aj (j:=1) c9 rfl (Ld _) e7.one rfl rfl rfl ?_;have h':Jl (fun j=>j=5) O15 e6 O15 (e6.setCell ⟨ob,1,none⟩ c6):=Kc zd c9.tag rfl;have k3:Kg O15 (e6.setCell ⟨ob,1,none⟩ c6) 5 ob #[b2,c6] 72:=c9.set 1 _;generalize e6.setCell ⟨ob,1,none⟩ c6=w16 at *;have a1:=(a4.mono (S':=fun q=>q=5\/q=7) (fun _ h=>.inr h) zd).trans (h'.mono (fun _ h=>.inl h) zd);have e':=d5.trans (a1.mono (fun _ h=>zo) zd);have g1:w16.cell? (nA db 1)=some tv:=(d0.upd a1 zd zd).cell 1 rfl;have g2:w16.cell? (adr b6 1 i)=some (nI (p:Int)):=by have:=(a3.upd a1 zd zd).sl.cell (i:=i) (j:=0) zo rfl;rw[ax,n4]at this;exact this
  have g3:w16.cell? (adr tv 1 p)=some (.int .u64 ((nth a' p:Nat):Int)):=by have:=(i8.upd f6 (b4.trans (e'.mono (fun _ h=>zo) zd))).cell (i:=p) (j:=0) zo rfl;rwa[ax]at this
  refine zh ?_;refine ae (⟨g1,g2,g3⟩) ?_
  refine JZ zk ?_;refine zh ?_
  refine zxd (i+1,O15,w16,D10,F2,b6,b2,c6,i6++[.slice ra r2.length rc],a7++[r2],i'++[nth a' p]) (⟨e',p6.upd h',i4.upd a1 zd zd,c5,a3.upd a1 zd zd,k3,j7.upd a1 zd zd,e7.upd h' zd zd,p7,by dsimp only;rw[n'];exact i9,fun k hk=>?_⟩);dsimp only at hk ⊢;rw[aA]
  by_cases e:k<i6.length
  ·rw[if_pos e];exact g4 k zo
  rw[if_neg e,show k-i6.length=0 from by simp at hk;omega,ay];exact s'
 intro t5;have t2:=f4.le;obtain rfl:i=F.length:=dF t5;have j9:cI cl rows a'=(a7,i'):=by
  rw[<-i9];obtain⟨fu,o3⟩:∃fu,rows.length+1-F.length=fu+1:=⟨rows.length-F.length,zo⟩
  rw[o3,ei,if_neg zo]
 have o1:=c7.row.one;have o2:=d7.one;have g9:=g'.upd h9 zd zd;refine zh ?_;refine zv (af (us:=[i7,f5]) f'.cellsAdd (Kb _) (JE _) rfl) ?_;refine zsb (us:=#[i7,f5]) g9 (JE _) (by simp only[JP,o1,o2];rfl) ?_;have t6:=g9.setRow (us:=#[i7,f5]);have b8:Jl (fun j=>j=2) O9 w9 O9 (w9.setRow cb #[i7,f5]):=Jv zd g9.tag rfl;have d8:=c7.upd b8 zd zd;have j2:=d7.upd b8 zd zd;refine zh ?_;refine aK rfl rfl (t6.cellsAdd) (Kb _) (JE _) (⟨cl,i7,f5,rfl,o1,o2,((b4.trans (h9.mono (fun _ h=>zo) zd)).trans (b8.mono (fun _ h=>zo) zd)).ext,by rw[d'];exact t7,by rw[j9];exact⟨i6,d8.row.sl,d8.row.newV zd (m0.upd b8),d8.len,fun k hk=>⟨(d8.at_ k hk).1,g4 k hk⟩⟩,by rw[j9];exact j2.sl,j2.newV zd (m0.upd b8)⟩)
end Go.Proofs.YtjemhjcngaokpaaGreatDoor
end
section
namespace Go.VL
section
variable{P:KO}{N:Nat}{st:St}{w:ka}{t:Ki}{x:Lz}
theorem BT{κ ν:Type}{kv:κ->ix}{vv:ν->ix}{T K E:Ki}{O:Nat->Nat}{i r:Nat}{l:List (κ×ν)}(hm:JU kv vv O w i r l)(hu:P.underlying T=some (.map K E))(hx:ev st x=some (.map (some r))):RV P N (.call ⟨.builtin .len,#[x],#[T]⟩) t st w (nI (l.length:Int)):=
 fun a ha a0 p e g=>by
  obtain⟨es,c,h1,h2⟩:=hm.blk;have h3:es.size=l.length:=by have:=congrArg M0 h2;simpa using this
  simp only[execOp,resolve,List.map_toArray,JB,List.map_nil,ha.ev hx];simp[invoke,Go.builtin,MA,run_underlying hu,goInt,getObj,Sem.run,h1,h3]
end
section
variable{P:KO}{N:Nat}{ops:Array Lp}{Q:M4→MB→ka→Prop}{rest:List Lp}{st:St}{w:ka}
variable{t:Ki}{p:String}{e:Array Mz}{d:Nat}
theorem om{T E:Ki}{sz a0:Nat}(he:LQ P T E sz a0){α:Type}(enc:α->List ix){B:Nat}{O:Nat->Nat}(r:Kk B O w)(i:Nat)(a1:i≠0)(hd:KU d N=true) 
  (h:∀v w' O',JI enc E sz O' w' i v []->Jl (fun k=>k=i) O w O' w'->Kk B O' w'->WL P N ops Q rest ((d,v)::st) w'):WL P N ops Q (⟨some d,.buildSlice T 0 #[],t,p,e,none⟩::rest) st w:=by
 obtain⟨a2,z,hi,hz,a4,a5,a3⟩:=he.parts;have u1:=Mg (S:=fun k=>k=i) (fun e=>a1 e.symm) r (.cells #[] E) i;refine WL.val (v:=.slice (some ⟨w.heap.size,0,none⟩) 0 0) (w':=w.alloc (.cells #[] E)) hd (fun a ha=>?_) (h _ _ (lB O w.heap.size i) ⟨⟨?_,fun g hg=>?_⟩,fun c hc=>absurd hc (by simp)⟩ u1 (r.upd u1))
 ·simp[execOp,Instr.buildSlice,run_underlying he.ht,sizeOf,typeInfo,hi,Instr.fill,newRow,newObj,show Array.range 0 = #[]from rfl];rfl
 ·have:=Lu (base:=0) (size:=sz) (e:=E) w #[] 0 (J0 _) (by simp[maxLen]) (by simp);simpa using this
 simp[LO]at hg;subst hg;exact ed _ _ _
end
end Go.VL
namespace Go.Proofs.YtjemhjcngaokpaaGreatDoor
open Go.VL Go.Proofs
set_option maxRecDepth 10000
def jE:List Int->Nat->Nat
 |[],n=>n
 |g::r,n=>if g<0\/(n:Int)<g then 0 else jE r (max n (g.toNat+1))
def gU(l:List Int):Nat:=if l.length=37 then jE l 0 else 0
theorem iG(l:List Int)(sv:ix)(w:ka)(h:Sl encI 1 w sv l): KN JF 46 [sv] w fun v w' => v = .int .i64 ((gU l:Nat):Int) ∧ w' = w := by
  have hl := h.len_le
  refine J4 func46 ntmps46 rfl rfl ?_
  refine zh ?_
  refine zC ?_ ?_
  · intro hne
    refine zh ?_
    refine ah rfl rfl (⟨by unfold gU; rw[if_neg (fun e => by rw[e]at hne; simp at hne)]; rfl, rfl⟩)
  · intro he
    replace he : l.length = 37 := by have : (l.length : Int) = 37 := by simpa using he
                                     omega
    have hm:gU l = jE l 0 := by unfold gU; rw[if_pos he]
    rw[hm]
    refine zh ?_
    refine zlp (fun z:Nat×Nat => [(3, .int .i64 z.2), (9, sv), (10, .int .i64 l.length), (11, .int .i64 z.1)]) (fun z => w) (fun z => z.1 ≤ l.length ∧ z.2 ≤ z.1 ∧ jE (l.drop z.1) z.2 = jE l 0) (fun z => l.length - z.1) (0, 0) (⟨J0 _, J7 _, rfl⟩) ?_
    rintro⟨i, n⟩ ⟨hi, hn, heq⟩
    dsimp only at hi hn heq ⊢
    refine zh ?_
    refine zC ?_ ?_
    · intro hlt
      replace hlt:i < l.length := by have := of_decide_eq_true hlt; omega
      have m1:w.cell? (adr sv 1 i) = some (.int .i64 (nth l i)) := by have := h.cell (i := i) (j := 0) hlt rfl; rwa[ax]at this
      rw[La hlt, ← aB hlt, jE]at heq
      refine zh ?_
      by_cases h0:nth l i < 0
      · rw[if_pos (.inl h0)]at heq
        rw[← heq]
        refine az (d := 17) rfl (b' := true) ((decide_eq_true h0)) ?_
        refine zh ?_
        refine zTH rfl rfl ?_
        refine ah rfl rfl (⟨rfl, rfl⟩)
      · skip
        refine az (d := 17) rfl (b' := false) ((decide_eq_false h0)) ?_
        refine zh ?_
        refine zC ?_ ?_
        · intro h1
          replace h1:(n:Int) < nth l i := of_decide_eq_true h1
          rw[if_pos (.inr h1)]at heq
          rw[← heq]
          refine zh ?_
          refine ah rfl rfl (⟨rfl, rfl⟩)
        · intro h1
          replace h1:¬(n:Int) < nth l i := of_decide_eq_false h1
          rw[if_neg (fun h => h.elim h0 h1)]at heq
          refine zh ?_
          refine zvH (jN rfl rfl) ?_
          rw[show max (n:Int) (nth l i + 1) = ((max n ((nth l i).toNat + 1):Nat):Int)from by omega]
          refine zxd (i + 1, max n ((nth l i).toNat + 1)) (⟨hlt, by dsimp only; omega, heq⟩)
    · intro hge
      obtain rfl:i = l.length := by have := of_decide_eq_false hge; omega
      rw[LG, jE]at heq
      rw[← heq]
      refine zh ?_
      refine ah rfl rfl (⟨rfl, rfl⟩)
abbrev yz(d:ix×ix):List ix:=[d.1,d.2]
def qb(rows:List (List Nat))(m:Nat):List UInt8:=rows.flatMap fun r=>[JG (nth r m / 256),JG (nth r m % 256)]
def nW(tabs:List (List (List Nat)))(m:Nat):List UInt8:=tabs.flatMap fun rows=>qb rows m
theorem kO(rows:List (List Nat))(m:Nat):(qb rows m).length=2*rows.length:=by
 unfold qb
 induction rows with
 |nil=>rfl
 |cons r l ih=>rw[JO,Jn,ih];simp;omega
structure TabsD(w:ka)(sv:ix)(ds:List (ix×ix))(tabs:List (List (List Nat)))(tlss:List (List Nat)):Prop where
 sl:Sl yz 2 w sv ds
 l1:tabs.length=ds.length
 l2:tlss.length=ds.length
 at_:∀i,i<ds.length->RowsN w (nth ds i).1 (nth tabs i)/\Sl fK 1 w (nth ds i).2 (nth tlss i)/\RightD (nth tabs i) (nth tlss i)
theorem TabsD.ext{w w':ka}{sv:ix}{ds:List (ix×ix)}{tabs:List (List (List Nat))}{a0:List (List Nat)}(h:TabsD w sv ds tabs a0)(e:Kw w w'):TabsD w' sv ds tabs a0:=
 ⟨h.sl.ext e,h.l1,h.l2,fun i hi=>⟨(h.at_ i hi).1.ext e,(h.at_ i hi).2.1.ext e,(h.at_ i hi).2.2⟩⟩
theorem RowsN.one{w:ka}{v:ix}{rows:List (List Nat)}(h:RowsN w v rows):v.oneCell'=true:=by
 obtain⟨vs,h1,_⟩:=h;exact h1.one
theorem yG(ds:List (ix×ix))(tabs:List (List (List Nat)))(b3:List (List Nat))(sv:ix)(m:Nat)(w:ka)(h:TabsD w sv ds tabs b3)(hm:m<37)(e7:ds.length<=1000):
  KN JF 42 [sv,nI (m:Nat)] w fun v w'=>v=.string (bs (nW tabs m))/\Kw w w':=by
 have d2:=h.l1;have e4:=h.sl;refine J4 func42 ntmps42 rfl rfl ?_;refine zh ?_;refine zlp (fun z:Nat×ix×(Nat->Nat)×World=>[(1,nI (m:Nat)),(5,z.2.1),(10,sv),(11,nI ds.length),(12,nI z.1)]) (fun z=>z.2.2.2) (fun z=>z.1<=ds.length/\JI Bn 5 1 z.2.2.1 z.2.2.2 1 z.2.1 (nW (tabs.take z.1) m)/\(nW (tabs.take z.1) m).length<=2000*z.1/\Jl (fun q=>1<=q) (fun _=>0) w z.2.2.1 z.2.2.2/\Kk w.heap.size z.2.2.1 z.2.2.2) (fun z=>ds.length-z.1) (0,nS,fun _=>0,w) (⟨J0 _,JC _ _ _ _ _ _,J0 _,Kf zd _ _,ar w⟩) ?_;rintro⟨i,v1,O1,w1⟩ ⟨hi,a2,d3,hU,hR⟩;dsimp only at hi a2 d3 hU hR ⊢;have h1:=h.ext hU.ext;have d1:=h1.sl;refine zh ?_;refine zC ?_ ?_
 ·intro a5;replace a5:i<ds.length:=dT a5;obtain⟨c9,c7,b8⟩:=h1.at_ i a5;have o1:=c9.one;have o2:=c7.one;obtain⟨rows,a1⟩:∃rows,rows=nth tabs i:=⟨_,rfl⟩
  rw[<-a1]at c9 b8;have e5:=b8.le;have c8:nW (tabs.take (i+1)) m=nW (tabs.take i) m++qb rows m:=by
   unfold nW;rw[aM zo,JQ,<-a1];simp
  refine zh ?_;refine zv (af (us:=yz (nth ds i)) (fun j u hu=>d1.cell a5 hu) (Kb _) (JE _) rfl) ?_
  refine aw hR 2 zo (K2 _) rfl ?_;intro db w2 O2 a4 d9 e1 e8;refine zsb (us:=#[(nth ds i).1,(nth ds i).2]) a4 (JE _) (by simp only[JP,o1,o2];rfl) ?_
  have b':=a4.setRow (us:=#[(nth ds i).1,(nth ds i).2]);have c':Jl (fun j=>j=2) O2 w2 O2 (w2.setRow db #[(nth ds i).1,(nth ds i).2]):=Jv zd a4.tag rfl;have b0:=d9.trans c';have a9:=a2.upd b0 zd zd;have e0:=e1.upd c';have b2:=hU.trans (b0.mono (fun _ h=>zo) zd);generalize w2.setRow db #[(nth ds i).1,(nth ds i).2]=w3 at *;have c0:w3.cell? (nA db 0)=some (nth ds i).1:=b'.cell 0 rfl;have b7:RowsN w (nth ds i).1 rows:=by rw[a1];exact(h.at_ i a5).1
  obtain⟨vs,a6,e3,a7⟩:=b7;have e2:=a6.ext b2.ext;refine zh ?_;refine zlp (fun y:Nat×ix×(Nat->Nat)×World=>[(1,nI (m:Nat)),(5,y.2.1),(10,sv),(11,nI ds.length),(12,nI i),(17,(nth ds i).1),(18,nI vs.length),(19,nI y.1)]) (fun y=>y.2.2.2) (fun y=>y.1<=rows.length/\JI Bn 5 1 y.2.2.1 y.2.2.2 1 y.2.1 (nW (tabs.take i) m++qb (rows.take y.1) m)/\Jl (fun q=>1<=q) (fun _=>0) w y.2.2.1 y.2.2.2/\Kk w.heap.size y.2.2.1 y.2.2.2) (fun y=>rows.length-y.1) (0,v1,O2,w3) (⟨J0 _,by dsimp only;rw[L7];exact(by simpa[qb]using a9),b2,e0⟩) ?_;rintro⟨j,v4,O4,w4⟩ ⟨hj,a0,a',c6⟩;dsimp only at hj a0 a' c6 ⊢;have b5:=a6.ext a'.ext;have d6:=kO (rows.take j) m;have c7:(rows.take j).length<=j:=by simp;omega
  refine zh ?_;refine zC ?_ ?_
  ·intro a3;replace a3:j<rows.length:=dT a3;have b9:=(a7 j a3).ext a'.ext;obtain⟨r1,r2⟩:=b8.row j a3;obtain⟨p,hp⟩:∃p,p=nth (nth rows j) m:=⟨_,rfl⟩
   have e6:p<=999:=by have:=r2 m hm;rw[<-hp]at this;omega
   have m1:w4.cell? (adr (nth ds i).1 1 j)=some (nth vs j):=by have:=b5.cell (i:=j) (j:=0) zo rfl;rwa[ax]at this
   have b6:qb (rows.take (j+1)) m=qb (rows.take j) m++[JG (p / 256),JG (p % 256)]:=by
    unfold qb;rw[aM a3,JQ,hp];simp
   refine zh ?_;have k1:w4.drew.cell? (adr (nth vs j) 1 m)=some (nI (p:Int)):=by have:=b9.cell (i:=m) (j:=0) zo rfl;rw[ax]at this;rw[hp];exact this
   refine aG (fun W=>W.cell? (adr (nth vs j) 1 m)=some (nI (p:Int))) 15 rfl zk ?_;refine zrm 0 rfl k1 rfl ?_
   refine zrm 1 rfl k1 rfl ?_;refine zrm 2 rfl k1 rfl ?_
   refine zr 3 rfl k1 (fun _=>ai b9.sh ln (Jm _) rfl rfl m rfl zo) ?_;refine zt 4 rfl k1 (fun w1 b4=>RV.ld b4 rfl) ?_
   refine zr 5 rfl k1 (fun _=>gq (a:=p) (b:=8) rfl rfl rfl rfl zd) ?_;refine zr 6 rfl k1 (fun _=>mR KC KB rfl) ?_
   refine zrm 7 rfl k1 rfl ?_;refine zrm 8 rfl k1 rfl ?_
   refine zr 9 rfl k1 (fun _=>ai b9.sh ln (Jm _) rfl rfl m rfl zo) ?_;refine zt 10 rfl k1 (fun w1 b4=>RV.ld b4 rfl) ?_
   refine zr 11 rfl k1 (fun _=>mR KC KB rfl) ?_;rw[qq p,qq (p / 2^8),show p / 2^8 % 256=p / 256 from by omega];refine J9 12 zk rfl ?_
   refine fT KG (sizeOf5 _) (Mt _) Bn [JG (p / 256),JG (p % 256)] rfl rfl rfl rfl zk (by simp) rfl ?_;intro bv w5 d7 d0;have c5:Jl (fun _=>False) O4 w4 O4 w5:=(aa (fun h=>h) O4 (Jk w4).drew).trans (aa (fun h=>h) O4 d0);refine zh ?_
   refine ae (d0.cell k1) ?_;refine J9 13 zk rfl ?_
   refine aC IZ (a0.upd c5 zd fun h=>h) (c6.upd c5) d7 (by simp) rfl rfl (by simp) (by simp[J1]) (by simp;omega) (by simp;omega) zd rfl ?_;intro v6 w6 O6 a8 d8 d';have b1:Jl (fun q=>1<=q) (fun _=>0) w O6 w6:=(a'.trans (c5.mono (fun _ h=>h.elim) zd)).trans (d8.mono (fun _ h=>zo) zd);have k6:w6.cell? (adr (nth vs j) 1 m)=some (nI (p:Int)):=by have:=((a7 j a3).ext b1.ext).cell (i:=m) (j:=0) zo rfl;rw[ax]at this;rw[hp];exact this
   refine zh ?_;refine ae (k6) ?_
   refine zra 14 rfl (k6) rfl ?_;refine JZ zk ?_
   refine zh ?_;refine zxd (j+1,v6,O6,w6) (⟨a3,by dsimp only;rw[b6,<-JY];exact a8,b1,d'⟩)
  intro d4;obtain rfl:j=rows.length:=dF d4;rw[Jh]at a0 d6;refine zh ?_;refine zxd (i+1,v4,O4,w4) (⟨a5,by dsimp only;rw[c8];exact a0,by dsimp only;rw[c8,Jn];omega,a',c6⟩)
 intro d5;obtain rfl:i=ds.length:=dF d5;rw[<-d2,Jh]at a2;refine zh ?_;refine zvH (xK a2.sl KG KB LJ rfl) ?_;refine ah rfl rfl (⟨rfl,hU.ext⟩)
end Go.Proofs.YtjemhjcngaokpaaGreatDoor
end
namespace Go.Proofs.YtjemhjcngaokpaaGreatDoor
def yY(S:List (List UInt8))(k:List UInt8):Option Nat:=S.findIdx? (· == k)
def BE(S:List (List UInt8))(k:List UInt8):List (List UInt8):=if(yY S k).isSome=true then S else S++[k]
def B3(S:List (List UInt8))(k:List UInt8):Nat:=(yY S k).getD S.length
def cX(ks:List (List UInt8)):Nat->List (List UInt8)×List Nat
 |0=>([],[])
 |i+1=>(BE (cX ks i).1 (nth ks i),(cX ks i).2++[B3 (cX ks i).1 (nth ks i)])
theorem AY{S:List (List UInt8)}{s t:List UInt8}(h:yY S s=none):yY (S++[s]) t=if s=t then some S.length else yY S t:=by
 unfold yY at h ⊢;rw[KM]
 by_cases e:s=t
 ·rw[if_pos e];have:KP (fun o=>o==t) S=none:=by rw[<-e];exact h
  rw[this];simp[JL,e]
 rw[if_neg e]
 cases KP (fun o=>o==t) S with
 |some k=>simp
 |none=>simp[JL,e]
theorem nq(ks:List (List UInt8)):∀i,(cX ks i).2.length=i/\(cX ks i).1.length<=i
 |0=>⟨rfl,J7 _⟩
 |i+1=>by
  obtain⟨h1,h2⟩:=nq ks i;unfold cX;refine⟨by simp[h1],?_⟩;dsimp only;unfold BE
  split
  ·omega
  simp;omega
structure NumK(D:List (ByteArray×Int))(S:List (List UInt8)):Prop where
 at_:∀k,bm D (bs k)=(yY S k).map fun n:Nat=>(n:Int)
 len:D.length=S.length
theorem C6{κ ν:Type}[DecidableEq κ]{l:List (κ×ν)}{k:κ}(h:bm l k=none)(x:ν):cE l k x=l++[(k,x)]:=by
 induction l with
 |nil=>rfl
 |cons p r ih=>
  obtain⟨a,y⟩:=p;simp only[bm]at h
  split at h
  ·cases h
  rename_i hn;simp only[cE,if_neg hn,ih h,KZ]
theorem NumK.add{D:List (ByteArray×Int)}{S:List (List UInt8)}(h:NumK D S){s:List UInt8}(hs:yY S s=none):NumK (cE D (bs s) (D.length:Int)) (S++[s]):=by
 refine⟨fun k=>?_,?_⟩
 ·rw[aP,AY hs]
  by_cases e:s=k
  ·rw[if_pos (by rw[e]),if_pos e,h.len];rfl
  rw[if_neg (fun e2=>e (Dx e2)),if_neg e];exact h.at_ k
 rw[C6 (by rw[h.at_,hs];rfl)];simp[h.len]
theorem sP(ks:List (List UInt8))(sv:ix)(w:ka)(h:Sl encS 1 w sv ks)(c5:ks.length<=1000):KN JF 43 [sv] w fun v w'=>Sl aO 1 w' v (cX ks ks.length).2/\Kw w w'/\Mo w.heap.size v:=by
 refine J4 func43 ntmps43 rfl rfl ?_;refine zh ?_
 refine aS KA (fun v:Int=>nI v) (ar w) 2 zd rfl ?_;intro r w1 O1 b8 b1 b5;have h1:=h.ext b1.ext;refine zh ?_
 refine zlp (fun z:Nat×ix×(Nat->Nat)×World×List (ByteArray×Int)=>[(3,.map (some r)),(4,z.2.1),(10,sv),(11,nI ks.length),(12,nI z.1)]) (fun z=>z.2.2.2.1) (fun z=>z.1<=ks.length/\JI aO 3 1 z.2.2.1 z.2.2.2.1 1 z.2.1 (cX ks z.1).2/\JU KA (fun v:Int=>nI v) z.2.2.1 z.2.2.2.1 2 r z.2.2.2.2/\NumK z.2.2.2.2 (cX ks z.1).1/\Jl (fun q=>1<=q) (fun _=>0) w z.2.2.1 z.2.2.2.1/\Kk w.heap.size z.2.2.1 z.2.2.2.1) (fun z=>ks.length-z.1) (0,nS,O1,w1,[]) (⟨J0 _,JC _ _ _ _ _ _,b8,⟨fun k=>rfl,rfl⟩,b1.mono (fun _ h=>zo) zd,b5⟩) ?_;rintro⟨i,v2,O2,w2,D⟩ ⟨hi,a0,a3,hN,a8,a9⟩;dsimp only at hi a0 a3 hN a8 a9 ⊢;have h2:=h.ext a8.ext;obtain⟨b',b9⟩:=nq ks i;refine zh ?_
 refine zC ?_ ?_
 ·intro a6;replace a6:i<ks.length:=dT a6;obtain⟨k,hk⟩:∃k,k=nth ks i:=⟨_,rfl⟩
  have m1:w2.cell? (adr sv 1 i)=some (.string (bs k)):=by have:=h2.cell (i:=i) (j:=0) a6 rfl;rw[ax]at this;rw[hk];exact this
  have a7:=hN.at_ k;have e1:cX ks (i+1)=(BE (cX ks i).1 k,(cX ks i).2++[B3 (cX ks i).1 k]):=by rw[hk];rfl
  refine zh ?_
  cases a2:yY (cX ks i).1 k with
  |some q=>
   rw[a2]at a7;have f1:BE (cX ks i).1 k=(cX ks i).1:=by unfold BE;rw[a2];rfl
   have f2:B3 (cX ks i).1 k=q:=by unfold B3;rw[a2];rfl
   rw[f1,f2]at e1;refine zvH (cN (u:=.tuple #[nI (q:Int),.bool true]) a3 JT tj (JS _) (bs k) rfl rfl rfl (by rw[a7];rfl)) ?_;refine zFH rfl rfl ?_;refine zv (JW (u:=nI (q:Int)) a3 JT tj (JS _) (bs k) rfl rfl rfl (by rw[a7];rfl)) ?_;refine Ke kL a0 a9 ((q:Nat)) (fun _=>rfl) rfl rfl rfl (by simp[J1]) zo zo zo zd rfl rfl ?_;intro v3 w3 O3 a1 a4 a';refine zh ?_;refine zxd (i+1,v3,O3,w3,D) (⟨a6,by dsimp only;rw[e1];exact a1,a3.upd a4 zd zd,by dsimp only;rw[e1];exact hN,a8.trans (a4.mono (fun _ h=>zo) zd),a'⟩)
  |none=>
   rw[a2]at a7;have f1:BE (cX ks i).1 k=(cX ks i).1++[k]:=by unfold BE;rw[a2];rfl
   have f2:B3 (cX ks i).1 k=(cX ks i).1.length:=by unfold B3;rw[a2];rfl
   rw[f1,f2]at e1;have b6:=hN.add a2;have b7:=hN.len;refine zvH (cN (u:=.tuple #[nI 0,.bool false]) a3 JT tj (JS _) (bs k) rfl rfl rfl (by rw[a7];rfl)) ?_;refine zTH rfl rfl ?_;refine zv (BT a3 JT rfl) ?_;refine JK a3 JT tj zd (bs k) (D.length:Int) rfl rfl rfl rfl rfl ?_;intro w3 b2 a4;have a1:=a0.upd a4 zd zd;have a':=a9.upd a4;refine zh ?_;refine zv (JW (u:=nI (((cX ks i).1.length:Nat):Int)) b2 JT tj (JS _) (bs k) rfl rfl rfl (by rw[aP,if_pos rfl,b7];rfl)) ?_;refine Ke kL a1 a' (((cX ks i).1.length:Nat)) (fun _=>rfl) rfl rfl rfl (by simp[J1]) zo zo zo zd rfl rfl ?_;intro v4 w4 O4 a5 b0 b4;refine zh ?_;refine zxd (i+1,v4,O4,w4,cE D (bs k) (D.length:Int)) (⟨a6,by dsimp only;rw[e1];exact a5,b2.upd b0 zd zd,by dsimp only;rw[e1];exact b6,(a8.trans (a4.mono (fun _ h=>zo) zd)).trans (b0.mono (fun _ h=>zo) zd),b4⟩)
 intro b3;obtain rfl:i=ks.length:=dF b3;refine zh ?_;refine ah rfl rfl (⟨a0.sl,a8.ext,a0.newV zd a9⟩)
theorem elD:LQ JF 99 72 2 48:=⟨Ml,by kernel_rfl,zd⟩
theorem yJ(l:List (ix×ix))(sv:ix)(w:ka)(h:Sl yz 2 w sv l)(hz:∀u∈l,(yz u).length=2)(h1:∀u∈l,∀c∈yz u,c.oneCell'=true)(hl:l.length<=100000):
  KN JF 39 [sv] w fun v w'=>Sl yz 2 w' v l/\Kw w w'/\∀(B:Nat) (O:Nat->Nat),Kk B O w->Kp O w' v:=by
 obtain⟨a,c,rfl,_,_,ha⟩:=h.shape;refine J4 func39 ntmps39 rfl rfl ?_;refine zh ?_;refine zvH (jO Ml rfl rfl) ?_
 cases a with
 |none=>
  have a4:l=[]:=Kd (Jt fun a3=>by obtain⟨b,o,e⟩:=ha a3;cases e);subst a4;refine zTH rfl rfl ?_;refine ah rfl rfl (⟨(JC yz 0 2 (fun _=>0) w 0).sl,Jk _,fun B O _ a n c e hn=>by cases e⟩)
 |some a=>
  refine zFH rfl rfl ?_;refine om elD yz (ar w) 1 zd rfl ?_
  intro v1 w1 O1 a1 a2 a7;have h2:=h.ext a2.ext;refine zh ?_;refine de elD a1 a7 h2 rfl rfl hz h1 (by simp;omega) (by simp;omega) zd rfl ?_;intro v2 w2 O2 a0 a5 a6;refine zh ?_;refine ah rfl rfl (⟨by have:=a0.sl;rwa[Kh]at this,(a2.trans a5).ext,fun B O hO=>a0.free zd a6 hO⟩)
theorem qe(l:List (Nat))(sv:ix)(w:ka)(h:Sl aO 1 w sv l)(hz:∀u∈l,(aO u).length=1)(h1:∀u∈l,∀c∈aO u,c.oneCell'=true)(hl:l.length<=100000):
  KN JF 78 [sv] w fun v w'=>Sl aO 1 w' v l/\Kw w w'/\∀(B:Nat) (O:Nat->Nat),Kk B O w->Kp O w' v:=by
 obtain⟨a,c,rfl,_,_,ha⟩:=h.shape;refine J4 func78 ntmps78 rfl rfl ?_;refine zh ?_;refine zvH (jO ln rfl rfl) ?_
 cases a with
 |none=>
  have a4:l=[]:=Kd (Jt fun a3=>by obtain⟨b,o,e⟩:=ha a3;cases e);subst a4;refine zTH rfl rfl ?_;refine ah rfl rfl (⟨(JC aO 0 1 (fun _=>0) w 0).sl,Jk _,fun B O _ a n c e hn=>by cases e⟩)
 |some a=>
  refine zFH rfl rfl ?_;refine om kL aO (ar w) 1 zd rfl ?_
  intro v1 w1 O1 a1 a2 a7;have h2:=h.ext a2.ext;refine zh ?_;refine de kL a1 a7 h2 rfl rfl hz h1 (by simp;omega) (by simp;omega) zd rfl ?_;intro v2 w2 O2 a0 a5 a6;refine zh ?_;refine ah rfl rfl (⟨by have:=a0.sl;rwa[Kh]at this,(a2.trans a5).ext,fun B O hO=>a0.free zd a6 hO⟩)
theorem lQ(l:List (Nat))(sv:ix)(w:ka)(h:Sl fK 1 w sv l)(hz:∀u∈l,(fK u).length=1)(h1:∀u∈l,∀c∈fK u,c.oneCell'=true)(hl:l.length<=100000):
  KN JF 79 [sv] w fun v w'=>Sl fK 1 w' v l/\Kw w w'/\∀(B:Nat) (O:Nat->Nat),Kk B O w->Kp O w' v:=by
 obtain⟨a,c,rfl,_,_,ha⟩:=h.shape;refine J4 func79 ntmps79 rfl rfl ?_;refine zh ?_;refine zvH (jO Lx rfl rfl) ?_
 cases a with
 |none=>
  have a4:l=[]:=Kd (Jt fun a3=>by obtain⟨b,o,e⟩:=ha a3;cases e);subst a4;refine zTH rfl rfl ?_;refine ah rfl rfl (⟨(JC fK 0 1 (fun _=>0) w 0).sl,Jk _,fun B O _ a n c e hn=>by cases e⟩)
 |some a=>
  refine zFH rfl rfl ?_;refine om mF fK (ar w) 1 zd rfl ?_
  intro v1 w1 O1 a1 a2 a7;have h2:=h.ext a2.ext;refine zh ?_;refine de mF a1 a7 h2 rfl rfl hz h1 (by simp;omega) (by simp;omega) zd rfl ?_;intro v2 w2 O2 a0 a5 a6;refine zh ?_;refine ah rfl rfl (⟨by have:=a0.sl;rwa[Kh]at this,(a2.trans a5).ext,fun B O hO=>a0.free zd a6 hO⟩)
theorem oT{F:LU}(hF:∀(args:Array ix) (w:ka),(callFunc F args).run JF w=.ok (.enter F args) w)(cs:Array ix)(l:List (ix×ix))(sv:ix)(q:Nat->Bool)(w:ka)(h:Sl yz 2 w sv l) 
  (hq:∀i,i<l.length->∀w',Kw w w'->KN JF F ([(fun d:ix×ix=>M5 #[d.1,d.2]) (nth l i)]++cs.toList) w' fun v w''=>v=.bool (q i)/\Kw w' w'') :
  KN JF 75 [sv,.func (.func F) #[] cs] w fun v w'=>v=nI (dC q l.length)/\Kw w w':=by
 have hl:=h.len_le;refine J4 func75 ntmps75 rfl rfl ?_;refine zh ?_;refine zlp (fun x:Nat×ka=>[(0,sv),(1,.func (.func F) #[] cs),(7,nI l.length),(8,nI x.1)]) (fun x=>x.2) (fun x=>x.1<=l.length/\Kw w x.2/\∀i,i<x.1->q i=false) (fun x=>l.length-x.1) (0,w) (⟨J0 _,Jk _,fun i hi=>absurd hi (J2 i)⟩) ?_;rintro⟨k,w1⟩ ⟨hk,hE,a1⟩;dsimp only at hk hE a1 ⊢;have h1:=h.ext hE;refine zh ?_;refine zC ?_ ?_
 ·intro a0;replace a0:k<l.length:=dT a0;refine zh ?_;refine zv (af (us:=yz (nth l k)) (fun j u hu=>h1.cell a0 hu) (Kb _) (JE _) rfl) ?_;refine du rfl hF rfl (hq k a0 w1 hE) rfl ?_;rintro v w2 ⟨rfl,a3⟩;refine zh ?_;refine zC ?_ ?_
  ·intro hy;refine zh ?_;refine ah rfl rfl (⟨by rw[cD a0 hy a1],hE.trans a3⟩)
  intro hy;refine zh ?_;refine zxd (k+1,w2) (⟨a0,hE.trans a3,fun i hi=>(Lc.1 hi).elim (a1 i) (fun e=>by rw[e];exact hy)⟩)
 intro a2;replace a2:l.length<=k:=dF a2;refine zh ?_;refine ah rfl rfl (⟨by rw[cC fun i hi=>a1 i zo],hE⟩)
theorem ve(nv tv:ix)(rows:List (List Nat))(a0:List Nat)(w:ka)(hn:RowsN w nv rows)(a2:Sl fK 1 w tv a0)(hr:RightD rows a0):KN JF 40 [.agg #[nv,tv]] w fun v w'=>v=.bool false/\Kw w w':=by
 refine J4 func40 ntmps40 rfl rfl ?_;refine zh ?_
 refine aE (ar w) 1 zo rfl rfl ?_;intro db w1 O1 a3 a5 a6 a1;refine zh ?_
 refine zv (af (us:=[nv,tv]) a3.cellsAdd (Kb _) (JE _) rfl) ?_;refine zc call41 (jJ nv tv rows a0 w1 (hn.ext a1) (a2.ext a1) hr) ?_
 rintro _ w2 ⟨rfl,a4⟩;refine zh ?_;refine ah rfl rfl (⟨rfl,a1.trans a4⟩)
theorem vm{F:LU}(hF:∀(args:Array ix) (w:ka),(callFunc F args).run JF w=.ok (.enter F args) w)(cs:Array ix)(l:List (ix×ix))(sv:ix)(w:ka)(h:Sl yz 2 w sv l) 
  (hq:∀i,i<l.length->∀w',Kw w w'->KN JF F ([(fun d:ix×ix=>M5 #[d.1,d.2]) (nth l i)]++cs.toList) w' fun v w''=>v=.bool false/\Kw w' w'') :
  KN JF 38 [sv,.func (.func F) #[] cs] w fun v w'=>v=sv/\Kw w w':=by
 refine J4 func38 ntmps38 rfl rfl ?_;refine zh ?_
 refine zc call75 (oT hF cs l sv (fun _=>false) w h hq) ?_;rintro _ w1 ⟨rfl,a0⟩;rw[cC (q:=fun _=>false) fun i hi=>rfl];refine zh ?_
 refine zTH rfl rfl ?_;refine ah rfl rfl (⟨rfl,a0⟩)
def bE(tabs:List (List (List Nat))):List Nat:=(cX ((Ju 37).map (nW tabs)) 37).2
theorem IC:LQ JF 103 9 1 16:=⟨underlying103,by kernel_rfl,zd⟩
theorem yv(ds:List (ix×ix))(tabs:List (List (List Nat)))(a2:List (List Nat))(sv:ix)(w:ka)(h:TabsD w sv ds tabs a2)(b8:ds.length<=1000):
  KN JF 19 [sv] w fun v w'=>Sl aO 1 w' v (bE tabs)/\Kw w w'/\Mo w.heap.size v:=by
 have b5:=h.sl;have a8:∀u∈ds,∀c∈yz u,c.oneCell'=true:=fun u hu c hc=>by
  obtain⟨j,hj,rfl⟩:=cG hu
  rcases Ji.1 hc with rfl|hc
  ·exact(h.at_ j hj).1.one
  rw[J3.1 hc];exact(h.at_ j hj).2.1.one
 refine J4 func19 ntmps19 rfl rfl ?_;refine zh ?_
 refine zc call39 (yJ ds sv w b5 (fun _ _=>rfl) a8 zo) ?_;rintro a6 w1 ⟨b2,a',_⟩;refine zc call38 (vm call40 #[] ds a6 w1 b2 (fun i hi w' b0=>ve _ _ _ _ w' ((h.at_ i hi).1.ext (a'.trans b0)) ((h.at_ i hi).2.1.ext (a'.trans b0)) (h.at_ i hi).2.2)) ?_
 rintro v2 w2 ⟨b1,b4⟩;rw[b1];clear b1 v2;have a1:=a'.trans b4;have c5:TabsD w2 a6 ds tabs a2:=⟨b2.ext b4,h.l1,h.l2,fun i hi=>⟨(h.at_ i hi).1.ext a1,(h.at_ i hi).2.1.ext a1,(h.at_ i hi).2.2⟩⟩
 refine zh ?_;refine zlp (fun z:Nat×ix×(Nat->Nat)×World=>[(0,a6),(3,z.2.1),(8,nI z.1)]) (fun z=>z.2.2.2) (fun z=>z.1<=37/\JI encS 9 1 z.2.2.1 z.2.2.2 1 z.2.1 ((Ju z.1).map (nW tabs))/\Jl (fun q=>q=1) (fun _=>0) w2 z.2.2.1 z.2.2.2/\Kk w2.heap.size z.2.2.1 z.2.2.2) (fun z=>37-z.1) (0,nS,fun _=>0,w2) (⟨J0 _,JC _ _ _ _ _ _,Kf zd _ _,ar w2⟩) ?_
 rintro⟨m,v3,O3,w3⟩ ⟨hm,a0,a5,b3⟩;dsimp only at hm a0 a5 b3 ⊢;have b':=c5.ext a5.ext;refine zh ?_;refine zC ?_ ?_
 ·intro a7;replace a7:m<37:=dT a7;refine zh ?_;refine zc call42 (yG ds tabs a2 a6 m w3 b' a7 b8) ?_;rintro _ w4 ⟨rfl,c8⟩;have a9:Jl (fun _=>False) O3 w3 O3 w4:=aa (fun h=>h) O3 c8;have a4:=a0.upd a9 zd (fun h=>h);have c9:((Ju m).map (nW tabs)).length=m:=by simp
  refine Ke IC a4 (b3.upd a9) ((nW tabs m)) (fun _=>rfl) rfl rfl rfl (by simp[J1]) zo zo zo zd rfl rfl ?_;intro v5 w5 O5 a3 b9 c6;refine zh ?_
  refine zxd (m+1,v5,O5,w5) (⟨a7,by dsimp only;rw[KI,JN];exact a3,(a5.trans (a9.mono (fun _ h=>h.elim) zd)).trans b9,c6⟩)
 intro b7;obtain rfl:m=37:=dF b7;refine zh ?_;refine zc call43 (sP _ v3 w3 a0.sl (by simp)) ?_;rintro v6 w6 ⟨h6,c7,b6⟩;refine zh ?_;refine ah rfl rfl (⟨by rw[L3,List.length_range]at h6;exact h6,(a1.trans a5.ext).trans c7,b6.mono (KH a1.size a5.size)⟩)
attribute [irreducible] bE
def px:List Int->Nat->Prop
 |[],_=>True
 |g::r,n=>0<=g/\g<=n/\px r (max n (g.toNat+1))
theorem lH{g:Int}:∀(l:List Int) (n:Nat),px l n->0<=g->g<=(jE l n:Nat)->px (l++[g]) n/\jE (l++[g]) n=max (jE l n) (g.toNat+1)
 |[],n,_,h0,h1=>by
  simp only[jE]at h1;simp only[Kh,px,jE];rw[if_neg zo];exact⟨⟨h0,h1,trivial⟩,rfl⟩
 |a::l,n,h,h0,h1=>by
  obtain⟨a1,a2,a3⟩:=h;simp only[jE]at h1;rw[if_neg zo]at h1;have ih:=lH l _ a3 h0 h1;simp only[KZ,px,jE];rw[if_neg zo,if_neg zo];exact⟨⟨a1,a2,ih.1⟩,ih.2⟩
abbrev ints(l:List Nat):List Int:=l.map fun n:Nat=>(n:Int)
structure NuI(ks:List (List UInt8))(i:Nat)(S:List (List UInt8))(r:List Nat):Prop where
 len:r.length=i
 lt:∀j,j<i->nth r j<S.length/\nth S (nth r j)=nth ks j
 nd:S.Nodup
 hit:∀k,k<S.length->∃j,j<i/\nth r j=k
 right:px (ints r) 0
 many:jE (ints r) 0=S.length
theorem AX{S:List (List UInt8)}{s:List UInt8}{k:Nat}(h:yY S s=some k):k<S.length/\nth S k=s:=by
 obtain⟨h1,h2,_⟩:=JA.1 h;exact⟨h1,by rw[aB h1];simpa using h2⟩
theorem AZ{S:List (List UInt8)}{s:List UInt8}(h:yY S s=none):s∉S:=fun hs=>by
 have:=K1.1 h s hs;simp at this
theorem sQ(ks:List (List UInt8)):∀i,NuI ks i (cX ks i).1 (cX ks i).2
 |0=>⟨rfl,fun j hj=>absurd hj (J2 j),L8,fun k hk=>absurd hk (J2 k),trivial,rfl⟩
 |i+1=>by
  have ih:=sQ ks i;unfold cX;generalize cX ks i=R at *;obtain⟨S,r⟩:=R;dsimp only at ih ⊢;have hl:=ih.len;have a0:∀(g:Nat),ints (r++[g])=ints r++[(g:Int)]:=fun g=>by simp[ints]
  cases h:yY S (nth ks i)with
  |some k=>
   obtain⟨h1,h2⟩:=AX h;have e1:BE S (nth ks i)=S:=by unfold BE;rw[h];rfl
   have e2:B3 S (nth ks i)=k:=by unfold B3;rw[h];rfl
   rw[e1,e2];have hs:=lH (g:=(k:Int)) (ints r) 0 ih.right zo (by rw[ih.many];omega);refine⟨by simp[hl],fun j hj=>?_,ih.nd,fun q hq=>?_,by rw[a0];exact hs.1,by rw[a0,hs.2,ih.many];simp;omega⟩
   ·rw[aA]
    by_cases e:j<r.length
    ·rw[if_pos e];exact ih.lt j zo
    rw[if_neg e,show j-r.length=0 from by omega,ay];obtain rfl:j=i:=zo;exact⟨h1,h2⟩
   obtain⟨j,hj,e⟩:=ih.hit q hq;exact⟨j,zo,by rw[aA,if_pos zo];exact e⟩
  |none=>
   have hn:=AZ h;have e1:BE S (nth ks i)=S++[nth ks i]:=by unfold BE;rw[h];rfl
   have e2:B3 S (nth ks i)=S.length:=by unfold B3;rw[h];rfl
   rw[e1,e2];have hs:=lH (g:=(S.length:Int)) (ints r) 0 ih.right zo (by rw[ih.many];omega);refine⟨by simp[hl],fun j hj=>?_,KS.2 ⟨ih.nd,by simp,fun a ha b hb e=>?_⟩,fun q hq=>?_,by rw[a0];exact hs.1,by rw[a0,hs.2,ih.many];simp⟩
   ·rw[aA]
    by_cases e:j<r.length
    ·obtain⟨a1,a2⟩:=ih.lt j zo;rw[if_pos e];exact⟨by simp;omega,by rw[aA,if_pos a1];exact a2⟩
    rw[if_neg e,show j-r.length=0 from by omega,ay];obtain rfl:j=i:=zo;exact⟨by simp,by rw[aA,if_neg zo,Ko,ay]⟩
   ·rw[J3]at hb;subst hb;subst e;exact hn ha
   rw[Jn,J8]at hq
   by_cases e:q<S.length
   ·obtain⟨j,hj,e⟩:=ih.hit q e;exact⟨j,zo,by rw[aA,if_pos zo];exact e⟩
   exact⟨i,zo,by rw[aA,if_neg zo,show i-r.length=0 from by omega,ay];omega⟩
theorem Dg{a b:Nat}(ha:a<256)(hb:b<256)(h:JG a=JG b):a=b:=by
 have:=congrArg UInt8.toNat h;simp at this;omega
theorem xx:∀ {rows:List (List Nat)} {i j:Nat},(∀r∈rows,nth r i<=999/\nth r j<=999)->qb rows i=qb rows j->∀r∈rows,nth r i=nth r j
 |[],_,_,_,_=>fun r hr=>absurd hr (by simp)
 |r::rows,i,j,h,e=>by
  obtain⟨h1,h2⟩:=h r (by simp);unfold qb at e;simp only[JO,KZ,Kh,Mp]at e;obtain⟨e1,e2,e3⟩:=e;have a1:=Dg zo zo e1;have a2:=Dg zo zo e2;intro q hq
  rcases Ji.1 hq with rfl|hq
  ·omega
  exact xx (fun q hq=>h q (by simp[hq])) e3 q hq
theorem xy:∀ {tabs:List (List (List Nat))} {i j:Nat},(∀rows∈tabs,∀r∈rows,nth r i<=999/\nth r j<=999)->nW tabs i=nW tabs j->∀rows∈tabs,∀r∈rows,nth r i=nth r j
 |[],_,_,_,_=>fun r hr=>absurd hr (by simp)
 |t::tabs,i,j,h,e=>by
  unfold nW at e;simp only[JO]at e;obtain⟨e1,e2⟩:=List.append_inj e (by rw[kO,kO]);intro q hq
  rcases Ji.1 hq with rfl|hq
  ·exact xx (h q (by simp)) e1
  exact xy (fun q hq=>h q (by simp[hq])) e2 q hq
structure GrpI(g:List Nat)(many:Nat):Prop where
 len:g.length=37
 lt:∀i,i<37->nth g i<many
 hit:∀k,k<many->∃i,i<37/\nth g i=k
 cnt:gU (ints g)=many
 pos:1<=many
 le:many<=37
theorem Ap{α:Type}{l:List α}(h:l.Nodup){i j:Nat}(hi:i<l.length)(hj:j<l.length)(e:l[i]=l[j]):i=j:=by
 rcases Nat.lt_trichotomy i j with h1|h1|h1
 ·exact absurd e (Kr.1 h i j hi hj h1)
 ·exact h1
 exact absurd e.symm (Kr.1 h j i hj hi h1)
theorem pS(tabs:List (List (List Nat))):∃many,GrpI (bE tabs) many/\∀i j,i<37->j<37->(nth (bE tabs) i=nth (bE tabs) j↔nW tabs i=nW tabs j):=by
 have h:=sQ ((Ju 37).map (nW tabs)) 37;have a4:=(nq ((Ju 37).map (nW tabs)) 37).2;have hk:∀j,j<37->nth ((Ju 37).map (nW tabs)) j=nW tabs j:=fun j hj=>by rw[eE (by simpa using hj),aB (by simpa using hj)];simp
 unfold bE;have a0:=h.len;refine⟨(cX ((Ju 37).map (nW tabs)) 37).1.length,⟨a0,fun i hi=>(h.lt i hi).1,h.hit,?_,?_,a4⟩,fun i j hi hj=>⟨fun e=>?_,fun e=>?_⟩⟩
 ·unfold gU;rw[if_pos (by rw[L3];exact a0)];exact h.many
 ·have:=(h.lt 0 zd).1;omega
 ·have h1:=(h.lt i hi).2;have h2:=(h.lt j hj).2;rw[hk i hi]at h1;rw[hk j hj]at h2;rw[<-h1,<-h2,e]
 obtain⟨a1,a2⟩:=h.lt i hi;obtain⟨b1,b2⟩:=h.lt j hj;rw[hk i hi]at a2;rw[hk j hj]at b2;have a3:=h.nd;show nth (cX _ 37).2 i=nth (cX _ 37).2 j;rw[aB a1]at a2;rw[aB b1]at b2;exact Ap a3 a1 b1 (by rw[a2,b2,e])
def oL(g:List Nat)(many:Nat)(a0:List Nat):List Nat:=(Ju many).map fun k=>nth a0 ((g.findIdx? (· == k)).getD 0)
theorem mN(g:List Nat)(many:Nat)(a0:List Nat):(oL g many a0).length=many:=by simp[oL]
theorem uP{g:List Nat}{many:Nat}(hg:GrpI g many){a0:List Nat}(hc:∀i j,i<37->j<37->nth g i=nth g j->nth a0 i=nth a0 j){i:Nat}(hi:i<37):nth (oL g many a0) (nth g i)=nth a0 i:=by
 have a1:=hg.len;have hk:=hg.lt i hi;unfold oL;rw[aB (xs:=List.map _ (Ju many)) (by simpa using hk),LD,List.getElem_range]
 cases hf:g.findIdx? (· == nth g i)with
 |none=>
  have:=K1.1 hf (nth g i) (aI zo);simp at this
 |some q=>
  obtain⟨h1,h2,_⟩:=JA.1 hf;rw[<-aB h1]at h2;exact hc q i zo hi (by simpa using h2)
theorem Au{g:List Nat}{many:Nat}(hg:GrpI g many){a0 a1:List Nat}(hc:∀i j,i<37->j<37->nth g i=nth g j->nth a0 i=nth a0 j)(ho:a1.length=many)(h:∀i,i<37->nth a1 (nth g i)=nth a0 i):a1=oL g many a0:=by
 refine List.ext_getElem (by rw[ho,mN]) fun k h1 h2=>?_
 obtain⟨i,hi,e⟩:=hg.hit k zo;rw[<-aB h1,<-aB h2,<-e,h i hi,uP hg hc hi]
theorem yi(g a1:List Nat)(many:Nat)(gv rv:ix)(w:ka)(hg:GrpI g many)(b1:Sl aO 1 w gv g)(a':Sl aO 1 w rv a1)(b6:a1.length=37)(hc:∀i j,i<37->j<37->nth g i=nth g j->nth a1 i=nth a1 j):
  KN JF 80 [gv,rv,nI (many:Nat)] w fun v w'=>∃ov,v=.tuple #[ov,.bool true]/\Sl aO 1 w' ov (oL g many a1)/\Kw w w'/\∀(B:Nat) (O:Nat->Nat),Kk B O w->Kp O w' ov:=by
 have c':=hg.len;have c8:=hg.le;refine J4 func80 ntmps80 rfl rfl ?_;refine zh ?_;refine dd kL (val:=fun n:Nat=>nI (n:Int)) (0:Nat) zk (fun _=>rfl) (ar w) 1 zd many rfl rfl rfl rfl zo zo rfl ?_;intro w1 O1 ov b7 a6 c5 c6 b4;clear b7;have d1:=b1.ext b4;have c7:=a'.ext b4;refine zh ?_;rw[show((a1.length:Int)-1)=((37:Nat):Int)-1 from by rw[b6]];refine zlp (fun z:Nat×ka×List Nat=>[(0,gv),(1,rv),(8,ov),(9,nI ((z.1:Int)-1))]) (fun z=>z.2.1) (fun z=>z.1<=37/\JI aO 3 1 O1 z.2.1 1 ov z.2.2/\Jl (fun q=>q=1) O1 w1 O1 z.2.1/\z.2.2.length=many/\∀i,z.1<=i->i<37->nth z.2.2 (nth g i)=nth a1 i) (fun z=>z.1) (37,w1,Jr many 0) (⟨J7 _,a6,Kf zd _ _,by simp,fun i h1 h2=>by dsimp only at h1;omega⟩) ?_;rintro⟨j,w2,b5⟩ ⟨hj,a0,a7,a8,a2⟩;dsimp only at hj a0 a7 a8 a2 ⊢;have a4:Kw w w2:=(c5.trans a7).ext;have b3:=b1.ext a4;have b0:=a'.ext a4;refine zh ?_;refine zC ?_ ?_
 ·intro b2;replace b2:1<=j:=dT b2;obtain⟨m,rfl⟩:∃m,j=m+1:=⟨j-1,zo⟩
  rw[show(((m+1:Nat):Int)-1)=(m:Int)from by omega];have c9:=hg.lt m zo;have k1:w2.cell? (adr gv 1 m)=some (nI ((nth g m:Nat):Int)):=by have:=b3.cell (i:=m) (j:=0) zo rfl;rwa[ax]at this
  have k2:w2.cell? (adr rv 1 m)=some (nI ((nth a1 m:Nat):Int)):=by have:=b0.cell (i:=m) (j:=0) zo rfl;rwa[ax]at this
  refine zh ?_;refine LL 10 rfl rfl zk zk ?_
  refine zh ?_;refine zw (ai a0.sl.sh ln (Jm _) rfl rfl (nth g m) rfl zo) ?_
  refine Ma ?_;refine Kq a0.drew (nth g m) zo (nth a1 m) (Jm _) rfl zd rfl rfl rfl rfl ?_
  intro w3 a5 b';refine zh ?_;refine zxd (m,w3,b5.set (nth g m) (nth a1 m)) (⟨by dsimp only;omega,a5,a7.drew.trans b',by dsimp only;rw[Jj];exact a8,fun i h1 h2=>?_⟩);dsimp only at h1 ⊢;rw[aQ zo]
  split
  ·rename_i e;exact hc m i zo h2 e.symm
  rename_i e;refine a2 i ?_ h2;have:i≠m:=fun e2=>e (by rw[e2])
  omega
 intro b8;obtain rfl:j=0:=dF b8;have a9:=Au hg hc a8 fun i hi=>a2 i (J0 _) hi
 refine zh ?_;refine zlp (fun z:Nat=>[(0,gv),(8,ov),(31,rv),(32,nI a1.length),(33,nI z)]) (fun z=>w2) (fun z=>z<=a1.length) (fun z=>a1.length-z) 0 (J0 _) ?_
 intro i hi;refine zh ?_;refine zC ?_ ?_
 ·intro a3;replace a3:i<a1.length:=dT a3;have d0:=hg.lt i zo;have k1:w2.cell? (adr gv 1 i)=some (nI ((nth g i:Nat):Int)):=by have:=b3.cell (i:=i) (j:=0) zo rfl;rwa[ax]at this
  have k2:w2.cell? (adr rv 1 i)=some (nI ((nth a1 i:Nat):Int)):=by have:=b0.cell (i:=i) (j:=0) zo rfl;rwa[ax]at this
  have k3:w2.cell? (adr ov 1 (nth g i))=some (nI ((nth a1 i:Nat):Int)):=by have:=a0.sl.cell (i:=nth g i) (j:=0) zo rfl;rw[ax,a2 i (J0 _) zo]at this;exact this
  refine zh ?_;refine zvH (ai a0.sl.sh ln (Jm _) rfl rfl (nth g i) rfl zo) ?_
  refine zFH rfl ((by simp)) ?_;refine zxd (i+1) (a3)
 intro b9;refine zh ?_;refine bx rfl rfl rfl (⟨ov,rfl,by rw[<-a9];exact a0.sl,a4,fun B O hO=>a0.free zd (c6.upd a7) hO⟩)
end Go.Proofs.YtjemhjcngaokpaaGreatDoor
