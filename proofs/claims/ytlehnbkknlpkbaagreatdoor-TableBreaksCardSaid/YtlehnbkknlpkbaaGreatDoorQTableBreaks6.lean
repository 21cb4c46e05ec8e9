/- Texts that the proof of this statement needs, merged and shortened. -/
import Derived.Test.YtlehnbkknlpkbaaGreatDoorQTableBreaks5
open Go.VL.RV renaming move->ix,assign->Gv,add->JK,indexAddr->JP,extract->Kd,build->Kl,fieldAddr->Kx,eql->KB,len->KL,lss->KW,neq->LJ,load->M9
open Go.VL.WL renaming nil->ka,storeAt->JI,push->Ll
open Go.VL.WC renaming region->la,seq->I4,tail->K1,block->K2,skip->K7,ret->L9,exit->Lm
open Go.VL.BlkO renaming upd->ln,drew->Kk,setRow->KA,tag->LK,set->LL,q7->M0,q6->M1
open Nat renaming zero_le->vX,lt_succ_iff_lt_or_eq->As,not_lt_zero->J0,le_refl->J2,le_of_eq->JE,sub_self->JO,zero_add->KS,lt_succ_self->Ln
open List renaming dropWhile_suffix->zR,getElem_append_right->J1,mem_singleton->J3,getElem_append_left->J4,eq_nil_of_length_eq_zero->J7,range->J8,length_singleton->Jo,getElem_cons_zero->Jp,length_append->Js,replicate->Jt,all_cons->Jz,append_assoc->JH,mem_cons->JL,getElem_range->JM,takeWhile_prefix->JS,getElem_map->JT,ext_getElem->JU,map_append->JX,drop_eq_getElem_cons->K4,not_mem_nil->K8,length_cons->K9,drop_of_length_le->Ka,all_nil->Kb,append_nil->Kc,length->Kh,getElem_set->Ky,getElem_mem->Kz,range_succ->KE,length_set->KF,getElem_replicate->KO,take_append_drop->KT,contains_iff_mem->KU,replicate_succ->L1,map_congr_left->L2,length_drop->Lc,all_eq_true->Ld,take_left'->Lo,drop_zero->Lq,drop_drop->Lr
open Go.VL.WH renaming one->Ae,done->Jn
open Go renaming World->CR,Value->J9
open Bool renaming and_eq_true->DZ,not_eq_true'->JN,or_eq_true->JY,eq_iff_iff->JZ,or_eq_false_iff->Ki,and_false->Kj,false_or->Km,false_ne_true->L5
open Go.VL.Ext renaming refl->Fu
open And renaming intro->GT
open Go.VL.Ret renaming enter->J5
open Go.Proofs.Tryz renaming underlying22->J6,sizeOf47->Ji,isAgg47->Ju,underlying66->Jv,sizeOf3->Jw,sizeOf41->JA,sizeOf4->JD,underlying9->JG,zeroValue41->JJ,prog->JQ,call156->JW,underlying23->K5,sizeOf83->Ke,sizeOf49->Kf,zeroValue83->Ko,isAgg41->Kr,call132->Ku,underlying123->Kv,sizeOf35->KG,sizeOf22->KH,call129->KM,sizeOf66->KP,call38->KQ,call36->KR,sizeOf168->L4,underlying45->L6,call130->L7,zeroValue85->Lh,zeroValue35->Li,sizeOf39->Lj,ntmps132->Lk,call97->Ls,isAgg83->Lt,func132->Lu,call161->Lv,call160->Lw,sizeOf81->LD,zeroValue243->LN,underlying49->LO,underlying26->LP,isAgg35->LQ,call159->LU,call96->M5,call57->M6,call30->M7
open Go.VL.Upd renaming setRow->Jq,set->Jr,trans->KN,refl->KZ,lowT->L0,drew->LV
open Go.VL renaming Upd->Jy,Ext->JV,BlkO->K0,RowT->K6,Ret->KK,Rng->KV,Free->Lp,Ints->Ma
open Go.Value renaming oneCell'->JB,bool->JR
open Go.VL.Fit renaming i64->JC
open Go.World renaming setCell->JF,setRow->Kp,drew->KI
open Go.VL.RowT renaming nil->Kg,drew->LF,upd->LH
open Go.Proofs.YtlehnbkknlpkbaaGreatDoor renaming whichTab->Kq,Says->KJ,Rd6->L8,PostC->Ly,MatO->LB,Made->LX,FirstR->Mb
open Go.VL.WS renaming go->Kw,nil->Lx
open Or renaming inr->KC,inl->KD
open Go.Proofs.YtlehnbkknlpkbaaGreatDoor.Nd renaming kind->KX,kids->KY,cls->Lb
open Go.Lib renaming compact->L3
open Go.VL.Rng renaming upd->La,drew->LW
open Go.Proofs.YtlehnbkknlpkbaaGreatDoor.LR renaming bad->Le
open Go.Addr renaming add_add->Lz
open Go.Proofs.YtlehnbkknlpkbaaGreatDoor.RowsT renaming push->LA
open Int renaming le_refl->LC
open Option.some renaming inj->LG
open List.cons renaming inj->LY
open Classical renaming byContradiction->LZ
open Go.Proofs.YtlehnbkknlpkbaaGreatDoor.Mac renaming upd->M4
open Go.VL.WQ renaming call->M8
set_option maxRecDepth 10000
open Go.VL Go.Proofs Go.Proofs.Tryz
namespace Go.Proofs.YtlehnbkknlpkbaaGreatDoor
theorem tS{ms:List Int}:∀(l:List Nd),(∀t∈l,KJ ms (bG ms t) (Lg t))->∀(a0:Tb) (L:List Int->Prop),KJ ms a0 L->KJ ms (dk ms 4 l a0) (fun w=>∃u v,w=u++v/\L u/\LgS l v)
 |[],_,a0,L,h=>by
  unfold dk;refine h.congr fun w=>?_
  constructor
  ·intro hw;exact⟨w,[],by simp,hw,by unfold LgS;rfl⟩
  rintro⟨u,v,rfl,hu,hv⟩;unfold LgS at hv;subst hv
  rwa[Kc]
 |t::r,hl,a0,L,h=>by
  unfold dk;have h1:KJ ms (stepT (ms.length+1) 4 a0 (bG ms t)) (fun w=>∃u v,w=u++v/\L u/\Lg t v):=xR h (hl t (by simp));refine(tS r (fun x hx=>hl x (by simp[hx])) _ _ h1).congr fun w=>?_
  constructor
  ·rintro⟨_,v,rfl,⟨a,b,rfl,ha,hb⟩,hv⟩;exact⟨a,b++v,by rw[JH],ha,by unfold LgS;exact⟨b,v,rfl,hb,hv⟩⟩
  rintro⟨a,v,rfl,ha,hv⟩;unfold LgS at hv;obtain⟨b,v',rfl,hb,a1⟩:=hv;exact⟨a++b,v',by rw[JH],⟨a,b,rfl,ha,hb⟩,a1⟩
theorem oh{ms:List Int}{k:Int}(h4:k≠4)(h6:¬(k=6\/k=7)):∀(l:List Nd),(∀t∈l,KJ ms (bG ms t) (Lg t))->∀(a0:Tb) (L:List Int->Prop),KJ ms a0 L->KJ ms (dk ms k l a0) (fun w=>L w\/LgA l w)
 |[],_,a0,L,h=>by
  unfold dk;refine h.congr fun w=>⟨.inl,fun hw=>hw.elim id fun hw=>?_⟩
  unfold LgA at hw;exact hw.elim
 |t::r,hl,a0,L,h=>by
  unfold dk;have h1:KJ ms (stepT (ms.length+1) k a0 (bG ms t)) (fun w=>L w\/Lg t w):=by
   unfold stepT;rw[if_neg h4,if_neg h6];exact qX h (hl t (by simp))
  refine(oh h4 h6 r (fun x hx=>hl x (by simp[hx])) _ _ h1).congr fun w=>?_
  rw[LgA];exact or_assoc
theorem tf{ms:List Int}{t:Tb}{L:List Int->Prop}(h:KJ ms t L):KJ ms (DM (ms.length+1) t (ms.length+1)) (fun w=>∃u v,w=u++v/\L u/\StarP L v):=fun i j hi hj=>by
 rw[xS h _ i j hi hj];refine and_congr_right fun a0=>?_
 have hl:=nM ms a0 hj
 constructor
 ·rintro⟨s,_,hw⟩;obtain⟨l,h1,h2,h3⟩:=xV s _ hw
  match l,h1,h3 with
  |u::r,_,h3=>exact⟨u,r.flatten,h2,h3 u (by simp),sW r (fun x hx=>h3 x (by simp[hx]))⟩
 rintro⟨u,v,e,hu,hv⟩;have a1:v.length<=ms.length:=by have:=congrArg Kh e;rw[Js]at this;omega
 rw[e]
 rcases CT hv with rfl|⟨s,hs,l,h1,rfl,h3⟩
 ·exact⟨0,vX _,by rw[Kc];exact hu⟩
 refine⟨s+1,zo,?_⟩
 have:=D2 (s+1) (u::l) (by simp[h1]) (fun x hx=>by
  rcases JL.1 hx with rfl|hx
  ·exact hu
  exact h3 x hx)
 exact this
theorem lg4(c:Int)(l:List Nd)(w:List Int):Lg (.mk 4 c l) w↔LgS l w:=by rw[Lg];simp
theorem lg5(c:Int)(l:List Nd)(w:List Int):Lg (.mk 5 c l) w↔LgA l w:=by rw[Lg];simp
theorem lg6(c:Int)(t:Nd)(w:List Int):Lg (.mk 6 c [t]) w↔StarP (Lg t) w:=by
 have eH:LgH [t]=Lg t:=by rw[LgH]
 rw[Lg,<-eH];simp
theorem lg7(c:Int)(t:Nd)(w:List Int):Lg (.mk 7 c [t]) w↔∃u v,w=u++v/\Lg t u/\StarP (Lg t) v:=by
 have eH:LgH [t]=Lg t:=by rw[LgH]
 rw[Lg,<-eH];simp
theorem lg8(c:Int)(t:Nd)(w:List Int):Lg (.mk 8 c [t]) w↔w=[]\/Lg t w:=by
 have eH:LgH [t]=Lg t:=by rw[LgH]
 rw[Lg,<-eH];simp
mutual
theorem qk(ms:List Int):∀(t:Nd) (wi:Bool),bH t wi=true->KJ ms (bG ms t) (Lg t)
 |.mk k c l,wi,h=>by
  unfold bH at h
  rw[DZ]at h
  have hall:=tT ms l h.2
  have hb:=fun hk:4<=k=>AO (ms:=ms) (c:=c) hk
  unfold bG
  rcases dm h.1 with⟨rfl,hn,h1,h2⟩|⟨rfl,hn,h1⟩|⟨rfl,hn,h1,h2⟩|⟨rfl,hn,h1⟩|⟨rfl,hn,h1⟩|⟨rfl,hn,h1⟩|⟨rfl,hn,h1⟩|⟨rfl,hn,h1⟩|⟨rfl,hn,h1⟩|⟨rfl,hn,h1,h2⟩
  ·obtain rfl:=J7 hn
   unfold dk
   exact(ky (.inl ⟨rfl,h1,h2⟩)).congr fun w=>by rw[Lg];simp
  ·obtain rfl:=J7 hn
   unfold dk
   exact(ky (.inr (.inl rfl))).congr fun w=>by rw[Lg];simp
  ·obtain rfl:=J7 hn
   unfold dk
   exact(ky (.inr (.inr (.inl rfl)))).congr fun w=>by rw[Lg];simp
  ·obtain rfl:=J7 hn
   unfold dk
   exact(ky (.inr (.inr (.inr rfl)))).congr fun w=>by rw[Lg];simp
  ·refine(tS l hall _ _ (hb zd)).congr fun w=>?_
   rw[lg4]
   constructor
   ·rintro⟨u,v,rfl,⟨_,rfl⟩,hv⟩;exact hv
   intro hw;exact⟨[],w,rfl,⟨.inl rfl,rfl⟩,hw⟩
  ·refine(oh zd zd l hall _ _ (hb zd)).congr fun w=>?_
   rw[lg5]
   exact⟨fun hw=>hw.elim (fun hw=>absurd hw.1 zd) id,.inr⟩
  ·match l,hn,hall with
   |[t],_,hall=>
    have ht:=hall t (by simp)
    have h3:KJ ms (dk ms 6 [t] (fc ms 6 c)) _:=qX (hb zd) (tf ht)
    refine h3.congr fun w=>?_
    rw[lg6]
    constructor
    ·rintro(⟨_,rfl⟩|⟨u,v,rfl,hu,hv⟩)
     ·exact .nil
     exact .cons hu hv
    intro hw
    cases hw with
    |nil=>exact .inl ⟨zd,rfl⟩
    |cons hu hv=>exact .inr ⟨_,_,rfl,hu,hv⟩
  ·match l,hn,hall with
   |[t],_,hall=>
    have ht:=hall t (by simp)
    have h3:KJ ms (dk ms 7 [t] (fc ms 7 c)) _:=qX (hb zd) (tf ht)
    refine h3.congr fun w=>?_
    rw[lg7]
    constructor
    ·rintro(⟨h,_⟩|hw)
     ·exact absurd h zd
     exact hw
    exact .inr
  ·match l,hn,hall with
   |[t],_,hall=>
    refine(oh zd zd [t] hall _ _ (hb zd)).congr fun w=>?_
    rw[lg8]
    constructor
    ·rintro(⟨_,hw⟩|hw)
     ·exact .inl hw
     rw[LgA,LgA]at hw
     exact .inr (hw.elim id False.elim)
    rintro(hw|hw)
    ·exact .inl ⟨zd,hw⟩
    exact .inr (by rw[LgA];exact .inl hw)
  obtain rfl:=J7 hn
  unfold dk
  refine(hb zd).congr fun w=>?_
  rw[Lg];simp
theorem tT(ms:List Int):∀(l:List Nd),eJ l=true->∀t∈l,KJ ms (bG ms t) (Lg t)
 |[],_,t,ht=>by cases ht
 |a::r,h,t,ht=>by
  unfold eJ at h
  rw[DZ]at h
  have h1:=qk ms a true h.1
  have h2:=tT ms r h.2
  rcases JL.1 ht with e|ht
  ·rw[e];exact h1
  exact h2 t ht
end
theorem og(ms:List Int){t:Nd}(h:bj t=true):KJ ms (bG ms t) (Lg t):=by
 unfold bj at h;rw[DZ]at h;exact qk ms t false h.2
theorem DH{ms:List Int}{k c:Int}{i n:Nat}(_:i<n)(hn:n=ms.length+1):(J8 n).map (fc ms k c i) =
  if i+1<n/\k<4 then((Jt n false).set i (decide (k=4\/k=6\/k=8\/k=9))).set (i+1) (FP k c (nth ms i))else(Jt n false).set i (decide (k=4\/k=6\/k=8\/k=9)):=by
 by_cases h:i+1<n/\k<4
 ·rw[if_pos h];refine JU (by simp) fun j h1 h2=>?_
  simp only[JT,JM,Ky,KO];unfold fc
  by_cases e:i=j
  ·subst e;rw[if_pos rfl,if_neg zo,if_pos rfl]
  rw[if_neg e]
  by_cases e2:i+1=j
  ·rw[if_pos ⟨e2.symm,h.2⟩,if_pos e2]
  rw[if_neg zo,if_neg e2,if_neg e]
 rw[if_neg h];refine JU (by simp) fun j h1 h2=>?_
 simp only[List.length_map,List.length_range]at h1;simp only[JT,JM,Ky,KO];unfold fc
 by_cases e:i=j
 ·subst e;rw[if_pos rfl,if_pos rfl]
 rw[if_neg e,if_neg e,if_neg zo]
theorem gX(ms:List Int)(mv:J9)(hml:ms.length ≤ 60): ∀(n:Nat) (t:Nd), nsz t ≤ n → ∀(x:N3) (w:CR), Nt (fun _ => 0) w t x → Ma w mv ms → KK JQ 57 [nv x, mv] w fun v w' => MatN w.heap.size w' v (ms.length + 1) (bG ms t) ∧ JV w w'
 |0, t, hn => by have := cN t; omega
 |n + 1, .mk k c kids, hn => by
  intro x w h hm
  have hx0 := h.ones
  obtain⟨xs, hs, hf, hl, hk⟩ := h.kids
  simp only[KY]at hl hk
  simp only[nsz]at hn
  have hM:bG ms (.mk k c kids) = dk ms k kids (fc ms k c) := by rw[bG]
  rw[hM]
  generalize x.2.2 = sv at *
  subst hx0
  simp only[KX, Lb]
  obtain⟨K, hK⟩:∃K, K = ms.length + 1 := ⟨_, rfl⟩
  rw[← hK]
  have hz:¬(0 = 1 ∨ 0 = 2 ∨ 10 ≤ 0) := by omega
  have hmf:Lp (fun _ => 0) w mv := hm.free0 (fun x => by simp)
  refine J5 func57 ntmps57 rfl rfl ?_
  refine I4 ?_
  refine la ?_
  refine aE (au w) 1 (by omega) rfl rfl ?_
  intro xb w1 O1 hxb1 hU1 hR1 hE1
  refine zv (Gv rfl) ?_
  refine ka ?_
  refine az ?_
  refine I4 ?_
  refine la ?_
  refine zv (ix rfl) ?_
  refine zv (KL (by first | exact hm.ext hE1) J6 rfl) ?_
  refine zv (JK rfl rfl (JC (by omega))) ?_
  refine zv (Gv rfl) ?_
  refine ka ?_
  refine az ?_
  refine I4 ?_
  refine la ?_
  refine zv (ix rfl) ?_
  rw[show((ms.length:Nat):Int) + 1 = ((K:Nat):Int)from by rw[hK]; omega]
  refine gG IP (nS) (by kernel_rfl) rfl hR1 2 (by decide) K rfl rfl rfl rfl (by omega) (by omega) rfl ?_
  intro w2 O2 ov hov2 hU2 hR2 hE2
  have hxb2 := hxb1.upd hU2 (by decide) (by decide)
  have hU02:Jy (fun q => q = 1 ∨ q = 2 ∨ 10 ≤ q) (fun _ => 0) w O2 w2 := (hU1.mono (fun _ h => by omega) hz).trans (hU2.mono (fun _ h => by omega) hz)
  refine zv (Gv rfl) ?_
  refine ka ?_
  refine az ?_
  refine I4 ?_
  refine I4 ?_
  refine la ?_
  refine zv (Gv rfl) ?_
  refine ka ?_
  refine az ?_
  refine K2 ?_
  refine zlp (fun z:Nat×(Nat → Nat)×World×List J9 => [(1, mv), (2, nP xb), (5, nI (K:Nat)), (6, ov), (7, nI (z.1:Nat))]) (fun z => z.2.2.1) (fun z => z.1 ≤ K ∧ LB z.2.1 z.2.2.1 ov z.2.2.2 K z.1 (fc ms k c) ∧ K0 z.2.1 z.2.2.1 1 xb #[nI k, nI c, sv] 47 ∧ Jy (fun q => q = 1 ∨ q = 2 ∨ 10 ≤ q) (fun _ => 0) w z.2.1 z.2.2.1 ∧ KV w.heap.size z.2.1 z.2.2.1) (fun z => K - z.1) (0, O2, w2, Jt K (nS)) (⟨vX _, ⟨hov2, by simp, fun i hi => absurd hi (J0 i)⟩, hxb2, hU02, hR2⟩) ?_
  rintro⟨i, O3, w3, rs⟩ ⟨hi, hMt, hxb3, hU3, hR3⟩
  dsimp only at hi hMt hxb3 hU3 hR3 ⊢
  have hrsl := hMt.len
  refine I4 ?_
  refine I4 ?_
  refine la ?_
  refine zv (ix rfl) ?_
  refine zv (ix rfl) ?_
  refine zv (KW rfl rfl) ?_
  refine ka ?_
  refine az ?_
  refine zC ?_ ?_
  ·intro hlt
   replace hlt:i < K := by have := of_decide_eq_true hlt; omega
   refine K7 ?_
   refine az ?_
   refine I4 ?_
   refine K2 ?_
   refine I4 ?_
   refine la ?_
   refine zv (ix rfl) ?_
   refine zv (ix rfl) ?_
   refine zv (ix rfl) ?_
   refine bN uy (val := fun b:Bool => JR b) false (by kernel_rfl) (fun _ => rfl) hR3 (10 + i) (by omega) K rfl rfl rfl rfl (by omega) (by omega) rfl ?_
   intro w4 O4 rv hre hrv4 hU4 hR4 hE4
   have hMt4 := hMt.upd hU4 (by omega) (fun t ht => by omega)
   have hxb4 := hxb3.upd hU4 (by decide) (by omega)
   refine zv (ah hMt4.row.sl.sh Kv (KP _) rfl rfl i rfl (by omega)) ?_
   refine JI hMt4.row i (by omega) rv (KP _) hrv4.one (by decide) rfl rfl rfl rfl ?_
   intro w5 hov5 hU5
   have hrv5 := hrv4.upd hU5 (by omega) (by omega)
   have hxb5 := hxb4.upd hU5 (by decide) (by decide)
   have hR5 := hR4.upd hU5
   have hU05 := (hU3.trans (hU4.mono (fun _ h => by omega) hz)).trans (hU5.mono (fun _ h => by omega) hz)
   have hMt5:LB O4 w5 ov (rs.set i rv) K i (fc ms k c) := ⟨hov5, by rw[KF]; exact hrsl, fun t ht => by
    rw[aT (by omega), if_neg (by omega)]
    exact(hMt4.at_ t ht).upd hU5 (by omega) (by omega)⟩
   have hmi:nth (rs.set i rv) i = rv := by rw[aT (by omega), if_pos rfl]
   have hml5:(rs.set i rv).length = K := by rw[KF]; exact hrsl
   generalize rs.set i rv = rs5 at *
   refine ka ?_
   refine az ?_
   refine I4 ?_
   obtain⟨b0, hb0⟩:∃b0, b0 = decide (k = 4 ∨ k = 6 ∨ k = 8 ∨ k = 9) := ⟨_, rfl⟩
   refine iK (fun z:CR => [(1, mv), (2, nP xb), (5, nI (K:Nat)), (6, ov), (7, nI (i:Nat))]) (fun z:CR => z) (fun z:CR => LB O4 z ov rs5 K i (fc ms k c) ∧ K0 O4 z 1 xb #[nI k, nI c, sv] 47 ∧ K6 cP 4 1 O4 z (10 + i) rv ((Jt K false).set i b0) ∧ Jy (fun q => q = 1 ∨ q = 2 ∨ 10 ≤ q) (fun _ => 0) w O4 z ∧ KV w.heap.size O4 z) ?_ ?_
   ·intro hN
    have hXd := aa (S := fun _ => False) (fun h => h) O4 (Fu w5).drew
    have hMd := hMt5.upd hXd (fun h => h) (fun _ _ h => h)
    have hxbd := hxb5.upd hXd (by decide) (fun h => h)
    have hUd := hU05.trans (hXd.mono (fun _ h => h.elim) hz)
    have hRd := hR5.upd hXd
    have hrvd:K6 (fun x => [(fun b:Bool => JR b) x]) 4 1 O4 w5.drew (10 + i) rv (Jt K false) := hrv5.upd hXd (by omega) (fun h => h)
    have cells5:∀W, LB O4 W ov rs5 K i (fc ms k c) → K0 O4 W 1 xb #[nI k, nI c, sv] 47 → W.cell? (adr ov 1 i) = some rv ∧ W.cell? (nA xb 0) = some (nI k) := fun W hm hb => by
     refine⟨?_, hb.cell 0 rfl⟩
     have := hm.row.sl.cell (i := i) (j := 0) (by omega) rfl; rw[ao, hmi]at this; exact this
    obtain⟨e0, e1⟩ := cells5 w5.drew hMd hxbd
    have hrl:(Jt K false).length = K := by simp
    refine aI (fun W => W.cell? (adr ov 1 i) = some rv ∧ W.cell? (nA xb 0) = some (nI k)) 25 rfl (by kernel_rfl) ?_
    refine zin ⟨e0, e1⟩ fun zS => ?_
    refine zrm 0 rfl zS rfl ?_
    refine zrm 1 rfl zS rfl ?_
    refine zr 2 rfl zS (fun _ => ah hMt5.row.sl.sh Kv (KP _) rfl rfl i rfl (by omega)) ?_
    refine zt 3 rfl zS (fun w1 hw1 => RV.ld hw1.1 rfl) ?_
    refine zrm 4 rfl zS rfl ?_
    refine zrf 5 rfl zS rfl ?_
    refine zt 6 rfl zS (fun w1 hw1 => RV.ld hw1.2 rfl) ?_
    refine zr 7 rfl zS (fun _ => KB rfl rfl) ?_
    refine zrm 8 rfl zS rfl ?_
    by_cases h4:k = 4
    ·skip
     refine bL (d := 35) rfl (b' := true) ((by rw[h4]; rfl)) ?_
     refine zin ⟨e0, e1⟩ fun zS => ?_
     refine zte 9 rfl rfl zS ?_
     refine zte 10 rfl rfl zS ?_
     refine zte 11 rfl rfl zS ?_
     refine zr 12 rfl zS (fun _ => aQ rfl rfl) ?_
     refine zrm 13 rfl zS rfl ?_
     refine zte 14 rfl rfl zS ?_
     refine zte 15 rfl rfl zS ?_
     refine zte 16 rfl rfl zS ?_
     refine zr 17 rfl zS (fun _ => aQ rfl rfl) ?_
     refine zrm 18 rfl zS rfl ?_
     refine zte 19 rfl rfl zS ?_
     refine zte 20 rfl rfl zS ?_
     refine zte 21 rfl rfl zS ?_
     refine zr 22 rfl zS (fun _ => aQ rfl rfl) ?_
     refine zr 23 rfl zS (fun _ => ah hrv5.sl.sh Jv (JD _) rfl rfl i rfl (by omega)) ?_
     refine Ae 24 (by kernel_rfl) rfl ?_
     refine JI hrvd i (by omega) (true) (JD _) rfl (by omega) rfl rfl rfl rfl ?_
     intro w6 hrv6 hU6
     have hM6 := hMd.upd hU6 (by omega) (fun t ht => by omega)
     have hx6 := hxbd.upd hU6 (by decide) (by omega)
     refine ka ?_
     refine af ((cells5 w6 hM6 hx6)) ?_
     refine Jn (by kernel_rfl) ?_
     exact eD (hN (w6) (⟨hM6, hx6, by rw[hb0, decide_eq_true (KD h4)]; exact hrv6, hUd.trans (hU6.mono (fun _ h => by omega) hz), hRd.upd hU6⟩)) ⟨rfl, rfl, rfl, rfl, rfl, trivial⟩ rfl
    ·skip
     refine bL (d := 35) rfl (b' := false) ((by rw[beq_eq_false_iff_ne]; exact h4)) ?_
     refine zin ⟨e0, e1⟩ fun zS => ?_
     refine zro 9 rfl zS (fun _ => RV.fa rfl) ?_
     refine zto 10 rfl zS (fun w1 hw1 => RV.ld hw1.2 rfl) ?_
     refine zro 11 rfl zS (fun _ => KB rfl rfl) ?_
     refine zr 12 rfl zS (fun _ => aW rfl rfl) ?_
     refine zrm 13 rfl zS rfl ?_
     by_cases h6:k = 6
     ·skip
      refine bL (d := 40) rfl (b' := true) ((by rw[h6]; rfl)) ?_
      refine zin ⟨e0, e1⟩ fun zS => ?_
      refine zte 14 rfl rfl zS ?_
      refine zte 15 rfl rfl zS ?_
      refine zte 16 rfl rfl zS ?_
      refine zr 17 rfl zS (fun _ => aQ rfl rfl) ?_
      refine zrm 18 rfl zS rfl ?_
      refine zte 19 rfl rfl zS ?_
      refine zte 20 rfl rfl zS ?_
      refine zte 21 rfl rfl zS ?_
      refine zr 22 rfl zS (fun _ => aQ rfl rfl) ?_
      refine zr 23 rfl zS (fun _ => ah hrv5.sl.sh Jv (JD _) rfl rfl i rfl (by omega)) ?_
      refine Ae 24 (by kernel_rfl) rfl ?_
      refine JI hrvd i (by omega) (true) (JD _) rfl (by omega) rfl rfl rfl rfl ?_
      intro w6 hrv6 hU6
      have hM6 := hMd.upd hU6 (by omega) (fun t ht => by omega)
      have hx6 := hxbd.upd hU6 (by decide) (by omega)
      refine ka ?_
      refine af ((cells5 w6 hM6 hx6)) ?_
      refine Jn (by kernel_rfl) ?_
      exact eD (hN (w6) (⟨hM6, hx6, by rw[hb0, decide_eq_true (KC (KD h6))]; exact hrv6, hUd.trans (hU6.mono (fun _ h => by omega) hz), hRd.upd hU6⟩)) ⟨rfl, rfl, rfl, rfl, rfl, trivial⟩ rfl
     ·skip
      refine bL (d := 40) rfl (b' := false) ((by rw[beq_eq_false_iff_ne]; exact h6)) ?_
      refine zin ⟨e0, e1⟩ fun zS => ?_
      refine zro 14 rfl zS (fun _ => RV.fa rfl) ?_
      refine zto 15 rfl zS (fun w1 hw1 => RV.ld hw1.2 rfl) ?_
      refine zro 16 rfl zS (fun _ => KB rfl rfl) ?_
      refine zr 17 rfl zS (fun _ => aW rfl rfl) ?_
      refine zrm 18 rfl zS rfl ?_
      by_cases h8:k = 8
      ·skip
       refine bL (d := 45) rfl (b' := true) ((by rw[h8]; rfl)) ?_
       refine zin ⟨e0, e1⟩ fun zS => ?_
       refine zte 19 rfl rfl zS ?_
       refine zte 20 rfl rfl zS ?_
       refine zte 21 rfl rfl zS ?_
       refine zr 22 rfl zS (fun _ => aQ rfl rfl) ?_
       refine zr 23 rfl zS (fun _ => ah hrv5.sl.sh Jv (JD _) rfl rfl i rfl (by omega)) ?_
       refine Ae 24 (by kernel_rfl) rfl ?_
       refine JI hrvd i (by omega) (true) (JD _) rfl (by omega) rfl rfl rfl rfl ?_
       intro w6 hrv6 hU6
       have hM6 := hMd.upd hU6 (by omega) (fun t ht => by omega)
       have hx6 := hxbd.upd hU6 (by decide) (by omega)
       refine ka ?_
       refine af ((cells5 w6 hM6 hx6)) ?_
       refine Jn (by kernel_rfl) ?_
       exact eD (hN (w6) (⟨hM6, hx6, by rw[hb0, decide_eq_true (KC (KC (KD h8)))]; exact hrv6, hUd.trans (hU6.mono (fun _ h => by omega) hz), hRd.upd hU6⟩)) ⟨rfl, rfl, rfl, rfl, rfl, trivial⟩ rfl
      ·skip
       refine bL (d := 45) rfl (b' := false) ((by rw[beq_eq_false_iff_ne]; exact h8)) ?_
       refine zin ⟨e0, e1⟩ fun zS => ?_
       refine zro 19 rfl zS (fun _ => RV.fa rfl) ?_
       refine zto 20 rfl zS (fun w1 hw1 => RV.ld hw1.2 rfl) ?_
       refine zro 21 rfl zS (fun _ => KB rfl rfl) ?_
       refine zr 22 rfl zS (fun _ => aW rfl rfl) ?_
       refine zr 23 rfl zS (fun _ => ah hrv5.sl.sh Jv (JD _) rfl rfl i rfl (by omega)) ?_
       refine Ae 24 (by kernel_rfl) rfl ?_
       refine JI hrvd i (by omega) (k == 9) (JD _) rfl (by omega) rfl rfl rfl rfl ?_
       intro w6 hrv6 hU6
       have hM6 := hMd.upd hU6 (by omega) (fun t ht => by omega)
       have hx6 := hxbd.upd hU6 (by decide) (by omega)
       refine ka ?_
       refine af ((cells5 w6 hM6 hx6)) ?_
       refine Jn (by kernel_rfl) ?_
       exact eD (hN (w6) (⟨hM6, hx6, by rw[hb0, show decide (k = 4 ∨ k = 6 ∨ k = 8 ∨ k = 9) = (k == 9)from by rw[JZ]; simp[h4, h6, h8]]; exact hrv6, hUd.trans (hU6.mono (fun _ h => by omega) hz), hRd.upd hU6⟩)) ⟨rfl, rfl, rfl, rfl, rfl, trivial⟩ rfl
   rintro w7 ⟨hM7, hxb7, hrv7, hU7, hR7⟩
   refine az ?_
   have hrow := DH (k := k) (c := c) hlt hK
   rw[← hb0]at hrow
   have x7:w7.cell? (nA xb 0) = some (nI k) := hxb7.cell 0 rfl
   refine I4 ?_
   refine la ?_
   refine zv (ix rfl) ?_
   refine zv (JK rfl rfl (JC (by omega))) ?_
   refine zv (ix rfl) ?_
   refine zv (KW rfl rfl) ?_
   refine zv (ix rfl) ?_
   refine aP (fun w1 => _ = w1) (decide (k < 4)) 3 (rfl) rfl rfl rfl rfl rfl ?_ ?_
   ·skip
    intro g1
    refine Cl rfl ?_
    refine zv (RV.fa rfl) ?_
    refine Cl rfl ?_
    refine zv (RV.ld x7 rfl) ?_
    refine Cl rfl ?_
    refine zv (KW rfl rfl) ?_
    refine ka ?_
    refine Cy (tA := 55) 4 (rfl) rfl rfl rfl (fun v hv => (LG hv).symm.trans (congrArg JR g1)) rfl
   rintro _ rfl
   refine ka ?_
   refine az ?_
   refine iK (fun z:CR => [(1, mv), (2, nP xb), (5, nI (K:Nat)), (6, ov), (7, nI (i:Nat))]) (fun z:CR => z) (fun z:CR => LB O4 z ov rs5 K (i + 1) (fc ms k c) ∧ K0 O4 z 1 xb #[nI k, nI c, sv] 47 ∧ Jy (fun q => q = 1 ∨ q = 2 ∨ 10 ≤ q) (fun _ => 0) w O4 z ∧ KV w.heap.size O4 z) ?_ ?_
   ·intro hN
    have last:∀W, LB O4 W ov rs5 K i (fc ms k c) → K6 cP 4 1 O4 W (10 + i) rv ((J8 K).map (fc ms k c i)) → LB O4 W ov rs5 K (i + 1) (fc ms k c) := fun W h1 h2 => ⟨h1.row, h1.len, fun t ht => by
     by_cases e:t = i
     ·subst e; rw[hmi]; exact h2
     ·exact h1.at_ t (by omega)⟩
    refine zC ?_ ?_
    ·intro hc
     have hc':i + 1 < K ∧ k < 4 := by
      rw[DZ]at hc
      have a1 := of_decide_eq_true hc.1
      have a2 := of_decide_eq_true hc.2
      exact⟨by omega, a2⟩
     rw[if_pos hc']at hrow
     have hXd := aa (S := fun _ => False) (fun h => h) O4 (Fu w7).drew
     have hMd := hM7.upd hXd (fun h => h) (fun _ _ h => h)
     have hxbd := hxb7.upd hXd (by decide) (fun h => h)
     have hUd := hU7.trans (hXd.mono (fun _ h => h.elim) hz)
     have hRd := hR7.upd hXd
     have hrvd := hrv7.upd hXd (by omega) (fun h => h)
     have him:i < ms.length := by omega
     have cells7:∀W, LB O4 W ov rs5 K i (fc ms k c) → K0 O4 W 1 xb #[nI k, nI c, sv] 47 → Jy (fun q => q = 1 ∨ q = 2 ∨ 10 ≤ q) (fun _ => 0) w O4 W → W.cell? (adr ov 1 i) = some rv ∧ W.cell? (adr mv 1 i) = some (nI (nth ms i)) ∧ (∀j u, [nI k, nI c, sv][j]? = some u → W.cell? (nA xb j) = some u) := fun W hm' hb hu => by
      refine⟨?_, ?_, hb.cellsAdd⟩
      ·have := hm'.row.sl.cell (i := i) (j := 0) (by omega) rfl; rw[ao, hmi]at this; exact this
      ·have := (hm.upd hmf hu).cell (i := i) (j := 0) him rfl; rw[ao]at this; exact this
     have e5 := cells7 w7.drew hMd hxbd hUd
     have hm7 := hm.upd hmf hU7
     have hrl:((Jt K false).set i b0).length = K := by simp
     refine aI (fun W => W.cell? (adr ov 1 i) = some rv ∧ W.cell? (adr mv 1 i) = some (nI (nth ms i)) ∧ (∀j u, [nI k, nI c, sv][j]? = some u → W.cell? (nA xb j) = some u)) 14 rfl (by kernel_rfl) ?_
     refine zrm 0 rfl e5 rfl ?_
     refine zrm 1 rfl e5 rfl ?_
     refine zr 2 rfl e5 (fun _ => ah hM7.row.sl.sh Kv (KP _) rfl rfl i rfl (by omega)) ?_
     refine zt 3 rfl e5 (fun w1 hw1 => RV.ld hw1.1 rfl) ?_
     refine zrm 4 rfl e5 rfl ?_
     refine zr 5 rfl e5 (fun _ => JK rfl rfl (JC (by omega))) ?_
     refine zt 6 rfl e5 (fun w1 hw1 => ai (us := [nI k, nI c, sv]) hw1.2.2 (Ju _) (Ji _) rfl) ?_
     refine zrm 7 rfl e5 rfl ?_
     refine zrm 8 rfl e5 rfl ?_
     refine zr 9 rfl e5 (fun _ => ah hm7.sh J6 (Jw _) rfl rfl i rfl (by omega)) ?_
     refine zt 10 rfl e5 (fun w1 hw1 => RV.ld hw1.2.1 rfl) ?_
     refine Ae 11 (by kernel_rfl) rfl ?_
     refine zc call95 (ze k c (nth ms i) sv w7.drew) ?_
     rintro _ w9 ⟨rfl, hE9⟩
     have hX9 := aa (S := fun _ => False) (fun h => h) O4 hE9
     have hM9 := hMd.upd hX9 (fun h => h) (fun _ _ h => h)
     have hxb9 := hxbd.upd hX9 (by decide) (fun h => h)
     have hU9 := hUd.trans (hX9.mono (fun _ h => h.elim) hz)
     have hrv9:K6 (fun x => [(fun b:Bool => JR b) x]) 4 1 O4 w9 (10 + i) rv ((Jt K false).set i b0) := hrvd.upd hX9 (by omega) (fun h => h)
     refine ka ?_
     refine af ((cells7 w9 hM9 hxb9 hU9)) ?_
     refine zr 12 rfl ((cells7 w9 hM9 hxb9 hU9)) (fun _ => ah hrv7.sl.sh Jv (JD _) rfl rfl (i + 1) rfl (by omega)) ?_
     refine Ae 13 (by kernel_rfl) rfl ?_
     refine JI hrv9 (i + 1) (by omega) (FP k c (nth ms i)) (JD _) rfl (by omega) rfl rfl rfl rfl ?_
     intro w10 hrv10 hU10
     have hM10 := hM9.upd hU10 (by omega) (fun t ht => by omega)
     have hxb10 := hxb9.upd hU10 (by decide) (by omega)
     have hU010 := hU9.trans (hU10.mono (fun _ h => by omega) hz)
     refine ka ?_
     refine af ((cells7 w10 hM10 hxb10 hU010)) ?_
     refine Jn (by kernel_rfl) ?_
     exact eD (hN (w10) (⟨last w10 hM10 (by rw[hrow]; exact hrv10), hxb10, hU010, (hRd.upd hX9).upd hU10⟩)) ⟨rfl, rfl, rfl, rfl, rfl, trivial⟩ rfl
    ·intro hc
     have hc':¬(i + 1 < K ∧ k < 4) := fun h => by
      rw[decide_eq_true (show((i:Nat):Int) + 1 < ((K:Nat):Int) by omega), decide_eq_true h.2]at hc
      cases hc
     rw[if_neg hc']at hrow
     refine K7 ?_
     exact eD (hN (w7) (⟨last w7 hM7 (by rw[hrow]; exact hrv7), hxb7, hU7, hR7⟩)) ⟨rfl, rfl, rfl, rfl, rfl, trivial⟩ rfl
   rintro w8 ⟨hM8, hxb8, hU8, hR8⟩
   refine eh ?_
   refine az ?_
   refine la ?_
   refine zv (ix rfl) ?_
   refine zv (JK rfl rfl (JC (by omega))) ?_
   refine zv (Gv rfl) ?_
   refine ka ?_
   refine zxd (i + 1, O4, w8, rs5) (⟨hlt, hM8, hxb8, hU8, hR8⟩)
  ·intro hge
   have hiK:i = K := by have := of_decide_eq_false hge; omega
   rw[hiK]at hMt
   have hE3 := hU3.ext
   have c30:w3.cell? (nA xb 0) = some (nI k) := hxb3.cell 0 rfl
   have c32:w3.cell? (nA xb 2) = some sv := hxb3.cell 2 rfl
   have hlen := hs.len_le
   obtain⟨R, hR⟩:∃R, R = dk ms k kids (fc ms k c) := ⟨_, rfl⟩
   rw[← hR]
   refine Lm ?_
   refine cT ?_
   refine cT ?_
   refine eY ?_
   refine az ?_
   refine I4 ?_
   refine I4 ?_
   refine la ?_
   refine zv (Gv rfl) ?_
   refine ka ?_
   refine az ?_
   refine K2 ?_
   refine zlp (fun z:Nat×CR×J9×Tb => [(1, mv), (2, nP xb), (5, nI (K:Nat)), (6, z.2.2.1), (8, nI (z.1:Nat))]) (fun z => z.2.1) (fun z => z.1 ≤ xs.length ∧ JV w3 z.2.1 ∧ MatN w.heap.size z.2.1 z.2.2.1 K z.2.2.2 ∧ dk ms k (kids.drop z.1) z.2.2.2 = R) (fun z => xs.length - z.1) (0, w3, ov, fc ms k c) (⟨vX _, Fu _, hMt.matN hR3, hR.symm⟩) ?_
   rintro⟨p, w4, out, f⟩ ⟨hp, hE4, hf4, heq⟩
   dsimp only at hp hE4 hf4 heq ⊢
   have hs4 := hs.ext (hE3.trans hE4)
   have d0 := hE4.cell c30
   have d2 := hE4.cell c32
   refine I4 ?_
   refine I4 ?_
   refine la ?_
   refine zv (ix rfl) ?_
   refine zv (RV.fa rfl) ?_
   refine zv (RV.ld d2 rfl) ?_
   refine zv (KL (by first | exact hs4) L6 rfl) ?_
   refine zv (KW rfl rfl) ?_
   refine ka ?_
   refine az ?_
   refine zC ?_ ?_
   ·intro hlt
    replace hlt:p < xs.length := by have := of_decide_eq_true hlt; omega
    have hkz := bD kids p (by omega)
    rw[K4 (by omega), ← aB (show p < kids.length by omega), dk, ← hK]at heq
    refine K7 ?_
    refine az ?_
    refine I4 ?_
    refine K2 ?_
    refine I4 ?_
    refine la ?_
    refine zv (RV.fa rfl) ?_
    refine zv (RV.ld d2 rfl) ?_
    refine zv (ix rfl) ?_
    refine zv (JP (by first | exact hs4) L6 (Ji _) rfl rfl _ rfl (by omega)) ?_
    refine zv (ai (us := aY (nth xs p)) (fun j u hu => hs4.cell hlt hu) (Ju _) (Ji _) rfl) ?_
    refine zv (ix rfl) ?_
    refine zc M6 (gX ms mv hml n (nth kids p) (by omega) (nth xs p) w4 ((hk p hlt).ext (hE3.trans hE4)) (hm.ext (hE3.trans hE4))) ?_
    rintro tv w5 ⟨ht5, hE5⟩
    rw[← hK]at ht5
    have hf5 := hf4.mat.ext hE5
    have hE5' := (hE3.trans hE4).trans hE5
    replace ht5 := ht5.mat
    have d50 := hE5.cell d0
    refine zv (Gv rfl) ?_
    refine ka ?_
    refine az ?_
    refine I4 ?_
    refine la ?_
    refine zv (RV.fa rfl) ?_
    refine zv (RV.ld d50 rfl) ?_
    refine ka ?_
    refine az ?_
    refine K2 ?_
    refine I4 ?_
    refine la ?_
    refine zv (KB rfl rfl) ?_
    refine zv (Gv rfl) ?_
    refine ka ?_
    refine az ?_
    by_cases h4:k = 4
    ·have hst:stepT K k f (bG ms (nth kids p)) = fun i j => gM f (bG ms (nth kids p)) i K j := by unfold stepT; rw[if_pos h4]
     rw[hst]at heq
     refine aZ rfl ((by rw[h4]; rfl)) ?_
     refine la ?_
     refine zv (ix rfl) ?_
     refine zv (ix rfl) ?_
     refine zc M5 (gW K f (bG ms (nth kids p)) out tv w5 hf5 ht5 (by omega)) ?_
     rintro ov6 w6 ⟨hf6, hE6⟩
     refine zv (Gv rfl) ?_
     refine ka ?_
     refine eh ?_
     refine eh ?_
     refine az ?_
     refine la ?_
     refine zv (ix rfl) ?_
     refine zv (JK rfl rfl (JC (by omega))) ?_
     refine zv (Gv rfl) ?_
     refine ka ?_
     refine zxd (p + 1, w6, ov6, _) (⟨hlt, (hE4.trans hE5).trans hE6, hf6.mono hE5'.size, heq⟩)
    ·skip
     refine aS rfl ((by rw[beq_eq_false_iff_ne]; exact h4)) ?_
     refine I4 ?_
     refine I4 ?_
     refine la ?_
     refine zv (KB rfl rfl) ?_
     refine zv (Gv rfl) ?_
     refine ka ?_
     refine az ?_
     by_cases h6:k = 6
     ·have hst:stepT K k f (bG ms (nth kids p)) = fun i j => f i j || DM K (bG ms (nth kids p)) K i j := by unfold stepT; rw[if_neg h4, if_pos (.inl h6)]
      rw[hst]at heq
      refine aZ rfl ((by rw[h6]; rfl)) ?_
      refine K7 ?_
      refine az ?_
      refine aZ rfl ((by rw[h6]; rfl)) ?_
      refine I4 ?_
      refine la ?_
      refine zv (ix rfl) ?_
      refine zv (Gv rfl) ?_
      refine ka ?_
      refine az ?_
      refine I4 ?_
      refine I4 ?_
      refine la ?_
      refine zv (Gv rfl) ?_
      refine ka ?_
      refine az ?_
      refine K2 ?_
      refine zlp (fun y:Nat×CR×J9 => [(1, mv), (2, nP xb), (5, nI (K:Nat)), (6, out), (8, nI (p:Nat)), (9, tv), (10, y.2.2), (11, nI (y.1:Nat))]) (fun y => y.2.1) (fun y => y.1 ≤ K ∧ JV w5 y.2.1 ∧ MatV y.2.1 y.2.2 K (DM K (bG ms (nth kids p)) y.1)) (fun y => K - y.1) (0, w5, tv) (⟨vX _, Fu _, ht5⟩) ?_
      rintro⟨r, w6, av⟩ ⟨hr, hE6, ha6⟩
      dsimp only at hr hE6 ha6 ⊢
      refine I4 ?_
      refine I4 ?_
      refine la ?_
      refine zv (ix rfl) ?_
      refine zv (ix rfl) ?_
      refine zv (KW rfl rfl) ?_
      refine ka ?_
      refine az ?_
      refine zC ?_ ?_
      ·intro hlt3
       replace hlt3:r < K := by have := of_decide_eq_true hlt3; omega
       refine K7 ?_
       refine az ?_
       refine I4 ?_
       refine K2 ?_
       refine la ?_
       refine zv (ix rfl) ?_
       refine zv (ix rfl) ?_
       refine zv (ix rfl) ?_
       refine zc M5 (gW K _ _ av tv w6 ha6 (ht5.ext hE6) (by omega)) ?_
       rintro bv w7 ⟨hb7, hE7⟩
       refine zc Ls (dG K _ _ av bv w7 (ha6.ext hE7) hb7.mat (by omega)) ?_
       rintro cv w8 ⟨hc8, hE8⟩
       refine zv (Gv rfl) ?_
       refine ka ?_
       refine eh ?_
       refine az ?_
       refine la ?_
       refine zv (ix rfl) ?_
       refine zv (JK rfl rfl (JC (by omega))) ?_
       refine zv (Gv rfl) ?_
       refine ka ?_
       refine zxd (r + 1, w8, cv) (⟨hlt3, (hE6.trans hE7).trans hE8, hc8.mat⟩)
      ·intro hge3
       have hrK:r = K := by have := of_decide_eq_false hge3; omega
       rw[hrK]at ha6
       refine Lm ?_
       refine cT ?_
       refine cT ?_
       refine eY ?_
       refine az ?_
       refine la ?_
       refine zv (ix rfl) ?_
       refine zv (ix rfl) ?_
       refine zc Ls (dG K f _ out av w6 (hf5.ext hE6) ha6 (by omega)) ?_
       rintro ov7 w7 ⟨hf7, hE7⟩
       refine zv (Gv rfl) ?_
       refine ka ?_
       refine eh ?_
       refine eh ?_
       refine az ?_
       refine la ?_
       refine zv (ix rfl) ?_
       refine zv (JK rfl rfl (JC (by omega))) ?_
       refine zv (Gv rfl) ?_
       refine ka ?_
       refine zxd (p + 1, w7, ov7, _) (⟨hlt, ((hE4.trans hE5).trans hE6).trans hE7, hf7.mono (hE5'.trans hE6).size, heq⟩)
     ·skip
      refine aS rfl ((by rw[beq_eq_false_iff_ne]; exact h6)) ?_
      refine la ?_
      refine zv (KB rfl rfl) ?_
      refine zv (Gv rfl) ?_
      refine ka ?_
      refine az ?_
      by_cases h7:k = 7
      ·have hst:stepT K k f (bG ms (nth kids p)) = fun i j => f i j || DM K (bG ms (nth kids p)) K i j := by unfold stepT; rw[if_neg h4, if_pos (.inr h7)]
       rw[hst]at heq
       refine aZ rfl ((by rw[h7]; rfl)) ?_
       refine I4 ?_
       refine la ?_
       refine zv (ix rfl) ?_
       refine zv (Gv rfl) ?_
       refine ka ?_
       refine az ?_
       refine I4 ?_
       refine I4 ?_
       refine la ?_
       refine zv (Gv rfl) ?_
       refine ka ?_
       refine az ?_
       refine K2 ?_
       refine zlp (fun y:Nat×CR×J9 => [(1, mv), (2, nP xb), (5, nI (K:Nat)), (6, out), (8, nI (p:Nat)), (9, tv), (10, y.2.2), (11, nI (y.1:Nat))]) (fun y => y.2.1) (fun y => y.1 ≤ K ∧ JV w5 y.2.1 ∧ MatV y.2.1 y.2.2 K (DM K (bG ms (nth kids p)) y.1)) (fun y => K - y.1) (0, w5, tv) (⟨vX _, Fu _, ht5⟩) ?_
       rintro⟨r, w6, av⟩ ⟨hr, hE6, ha6⟩
       dsimp only at hr hE6 ha6 ⊢
       refine I4 ?_
       refine I4 ?_
       refine la ?_
       refine zv (ix rfl) ?_
       refine zv (ix rfl) ?_
       refine zv (KW rfl rfl) ?_
       refine ka ?_
       refine az ?_
       refine zC ?_ ?_
       ·intro hlt3
        replace hlt3:r < K := by have := of_decide_eq_true hlt3; omega
        refine K7 ?_
        refine az ?_
        refine I4 ?_
        refine K2 ?_
        refine la ?_
        refine zv (ix rfl) ?_
        refine zv (ix rfl) ?_
        refine zv (ix rfl) ?_
        refine zc M5 (gW K _ _ av tv w6 ha6 (ht5.ext hE6) (by omega)) ?_
        rintro bv w7 ⟨hb7, hE7⟩
        refine zc Ls (dG K _ _ av bv w7 (ha6.ext hE7) hb7.mat (by omega)) ?_
        rintro cv w8 ⟨hc8, hE8⟩
        refine zv (Gv rfl) ?_
        refine ka ?_
        refine eh ?_
        refine az ?_
        refine la ?_
        refine zv (ix rfl) ?_
        refine zv (JK rfl rfl (JC (by omega))) ?_
        refine zv (Gv rfl) ?_
        refine ka ?_
        refine zxd (r + 1, w8, cv) (⟨hlt3, (hE6.trans hE7).trans hE8, hc8.mat⟩)
       ·intro hge3
        have hrK:r = K := by have := of_decide_eq_false hge3; omega
        rw[hrK]at ha6
        refine Lm ?_
        refine cT ?_
        refine cT ?_
        refine eY ?_
        refine az ?_
        refine la ?_
        refine zv (ix rfl) ?_
        refine zv (ix rfl) ?_
        refine zc Ls (dG K f _ out av w6 (hf5.ext hE6) ha6 (by omega)) ?_
        rintro ov7 w7 ⟨hf7, hE7⟩
        refine zv (Gv rfl) ?_
        refine ka ?_
        refine eh ?_
        refine eh ?_
        refine az ?_
        refine la ?_
        refine zv (ix rfl) ?_
        refine zv (JK rfl rfl (JC (by omega))) ?_
        refine zv (Gv rfl) ?_
        refine ka ?_
        refine zxd (p + 1, w7, ov7, _) (⟨hlt, ((hE4.trans hE5).trans hE6).trans hE7, hf7.mono (hE5'.trans hE6).size, heq⟩)
      ·have hst:stepT K k f (bG ms (nth kids p)) = fun i j => f i j || bG ms (nth kids p) i j := by unfold stepT; rw[if_neg h4, if_neg (fun h => h.elim h6 h7)]
       rw[hst]at heq
       refine aS rfl ((by rw[beq_eq_false_iff_ne]; exact h7)) ?_
       refine la ?_
       refine zv (ix rfl) ?_
       refine zv (ix rfl) ?_
       refine zc Ls (dG K f _ out tv w5 hf5 ht5 (by omega)) ?_
       rintro ov6 w6 ⟨hf6, hE6⟩
       refine zv (Gv rfl) ?_
       refine ka ?_
       refine eh ?_
       refine eh ?_
       refine az ?_
       refine la ?_
       refine zv (ix rfl) ?_
       refine zv (JK rfl rfl (JC (by omega))) ?_
       refine zv (Gv rfl) ?_
       refine ka ?_
       refine zxd (p + 1, w6, ov6, _) (⟨hlt, (hE4.trans hE5).trans hE6, hf6.mono hE5'.size, heq⟩)
   ·intro hge2
    have hpx:p = xs.length := by have := of_decide_eq_false hge2; omega
    rw[Ka (by omega), dk]at heq
    subst heq
    refine Lm ?_
    refine cT ?_
    refine cT ?_
    refine eY ?_
    refine az ?_
    refine I4 ?_
    refine la ?_
    refine zv (ix rfl) ?_
    refine zv (Gv rfl) ?_
    refine ka ?_
    refine az ?_
    refine L9 ?_
    refine ae rfl rfl (⟨hf4, hE3.trans hE4⟩)
section
variable{α:Type}
def gR(n:Nat)(f:Nat->α)(z:α)(k:Nat):List α:=(J8 k).map f++Jt (n-k) z
theorem uw(n:Nat)(f:Nat->α)(z:α){k:Nat}(h:k<=n):(gR n f z k).length=n:=by simp[gR];omega
theorem qy(n:Nat)(f:Nat->α)(z:α):gR n f z 0=Jt n z:=by simp[gR]
theorem B1(n:Nat)(f:Nat->α)(z:α):gR n f z n=(J8 n).map f:=by simp[gR]
theorem oD(n:Nat)(f:Nat->α)(z:α){k:Nat}(h:k<n):(gR n f z k).set k (f k)=gR n f z (k+1):=by
 unfold gR;rw[List.set_append_right _ _ (by simp),KE,JX];obtain⟨d,hd⟩:∃d,n-k=d+1:=⟨n-k-1,zo⟩
 rw[hd,show n-(k+1)=d from by omega];simp[L1]
theorem zI(n:Nat)(f:Nat->α)(z:α){k:Nat}(h:k<n)(hz:f k=z):gR n f z k=gR n f z (k+1):=by
 unfold gR;rw[KE,JX,JH];obtain⟨d,hd⟩:∃d,n-k=d+1:=⟨n-k-1,zo⟩
 rw[hd,show n-(k+1)=d from by omega,L1];simp[hz]
theorem rI[Inhabited α](f:Nat->α){n j:Nat}(h:j<n):nth ((J8 n).map f) j=f j:=by
 rw[aB (by simpa using h),JT,JM]
def uU(n:Nat)(p q:Nat->α)(j:Nat):List α:=(J8 n).map fun t=>if t<j then p t else q t
theorem Da(n:Nat)(p q:Nat->α)(j:Nat):(uU n p q j).length=n:=by simp[uU]
theorem Bh(n:Nat)(p q:Nat->α):uU n p q 0=(J8 n).map q:=by simp[uU]
theorem Db(n:Nat)(p q:Nat->α):uU n p q n=(J8 n).map p:=by
 unfold uU;exact L2 fun t ht=>if_pos (List.mem_range.1 ht)
theorem C9(n:Nat)(p q:Nat->α){j:Nat}:(uU n p q j).set j (p j)=uU n p q (j+1):=by
 unfold uU;refine JU (by simp) fun t h1 h2=>?_
 simp only[Ky,JT,JM]
 by_cases e:j=t
 ·subst e;rw[if_pos rfl,if_pos zo]
 rw[if_neg e]
 by_cases e2:t<j
 ·rw[if_pos e2,if_pos zo]
 rw[if_neg e2,if_neg zo]
theorem tI(n:Nat)(p q:Nat->α){j:Nat}(h:p j=q j):uU n p q j=uU n p q (j+1):=by
 unfold uU;refine L2 fun t _=>?_
 by_cases e:t=j
 ·subst e;rw[if_neg zo,if_pos zo,h]
 by_cases e2:t<j
 ·rw[if_pos e2,if_pos zo]
 rw[if_neg e2,if_neg zo]
end
def jq(li lk ids:List Int):Nat->List Int
 |0=>[36]
 |k+1=>if gL li lk ids k=true then jq li lk ids k else jq li lk ids k++[((aJ (nth ids k):Nat):Int)]
theorem qP(li lk ids:List Int):∀k,(jq li lk ids k).length<=k+1/\1<=(jq li lk ids k).length
 |0=>⟨J2 _,J2 _⟩
 |k+1=>by
  obtain⟨h1,h2⟩:=qP li lk ids k;unfold jq
  split
  ·exact⟨zo,h2⟩
  rw[Js,Jo];exact⟨zo,zo⟩
theorem sP(li lk ids:List Int): ∀ {k n:Nat}, k ≤ n → ∃r, jq li lk ids n = jq li lk ids k ++ r
  | k, 0, h => by obtain rfl : k = 0 := by omega
                  exact⟨[], by simp⟩
  |k, n + 1, h => by
    by_cases e:k = n + 1
    · subst e; exact⟨[], by simp⟩
    · obtain⟨r, hr⟩ := sP li lk ids (show k ≤ n by omega)
      rw[jq]
      split
      · exact⟨r, hr⟩
      · rw[hr, JH]; exact⟨_, rfl⟩
def atN(li lk ids:List Int)(i:Nat):Nat:=if gL li lk ids i=true then 0 else(jq li lk ids i).length
theorem G6(li lk ids:List Int){i n:Nat}(h:i<=n):atN li lk ids i<=(jq li lk ids n).length:=by
 unfold atN
 split
 ·exact vX _
 obtain⟨r,hr⟩:=sP li lk ids h;rw[hr,Js];omega
def lj(f:Tb)(a:Nat):Nat->Bool
 |0=>false
 |k+1=>lj f a k||f k a
theorem oR(f:Tb)(a:Nat):∀k,lj f a k=true↔∃m,m<k/\f m a=true
 |0=>by simp[lj]
 |k+1=>by
  unfold lj;rw[JY,oR f a k]
  constructor
  ·rintro(⟨m,h1,h2⟩|h)
   ·exact⟨m,zo,h2⟩
   exact⟨k,zo,h⟩
  rintro⟨m,h1,h2⟩
  by_cases e:m=k
  ·subst e;exact .inr h2
  exact .inl ⟨m,zo,h2⟩
def gE(f:Tb)(a:Nat):Nat->Bool
 |0=>false
 |k+1=>gE f a k||f a (a+k)
theorem mD(f:Tb)(a:Nat):∀k,gE f a k=true↔∃m,m<k/\f a (a+m)=true
 |0=>by simp[gE]
 |k+1=>by
  unfold gE;rw[JY,mD f a k]
  constructor
  ·rintro(⟨m,h1,h2⟩|h)
   ·exact⟨m,zo,h2⟩
   exact⟨k,zo,h⟩
  rintro⟨m,h1,h2⟩
  by_cases e:m=k
  ·subst e;exact .inr h2
  exact .inl ⟨m,zo,h2⟩
def Cf(ms:List Int)(x:R3)(a:Nat):Bool:=lj (bG ms x.1) a (a+1)&&gE (bG ms x.2.1) a (ms.length+1-a)
def oC(ms:List Int)(a:Nat):List R3->Nat->Int
 |[],_=>-1
 |x::l,r=>if Cf ms x a=true then(r:Int)else oC ms a l (r+1)
theorem gC(ms:List Int)(a:Nat):∀(l:List R3) (r:Nat),(oC ms a l r = -1/\∀i,i<l.length->Cf ms (nth l i) a=false)\/∃i,i<l.length/\oC ms a l r=((r+i:Nat):Int)/\Cf ms (nth l i) a=true/\∀j,j<i->Cf ms (nth l j) a=false
 |[],r=>.inl ⟨rfl,fun i hi=>absurd hi (J0 i)⟩
 |x::l,r=>by
  unfold oC
  by_cases hx:Cf ms x a=true
  ·rw[if_pos hx];exact .inr ⟨0,Nat.succ_pos _,rfl,by rw[ar];exact hx,fun j hj=>absurd hj (J0 j)⟩
  rw[if_neg hx];have a0:Cf ms x a=false:=by simpa using hx
  rcases gC ms a l (r+1)with⟨h1,h2⟩|⟨i,h1,h2,h3,h4⟩
  ·refine .inl ⟨h1,fun i hi=>?_⟩
   cases i with
   |zero=>rw[ar];exact a0
   |succ i=>rw[bd];exact h2 i (by simpa using hi)
  refine .inr ⟨i+1,by simpa using h1,by rw[h2];congr 1;omega,by rw[bd];exact h3,fun j hj=>?_⟩
  cases j with
  |zero=>rw[ar];exact a0
  |succ j=>rw[bd];exact h4 j zo
def bu(li lk ids:List Int)(ts:List R3)(r i:Nat):Int:=if gL li lk ids i=true then -2 else oC (jq li lk ids ids.length) (atN li lk ids i) (ts.drop r) r
def mj(li lk ids:List Int)(ts:List R3):List Int:=(J8 ids.length).map (bu li lk ids ts 0)
def dM(li lk ids:List Int)(ts:List R3)(i:Nat):Bool:=bu li lk ids ts 0 i == -1||(decide (0<=bu li lk ids ts 0 i)&&(nth ts (bu li lk ids ts 0 i).toNat).2.2)
def jT(li lk ids:List Int)(ts:List R3):List Bool:=true::(J8 (ids.length-1)).map (fun i=>dM li lk ids ts (i+1))++if 0<ids.length then [true]else []
theorem xo{ms:List Int}{t:Nd}(h:bj t=true){a:Nat}(ha:a<=ms.length):lj (bG ms t) a (a+1)=true↔∃u v,ms.take a=u++v/\Lg t v:=by
 rw[oR];have hS:=og ms h
 constructor
 ·rintro⟨m,h1,h2⟩;obtain⟨_,h3⟩:=(hS m a zo ha).1 h2;refine⟨ms.take m,seg ms m a,?_,h3⟩;have:=vm ms (vX m) (show m<=a by omega);simpa[seg]using this
 rintro⟨u,v,e,h3⟩;have hl:=congrArg Kh e;rw[List.length_take,Js]at hl;have e0:seg ms 0 a=u++v:=by simpa[seg]using e
 obtain⟨s1,s2,s3⟩:=te (vX a) ha e0;rw[KS]at s1 s3;exact⟨u.length,zo,(hS _ a zo ha).2 ⟨s1,s3▸h3⟩⟩
theorem uH{ms:List Int}{t:Nd}(h:bj t=true){a:Nat}(ha:a<=ms.length):gE (bG ms t) a (ms.length+1-a)=true↔∃u v,ms.drop a=u++v/\Lg t u:=by
 rw[mD];have hS:=og ms h
 constructor
 ·rintro⟨m,h1,h2⟩;obtain⟨_,h3⟩:=(hS a (a+m) ha zo).1 h2;refine⟨seg ms a (a+m),ms.drop (a+m),?_,h3⟩;unfold seg;rw[show a+m-a=m from by omega,<-Lr,KT]
 rintro⟨u,v,e,h3⟩;have hl:=congrArg Kh e;rw[Lc,Js]at hl;refine⟨u.length,zo,(hS a _ ha zo).2 ⟨zo,?_⟩⟩;unfold seg;rw[show a+u.length-a=u.length from by omega,e,Lo]
 ·exact h3
 rfl
theorem uq{ms:List Int}{ts:List R3}(hr:∀t∈ts,bj t.1=true/\bj t.2.1=true){a:Nat}(ha:a<=ms.length){a0 after:List Nat}(hb:ints a0=ms.take a)(hf:ints after=ms.drop a):Mb ts a0 after (oC ms a ts 0):=by
 have a1:∀i,jY ts a0 after i↔i<ts.length/\Cf ms (nth ts i) a=true:=fun i=>by
  unfold jY;refine and_congr_right fun hi=>?_
  obtain⟨r1,r2⟩:=hr _ (aO hi);unfold Cf;rw[DZ,xo r1 ha,uH r2 ha,hb,hf,dI hi,dI hi]
 rcases gC ms a ts 0 with⟨h1,h2⟩|⟨i,h1,h2,h3,h4⟩
 ·refine .inl ⟨h1,fun i hi=>?_⟩;obtain⟨k1,k2⟩:=(a1 i).1 hi;rw[h2 i k1]at k2;cases k2
 refine .inr ⟨i,by rw[h2,KS],(a1 i).2 ⟨h1,h3⟩,fun j hj hA=>?_⟩;have:=((a1 j).1 hA).2;rw[h4 j hj]at this;cases this
theorem xP{l:List Int}(h:∀c∈l,0<=c/\c<=35)(c:Nat):(cY l).testBit c=decide ((c:Int)∈l):=by
 have a0:∀(l:List Int),(∀c∈l,0<=c/\c<=35)->∀b:Nat,(l.foldl (fun b c=>b ||| 2^c.toNat) b).testBit c=(b.testBit c||decide ((c:Int)∈l)):=by
  intro l
  induction l with
  |nil=>intro _ b;simp
  |cons x r ih=>
   intro hl b;have hx:=hl x (by simp);rw[List.foldl_cons,ih (fun y hy=>hl y (by simp[hy])),Nat.testBit_or,Nat.testBit_two_pow,Bool.or_assoc];congr 1;rw[JZ,JY,decide_eq_true_eq,decide_eq_true_eq,decide_eq_true_eq,JL];refine or_congr_left ?_;omega
 have:=a0 l h 0;simpa[cY]using this
theorem np(t:TabM)(li lk ids:List Int)(a1:∀c:Nat,t.ig.testBit c=decide ((c:Int)∈li))(a0:∀c:Nat,t.kp.testBit c=decide ((c:Int)∈lk)):∀(r:List Int) (k:Nat),r=ids.drop (k+1)->∀j,j<r.length->nth (pJ t (aJ (nth ids k),gL li lk ids k) r) j=(aJ (nth ids (k+1+j)),gL li lk ids (k+1+j))
 |[],_,_,j,hj=>absurd hj (J0 j)
 |c::r,k,e,j,hj=>by
  have hk:k+1<ids.length:=by
   refine LZ fun hn=>?_
   rw[Ka zo]at e;cases e
  rw[K4 hk,<-aB hk]at e;obtain⟨rfl,e2⟩:=LY e;have hh:(t.ig.testBit (aJ (nth ids (k+1)))&&(gL li lk ids k || !(t.kp.testBit (aJ (nth ids k)))))=gL li lk ids (k+1):=by rw[a1,a0,gL]
  unfold pJ;dsimp only;rw[hh]
  cases j with
  |zero=>rw[ar,Nat.add_zero]
  |succ j=>
   rw[bd,np t li lk ids a1 a0 r (k+1) e2 j (by simpa using hj),show k+1+(j+1)=k+1+1+j from by omega]
theorem uZ(t:TabM)(li lk:List Int)(c:Int)(r:List Int)(a1:∀c:Nat,t.ig.testBit c=decide ((c:Int)∈li))(a0:∀c:Nat,t.kp.testBit c=decide ((c:Int)∈lk)):∀n,n<=r.length->jq li lk (c::r) (n+1)=ints ([36,aJ c]++ff ((pJ t (aJ c,false) r).take n))
 |0,_=>by
  unfold jq jq;rw[List.take_zero,if_neg (by rw[gL];simp),ar];rfl
 |n+1,hn=>by
  have hL:=kN t r (aJ c,false);have hx:=np t li lk (c::r) a1 a0 r 0 rfl n hn;rw[ar,show gL li lk (c::r) 0=false from rfl,show 0+1+n=n+1 from by omega]at hx;rw[jq,uZ t li lk c r a1 a0 n zo,aR zo,hx,mX,<-JH];generalize [36,aJ c]++ff ((pJ t (aJ c,false) r).take n)=X
  cases gL li lk (c::r) (n+1)with
  |true=>
   show ints X=ints (X++[]);rw[Kc]
  |false=>
   show ints X++[((aJ (nth (c::r) (n+1)):Nat):Int)]=ints (X++[aJ (nth (c::r) (n+1))]);unfold ints;rw[JX];rfl
section
variable{li lk:List Int}{ts:List R3}{a b:List (List Nat)×List Nat}{clA clB:Nat→Nat}
theorem Made.ig(h:LX li lk ts a b clA clB)(c:Nat):(bW li lk ts a b clA clB).ig.testBit c=decide ((c:Int)∈li):=xP (eo h.rt).2.1 c
theorem Made.kp(h:LX li lk ts a b clA clB)(c:Nat):(bW li lk ts a b clA clB).kp.testBit c=decide ((c:Int)∈lk):=xP (eo h.rt).2.2.1 c
theorem Made.row(h:LX li lk ts a b clA clB)(c:Int):stL (bW li lk ts a b clA clB) (stL (bW li lk ts a b clA clB) 0 36) (aJ c)=jj (aU clA a.1 a.2).1 [36,aJ c] 0:=by
 have h0:=(h.left [] (fun m hm=>by cases hm)).1;have h1:=(h.left [36] (fun m hm=>by rw[J3.1 hm];decide)).1;rw[h.inv.left 0 36 h0 zd];have hc:=ew c;exact h.inv.left _ _ h1 zo
theorem ml(hr:∀t∈ts,bj t.1=true/\bj t.2.1=true)(t:TabM)(c:Int)(r:List Int)(a1:∀c:Nat,t.ig.testBit c=decide ((c:Int)∈li))(a0:∀c:Nat,t.kp.testBit c=decide ((c:Int)∈lk)){n:Nat}(hn:n<r.length)(hh:gL li lk (c::r) (n+1)=false):
  Mb ts ([36,aJ c]++ff ((pJ t (aJ c,false) r).take n)) (ff ((pJ t (aJ c,false) r).drop n)) (bu li lk (c::r) ts 0 (n+1)):=by
 have hL:=kN t r (aJ c,false);have hw:=uZ t li lk c r a1 a0 n zo;have hN:=uZ t li lk c r a1 a0 r.length (J2 _);rw[List.take_of_length_le zo]at hN;have a2:ff (pJ t (aJ c,false) r)=ff ((pJ t (aJ c,false) r).take n)++ff ((pJ t (aJ c,false) r).drop n):=by rw[<-mX,KT]
 have hA:atN li lk (c::r) (n+1)=(jq li lk (c::r) (n+1)).length:=by unfold atN;rw[hh];rfl
 have e0:jq li lk (c::r) (c::r).length=jq li lk (c::r) (n+1)++ints (ff ((pJ t (aJ c,false) r).drop n)):=by
  rw[hw,K9,hN,a2,<-JH];unfold ints;rw[JX]
 unfold bu;rw[hh,if_neg zd,Lq,hA,e0];refine uq hr (by rw[Js];omega) ?_ ?_
 ·rw[Lo rfl,hw]
 rw[List.drop_left' rfl]
theorem FirstR.low{a0 after:List Nat}{k:Int}(h:Mb ts a0 after k): -1<=k:=by
 rcases h with⟨rfl,_⟩|⟨i,rfl,_⟩<;>omega
theorem zU(li lk ids:List Int)(ts:List R3)(i:Nat):dM li lk ids ts i=if gL li lk ids i=true then false else brk ts (bu li lk ids ts 0 i):=by
 unfold dM brk
 split
 ·rename_i hh;have:bu li lk ids ts 0 i = -2:=by unfold bu;rw[if_pos hh]
  rw[this];rfl
 rename_i hh;have hk : -1<=bu li lk ids ts 0 i:=by
  unfold bu;rw[if_neg hh]
  rcases gC (jq li lk ids ids.length) (atN li lk ids i) (ts.drop 0) 0 with⟨h1,_⟩|⟨_,_,h1,_⟩<;>rw[h1]<;>omega
 generalize bu li lk ids ts 0 i=k at *
 by_cases e:k = -1
 ·subst e;rfl
 rw[decide_eq_false (show¬k<0 by omega),decide_eq_true (show 0<=k by omega),Km,Bool.true_and,show(k == -1)=false from by simpa using e,Km]
theorem Made.rules2(h:LX li lk ts a b clA clB):∀t∈ts,bj t.1=true/\bj t.2.1=true:=fun t ht=>⟨(h.rules t ht).1,(h.rules t ht).2.1⟩
theorem Made.breaks(h:LX li lk ts a b clA clB)(ids:List Int)(hn:ids.length<=100000):oN (bW li lk ts a b clA clB) ids=jT li lk ids ts:=by
 cases ids with
 |nil=>rfl
 |cons c r=>
  obtain⟨p1,p2⟩:=mu (bW li lk ts a b clA clB) c r;unfold oN jT;rw[p1,p2,h.row,K9,Nat.add_sub_cancel];congr 2;have hL:=kN (bW li lk ts a b clA clB) r (aJ c,false);have a0:∀m∈[36,aJ c],m<37:=fun m hm=>by
   have:=ew c;simp only[JL,K8,or_false]at hm;omega
  refine JU (by rw[lX,hL];simp) fun i h1 h2=>?_
  have hi:i<r.length:=by simpa using h2
  rw[<-aB h1,JT,JM];obtain⟨k,k1,k2⟩:=h.closeL (pJ (bW li lk ts a b clA clB) (aJ c,false) r) [36,aJ c] a0 (xa _ _ _) (by rw[hL];simp at hn;omega) i zo;have hx:=np (bW li lk ts a b clA clB) li lk (c::r) h.ig h.kp r 0 rfl i hi;rw[ar,show gL li lk (c::r) 0=false from rfl,show 0+1+i=i+1 from by omega]at hx;rw[k2,hx,zU]
  cases hh:gL li lk (c::r) (i+1)with
  |true=>rfl
  |false=>
   have:=ml h.rules2 _ c r h.ig h.kp hi hh;rw[this.uniq k1];rfl
theorem Made.whichTab(h:LX li lk ts a b clA clB)(ids:List Int)(hn:ids.length<=100000)(i:Int):whichTab (bW li lk ts a b clA clB) ids i=if i<=0\/(ids.length:Int)<=i then -1 else max (bu li lk ids ts 0 i.toNat) (-1):=by
 unfold Kq
 split
 ·rfl
 rename_i hi
 cases ids with
 |nil=>simp at hi;omega
 |cons c r=>
  obtain⟨p1,p2⟩:=mu (bW li lk ts a b clA clB) c r;rw[p1,p2,h.row];obtain⟨n,rfl⟩:∃n:Nat,i=((n+1:Nat):Int):=⟨(i-1).toNat,zo⟩
  have a1:n<r.length:=by simp at hi;omega
  have hL:=kN (bW li lk ts a b clA clB) r (aJ c,false);have a0:∀m∈[36,aJ c],m<37:=fun m hm=>by
   have:=ew c;simp only[JL,K8,or_false]at hm;omega
  obtain⟨k,k1,k2⟩:=h.whichL n (pJ (bW li lk ts a b clA clB) (aJ c,false) r) [36,aJ c] (-1) a0 (xa _ _ _) (by rw[hL];simp at hn;omega) zo;have hx:=np (bW li lk ts a b clA clB) li lk (c::r) h.ig h.kp r 0 rfl n a1;rw[ar,show gL li lk (c::r) 0=false from rfl,show 0+1+n=n+1 from by omega]at hx;rw[Int.toNat_natCast,k2,hx];dsimp only
  cases hh:gL li lk (c::r) (n+1)with
  |true=>
   have:bu li lk (c::r) ts 0 (n+1) = -2:=by unfold bu;rw[if_pos hh]
   rw[this];rfl
  |false=>
   have hf:=ml h.rules2 _ c r h.ig h.kp a1 hh;have hl:=hf.low;have e:=hf.uniq k1;rw[if_neg zd,<-e];omega
end
theorem gU{w:CR}{ru:J9}{xs:List X3}(h:Sl cj 7 w ru xs){k:Nat}(hk:k<xs.length):(∀j u,(aY (nth xs k).1)[j]? = some u->w.cell? (((adr ru 7 k).add 0).add j)=some u)/\(∀j u,(aY (nth xs k).2.1)[j]? = some u->w.cell? (((adr ru 7 k).add 3).add j)=some u)/\w.cell? ((adr ru 7 k).add 6)=some (.bool (nth xs k).2.2):=by
 refine⟨fun j u hu=>?_,fun j u hu=>?_,h.cell hk (j:=6) rfl⟩
 ·match j,hu with
  |0,hu=>exact h.cell hk (j:=0) hu
  |1,hu=>exact h.cell hk (j:=1) hu
  |2,hu=>exact h.cell hk (j:=2) hu
  |j+3,hu=>simp at hu
 match j,hu with
 |0,hu=>exact h.cell hk (j:=3) hu
 |1,hu=>exact h.cell hk (j:=4) hu
 |2,hu=>exact h.cell hk (j:=5) hu
 |j+3,hu=>simp at hu
theorem pR{li lk ids:List Int}{ts:List R3}{i:Nat}(r:Nat)(h:gL li lk ids i=true):bu li lk ids ts r i = -2:=by unfold bu;rw[if_pos h]
theorem uY{li lk ids:List Int}{ts:List R3}{i k:Nat}(hk:k<ts.length)(h:gL li lk ids i=false):bu li lk ids ts k i=if Cf (jq li lk ids ids.length) (nth ts k) (atN li lk ids i)=true then(k:Int)else bu li lk ids ts (k+1) i:=by
 unfold bu;rw[h,if_neg L5,if_neg L5,K4 hk,<-aB hk,oC]
theorem yP(li lk ids:List Int)(ts:List R3)(i:Nat):bu li lk ids ts ts.length i=if gL li lk ids i=true then -2 else -1:=by
 unfold bu;rw[List.drop_length];rfl
def zl(li lk ids:List Int)(i:Nat):Int:=if gL li lk ids i=true then -2 else -1
def atI(li lk ids:List Int)(i:Nat):Int:=(atN li lk ids i:Nat)
theorem ug(li lk ids:List Int){i:Nat}(h:i<ids.length):nth (gQ li lk ids ids.length) i=gL li lk ids i:=rU _ _ _ h (J2 _)
theorem mn(li lk:List Int)(ts:List R3)(ids:List Int)(v dv:J9)(w:CR)(h:Tx w v li lk ts)(hd:Ma w dv ids)(hn:ids.length<=50):
  KK JQ 27 [v,dv] w fun u w'=>Ma w' u (mj li lk ids ts)/\JV w w'/\NewV w.heap.size u:=by
 obtain⟨ig,kp,ru,xs,rfl,h1,h2,h3,h4,h5⟩:=h;have o3:=h3.one;have n8:=h3.len_le;have hz:¬(0=1\/0=2\/0=3\/0=4):=zo;have o0:=ow li lk ids (J2 ids.length);refine J5 func27 ntmps27 rfl rfl ?_;refine zh ?_;refine aE (au w) 1 zo rfl rfl ?_;intro xb w1 O1 e6 m' k1 j5;refine zh ?_;refine zvH (ai (us:=[ig,kp,ru]) e6.cellsAdd (isAgg25 _) (sizeOf25 _) rfl) ?_;refine zc call21 (rj li lk ids ig kp ru dv w1 (h1.ext j5) (h2.ext j5) o3 (hd.ext j5) zo) ?_;rintro hv w2 ⟨j',n5,l0⟩;have d0:Lp O1 w2 hv:=l0.free j' (fun x _=>by simp) k1;have j0:=aa (S:=fun _=>False) (fun h=>h) O1 n5;have h0:=e6.upd j0 zd (fun h=>h);have n4:=k1.upd j0;have j2:Jy (fun q=>q=1\/q=2\/q=3\/q=4) (fun _=>0) w O1 w2:=(m'.mono (fun _ h=>zo) hz).trans (j0.mono (fun _ h=>h.elim) hz);refine zh ?_;refine oU pL (enc:=encI) 36 n4 2 zd rfl rfl rfl zd rfl ?_;intro k4 w3 O3 h9 e3 n3;have f9:=j2.trans (e3.mono (fun _ h=>zo) hz);have o5:=hd.ext f9.ext;refine zh ?_;refine bN pL (val:=fun c:Int=>nI c) 0 zk (fun _=>rfl) n3 3 zd ids.length rfl rfl rfl rfl zo zo rfl ?_;intro w4 O4 av o7 i' e0 n2 o9;have f8:=f9.trans (e0.mono (fun _ h=>zo) hz);have o4:=hd.ext f8.ext;refine zh ?_;refine bN pL (val:=fun c:Int=>nI c) 0 zk (fun _=>rfl) n2 4 zd ids.length rfl rfl rfl rfl zo zo rfl ?_;intro w5 O5 ov n' f4 d' n1 o8;have j1:=f8.trans (d'.mono (fun _ h=>zo) hz);have h8:=(h9.upd e0 zd zd).upd d' zd zd;have f7:=i'.upd d' zd zd
 have g':=((h0.upd e3 zd zd).upd e0 zd zd).upd d' zd zd;have i1:=((j'.upd d0 e3).upd (d0.upd e3) e0).upd ((d0.upd e3).upd e0) d';have i3:=((d0.upd e3).upd e0).upd d';rw[<-qy ids.length (atI li lk ids) 0]at f7;rw[<-qy ids.length (zl li lk ids) 0]at f4;refine zh ?_;refine zlp (fun z:Nat×(Nat->Nat)×World×J9=>[(1,dv),(2,nP xb),(5,hv),(6,z.2.2.2),(7,av),(8,ov),(9,nI (z.1:Nat))]) (fun z=>z.2.2.1) (fun z=>z.1<=ids.length/\K6 encI 3 1 z.2.1 z.2.2.1 2 z.2.2.2 (jq li lk ids z.1)/\K6 encI 3 1 z.2.1 z.2.2.1 3 av (gR ids.length (atI li lk ids) 0 z.1)/\K6 encI 3 1 z.2.1 z.2.2.1 4 ov (gR ids.length (zl li lk ids) 0 z.1)/\K0 z.2.1 z.2.2.1 1 xb #[ig,kp,ru] 25/\Lp z.2.1 z.2.2.1 hv/\Sl cP 1 z.2.2.1 hv (gQ li lk ids ids.length)/\Jy (fun q=>q=1\/q=2\/q=3\/q=4) (fun _=>0) w z.2.1 z.2.2.1/\KV w.heap.size z.2.1 z.2.2.1) (fun z=>ids.length-z.1) (0,O5,w5,k4) (⟨vX _,h8,f7,f4,g',i3,i1,j1,n1⟩) ?_;rintro⟨k,O6,w6,wv⟩ ⟨hk,a3,a9,a5,b4,a0,b6,d5,f'⟩;dsimp only at hk a3 a9 a5 b4 a0 b6 d5 f' ⊢;have o2:=hd.ext d5.ext;refine zh ?_;refine zC ?_ ?_
 ·intro a8;replace a8:k<ids.length:=dT a8;have o6:=uw ids.length (atI li lk ids) 0 hk;have l9:=uw ids.length (zl li lk ids) 0 hk;have f3:K6 (fun x=>[(fun c:Int=>nI c) x]) 3 1 O6 w6 4 ov (gR ids.length (zl li lk ids) 0 k):=a5;have f6:K6 (fun x=>[(fun c:Int=>nI c) x]) 3 1 O6 w6 3 av (gR ids.length (atI li lk ids) 0 k):=a9;have n9:=qP li lk ids k;refine zh ?_;refine zv (ah a5.sl.sh J6 (Jw _) rfl rfl k rfl zo) ?_;refine JI f3 k zo (-1) (Jw _) rfl zd rfl rfl rfl rfl ?_;intro w7 a2 a1;have e9:=b6.upd a0 a1;have e1:w7.cell? (adr hv 1 k)=some (.bool (gL li lk ids k)):=by have:=e9.cell (i:=k) (j:=0) zo rfl;rw[ao,ug _ _ _ a8]at this;exact this
  have l8:((gR ids.length (zl li lk ids) 0 k).set k (-1)).length=ids.length:=by rw[KF];exact l9
  refine zh ?_;refine zvH (ah e9.sh Jv (JD _) rfl rfl k rfl zo) ?_
  refine zC ?_ ?_
  ·intro hh;refine zh ?_;refine zv (ah a2.sl.sh J6 (Jw _) rfl rfl k rfl zo) ?_;refine JI a2 k zo (-2) (Jw _) rfl zd rfl rfl rfl rfl ?_;intro w8 d2 b3;have a6:=a1.trans b3;have s1:=oD ids.length (zl li lk ids) 0 a8;have s2:=zI ids.length (atI li lk ids) 0 a8 (by unfold atI atN;rw[if_pos hh];rfl);rw[List.set_set,show(-2:Int)=zl li lk ids k from by unfold zl;rw[if_pos hh],s1]at d2;have h':jq li lk ids (k+1)=jq li lk ids k:=by rw[jq,if_pos hh]
   have d3:=a9.upd a6 zd zd;rw[s2]at d3;refine zh ?_;refine zxd (k+1,O6,w8,wv) (⟨a8,by dsimp only;rw[h'];exact a3.upd a6 zd zd,d3,d2,b4.upd a6 zd zd,a0.upd a6,b6.upd a0 a6,d5.trans (a6.mono (fun _ h=>zo) hz),f'.upd a6⟩)
  intro hh;have b5:=a3.upd a1 zd zd;have f5:K6 (fun x=>[(fun c:Int=>nI c) x]) 3 1 O6 w7 3 av (gR ids.length (atI li lk ids) 0 k):=f6.upd a1 zd zd;have s1:=oD ids.length (zl li lk ids) 0 a8;have s2:=oD ids.length (atI li lk ids) 0 a8;have ea:atN li lk ids k=(jq li lk ids k).length:=by unfold atN;rw[if_neg (by rw[hh];decide)]
  have h':jq li lk ids (k+1)=jq li lk ids k++[((aJ (nth ids k):Nat):Int)]:=by rw[jq,if_neg (by rw[hh];decide)]
  refine zh ?_;refine zv (KL (by first|exact b5.sl) J6 rfl) ?_
  refine zv (ah f5.sl.sh J6 (Jw _) rfl rfl k rfl zo) ?_;refine JI f5 k zo (((jq li lk ids k).length:Nat):Int) (Jw _) rfl zd rfl rfl rfl rfl ?_
  intro w8 d3 b3;have h7:=b5.upd b3 zd zd;have d2:=a2.upd b3 zd zd;have m5:=hd.ext (((d5.trans (a1.mono (fun _ h=>zo) hz)).trans (b3.mono (fun _ h=>zo) hz)).ext);have e2:w8.cell? (adr dv 1 k)=some (nI (nth ids k)):=by have:=m5.cell (i:=k) (j:=0) a8 rfl;rw[ao]at this;exact this
  refine zh ?_;refine zc call53 (gY (nth ids k) w8) ?_
  rintro _ w9 ⟨rfl,rfl⟩;have g5:=(f'.upd a1).upd b3;refine Ll pL h7 g5 (((aJ (nth ids k):Nat):Int)) (fun _=>rfl) rfl rfl rfl (by simp[JB]) zo zo zo zd rfl rfl ?_;intro k3 w9 O9 c' a' n0;rw[<-h']at c';have b9:=d3.upd a' zd zd;have b8:=d2.upd a' zd zd;rw[show(((jq li lk ids k).length:Nat):Int)=atI li lk ids k from by unfold atI;rw[ea],s2]at b9;rw[show(-1:Int)=zl li lk ids k from by unfold zl;rw[if_neg (by rw[hh];decide)],s1]at b8;refine zh ?_;refine zxd (k+1,O9,w9,k3) (⟨a8,c',b9,b8,((b4.upd a1 zd zd).upd b3 zd zd).upd a' zd zd,((a0.upd a1).upd b3).upd a',((b6.upd a0 a1).upd (a0.upd a1) b3).upd ((a0.upd a1).upd b3) a',((d5.trans (a1.mono (fun _ h=>zo) hz)).trans (b3.mono (fun _ h=>zo) hz)).trans (a'.mono (fun _ h=>zo) hz),n0⟩)
 intro m4;have m1:k=ids.length:=dF m4;rw[m1]at a3 a9 a5;rw[B1]at a9 a5;rw[show zl li lk ids=bu li lk ids ts xs.length from funext fun i=>by rw[<-h4,yP,zl]]at a5;obtain⟨ms,i7⟩:∃ms,ms=jq li lk ids ids.length:=⟨_,rfl⟩
 have m0:=qP li lk ids ids.length;rw[<-i7]at a3 m0;have c2:w6.cell? (nA xb 2)=some ru:=b4.cell 2 rfl;have g3:=h3.ext d5.ext;refine zh ?_;refine zlp (fun z:Nat×Int×CR=>[(1,dv),(2,nP xb),(5,hv),(6,wv),(7,av),(8,ov),(10,nI z.2.1)]) (fun z=>z.2.2) (fun z=>z.1<=xs.length/\z.2.1=(z.1:Int)-1/\K6 encI 3 1 O6 z.2.2 4 ov ((J8 ids.length).map (bu li lk ids ts z.1))/\Jy (fun q=>q=4) O6 w6 O6 z.2.2) (fun z=>z.1) (xs.length,(xs.length:Int)-1,w6) (⟨J2 _,rfl,a5,KZ zd _ _⟩) ?_;rintro⟨r,ri,w7⟩ ⟨hr,l5,a2,a1⟩;dsimp only at hr l5 a2 a1 ⊢;have g6:=(d5.trans (a1.mono (fun _ h=>zo) hz)).ext;refine zh ?_;refine zC ?_ ?_
 ·intro a8;replace a8:0<=ri:=of_decide_eq_true a8;obtain⟨k,rfl⟩:∃k,r=k+1:=⟨r-1,zo⟩
  have l4:ri=(k:Int):=zo;subst l4;have g0:k<xs.length:=zo;have g7:=h3.ext g6;have c7:w7.cell? (nA xb 2)=some ru:=(b4.upd a1 zd zd).cell 2 rfl;have b5:=a3.upd a1 zd zd;obtain⟨l1,l2,_⟩:=gU g7 g0;refine zh ?_;refine zvH (ai (us:=aY (nth xs k).1) l1 (Ju _) (Ji _) rfl) ?_;refine zc M6 (gX ms wv zo (nsz (nth ts k).1) (nth ts k).1 (J2 _) (nth xs k).1 w7 ((h5 k g0).1.ext g6) b5.sl) ?_;rintro lv w8 ⟨i9,e4⟩;have j3:=f'.upd a1;have k0:=aa (S:=fun q=>q=4) zd O6 e4;have b3:=a1.trans k0;have g8:=g7.ext e4;have c8:=e4.cell c7;obtain⟨_,m2,_⟩:=gU g8 g0;refine zh ?_;refine zvH (ai (us:=aY (nth xs k).2.1) m2 (Ju _) (Ji _) rfl) ?_;refine zc M6 (gX ms wv zo (nsz (nth ts k).2.1) (nth ts k).2.1 (J2 _) (nth xs k).2.1 w8 ((h5 k g0).2.1.ext (g6.trans e4)) (b5.sl.ext e4)) ?_;rintro rv w9 ⟨i4,j4⟩;have i8:=i9.ext j4;have g5:=j3.upd k0;have m8:=aa (S:=fun q=>q=4) zd O6 j4;have a':=b3.trans m8;obtain⟨e5,j9,n7,j8,k',k9⟩:=i8;obtain⟨g9,j7,n6,j6,k7,k6⟩:=i4;have k8:Lp O6 w9 lv:=k'.free j9 (fun x _=>by simp) j3;have lf:∀i,i<ms.length+1->Lp O6 w9 (nth e5 i):=fun i hi=>(k9 i hi).free (j8 i hi) (fun x _=>by simp) j3
  have k5:Lp O6 w9 rv:=k7.free j7 (fun x _=>by simp) g5;have rf:∀i,i<ms.length+1->Lp O6 w9 (nth g9 i):=fun i hi=>(k6 i hi).free (j6 i hi) (fun x _=>by simp) g5
  have c':=a3.upd a' zd zd;have b9:=a9.upd a' zd zd;have i0:=b6.upd a0 a';have i2:=a0.upd a';have b8:K6 encI 3 1 O6 w9 4 ov ((J8 ids.length).map (bu li lk ids ts (k+1))):=(a2.upd (aa (S:=fun _=>False) (fun h=>h) O6 e4) zd (fun h=>h)).upd (aa (S:=fun _=>False) (fun h=>h) O6 j4) zd (fun h=>h);rw[<-Bh ids.length (bu li lk ids ts k) (bu li lk ids ts (k+1))]at b8;refine zh ?_;refine zlp (fun y:Nat×CR=>[(1,dv),(2,nP xb),(5,hv),(6,wv),(7,av),(8,ov),(10,nI (k:Int)),(11,lv),(12,rv),(13,nI (y.1:Nat))]) (fun y=>y.2) (fun y=>y.1<=ids.length/\K6 encI 3 1 O6 y.2 4 ov (uU ids.length (bu li lk ids ts k) (bu li lk ids ts (k+1)) y.1)/\Jy (fun q=>q=4) O6 w9 O6 y.2) (fun y=>ids.length-y.1) (0,w9) (⟨vX _,b8,KZ zd _ _⟩) ?_;rintro⟨i,wa⟩ ⟨hi,a7,d9⟩;dsimp only at hi a7 d9 ⊢;have o1:=hd.ext ((d5.trans ((a'.trans d9).mono (fun _ h=>zo) hz)).ext);refine zh ?_;refine zC ?_ ?_
  ·intro d4;replace d4:i<ids.length:=dT d4;have e8:=i0.upd i2 d9;have e1:wa.cell? (adr hv 1 i)=some (.bool (gL li lk ids i)):=by have:=e8.cell (i:=i) (j:=0) zo rfl;rw[ao,ug _ _ _ d4]at this;exact this
   refine zh ?_;refine zvH (ah e8.sh Jv (JD _) rfl rfl i rfl zo) ?_
   refine zC ?_ ?_
   ·intro hh;have l3:=tI ids.length (bu li lk ids ts k) (bu li lk ids ts (k+1)) (j:=i) (by rw[pR _ hh,pR _ hh]);rw[l3]at a7;refine zh ?_;refine zxd (i+1,wa) (⟨d4,a7,d9⟩)
   intro hh;obtain⟨a,ha⟩:∃a,a=atN li lk ids i:=⟨_,rfl⟩
   have m7:a<=ms.length:=by rw[ha,i7];exact G6 _ _ _ zo
   have d8:=uY (li:=li) (lk:=lk) (ids:=ids) (ts:=ts) (i:=i) (k:=k) zo hh;rw[<-i7,<-ha]at d8;have k2:∀W,Jy (fun q=>q=4) O6 w9 O6 W->W.cell? (adr av 1 i)=some (nI (a:Int)):=fun W hu=>by
    have:=(b9.upd hu zd zd).sl.cell (i:=i) (j:=0) (by simpa using d4) rfl;rw[ao,rI _ d4,atI,<-ha]at this;exact this
   have c9:∀W,Jy (fun q=>q=4) O6 w9 O6 W->Shape av ids.length:=fun W hu=>by
    have:=(b9.upd hu zd zd).sl.sh;simpa using this
   refine zh ?_;refine zlp (fun x:Nat×Bool×CR=>[(1,dv),(2,nP xb),(5,hv),(6,wv),(7,av),(8,ov),(10,nI (k:Int)),(11,lv),(12,rv),(13,nI (i:Nat)),(14,.bool x.2.1),(15,.bool false),(16,nI (x.1:Nat))]) (fun x=>x.2.2) (fun x=>x.1<=a+1/\x.2.1=lj (bG ms (nth ts k).1) a x.1/\K6 encI 3 1 O6 x.2.2 4 ov (uU ids.length (bu li lk ids ts k) (bu li lk ids ts (k+1)) i)/\Jy (fun q=>q=4) O6 w9 O6 x.2.2) (fun x=>a+1-x.1) (0,false,wa) (⟨vX _,rfl,a7,d9⟩) ?_
   rintro⟨q,b0,wb⟩ ⟨hq,g4,d6,c6⟩;dsimp only at hq g4 d6 c6 ⊢;have ca:=k2 wb c6;refine zh ?_;refine zvH (ah (c9 wb c6) J6 (Jw _) rfl rfl i rfl zo) ?_;refine zC ?_ ?_
   ·intro d1;replace d1:q<=a:=dT d1;have la1b:=j9.upd k8 c6;have la3b:=(j8 q zo).upd (lf q zo) c6;have b1:wb.cell? (adr lv 1 q)=some (nth e5 q):=by have:=la1b.cell (i:=q) (j:=0) zo rfl;rw[ao]at this;exact this
    have b2:wb.cell? (adr (nth e5 q) 1 a)=some (.bool (bG ms (nth ts k).1 q a)):=by have:=la3b.cell (i:=a) (j:=0) (by simp;omega) rfl;rw[ao,gq _ zo]at this;exact this
    have hla3l:((J8 (ms.length+1)).map (bG ms (nth ts k).1 q)).length=ms.length+1:=by simp
    have b7:=d6.upd (aa (S:=fun _=>False) (fun h=>h) O6 (Fu wb).drew) zd (fun h=>h);refine zh ?_;refine aI (fun W=>W.cell? (adr av 1 i)=some (nI (a:Int))/\W.cell? (adr lv 1 q)=some (nth e5 q)/\W.cell? (adr (nth e5 q) 1 a)=some (.bool (bG ms (nth ts k).1 q a))) 14 rfl zk ?_;refine zin ⟨ca,b1,b2⟩ fun zS=>?_
    refine zrm 0 rfl zS rfl ?_;refine zrm 1 rfl zS rfl ?_
    cases b0 with
    |true=>
     refine bL (d:=100) rfl (b':=true) (rfl) ?_;refine zin ⟨ca,b1,b2⟩ fun zS=>?_
     refine zte 2 rfl rfl zS ?_;refine zte 3 rfl rfl zS ?_
     refine zte 4 rfl rfl zS ?_;refine zte 5 rfl rfl zS ?_
     refine zte 6 rfl rfl zS ?_;refine zte 7 rfl rfl zS ?_
     refine zte 8 rfl rfl zS ?_;refine zte 9 rfl rfl zS ?_
     refine zte 10 rfl rfl zS ?_;refine zte 11 rfl rfl zS ?_
     refine zr 12 rfl zS (fun _=>aQ rfl rfl) ?_;refine zra 13 rfl zS rfl ?_
     refine Jn zk ?_;refine zh ?_
     refine zxd (q+1,true,wb.drew) (⟨by dsimp only;omega,by dsimp only;rw[lj,<-g4];rfl,b7,c6.drew⟩)
    |false=>
     refine bL (d:=100) rfl (b':=false) (rfl) ?_;refine zin ⟨ca,b1,b2⟩ fun zS=>?_
     refine zro 2 rfl zS (fun _=>ix rfl) ?_;refine zro 3 rfl zS (fun _=>ix rfl) ?_
     refine zro 4 rfl zS (fun _=>ah la1b.sh Kv (KP _) rfl rfl q rfl zo) ?_;refine zto 5 rfl zS (fun w1 e7=>RV.ld e7.2.1 rfl) ?_
     refine zro 6 rfl zS (fun _=>ix rfl) ?_;refine zro 7 rfl zS (fun _=>ix rfl) ?_
     refine zro 8 rfl zS (fun _=>ah (c9 wb c6) J6 (Jw _) rfl rfl i rfl zo) ?_;refine zto 9 rfl zS (fun w1 e7=>RV.ld e7.1 rfl) ?_
     refine zro 10 rfl zS (fun _=>ah la3b.sh Jv (JD _) rfl rfl a rfl zo) ?_;refine zto 11 rfl zS (fun w1 e7=>RV.ld e7.2.2 rfl) ?_
     refine zr 12 rfl zS (fun _=>aW rfl rfl) ?_;refine zra 13 rfl zS rfl ?_
     refine Jn zk ?_;refine zh ?_
     refine zxd (q+1,bG ms (nth ts k).1 q a,wb.drew) (⟨by dsimp only;omega,by dsimp only;rw[lj,<-g4];rfl,b7,c6.drew⟩)
   intro d1;have i5:q=a+1:=dF d1;subst i5;refine zh ?_;refine zvH (ah (c9 wb c6) J6 (Jw _) rfl rfl i rfl zo) ?_;refine zlp (fun x:Nat×Bool×CR=>[(1,dv),(2,nP xb),(5,hv),(6,wv),(7,av),(8,ov),(10,nI (k:Int)),(11,lv),(12,rv),(13,nI (i:Nat)),(14,.bool b0),(15,.bool x.2.1),(17,nI ((a+x.1:Nat):Int))]) (fun x=>x.2.2) (fun x=>x.1<=ms.length+1-a/\x.2.1=gE (bG ms (nth ts k).2.1) a x.1/\K6 encI 3 1 O6 x.2.2 4 ov (uU ids.length (bu li lk ids ts k) (bu li lk ids ts (k+1)) i)/\Jy (fun q=>q=4) O6 w9 O6 x.2.2) (fun x=>ms.length+1-a-x.1) (0,false,wb) (⟨vX _,rfl,d6,c6⟩) ?_;rintro⟨q,b1,wc⟩ ⟨l7,g2,a4,c5⟩;dsimp only at l7 g2 a4 c5 ⊢;have cc:=k2 wc c5;have h6:=c'.upd c5 zd zd;refine zh ?_;refine zvH (KL (by first|exact h6.sl) J6 rfl) ?_;refine zC ?_ ?_
   ·intro d1;replace d1:a+q<=ms.length:=dT d1;have ra1c:=j7.upd k5 c5;have ra3c:=(j6 a zo).upd (rf a zo) c5;have e1:wc.cell? (adr rv 1 a)=some (nth g9 a):=by have:=ra1c.cell (i:=a) (j:=0) zo rfl;rw[ao]at this;exact this
    have e2:wc.cell? (adr (nth g9 a) 1 (a+q))=some (.bool (bG ms (nth ts k).2.1 a (a+q))):=by have:=ra3c.cell (i:=a+q) (j:=0) (by simp;omega) rfl;rw[ao,gq _ zo]at this;exact this
    have hra3l:((J8 (ms.length+1)).map (bG ms (nth ts k).2.1 a)).length=ms.length+1:=by simp
    refine zh ?_
    cases b1 with
    |true=>
     refine ay (d:=123) rfl (b':=true) (rfl) ?_;refine zh ?_
     refine zxd (q+1,true,wc) (⟨by dsimp only;omega,by dsimp only;rw[gE,<-g2];rfl,a4,c5⟩)
    |false=>
     refine ay (d:=123) rfl (b':=false) (rfl) ?_;refine zh ?_
     refine zvH (ah (c9 wc c5) J6 (Jw _) rfl rfl i rfl zo) ?_;refine zvH (ah ra3c.sh Jv (JD _) rfl rfl (a+q) rfl zo) ?_
     refine zxd (q+1,bG ms (nth ts k).2.1 a (a+q),wc) (⟨by dsimp only;omega,by dsimp only;rw[gE,<-g2];rfl,a4,c5⟩)
   intro d1;have i5:q=ms.length+1-a:=dF d1;subst i5;have m6:Cf ms (nth ts k) a=(b0&&b1):=by unfold Cf;rw[g4,g2]
   rw[m6]at d8;have l':=Da ids.length (bu li lk ids ts k) (bu li lk ids ts (k+1)) i;have e':K6 (fun x=>[(fun c:Int=>nI c) x]) 3 1 O6 wc 4 ov (uU ids.length (bu li lk ids ts k) (bu li lk ids ts (k+1)) i):=a4;refine zh ?_;refine aP (fun w1=>_=w1) (b1) 1 (rfl) rfl rfl rfl rfl rfl ?_ ?_
   ·intro g1;refine zh ?_;refine nE 136 2 (rfl) g1
   rintro _ rfl;refine zh ?_;refine zC ?_ ?_
   ·intro i6;rw[i6,if_pos rfl]at d8;refine zh ?_;refine zv (ah a4.sl.sh J6 (Jw _) rfl rfl i rfl zo) ?_;refine JI e' i zo (k:Int) (Jw _) rfl zd rfl rfl rfl rfl ?_;intro wd b7 m9;rw[<-d8,C9]at b7;refine zh ?_;refine zxd (i+1,wd) (⟨d4,b7,c5.trans m9⟩)
   intro i6;rw[i6,if_neg zd]at d8;rw[tI _ _ _ d8]at a4;refine zh ?_;refine zxd (i+1,wc) (⟨d4,a4,c5⟩)
  intro d7;have m3:i=ids.length:=dF d7;subst m3;rw[Db]at a7;refine zh ?_;refine zxd (k,(k:Int)-1,wa) (⟨by dsimp only;omega,rfl,a7,a'.trans d9⟩)
 intro d7;have l6:r=0:=dF d7;subst l6;refine zh ?_;refine ae rfl rfl (⟨a2.sl,g6,a2.newV zd (f'.upd a1)⟩)
theorem sN{li lk ids:List Int}{ts:List R3}{i:Nat}(h:0<=bu li lk ids ts 0 i):(bu li lk ids ts 0 i).toNat<ts.length:=by
 unfold bu at h ⊢
 split at h
 ·omega
 rename_i hh;rw[if_neg hh];rw[Lq]at h ⊢
 rcases gC (jq li lk ids ids.length) (atN li lk ids i) ts 0 with⟨h1,_⟩|⟨j,h1,h2,_⟩
 ·rw[h1]at h;omega
 rw[h2];omega
theorem rk(li lk:List Int)(ts:List R3)(ids:List Int)(v dv:J9)(w:CR)(h:Tx w v li lk ts)(hd:Ma w dv ids)(hn:ids.length<=50):
  KK JQ 20 [v,dv] w fun u w'=>Sl cP 1 w' u (jT li lk ids ts)/\JV w w'/\NewV w.heap.size u:=by
 obtain⟨ig,kp,ru,xs,rfl,h1,h2,h3,h4,h5⟩:=h;have hz:¬(0=1\/0=2):=zo;have f5:(mj li lk ids ts).length=ids.length:=by simp[mj]
 refine J5 func20 ntmps20 rfl rfl ?_;refine zh ?_
 refine aE (au w) 1 zo rfl rfl ?_;intro xb w1 O1 b6 e6 d7 c8;refine zh ?_
 refine zvH (ai (us:=[ig,kp,ru]) b6.cellsAdd (isAgg25 _) (sizeOf25 _) rfl) ?_;refine zc call27 (mn li lk ts ids (sF ig kp ru) dv w1 ⟨⟨ig,kp,ru,xs,rfl,h1.ext c8,h2.ext c8,h3.ext c8,h4,fun i hi=>(h5 i hi).ext c8⟩⟩ (hd.ext c8) hn) ?_
 rintro wv w2 ⟨b7,e',d'⟩;have b8:Lp O1 w2 wv:=d'.free b7 (fun x _=>by simp) d7;have d3:=aa (S:=fun _=>False) (fun h=>h) O1 e';have c':=b6.upd d3 zd (fun h=>h);have e9:=d7.upd d3;have d5:Jy (fun q=>q=1\/q=2) (fun _=>0) w O1 w2:=(e6.mono (fun _ h=>zo) hz).trans (d3.mono (fun _ h=>h.elim) hz);refine zh ?_;refine oU uy (enc:=cP) true e9 2 zd rfl rfl rfl zd rfl ?_;intro d8 w3 O3 d0 c9 e8;have d4:=d5.trans (c9.mono (fun _ h=>zo) hz);refine zh ?_;refine zlp (fun z:Nat×(Nat->Nat)×World×J9=>[(1,dv),(2,nP xb),(5,wv),(6,z.2.2.2),(7,nI (z.1:Nat))]) (fun z=>z.2.2.1) (fun z=>1<=z.1/\z.1<=max 1 ids.length/\K6 cP 4 1 z.2.1 z.2.2.1 2 z.2.2.2 (true::(J8 (z.1-1)).map (fun i=>dM li lk ids ts (i+1)))/\K0 z.2.1 z.2.2.1 1 xb #[ig,kp,ru] 25/\Lp z.2.1 z.2.2.1 wv/\Ma z.2.2.1 wv (mj li lk ids ts)/\Jy (fun q=>q=1\/q=2) (fun _=>0) w z.2.1 z.2.2.1/\KV w.heap.size z.2.1 z.2.2.1) (fun z=>ids.length-z.1) (1,O3,w3,d8) (⟨J2 _,Nat.le_max_left _ _,d0,c'.upd c9 zd zd,b8.upd c9,b7.upd b8 c9,d4,e8⟩) ?_;rintro⟨k,O4,w4,f4⟩ ⟨e3,hk,a5,a6,a3,a2,a',b4⟩;dsimp only at e3 hk a5 a6 a3 a2 a' b4 ⊢;have f6:=hd.ext a'.ext;have g4:=h3.ext a'.ext;refine zh ?_;refine zC ?_ ?_
 ·intro d1;replace d1:k<ids.length:=dT d1;obtain⟨c,hc⟩:∃c,c=bu li lk ids ts 0 k:=⟨_,rfl⟩
  have e1:nth (mj li lk ids ts) k=c:=by rw[hc];exact rI _ d1
  have c6:dM li lk ids ts k=(c == -1||(decide (0<=c)&&(nth ts c.toNat).2.2)):=by unfold dM;rw[<-hc]
  have b3:=aa (S:=fun _=>False) (fun h=>h) O4 (Fu w4).drew;have hU4d:=aa (S:=fun q=>q=2) zd O4 (Fu w4).drew;have kc:∀W,(∃O',Jy (fun q=>q=2) O4 w4 O' W)->W.cell? (adr wv 1 k)=some (nI c):=fun W ⟨O',hu⟩=>by
   have:=(a2.upd a3 hu).cell (i:=k) (j:=0) zo rfl;rw[ao,e1]at this;exact this
  have kx:∀W,(∃O',Jy (fun q=>q=2) O4 w4 O' W)->W.cell? (nA xb 2)=some ru:=fun W ⟨O',hu⟩=>(a6.upd hu zd zd).cell 2 rfl
  have kr:0<=c->∀W,(∃O',Jy (fun q=>q=2) O4 w4 O' W)->W.cell? ((adr ru 7 c.toNat).add 6)=some (.bool (nth ts c.toNat).2.2):=fun h0 W ⟨O',hu⟩=>by
   have d2:c.toNat<xs.length:=by rw[hc]at h0 ⊢;rw[<-h4];exact sN h0
   have:=(gU (h3.ext (a'.trans (hu.mono (fun _ h=>.inr h) hz)).ext) d2).2.2
   rwa[(h5 _ d2).2.2]at this
  have e0:(true::(J8 (k-1)).map (fun i=>dM li lk ids ts (i+1))).length=k:=by simp;omega
  have b2:(true::(J8 (k-1)).map (fun i=>dM li lk ids ts (i+1)))++[dM li lk ids ts k]=true::(J8 (k+1-1)).map (fun i=>dM li lk ids ts (i+1)):=by
   obtain⟨j,rfl⟩:∃j,k=j+1:=⟨k-1,zo⟩
   rw[show j+1+1-1=j+1 from rfl,show j+1-1=j from rfl,KE,JX];rfl
  refine zh ?_;refine aI (fun W=>∃O',Jy (fun q=>q=2) O4 w4 O' W) 27 rfl zk ?_
  refine zin ⟨_,hU4d⟩ fun zS=>?_
  refine zrm 0 rfl zS rfl ?_;refine zrm 1 rfl zS rfl ?_
  refine zrm 2 rfl zS rfl ?_;refine zr 3 rfl zS (fun _=>ah a2.sh J6 (Jw _) rfl rfl k rfl zo) ?_
  refine zt 4 rfl zS (fun w1 a9=>RV.ld (kc w1 a9) rfl) ?_;refine zr 5 rfl zS (fun _=>KB rfl rfl) ?_
  refine zrm 6 rfl zS rfl ?_
  by_cases c1:c = -1
  ·refine bL (d:=24) rfl (b':=true) ((by rw[c1];rfl)) ?_;refine zin ⟨_,hU4d⟩ fun zS=>?_
   refine zte 7 rfl rfl zS ?_;refine zte 8 rfl rfl zS ?_
   refine zte 9 rfl rfl zS ?_;refine zte 10 rfl rfl zS ?_
   refine zte 11 rfl rfl zS ?_;refine zte 12 rfl rfl zS ?_
   refine ztu 13 rfl zS ?_;refine ztu 14 rfl zS ?_
   refine ztu 15 rfl zS ?_;refine ztu 16 rfl zS ?_
   refine ztu 17 rfl zS ?_;refine ztu 18 rfl zS ?_
   refine ztu 19 rfl zS ?_;refine ztu 20 rfl zS ?_
   refine ztu 21 rfl zS ?_;refine zte 22 rfl rfl zS ?_
   refine zr 23 rfl zS (fun _=>aQ rfl rfl) ?_;refine Ae 24 zk rfl ?_
   refine cg uy (enc:=cP) (dM li lk ids ts k) rfl (congrArg (fun b=>[JR b]) (show true=dM li lk ids ts k from by rw[c6,c1];rfl)) rfl zd rfl ?_;intro sv w5 b9 b1;have b0:=aa (S:=fun q=>q=2) zd O4 b1;have a1:=hU4d.trans b0;refine zh ?_
   refine af (⟨_,a1⟩) ?_;have a7:=(a5.upd b3 zd (fun h=>h)).upd (aa (S:=fun _=>False) (fun h=>h) O4 b1) zd (fun h=>h);refine Ae 25 zk rfl ?_
   refine aC uy a7 ((b4.upd b3).upd b0) b9 (by simp) rfl rfl (by simp) (by simp[JB]) (by rw[Jo];omega) (by rw[Jo];omega) zd rfl ?_;intro b5 w6 O6 a4 a8 c7;refine zh ?_
   refine af (⟨_,a1.trans a8⟩) ?_;rw[b2]at a4;have a0:=a1.trans a8;refine zra 26 rfl (⟨_,a1.trans a8⟩) rfl ?_
   refine Jn zk ?_;refine zh ?_
   refine zxd (k+1,O6,w6,b5) (⟨by dsimp only;omega,by dsimp only;omega,a4,a6.upd (a0.mono (S':=fun q=>q=2) (fun _ h=>h) zd) zd zd,a3.upd a0,a2.upd a3 a0,a'.trans (a0.mono (fun _ h=>.inr h) hz),c7⟩)
  refine bL (d:=24) rfl (b':=false) ((by rw[beq_eq_false_iff_ne];exact c1)) ?_;refine zin ⟨_,hU4d⟩ fun zS=>?_
  refine zro 7 rfl zS (fun _=>ix rfl) ?_;refine zro 8 rfl zS (fun _=>ix rfl) ?_
  refine zro 9 rfl zS (fun _=>ah a2.sh J6 (Jw _) rfl rfl k rfl zo) ?_;refine zto 10 rfl zS (fun w1 a9=>RV.ld (kc w1 a9) rfl) ?_
  refine zro 11 rfl zS (fun _=>RV.geq rfl rfl) ?_;refine zro 12 rfl zS (fun _=>ix rfl) ?_
  by_cases c2:0<=c
  ·have d2:c.toNat<xs.length:=by have:=c2;rw[hc]at this ⊢;rw[<-h4];exact sN this
   have d9:=kr c2;refine bL (d:=30) rfl (b':=true) ((decide_eq_true c2)) ?_;refine zin ⟨_,hU4d⟩ fun zS=>?_
   refine zro 13 rfl zS (fun _=>RV.fa rfl) ?_;refine zto 14 rfl zS (fun w1 a9=>RV.ld (kx w1 a9) rfl) ?_
   refine zro 15 rfl zS (fun _=>ix rfl) ?_;refine zro 16 rfl zS (fun _=>ix rfl) ?_
   refine zro 17 rfl zS (fun _=>ah a2.sh J6 (Jw _) rfl rfl k rfl zo) ?_;refine zto 18 rfl zS (fun w1 a9=>RV.ld (kc w1 a9) rfl) ?_
   refine zro 19 rfl zS (fun _=>ah g4.sh K5 (Kf _) rfl rfl c.toNat zo zo) ?_;refine zro 20 rfl zS (fun _=>RV.fa rfl) ?_
   refine zto 21 rfl zS (fun w1 a9=>RV.ld (d9 w1 a9) rfl) ?_;refine zro 22 rfl zS (fun _=>aQ rfl rfl) ?_
   refine zr 23 rfl zS (fun _=>aW rfl rfl) ?_;refine Ae 24 zk rfl ?_
   refine cg uy (enc:=cP) (dM li lk ids ts k) rfl (congrArg (fun b=>[JR b]) (show(nth ts c.toNat).2.2=dM li lk ids ts k from by rw[c6,show(c == -1)=false from(by rw[beq_eq_false_iff_ne];exact c1),decide_eq_true c2];rfl)) rfl zd rfl ?_;intro sv w5 b9 b1;have b0:=aa (S:=fun q=>q=2) zd O4 b1;have a1:=hU4d.trans b0;refine zh ?_
   refine af (⟨_,a1⟩) ?_;have a7:=(a5.upd b3 zd (fun h=>h)).upd (aa (S:=fun _=>False) (fun h=>h) O4 b1) zd (fun h=>h);refine Ae 25 zk rfl ?_
   refine aC uy a7 ((b4.upd b3).upd b0) b9 (by simp) rfl rfl (by simp) (by simp[JB]) (by rw[Jo];omega) (by rw[Jo];omega) zd rfl ?_;intro b5 w6 O6 a4 a8 c7;refine zh ?_
   refine af (⟨_,a1.trans a8⟩) ?_;rw[b2]at a4;have a0:=a1.trans a8;refine zra 26 rfl (⟨_,a1.trans a8⟩) rfl ?_
   refine Jn zk ?_;refine zh ?_
   refine zxd (k+1,O6,w6,b5) (⟨by dsimp only;omega,by dsimp only;omega,a4,a6.upd (a0.mono (S':=fun q=>q=2) (fun _ h=>h) zd) zd zd,a3.upd a0,a2.upd a3 a0,a'.trans (a0.mono (fun _ h=>.inr h) hz),c7⟩)
  refine bL (d:=30) rfl (b':=false) ((decide_eq_false c2)) ?_;refine zin ⟨_,hU4d⟩ fun zS=>?_
  refine zte 13 rfl rfl zS ?_;refine zte 14 rfl rfl zS ?_
  refine zte 15 rfl rfl zS ?_;refine zte 16 rfl rfl zS ?_
  refine zte 17 rfl rfl zS ?_;refine zte 18 rfl rfl zS ?_
  refine zte 19 rfl rfl zS ?_;refine zte 20 rfl rfl zS ?_
  refine zte 21 rfl rfl zS ?_;refine zro 22 rfl zS (fun _=>aW rfl rfl) ?_
  refine zr 23 rfl zS (fun _=>aW rfl rfl) ?_;refine Ae 24 zk rfl ?_
  refine cg uy (enc:=cP) (dM li lk ids ts k) rfl (congrArg (fun b=>[JR b]) (show false=dM li lk ids ts k from by rw[c6,show(c == -1)=false from(by rw[beq_eq_false_iff_ne];exact c1),decide_eq_false c2];rfl)) rfl zd rfl ?_;intro sv w5 b9 b1;have b0:=aa (S:=fun q=>q=2) zd O4 b1;have a1:=hU4d.trans b0;refine zh ?_
  refine af (⟨_,a1⟩) ?_;have a7:=(a5.upd b3 zd (fun h=>h)).upd (aa (S:=fun _=>False) (fun h=>h) O4 b1) zd (fun h=>h);refine Ae 25 zk rfl ?_
  refine aC uy a7 ((b4.upd b3).upd b0) b9 (by simp) rfl rfl (by simp) (by simp[JB]) (by rw[Jo];omega) (by rw[Jo];omega) zd rfl ?_;intro b5 w6 O6 a4 a8 c7;refine zh ?_
  refine af (⟨_,a1.trans a8⟩) ?_;rw[b2]at a4;have a0:=a1.trans a8;refine zra 26 rfl (⟨_,a1.trans a8⟩) rfl ?_
  refine Jn zk ?_;refine zh ?_
  refine zxd (k+1,O6,w6,b5) (⟨by dsimp only;omega,by dsimp only;omega,a4,a6.upd (a0.mono (S':=fun q=>q=2) (fun _ h=>h) zd) zd zd,a3.upd a0,a2.upd a3 a0,a'.trans (a0.mono (fun _ h=>.inr h) hz),c7⟩)
 intro e4;have e2:k-1=ids.length-1:=dF e4;rw[e2]at a5;have c6:jT li lk ids ts=(true::(J8 (ids.length-1)).map (fun i=>dM li lk ids ts (i+1)))++if 0<ids.length then [true]else []:=rfl
 rw[c6];have e0:(true::(J8 (ids.length-1)).map (fun i=>dM li lk ids ts (i+1))).length=ids.length-1+1:=by simp
 generalize true::(J8 (ids.length-1)).map (fun i=>dM li lk ids ts (i+1))=L at *;refine zh ?_
 by_cases d6:0<ids.length
 ·rw[if_pos d6];refine zTH rfl ((decide_eq_true zo)) ?_;refine Ll uy a5 b4 (true) (fun _=>rfl) rfl rfl rfl (by simp[JB]) zo zo zo zd rfl rfl ?_;intro f3 w7 O7 c5 e5 e7;refine zh ?_;refine ae rfl rfl (⟨c5.sl,(a'.trans (e5.mono (fun _ h=>.inr h) hz)).ext,c5.newV zd e7⟩)
 rw[if_neg d6];refine zFH rfl ((decide_eq_false zo)) ?_;refine ae rfl rfl (⟨by rw[Kc];exact a5.sl,a'.ext,a5.newV zd b4⟩)
section
abbrev mv(m:M3):J9:=.agg (lz m).toArray
theorem kM{F:FuncId}(hF:∀(args:Array J9) (w:CR),(callFunc F args).run JQ w=.ok (.enter F args) w)(cs:Array J9)(l:List (M3))(sv:J9)(q:Nat->Bool)(w:CR)(h:Sl lz 4 w sv l) 
  (hq:∀i,i<l.length->∀w',JV w w'->KK JQ F ([mv (nth l i)]++cs.toList) w' fun v w''=>v=.bool (q i)/\JV w' w'') :
  KK JQ 191 [sv,.func (.func F) #[] cs] w fun v w'=>v=nI (dQ q l.length)/\JV w w':=by
 have hl:=h.len_le;refine J5 func191 ntmps191 rfl rfl ?_;refine zh ?_;refine zlp (fun x:Nat×CR=>[(0,sv),(1,.func (.func F) #[] cs),(7,nI l.length),(8,nI x.1)]) (fun x=>x.2) (fun x=>x.1<=l.length/\JV w x.2/\∀i,i<x.1->q i=false) (fun x=>l.length-x.1) (0,w) (⟨vX _,Fu _,fun i hi=>absurd hi (J0 i)⟩) ?_;rintro⟨k,w1⟩ ⟨hk,hE,a1⟩;dsimp only at hk hE a1 ⊢;have h1:=h.ext hE;refine zh ?_;refine zC ?_ ?_
 ·intro a0;replace a0:k<l.length:=dT a0;refine zh ?_;refine zv (ai (us:=lz (nth l k)) (fun j u hu=>h1.cell a0 hu) (isAgg243 _) (sizeOf243 _) rfl) ?_;refine dN rfl hF rfl (hq k a0 w1 hE) rfl ?_;rintro v w2 ⟨rfl,a3⟩;refine zh ?_;refine zC ?_ ?_
  ·intro hy;refine zh ?_;refine ae rfl rfl (⟨by rw[cG a0 hy a1],hE.trans a3⟩)
  intro hy;refine zh ?_;refine zxd (k+1,w2) (⟨a0,hE.trans a3,fun i hi=>(As.1 hi).elim (a1 i) (fun e=>by rw[e];exact hy)⟩)
 intro a2;replace a2:l.length<=k:=dF a2;refine zh ?_;refine ae rfl rfl (⟨by rw[cE fun i hi=>a1 i zo],hE⟩)
theorem iB{F:FuncId}(hF:∀(args:Array J9) (w:CR),(callFunc F args).run JQ w=.ok (.enter F args) w)(cs:Array J9)(l:List (M3))(sv:J9)(q:Nat->Bool)(w:CR)(h:Sl lz 4 w sv l) 
  (hq:∀i,i<l.length->∀w',JV w w'->KK JQ F ([mv (nth l i)]++cs.toList) w' fun v w''=>v=.bool (q i)/\JV w' w'') :
  KK JQ 176 [sv,.func (.func F) #[] cs] w fun v w'=>v=.bool (jc q l.length)/\JV w w':=by
 refine J5 func176 ntmps176 rfl rfl ?_;refine zh ?_
 refine zc call191 (kM hF cs l sv q w h hq) ?_;rintro v w1 ⟨rfl,hE⟩;refine zh ?_
 refine ae rfl rfl (⟨by rw[firstN_any],hE⟩)
theorem yT(m:M3)(s:List UInt8)(sb:Nat)(w:CR)(h:w.cell? ⟨sb,0,none⟩=some (.string (bs s))):KK JQ 177 [mv m,nP sb] w fun v w'=>v=.bool (m.1==s)/\JV w w':=by
 refine J5 func177 ntmps177 rfl rfl ?_;refine zh ?_
 refine aE (au w) 1 zo rfl rfl ?_;intro xb w1 O1 a1 a2 a3 a0;refine zh ?_
 refine zv (RV.ld (a1.cell 0 rfl) rfl) ?_;refine zv (RV.ld (a0.cell h) rfl) ?_
 refine zvH (cX rfl rfl) ?_;refine ae rfl rfl (⟨rfl,a0⟩)
theorem oF(l:List (List UInt8))(s:List UInt8)(sv:J9)(w:CR)(h:Sl encS 1 w sv l):KK JQ 175 [sv,.string (bs s)] w fun v w'=>v=.bool (l.contains s)/\w'=w:=by
 refine J5 func175 ntmps175 rfl rfl ?_;refine zh ?_
 refine zc call183 (my l s sv w h) ?_;rintro v w9 ⟨rfl,a0⟩;rw[a0];clear a0 w9;refine zh ?_
 refine ae rfl rfl (⟨congrArg JR ?_,rfl⟩);unfold GV
 cases hf:l.findIdx? (· == s)with
 |none=>
  have h1:=List.findIdx?_eq_none_iff.1 hf;rw[decide_eq_false zd]
  symm
  rw[Bool.eq_false_iff];intro hc;have:=h1 s (KU.1 hc);simp at this
 |some k=>
  obtain⟨hk,h1,_⟩:=List.findIdx?_eq_some_iff_getElem.1 hf;show decide ((0:Int)<=((k:Nat):Int))=_;rw[decide_eq_true zo]
  symm
  rw[KU,<-eq_of_beq h1];exact Kz hk
def wordsL:List (List UInt8):=[[108,101,116],[105,103,110,111,114,101],[107,101,101,112],[97,110,121]]
def fg(kn:Kn)(s:List UInt8):Int:=if((A7 s).isSome||wordsL.contains s)=true then 5 else if kn.any (fun m=>m.1==s)=true then 11 else 0
variable{kn:Kn}
theorem Az(O:Nat->Nat)(w:CR)(j jm rb:Nat)(s:LS)(q:List UInt8)(hk:Mac O w jm s.mc kn)(h:L8 O w j rb s):
  KK JQ 157 [nP rb,.string (bs q)] w fun v w'=>v=nI (fg kn q)/\JV w w':=by
 obtain⟨ms,a2,b1,b2⟩:=hk;have b0:=a2.sl;refine J5 func157 ntmps157 rfl rfl ?_;refine zg ?_;refine aE (au w) 1 zo rfl rfl ?_;intro sb w1 O1 a9 b4 b5 b3;have a3:=a9.cell 0 rfl;refine zg ?_;refine zv (RV.ld a3 rfl) ?_;refine zc LU (iW q w1) ?_;rintro v w2 ⟨rfl,a6⟩;have a1:=b3.trans a6;refine zg ?_
 cases hn:(A7 q).isSome with
 |true=>
  have hM:fg kn q=5:=by unfold fg;rw[hn];rfl
  rw[hM];refine ay (d:=14) rfl (b':=true) (rfl) ?_;refine zg ?_;refine zTG rfl rfl ?_;refine ae rfl rfl (⟨rfl,a1⟩)
 |false=>
  refine ay (d:=14) rfl (b':=false) (rfl) ?_;refine zg ?_
  refine gb underlying136 (sizeOf9 _) (zeroValue9 _) encS wordsL rfl rfl rfl rfl zk zd rfl ?_;intro sv w3 a' a5;have a0:=a1.trans a5;refine zg ?_
  refine zvG (RV.ld ((a6.trans a5).cell a3) rfl) ?_;refine zc call175 (oF wordsL q sv w3 a') ?_
  rintro v w9 ⟨rfl,a7⟩;rw[a7];clear a7 w9;refine zg ?_
  cases hw:wordsL.contains q with
  |true=>
   have hM:fg kn q=5:=by unfold fg;rw[hn,hw];rfl
   rw[hM];refine zTG rfl rfl ?_;refine ae rfl rfl (⟨rfl,a0⟩)
  |false=>
   refine aS rfl rfl ?_;have q9:=a0.cell h.q9;refine zg ?_
   refine zv (RV.ld q9 rfl) ?_;refine zv (eA rfl rfl) ?_
   refine zc call176 (iB call177 #[nP sb] ms s.mc (fun i=>(nth ms i).1==q) w3 (b0.ext a0) (fun i hi w' hE=>yT (nth ms i) q sb w' (hE.cell ((a6.trans a5).cell a3)))) ?_;rintro v w4 ⟨rfl,a8⟩;have a4:jc (fun i=>(nth ms i).1==q) ms.length=kn.any (fun m=>m.1==q):=by
    rw[<-b1,<-iG (l:=kn) (p:=fun m=>m.1==q)];exact Aa fun i hi=>by rw[(b2 i zo).1]
   rw[a4];refine zg ?_
   cases ha:kn.any (fun m=>m.1==q)with
   |true=>
    have hM:fg kn q=11:=by unfold fg;rw[hn,hw,ha];rfl
    rw[hM];refine zTG rfl rfl ?_;refine ae rfl rfl (⟨rfl,a0.trans a8⟩)
   |false=>
    have hM:fg kn q=0:=by unfold fg;rw[hn,hw,ha];rfl
    rw[hM];refine zFG rfl rfl ?_;refine ae rfl rfl (⟨rfl,a0.trans a8⟩)
end
section
variable{kn:Kn}
theorem GP:cV JQ 243 #[(0,1),(1,3)]:=⟨_,underlying243,fun w=>by kernel_rfl⟩
inductive ML where
 |ok (m:List UInt8×Nd)
 |bad (p:Nat) (e:Int)
def IH(nm r2:List UInt8):XR->ML
 |.ok t=>.ok (nm,t)
 |.bad p e=>.bad (r2.length-1-p) e
def tQ(kn:Kn)(r:List UInt8):ML:=
 if(aw r).takeWhile aj=[]then .bad (aw r).length 4
 else if fg kn ((aw r).takeWhile aj)≠0 then .bad (aw r).length (fg kn ((aw r).takeWhile aj))
 else if(aw ((aw r).dropWhile aj)).headD 0=61 then IH ((aw r).takeWhile aj) (aw ((aw r).dropWhile aj)) (fz kn (aw ((aw r).dropWhile aj)).tail)
 else .bad (aw ((aw r).dropWhile aj)).length 4
def IZ(O:Nat->Nat)(w:CR)(jm:Nat)(m:Nat)(v:J9)(bad e:Int)(kn:Kn):ML->Prop
 |.ok x=>e=0/\Mac O w jm v (kn++[x])
 |.bad p e'=>e=e'/\e'≠0/\bad=(m:Int)-(p:Int)
def atX:XR->Int
 |.ok _=>0
 |.bad p _=>(p:Int)
def IL:XR->Int
 |.ok _=>0
 |.bad _ e=>e
theorem PostX.shape{O:Nat->Nat}{w:CR}{v:J9}{M:XR}(h:PostX O w v M):∃x:N3,v=.tuple #[nv x,nI (atX M),nI (IL M)]/\x.2.2.oneCell'=true/\∀t,M=.ok t->Nt O w t x:=by
 cases M with
 |ok t=>obtain⟨x,rfl,hn⟩:=h;exact⟨x,rfl,hn.one,fun t e=>by cases e;exact hn⟩
 |bad p e=>obtain⟨rfl,_⟩:=h;exact⟨(0,0,nS),rfl,rfl,fun t e=>by cases e⟩
theorem kT{m:M3}(h:m.2.2.2.oneCell'=true):∀c∈lz m,c.oneCell'=true:=fun c hc=>by
 simp only[lz,JL,K8,or_false]at hc
 rcases hc with rfl|rfl|rfl|rfl
 ·rfl
 ·rfl
 ·rfl
 exact h
theorem yN{O:Nat->Nat}{w:CR}{i:Nat}{v:J9}{ms:List M3}{nm:List UInt8}{x:N3}{t:Nd}(hr:K6 lz 243 4 O w i v (ms++[(nm,x)]))(hl:kn.length=ms.length)(hk:∀q,q<ms.length->(nth kn q).1=(nth ms q).1/\Nt O w (nth kn q).2 (nth ms q).2)(hn:Nt O w t x):Mac O w i v (kn++[(nm,t)]):=by
 refine⟨_,hr,by simp[hl],fun q hq=>?_⟩;simp only[Js,Jo]at hq
 by_cases e:q<ms.length
 ·rw[aB (by simp;omega),aB (by simp;omega),J4 zo,J4 e,<-aB zo,<-aB e];exact hk q e
 obtain rfl:q=ms.length:=zo;rw[aB (by simp;omega),aB (by simp),J1 zo,J1 zo];simp[hl];exact hn
theorem Bm(B:Nat)(O:Nat → Nat)(w:CR)(j jm rb:Nat)(s:LS)(m:Nat)(r:List UInt8)(hR:KV B O w)(hj:j ≠ 0)(hjm:jm ≠ 0)(hne:j ≠ jm)(hm:m ≤ s.l.length)(hl:s.l.length ≤ 100000)(hto:s.to = (m:Int))(he:s.e = 0)
  (hr:r <:+ s.l.take m) (hp:s.pos = (m:Int) - (r.length:Int)) (hkl:kn.length ≤ 100000) (hmac:Mac O w jm s.mc kn) (h:L8 O w j rb s) :
  KK JQ 131 [nP rb] w fun _ w' => ∃O' v pos bad e, Jy (fun k => k = j ∨ k = jm) O w O' w' ∧ KV B O' w' ∧ L8 O' w' j rb {s with pos := pos, bad := bad, e := e, mc := v} ∧ IZ O' w' jm m v bad e kn (tQ kn r) := by
 obtain⟨T0, hT00, hT01⟩ := hR.bound
 obtain⟨T, hT0, hjmT, hT⟩:∃T, 0 < T ∧ jm < T ∧ ∀b, O b < T := ⟨T0 + jm + 1, by omega, by omega, fun b => by have := hT01 b; omega⟩
 clear hT00 hT01 T0
 have hjT:j < T := by rw[← h.tag]; exact hT rb
 have hz2:¬(fun q:Nat => q = j ∨ q = jm) 0 := fun e => by rcases e with e | e; exact hj e.symm; exact hjm e.symm
 have hz3:¬(fun q:Nat => q = j ∨ q = jm ∨ T ≤ q) 0 := fun e => by rcases e with e | e | e; exact hj e.symm; exact hjm e.symm; omega
 have hpv:∀ {O':Nat → Nat} {w':CR}, Jy (fun q => q = j ∨ q = jm ∨ T ≤ q) O w O' w' → Jy (fun q => q = j ∨ q = jm) O w O w' := fun hU => hU.fgt (S' := fun q => q = j ∨ q = jm) (fun b hb => by rcases hb with hb | hb | hb; exact KD hb; exact KC hb; have := hT b; omega) hz2
 have hLl:(s.l.take m).length = m := by simp; omega
 refine J5 func131 ntmps131 rfl rfl ?_
 refine I4 ?_
 refine la ?_
 refine zv (ix rfl) ?_
 refine zv (aq rfl) ?_
 refine zv (RV.fa rfl) ?_
 refine zc KM (dX O w j rb s m r hj hm hl hto hr hp h) ?_
 rintro v w1 ⟨rfl, hb1, hU1⟩
 have hs1 := (bn r).trans hr
 have hm1 := hmac.upd hU1 hjm (fun e => hne e.symm)
 have hR1 := hR.upd hU1
 refine ka ?_
 refine az ?_
 refine I4 ?_
 refine la ?_
 refine zv (ix rfl) ?_
 refine zv (aq rfl) ?_
 refine zv (RV.fa rfl) ?_
 refine zv (RV.fa rfl) ?_
 refine zv (RV.ld hb1.q1 rfl) ?_
 refine zv (Gv rfl) ?_
 refine ka ?_
 refine az ?_
 refine I4 ?_
 refine la ?_
 refine zv (ix rfl) ?_
 refine zv (aq rfl) ?_
 refine zv (RV.fa rfl) ?_
 refine zc L7 (gV O w1 j rb ({s with pos := (m:Int) - ((aw r).length:Int)}:LS) m (aw r) hj hm hl hto hs1 rfl hb1) ?_
 rintro v w2 ⟨rfl, hb2, hU2⟩
 have hs2 := (zR aj).trans hs1
 have hm2 := hm1.upd hU2 hjm (fun e => hne e.symm)
 have hR2 := hR1.upd hU2
 have hUt2 := (hU1.trans hU2).mono (S' := fun q => q = j ∨ q = jm ∨ T ≤ q) (fun _ h => .inl h) hz3
 refine zv (Gv rfl) ?_
 refine ka ?_
 refine az ?_
 refine I4 ?_
 refine I4 ?_
 refine la ?_
 refine zv (ix rfl) ?_
 refine zv (cX rfl rfl) ?_
 refine ka ?_
 refine az ?_
 by_cases hnm:(aw r).takeWhile aj = []
 ·have hM:tQ kn r = .bad (aw r).length 4 := by unfold tQ; rw[if_pos hnm]
  rw[hM]
  refine aZ rfl ((by rw[hnm]; rfl)) ?_
  refine I4 ?_
  refine la ?_
  refine zv (ix rfl) ?_
  refine zv (aq rfl) ?_
  refine zv (RV.fa rfl) ?_
  refine zv (ix rfl) ?_
  refine zc JW (bI O w2 j rb ({s with pos := (m:Int) - (((aw r).dropWhile aj).length:Int)}:LS) ((m:Int) - ((aw r).length:Int)) 4 hj he hb2) ?_
  rintro u w3 ⟨hb3, hU3⟩
  refine ka ?_
  refine az ?_
  refine L9 ?_
  refine bT ?_
  exact cA rfl ⟨O, s.mc, _, _, _, hpv (hUt2.trans (hU3.mono (fun _ h => .inl h) hz3)), hR2.upd hU3, hb3, rfl, by decide, rfl⟩
 ·skip
  refine aS rfl ((by simpa using hnm)) ?_
  refine K7 ?_
  refine az ?_
  refine I4 ?_
  refine I4 ?_
  refine la ?_
  refine zv (ix rfl) ?_
  refine zv (ix rfl) ?_
  refine zc call157 (Az O w2 j jm rb ({s with pos := (m:Int) - (((aw r).dropWhile aj).length:Int)}:LS) ((aw r).takeWhile aj) hm2 hb2) ?_
  rintro v w3 ⟨rfl, hE3⟩
  have hX3:Jy (fun _ => False) O w2 O w3 := aa (fun h => h) O hE3
  have hb3 := hb2.upd hX3 hj (fun h => h)
  have hm3 := hm2.upd hX3 hjm (fun h => h)
  have hR3 := hR2.upd hX3
  have hUt3 := hUt2.trans (hX3.mono (fun _ h => h.elim) hz3)
  refine zv (Gv rfl) ?_
  refine ka ?_
  refine az ?_
  refine I4 ?_
  refine la ?_
  refine zv (ix rfl) ?_
  refine zv (LJ rfl rfl) ?_
  refine ka ?_
  refine az ?_
  by_cases htk:fg kn ((aw r).takeWhile aj) = 0
  ·skip
   refine aS rfl ((by rw[htk]; rfl)) ?_
   have hMK:tQ kn r = if(aw ((aw r).dropWhile aj)).headD 0 = 61 then IH ((aw r).takeWhile aj) (aw ((aw r).dropWhile aj)) (fz kn (aw ((aw r).dropWhile aj)).tail)else .bad (aw ((aw r).dropWhile aj)).length 4 := by unfold tQ; rw[if_neg hnm, if_neg (by rw[htk]; simp)]
   generalize (aw r).takeWhile aj = nm at *
   generalize (aw r).dropWhile aj = q at *
   have hs5 := (bn q).trans hs2
   have hbd := hb3.drew
   have hmd := hm3.upd (aa (S := fun _ => False) (fun h => h) O (Fu w3).drew) hjm (fun h => h)
   have hRd := hR3.drew
   have hUd := hUt3.drew
   refine K7 ?_
   refine az ?_
   refine I4 ?_
   refine I4 ?_
   refine aI (fun V => V.cell? ⟨rb, 0, none⟩ = some (.string (bs s.l))) 19 rfl (by kernel_rfl) ?_
   refine zrm 0 rfl hbd.q0 rfl ?_
   refine zr 1 rfl hbd.q0 (fun _ => aq rfl) ?_
   refine zrf 2 rfl hbd.q0 rfl ?_
   refine Ae 3 (by kernel_rfl) rfl ?_
   refine zc KM (dX O w3.drew j rb ({s with pos := (m:Int) - (q.length:Int)}:LS) m q hj hm hl hto hs2 rfl hbd) ?_
   rintro v w5 ⟨rfl, hb5, hU5⟩
   have hm5 := hmd.upd hU5 hjm (fun e => hne e.symm)
   have hR5 := hRd.upd hU5
   have hUt5 := hUd.trans (hU5.mono (fun _ h => .inl h) hz3)
   generalize aw q = r2 at *
   have hr2l := hs5.length_le
   rw[hLl]at hr2l
   have hb5':K0 O w5 j rb ({s with pos := (m:Int) - (r2.length:Int)}:LS).cells 170 := hb5
   clear hb5
   have hb5 := hb5'
   refine ka ?_
   refine zaf (hb5.q0) fun zS => ?_
   refine zr 4 rfl zS (fun _ => RV.not rfl) ?_
   refine zrm 5 rfl zS rfl ?_
   by_cases hr0:r2.length = 0
   ·have hrn:r2 = [] := J7 hr0
    have hM:tQ kn r = .bad r2.length 4 := by rw[hMK, if_neg (by rw[hrn]; decide)]
    rw[hM]
    refine bL (d := 44) rfl (b' := true) ((by rw[decide_eq_false (by omega)]; rfl)) ?_
    have hbe := hb5.drew
    refine zin (hb5.q0) fun zS => ?_
    refine zte 6 rfl rfl zS ?_
    refine zte 7 rfl rfl zS ?_
    refine zte 8 rfl rfl zS ?_
    refine zte 9 rfl rfl zS ?_
    refine zte 10 rfl rfl zS ?_
    refine zte 11 rfl rfl zS ?_
    refine zte 12 rfl rfl zS ?_
    refine zte 13 rfl rfl zS ?_
    refine zte 14 rfl rfl zS ?_
    refine zte 15 rfl rfl zS ?_
    refine zte 16 rfl rfl zS ?_
    refine zte 17 rfl rfl zS ?_
    refine zr 18 rfl zS (fun _ => aQ rfl rfl) ?_
    refine Jn (by kernel_rfl) ?_
    refine az ?_
    refine aZ rfl rfl ?_
    refine I4 ?_
    refine K1 8 rfl rfl (by kernel_rfl) (by kernel_rfl) ?_
    refine zw (ix rfl) ?_
    refine zw (aq rfl) ?_
    refine zw (RV.fa rfl) ?_
    refine zw (ix rfl) ?_
    refine zw (aq rfl) ?_
    refine zw (RV.fa rfl) ?_
    refine zw (RV.fa rfl) ?_
    refine zw (RV.ld hbe.q1 rfl) ?_
    refine Kw ?_
    refine zc JW (bI O w5.drew j rb ({s with pos := (m:Int) - (r2.length:Int)}:LS) ((m:Int) - (r2.length:Int)) 4 hj he hbe) ?_
    rintro u w6 ⟨hb6, hU6⟩
    refine ka ?_
    refine az ?_
    refine L9 ?_
    refine bT ?_
    exact cA rfl ⟨O, s.mc, _, _, _, hpv ((hUt5.drew).trans (hU6.mono (fun _ h => .inl h) hz3)), hR5.drew.upd hU6, hb6, rfl, by decide, rfl⟩
   ·have hrn:r2 ≠ [] := fun e => hr0 (by rw[e]; rfl)
    have hgh := mY (yp hs5 hrn)
    rw[hLl]at hgh
    refine bL (d := 44) rfl (b' := false) ((by rw[decide_eq_true (by omega)]; rfl)) ?_
    refine zin (hb5.q0) fun zS => ?_
    refine zro 6 rfl zS (fun _ => ix rfl) ?_
    refine zro 7 rfl zS (fun _ => aq rfl) ?_
    refine zro 8 rfl zS (fun _ => RV.fa rfl) ?_
    refine zro 9 rfl zS (fun _ => RV.fa rfl) ?_
    refine zto 10 rfl zS (fun w1 hw1 => RV.ld hw1 rfl) ?_
    refine zro 11 rfl zS (fun _ => ix rfl) ?_
    refine zro 12 rfl zS (fun _ => aq rfl) ?_
    refine zro 13 rfl zS (fun _ => RV.fa rfl) ?_
    refine zro 14 rfl zS (fun _ => RV.fa rfl) ?_
    refine Ae 15 (by kernel_rfl) rfl ?_
    refine Cl rfl ?_
    refine zv (RV.ld hb5.q1 rfl) ?_
    refine ka ?_
    refine zaf (hb5.q0) fun zS => ?_
    refine zro 16 rfl zS (fun _ => bt (c := r2.headD 0) JG rfl rfl (m - r2.length) (by dsimp only; omega) hgh) ?_
    refine zro 17 rfl zS (fun _ => LJ rfl rfl) ?_
    refine zr 18 rfl zS (fun _ => aW rfl rfl) ?_
    refine Jn (by kernel_rfl) ?_
    refine az ?_
    by_cases hc:r2.headD 0 = 61
    ·have hMX:tQ kn r = IH nm r2 (fz kn r2.tail) := by rw[hMK, if_pos hc]
     obtain⟨k1, k2⟩ := cm (r := r2) (by rw[hc]; decide)
     have hts := k1.trans hs5
     refine aS rfl ((by rw[hc]; rfl)) ?_
     have hbe := hb5.drew
     have hme := hm5.upd (aa (S := fun _ => False) (fun h => h) O (Fu w5).drew) hjm (fun h => h)
     have hRe := hR5.drew
     have hUe := hUt5.drew
     have hseg:(s.l.take m).drop (m - r2.tail.length) = r2.tail := by have := DY hts; rwa[hLl]at this
     have hgX := yw (kn := kn) r2.tail
     generalize hMd:fz kn r2.tail = M at *
     refine K7 ?_
     refine az ?_
     refine I4 ?_
     refine iK (fun z:(Nat → Nat)×World×Nat×N3 => [(0, nP rb), (3, .string (bs nm)), (5, .pointer (some ⟨z.2.2.1, 0, none⟩)), (6, nI (atX M)), (7, nI (IL M))]) (fun z:(Nat → Nat)×World×Nat×N3 => z.2.1) (fun z:(Nat → Nat)×World×Nat×N3 => K0 z.1 z.2.1 T z.2.2.1 #[nI z.2.2.2.1, nI z.2.2.2.2.1, z.2.2.2.2.2] 83 ∧ L8 z.1 z.2.1 j rb {s with pos := (m:Int) - (r2.length:Int)} ∧ Mac z.1 z.2.1 jm s.mc kn ∧ Jy (fun q => q = j ∨ q = jm ∨ T ≤ q) O w z.1 z.2.1 ∧ KV B z.1 z.2.1 ∧ z.2.2.2.2.2.oneCell' = true ∧ ∀t, M = .ok t → Nt z.1 z.2.1 t z.2.2.2) ?_ ?_
     ·intro hN
      refine aI (fun V => V.cell? ⟨rb, 0, none⟩ = some (.string (bs s.l)) ∧ V.cell? ⟨rb, 1, none⟩ = some (nI ((m:Int) - (r2.length:Int))) ∧ V.cell? ⟨rb, 2, none⟩ = some (nI s.to) ∧ V.cell? ⟨rb, 9, none⟩ = some s.mc) 30 rfl (by kernel_rfl) ?_
      refine zin ⟨hbe.q0, hbe.q1, hbe.q2, hbe.q9⟩ fun zS => ?_
      refine zrm 0 rfl zS rfl ?_
      refine zr 1 rfl zS (fun _ => aq rfl) ?_
      refine zrf 2 rfl zS rfl ?_
      refine zrf 3 rfl zS rfl ?_
      refine zt 4 rfl zS (fun w1 hw1 => RV.ld hw1.1 rfl) ?_
      refine zrm 5 rfl zS rfl ?_
      refine zr 6 rfl zS (fun _ => aq rfl) ?_
      refine zrf 7 rfl zS rfl ?_
      refine zrf 8 rfl zS rfl ?_
      refine zt 9 rfl zS (fun w1 hw1 => RV.ld hw1.2.1 rfl) ?_
      refine zr 10 rfl zS (fun _ => JK rfl rfl (JC (by omega))) ?_
      refine zrm 11 rfl zS rfl ?_
      refine zr 12 rfl zS (fun _ => aq rfl) ?_
      refine zrf 13 rfl zS rfl ?_
      refine zrf 14 rfl zS rfl ?_
      refine zt 15 rfl zS (fun w1 hw1 => RV.ld hw1.2.2.1 rfl) ?_
      refine zr 16 rfl zS (fun _ => dc JG rfl rfl rfl (m - r2.tail.length) m (by omega) hto (by omega) hm) ?_
      refine zrm 17 rfl zS rfl ?_
      refine zr 18 rfl zS (fun _ => aq rfl) ?_
      refine zrf 19 rfl zS rfl ?_
      refine zt 20 rfl zS (fun w1 hw1 => RV.ld hw1.2.2.2 rfl) ?_
      rw[hseg]
      refine bV 21 26 (by kernel_rfl) rfl rfl ?_ ?_
      ·skip
       refine zc call158 (lH s.mc r2.tail B O (forget jm O) w5.drew hRe hRe.forget (hme.known hjm hRe)) ?_
       rintro v w6 ⟨hE6, hP6⟩
       rw[hMd]at hP6
       obtain⟨x, rfl, hxo, hxn⟩ := hP6.shape
       have hX6:Jy (fun _ => False) O w5.drew O w6 := aa (fun h => h) O hE6
       have hb6 := hbe.upd hX6 hj (fun h => h)
       have hm6 := hme.upd hX6 hjm (fun h => h)
       have hR6 := hRe.upd hX6
       have hU6 := hUe.trans (hX6.mono (fun _ h => h.elim) hz3)
       refine ka ?_
       refine zaf (⟨hb6.q0, hb6.q1, hb6.q2, hb6.q9⟩) fun zS => ?_
       refine zrm 22 rfl zS rfl ?_
       refine zr 23 rfl zS (fun _ => Kd rfl rfl) ?_
       refine zr 24 rfl zS (fun _ => Kd rfl rfl) ?_
       refine zr 25 rfl zS (fun _ => Kd rfl rfl) ?_
       refine Ae 26 (by kernel_rfl) rfl ?_
       refine ax hR6 T (by omega) (Ko _) rfl ?_
       intro nb w7 O7 hn7 hX7 hR7 hE7
       have hb7 := hb6.upd hX7 hj (by omega)
       have hm7 := hm6.upd hX7 hjm (by omega)
       have hU7 := hU6.trans (hX7.mono (fun _ h => .inr (.inr (JE h.symm))) hz3)
       refine ka ?_
       refine af (⟨hb7.q0, hb7.q1, hb7.q2, hb7.q9⟩) ?_
       refine Ae 27 (by kernel_rfl) rfl ?_
       refine zsb (us := #[nI x.1, nI x.2.1, x.2.2]) hn7 (Ke _) (cn hxo) ?_
       have hnz := KA (us := #[nI x.1, nI x.2.1, x.2.2]) hn7
       have hXz:Jy (fun q => q = T) O7 w7 O7 (Kp w7 nb #[nI x.1, nI x.2.1, x.2.2]) := Jq (by omega) (LK hn7) rfl
       have hbz := ln hb7 hXz hj (by omega)
       refine ka ?_
       refine zaf (⟨hbz.q0, hbz.q1, hbz.q2, hbz.q9⟩) fun zS => ?_
       refine zra 28 rfl zS rfl ?_
       refine zra 29 rfl zS rfl ?_
       refine Jn (by kernel_rfl) ?_
       exact eD (hN ((O7, Kp w7 nb #[nI x.1, nI x.2.1, x.2.2], nb, x)) (⟨hnz, hbz, M4 hm7 hXz hjm (by omega), KN hU7 (hXz.mono (fun _ h => .inr (.inr (JE h.symm))) hz3), La hR7 hXz, hxo, fun t e => Nt.upd ((fun t e => (hxn t e).upd hX7) t e) hXz⟩)) ⟨rfl, rfl, rfl, rfl, rfl, trivial⟩ rfl
      ·skip
       refine ax hRe T (by omega) (Ko _) rfl ?_
       intro nb w6 O6 hn6 hX6 hR6 hE6
       have hb6 := hbe.upd hX6 hj (by omega)
       have hm6 := hme.upd hX6 hjm (by omega)
       have hU6 := hUe.trans (hX6.mono (fun _ h => .inr (.inr (JE h.symm))) hz3)
       refine ka ?_
       refine af (⟨hb6.q0, hb6.q1, hb6.q2, hb6.q9⟩) ?_
       refine Ae 21 (by kernel_rfl) rfl ?_
       refine zc call158 (lH s.mc r2.tail B O6 (forget jm O6) w6 hR6 hR6.forget (hm6.known hjm hR6)) ?_
       rintro v w7 ⟨hE7, hP7⟩
       rw[hMd]at hP7
       obtain⟨x, rfl, hxo, hxn⟩ := hP7.shape
       have hX7:Jy (fun _ => False) O6 w6 O6 w7 := aa (fun h => h) O6 hE7
       have hn7 := hn6.upd hX7 (by omega) (fun h => h)
       have hb7 := hb6.upd hX7 hj (fun h => h)
       have hm7 := hm6.upd hX7 hjm (fun h => h)
       have hR7 := hR6.upd hX7
       have hU7 := hU6.trans (hX7.mono (fun _ h => h.elim) hz3)
       refine ka ?_
       refine zaf (⟨hb7.q0, hb7.q1, hb7.q2, hb7.q9⟩) fun zS => ?_
       refine zrm 22 rfl zS rfl ?_
       refine zr 23 rfl zS (fun _ => Kd rfl rfl) ?_
       refine zr 24 rfl zS (fun _ => Kd rfl rfl) ?_
       refine zr 25 rfl zS (fun _ => Kd rfl rfl) ?_
       refine Ae 27 (by kernel_rfl) rfl ?_
       refine zsb (us := #[nI x.1, nI x.2.1, x.2.2]) hn7 (Ke _) (cn hxo) ?_
       have hnz := KA (us := #[nI x.1, nI x.2.1, x.2.2]) hn7
       have hXz:Jy (fun q => q = T) O6 w7 O6 (Kp w7 nb #[nI x.1, nI x.2.1, x.2.2]) := Jq (by omega) (LK hn7) rfl
       have hbz := ln hb7 hXz hj (by omega)
       refine ka ?_
       refine zaf (⟨hbz.q0, hbz.q1, hbz.q2, hbz.q9⟩) fun zS => ?_
       refine zra 28 rfl zS rfl ?_
       refine zra 29 rfl zS rfl ?_
       refine Jn (by kernel_rfl) ?_
       exact eD (hN ((O6, Kp w7 nb #[nI x.1, nI x.2.1, x.2.2], nb, x)) (⟨hnz, hbz, M4 hm7 hXz hjm (by omega), KN hU7 (hXz.mono (fun _ h => .inr (.inr (JE h.symm))) hz3), La hR7 hXz, hxo, fun t e => Nt.upd (hxn t e) hXz⟩)) ⟨rfl, rfl, rfl, rfl, rfl, trivial⟩ rfl
     ·rintro⟨O8, w8, nb, x⟩ ⟨hn8, hb8, hm8, hU8, hR8, hxo, hxn⟩
      dsimp only at hn8 hb8 hm8 hU8 hR8 hxo hxn ⊢
      refine az ?_
      refine I4 ?_
      refine I4 ?_
      refine la ?_
      refine zv (ix rfl) ?_
      refine zv (LJ rfl rfl) ?_
      refine ka ?_
      refine az ?_
      cases M with
      |ok t =>
       rw[hMX]
       refine aS rfl rfl ?_
       have hnt := hxn t rfl
       obtain⟨ms, hrow, hkl2, hke⟩ := hm8
       have hrowD := LF hrow
       have hRD := LW hR8
       have hbD := Kk hb8
       have hnD := Kk hn8
       have hUD := LV hU8
       refine K7 ?_
       refine az ?_
       refine aI (fun V => ∀(q:Nat) (u:J9), (aY x)[q]? = some u → V.cell? (nA nb q) = some u) 13 rfl (by kernel_rfl) ?_
       refine zin hnD.cellsAdd fun zS => ?_
       refine zrm 0 rfl zS rfl ?_
       refine zrm 1 rfl zS rfl ?_
       refine zr 2 rfl zS (fun _ => aq rfl) ?_
       refine zrf 3 rfl zS rfl ?_
       refine zrm 5 rfl zS rfl ?_
       refine zt 6 rfl zS (fun w1 hw1 => ai (us := aY x) hw1 (Lt _) (Ke _) rfl) ?_
       refine zr 7 rfl zS (fun _ => Kl (vs := [(0, .string (bs nm)), (1, nv x)]) (cells := (lz (nm, x)).toArray) GP (LN _) rfl (by kernel_rfl)) ?_
       refine bV 4 8 (by kernel_rfl) rfl rfl ?_ ?_
       ·skip
        refine zv (RV.ld hbD.q9 rfl) ?_
        refine ka ?_
        refine af hnD.cellsAdd ?_
        refine Ae 8 (by kernel_rfl) rfl ?_
        refine aL elM (enc := lz) (nm, x) rfl rfl rfl (by decide) rfl ?_
        intro w9 h9 hE9
        have hX9:Jy (fun _ => False) O8 (KI w8) O8 w9 := aa (fun h => h) O8 hE9
        have hb9 := hbD.upd hX9 hj (fun h => h)
        have hn9 := hnD.upd hX9 (by omega) (fun h => h)
        have hrow9 := hrowD.upd hX9 hjm (fun h => h)
        have hR9 := hRD.upd hX9
        have hU9 := hUD.trans (hX9.mono (fun _ h => h.elim) hz3)
        refine ka ?_
        refine af hn9.cellsAdd ?_
        have hone9:∀u ∈ [((nm, x):M3)], ∀c ∈ lz u, c.oneCell' = true := fun u hu => by
         rw[J3.1 hu]; exact kT hxo
        refine Ae 9 (by kernel_rfl) rfl ?_
        refine aC elM hrow9 hR9 h9 (by simp) rfl rfl (fun _ _ => rfl) hone9 (by simp; omega) (by simp; omega) (by omega) rfl ?_
        intro lv10 w10 O10 hrow10 hX10 hR10
        have hb10 := ln hb9 hX10 hj (by omega)
        have hn10 := ln hn9 hX10 (by omega) (by omega)
        have hl10 := hrow10.one
        have hU10 := hU9.trans (hX10.mono (fun _ h => .inr (.inl h)) hz3)
        refine ka ?_
        refine zaf (hn10.cellsAdd) fun zS => ?_
        refine zr 10 rfl zS (fun _ => aq rfl) ?_
        refine zrf 11 rfl zS rfl ?_
        refine Ae 12 (by kernel_rfl) rfl ?_
        refine ak (j := 9) hb10 rfl (L4 _) hl10 rfl rfl rfl ?_
        have hX11:Jy (fun q => q = j) O10 w10 O10 (JF w10 ⟨rb, 9, none⟩ lv10) := Jr (fun e => hj e.symm) hb10.tag rfl
        have hb11:K0 O10 (JF w10 ⟨rb, 9, none⟩ lv10) j rb ({({s with pos := (m:Int) - (r2.length:Int)}:LS)with mc := lv10}:LS).cells 170 := hb10.set 9 lv10
        have hn11 := hn10.upd hX11 (by omega) (by omega)
        have hrow11 := hrow10.upd hX11 hjm (fun e => hne e.symm)
        have hU11 := hU10.trans (hX11.mono (fun _ h => .inl h) hz3)
        have hR11 := hR10.upd hX11
        refine ka ?_
        refine af (hn11.cellsAdd) ?_
        refine Jn (by kernel_rfl) ?_
        have hUz := L0 hU11 hT (S' := fun q => q = j ∨ q = jm) (fun b hb => by rcases hb with hb | hb | hb; exact KD hb; exact KC hb; have := hT b; omega) hz2
        exact aH rfl ⟨lowT O10 T, lv10, _, _, _, hUz, hR11.lowT T, hb11.lowT hjT, he, yN (hrow11.lowT hjmT) hkl2 (fun q hq => ⟨(hke q hq).1, (((((hke q hq).2.drew).upd hX9).upd hX10).upd hX11).weak (fun b hb => kG hb)⟩) (((((hnt.drew).upd hX9).upd hX10).upd hX11).weak (fun b hb => kG hb))⟩
       ·skip
        refine aL elM (enc := lz) (nm, x) rfl rfl rfl (by decide) rfl ?_
        intro w9 h9 hE9
        have hX9:Jy (fun _ => False) O8 (KI w8) O8 w9 := aa (fun h => h) O8 hE9
        have hb9 := hbD.upd hX9 hj (fun h => h)
        have hn9 := hnD.upd hX9 (by omega) (fun h => h)
        have hrow9 := hrowD.upd hX9 hjm (fun h => h)
        have hR9 := hRD.upd hX9
        have hU9 := hUD.trans (hX9.mono (fun _ h => h.elim) hz3)
        refine ka ?_
        refine af hn9.cellsAdd ?_
        refine Ae 4 (by kernel_rfl) rfl ?_
        refine zv (RV.ld hb9.q9 rfl) ?_
        refine ka ?_
        refine af hn9.cellsAdd ?_
        have hone9:∀u ∈ [((nm, x):M3)], ∀c ∈ lz u, c.oneCell' = true := fun u hu => by
         rw[J3.1 hu]; exact kT hxo
        refine Ae 9 (by kernel_rfl) rfl ?_
        refine aC elM hrow9 hR9 h9 (by simp) rfl rfl (fun _ _ => rfl) hone9 (by simp; omega) (by simp; omega) (by omega) rfl ?_
        intro lv10 w10 O10 hrow10 hX10 hR10
        have hb10 := ln hb9 hX10 hj (by omega)
        have hn10 := ln hn9 hX10 (by omega) (by omega)
        have hl10 := hrow10.one
        have hU10 := hU9.trans (hX10.mono (fun _ h => .inr (.inl h)) hz3)
        refine ka ?_
        refine zaf (hn10.cellsAdd) fun zS => ?_
        refine zr 10 rfl zS (fun _ => aq rfl) ?_
        refine zrf 11 rfl zS rfl ?_
        refine Ae 12 (by kernel_rfl) rfl ?_
        refine ak (j := 9) hb10 rfl (L4 _) hl10 rfl rfl rfl ?_
        have hX11:Jy (fun q => q = j) O10 w10 O10 (JF w10 ⟨rb, 9, none⟩ lv10) := Jr (fun e => hj e.symm) hb10.tag rfl
        have hb11:K0 O10 (JF w10 ⟨rb, 9, none⟩ lv10) j rb ({({s with pos := (m:Int) - (r2.length:Int)}:LS)with mc := lv10}:LS).cells 170 := hb10.set 9 lv10
        have hn11 := hn10.upd hX11 (by omega) (by omega)
        have hrow11 := hrow10.upd hX11 hjm (fun e => hne e.symm)
        have hU11 := hU10.trans (hX11.mono (fun _ h => .inl h) hz3)
        have hR11 := hR10.upd hX11
        refine ka ?_
        refine af (hn11.cellsAdd) ?_
        refine Jn (by kernel_rfl) ?_
        have hUz := L0 hU11 hT (S' := fun q => q = j ∨ q = jm) (fun b hb => by rcases hb with hb | hb | hb; exact KD hb; exact KC hb; have := hT b; omega) hz2
        exact aH rfl ⟨lowT O10 T, lv10, _, _, _, hUz, hR11.lowT T, hb11.lowT hjT, he, yN (hrow11.lowT hjmT) hkl2 (fun q hq => ⟨(hke q hq).1, (((((hke q hq).2.drew).upd hX9).upd hX10).upd hX11).weak (fun b hb => kG hb)⟩) (((((hnt.drew).upd hX9).upd hX10).upd hX11).weak (fun b hb => kG hb))⟩
      |bad p e =>
       have hne7 := (hgX p e rfl).1
       have hple := (hgX p e rfl).2
       rw[hMX]
       refine aZ rfl ((by simpa[IL]using hne7)) ?_
       have hb8d := hb8.drew
       have hn8d := hn8.drew
       have hm8d := hm8.upd (aa (S := fun _ => False) (fun h => h) O8 (Fu w8).drew) hjm (fun h => h)
       refine K1 12 rfl rfl (by kernel_rfl) (by kernel_rfl) ?_
       refine zw (ix rfl) ?_
       refine zw (aq rfl) ?_
       refine zw (RV.fa rfl) ?_
       refine zw (ix rfl) ?_
       refine zw (aq rfl) ?_
       refine zw (RV.fa rfl) ?_
       refine zw (RV.fa rfl) ?_
       refine zw (RV.ld hb8d.q1 rfl) ?_
       refine zw (JK rfl rfl (JC (by dsimp only; omega))) ?_
       refine zw (ix rfl) ?_
       refine zw (JK rfl rfl (JC (by dsimp only[atX]; omega))) ?_
       refine zw (ix rfl) ?_
       refine Kw ?_
       refine zc JW (bI O8 w8.drew j rb ({s with pos := (m:Int) - (r2.length:Int)}:LS) (((m:Int) - (r2.length:Int)) + 1 + (p:Int)) e hj he hb8d) ?_
       rintro u wf ⟨hbf, hUf⟩
       have hnf' := hn8d.upd hUf (by omega) (by omega)
       have hmf' := hm8d.upd hUf hjm (fun e => hne e.symm)
       have hRf' := hR8.drew.upd hUf
       have hUf' := (hU8.drew).trans (hUf.mono (S' := fun q => q = j ∨ q = jm ∨ T ≤ q) (fun _ h => .inl h) hz3)
       have hbf':K0 O8 wf j rb ({s with pos := (m:Int) - (r2.length:Int), bad := ((m:Int) - (r2.length:Int)) + 1 + (p:Int), e := e}:LS).cells 170 := hbf
       clear hbf
       obtain⟨ms, hrow, hkl2, hke⟩ := hmf'
       have hrowD := LF hrow
       have hRD := LW hRf'
       have hbD := Kk hbf'
       have hnD := Kk hnf'
       have hUD := LV hUf'
       refine ka ?_
       refine az ?_
       refine aI (fun V => ∀(q:Nat) (u:J9), (aY x)[q]? = some u → V.cell? (nA nb q) = some u) 13 rfl (by kernel_rfl) ?_
       refine zin hnD.cellsAdd fun zS => ?_
       refine zrm 0 rfl zS rfl ?_
       refine zrm 1 rfl zS rfl ?_
       refine zr 2 rfl zS (fun _ => aq rfl) ?_
       refine zrf 3 rfl zS rfl ?_
       refine zrm 5 rfl zS rfl ?_
       refine zt 6 rfl zS (fun w1 hw1 => ai (us := aY x) hw1 (Lt _) (Ke _) rfl) ?_
       refine zr 7 rfl zS (fun _ => Kl (vs := [(0, .string (bs nm)), (1, nv x)]) (cells := (lz (nm, x)).toArray) GP (LN _) rfl (by kernel_rfl)) ?_
       refine bV 4 8 (by kernel_rfl) rfl rfl ?_ ?_
       ·skip
        refine zv (RV.ld hbD.q9 rfl) ?_
        refine ka ?_
        refine af hnD.cellsAdd ?_
        refine Ae 8 (by kernel_rfl) rfl ?_
        refine aL elM (enc := lz) (nm, x) rfl rfl rfl (by decide) rfl ?_
        intro w9 h9 hE9
        have hX9:Jy (fun _ => False) O8 (KI wf) O8 w9 := aa (fun h => h) O8 hE9
        have hb9 := hbD.upd hX9 hj (fun h => h)
        have hn9 := hnD.upd hX9 (by omega) (fun h => h)
        have hrow9 := hrowD.upd hX9 hjm (fun h => h)
        have hR9 := hRD.upd hX9
        have hU9 := hUD.trans (hX9.mono (fun _ h => h.elim) hz3)
        refine ka ?_
        refine af hn9.cellsAdd ?_
        have hone9:∀u ∈ [((nm, x):M3)], ∀c ∈ lz u, c.oneCell' = true := fun u hu => by
         rw[J3.1 hu]; exact kT hxo
        refine Ae 9 (by kernel_rfl) rfl ?_
        refine aC elM hrow9 hR9 h9 (by simp) rfl rfl (fun _ _ => rfl) hone9 (by simp; omega) (by simp; omega) (by omega) rfl ?_
        intro lv10 w10 O10 hrow10 hX10 hR10
        have hb10 := ln hb9 hX10 hj (by omega)
        have hn10 := ln hn9 hX10 (by omega) (by omega)
        have hl10 := hrow10.one
        have hU10 := hU9.trans (hX10.mono (fun _ h => .inr (.inl h)) hz3)
        refine ka ?_
        refine zaf (hn10.cellsAdd) fun zS => ?_
        refine zr 10 rfl zS (fun _ => aq rfl) ?_
        refine zrf 11 rfl zS rfl ?_
        refine Ae 12 (by kernel_rfl) rfl ?_
        refine ak (j := 9) hb10 rfl (L4 _) hl10 rfl rfl rfl ?_
        have hX11:Jy (fun q => q = j) O10 w10 O10 (JF w10 ⟨rb, 9, none⟩ lv10) := Jr (fun e => hj e.symm) hb10.tag rfl
        have hb11:K0 O10 (JF w10 ⟨rb, 9, none⟩ lv10) j rb ({({s with pos := (m:Int) - (r2.length:Int), bad := ((m:Int) - (r2.length:Int)) + 1 + (p:Int), e := e}:LS)with mc := lv10}:LS).cells 170 := hb10.set 9 lv10
        have hn11 := hn10.upd hX11 (by omega) (by omega)
        have hrow11 := hrow10.upd hX11 hjm (fun e => hne e.symm)
        have hU11 := hU10.trans (hX11.mono (fun _ h => .inl h) hz3)
        have hR11 := hR10.upd hX11
        refine ka ?_
        refine af (hn11.cellsAdd) ?_
        refine Jn (by kernel_rfl) ?_
        have hUz := L0 hU11 hT (S' := fun q => q = j ∨ q = jm) (fun b hb => by rcases hb with hb | hb | hb; exact KD hb; exact KC hb; have := hT b; omega) hz2
        exact aH rfl ⟨lowT O10 T, lv10, _, _, _, hUz, hR11.lowT T, hb11.lowT hjT, rfl, hne7, by dsimp only; omega⟩
       ·skip
        refine aL elM (enc := lz) (nm, x) rfl rfl rfl (by decide) rfl ?_
        intro w9 h9 hE9
        have hX9:Jy (fun _ => False) O8 (KI wf) O8 w9 := aa (fun h => h) O8 hE9
        have hb9 := hbD.upd hX9 hj (fun h => h)
        have hn9 := hnD.upd hX9 (by omega) (fun h => h)
        have hrow9 := hrowD.upd hX9 hjm (fun h => h)
        have hR9 := hRD.upd hX9
        have hU9 := hUD.trans (hX9.mono (fun _ h => h.elim) hz3)
        refine ka ?_
        refine af hn9.cellsAdd ?_
        refine Ae 4 (by kernel_rfl) rfl ?_
        refine zv (RV.ld hb9.q9 rfl) ?_
        refine ka ?_
        refine af hn9.cellsAdd ?_
        have hone9:∀u ∈ [((nm, x):M3)], ∀c ∈ lz u, c.oneCell' = true := fun u hu => by
         rw[J3.1 hu]; exact kT hxo
        refine Ae 9 (by kernel_rfl) rfl ?_
        refine aC elM hrow9 hR9 h9 (by simp) rfl rfl (fun _ _ => rfl) hone9 (by simp; omega) (by simp; omega) (by omega) rfl ?_
        intro lv10 w10 O10 hrow10 hX10 hR10
        have hb10 := ln hb9 hX10 hj (by omega)
        have hn10 := ln hn9 hX10 (by omega) (by omega)
        have hl10 := hrow10.one
        have hU10 := hU9.trans (hX10.mono (fun _ h => .inr (.inl h)) hz3)
        refine ka ?_
        refine zaf (hn10.cellsAdd) fun zS => ?_
        refine zr 10 rfl zS (fun _ => aq rfl) ?_
        refine zrf 11 rfl zS rfl ?_
        refine Ae 12 (by kernel_rfl) rfl ?_
        refine ak (j := 9) hb10 rfl (L4 _) hl10 rfl rfl rfl ?_
        have hX11:Jy (fun q => q = j) O10 w10 O10 (JF w10 ⟨rb, 9, none⟩ lv10) := Jr (fun e => hj e.symm) hb10.tag rfl
        have hb11:K0 O10 (JF w10 ⟨rb, 9, none⟩ lv10) j rb ({({s with pos := (m:Int) - (r2.length:Int), bad := ((m:Int) - (r2.length:Int)) + 1 + (p:Int), e := e}:LS)with mc := lv10}:LS).cells 170 := hb10.set 9 lv10
        have hn11 := hn10.upd hX11 (by omega) (by omega)
        have hrow11 := hrow10.upd hX11 hjm (fun e => hne e.symm)
        have hU11 := hU10.trans (hX11.mono (fun _ h => .inl h) hz3)
        have hR11 := hR10.upd hX11
        refine ka ?_
        refine af (hn11.cellsAdd) ?_
        refine Jn (by kernel_rfl) ?_
        have hUz := L0 hU11 hT (S' := fun q => q = j ∨ q = jm) (fun b hb => by rcases hb with hb | hb | hb; exact KD hb; exact KC hb; have := hT b; omega) hz2
        exact aH rfl ⟨lowT O10 T, lv10, _, _, _, hUz, hR11.lowT T, hb11.lowT hjT, rfl, hne7, by dsimp only; omega⟩
    ·have hM:tQ kn r = .bad r2.length 4 := by rw[hMK, if_neg hc]
     rw[hM]
     refine aZ rfl ((xj _ 61 (by decide) hc)) ?_
     have hbe := hb5.drew
     refine I4 ?_
     refine K1 8 rfl rfl (by kernel_rfl) (by kernel_rfl) ?_
     refine zw (ix rfl) ?_
     refine zw (aq rfl) ?_
     refine zw (RV.fa rfl) ?_
     refine zw (ix rfl) ?_
     refine zw (aq rfl) ?_
     refine zw (RV.fa rfl) ?_
     refine zw (RV.fa rfl) ?_
     refine zw (RV.ld hbe.q1 rfl) ?_
     refine Kw ?_
     refine zc JW (bI O w5.drew j rb ({s with pos := (m:Int) - (r2.length:Int)}:LS) ((m:Int) - (r2.length:Int)) 4 hj he hbe) ?_
     rintro u w6 ⟨hb6, hU6⟩
     refine ka ?_
     refine az ?_
     refine L9 ?_
     refine bT ?_
     exact cA rfl ⟨O, s.mc, _, _, _, hpv ((hUt5.drew).trans (hU6.mono (fun _ h => .inl h) hz3)), hR5.drew.upd hU6, hb6, rfl, by decide, rfl⟩
  ·have hM:tQ kn r = .bad (aw r).length (fg kn ((aw r).takeWhile aj)) := by unfold tQ; rw[if_neg hnm, if_pos htk]
   rw[hM]
   refine aZ rfl ((by simpa using htk)) ?_
   refine I4 ?_
   refine la ?_
   refine zv (ix rfl) ?_
   refine zv (aq rfl) ?_
   refine zv (RV.fa rfl) ?_
   refine zv (ix rfl) ?_
   refine zv (ix rfl) ?_
   refine zc JW (bI O w3 j rb ({s with pos := (m:Int) - (((aw r).dropWhile aj).length:Int)}:LS) ((m:Int) - ((aw r).length:Int)) (fg kn ((aw r).takeWhile aj)) hj he hb3) ?_
   rintro u w4 ⟨hb4, hU4⟩
   refine ka ?_
   refine az ?_
   refine L9 ?_
   refine bT ?_
   exact cA rfl ⟨O, s.mc, _, _, _, hpv (hUt3.trans (hU4.mono (fun _ h => .inl h) hz3)), hR3.upd hU4, hb4, rfl, htk, rfl⟩
end
theorem I7:Elem JQ 22 3 1 8:=⟨J6,by kernel_rfl,zd⟩
inductive LM where
 |ok (l:List Int)
 |bad (p:Nat) (e:Int)
def gS:Nat->List Int->List UInt8->LM
 |0,acc,_=>.ok acc
 |n+1,acc,r=>
  if(aw r).length=0 then .ok acc
  else if(aw r).takeWhile aj=[]then .bad (aw r).length 4
  else match A7 ((aw r).takeWhile aj)with
   |none=>.bad (aw r).length 5
   |some c=>gS n (acc++[(c:Int)]) ((aw r).dropWhile aj)
def IG:LM->LM
 |.bad p e=>.bad p e
 |.ok []=>.bad 0 4
 |.ok (a::l)=>.ok (L3 (gT (a::l)))
def dt(r:List UInt8):LM:=IG (gS (r.length+1) [] r)
theorem sM{x:List UInt8}(h:x.takeWhile aj≠[]):(x.dropWhile aj).length<x.length:=by
 have:=congrArg Kh (List.takeWhile_append_dropWhile (p:=aj) (l:=x));rw[Js]at this;have:=List.length_pos_iff.2 h;omega
def Ii(m:Nat)(w':CR)(O':Nat->Nat)(ji:Nat)(lv:J9)(bad e:Int):LM->Prop
 |.ok l=>e=0/\K6 encI 3 1 O' w' ji lv l
 |.bad p e'=>e=e'/\e'≠0/\bad=(m:Int)-(p:Int)
theorem qh(O:Nat->Nat)(w:CR)(j rb:Nat)(s:LS)(hj:j≠0)(he:s.e=0)(a0:s.i=true)(h:L8 O w j rb s):
  KK JQ 132 [nP rb,.pointer (some ⟨rb,6,none⟩),.pointer (some ⟨rb,10,none⟩)] w fun _ w'=>L8 O w' j rb {s with bad:=s.bg,e:=11}/\Jy (fun k=>k=j) O w O w':=by
 have q0:=h.q10;rw[a0]at q0;have q3:=h.q3;have hd:=h.drew;have a3:Jy (fun k=>k=j) O w O w.drew:=(KZ (fun e=>hj e.symm) O w).drew;refine J5 Lu Lk rfl rfl ?_;refine zg ?_;refine zvG (RV.ld q0 rfl) ?_;refine zTG rfl rfl ?_;refine K1 8 rfl rfl zk zk ?_;refine zg ?_;refine zw (RV.ld q3 rfl) ?_;refine Kw ?_;refine zc JW (bI O w.drew j rb s s.bg 11 hj he hd) ?_;rintro u w1 ⟨a1,a2⟩;refine zg ?_;exact cA rfl ⟨a1,a3.trans a2⟩
theorem qg(O:Nat->Nat)(w:CR)(j rb:Nat)(s:LS)(hj:j≠0)(he:s.e=0)(a0:s.k=true)(h:L8 O w j rb s):
  KK JQ 132 [nP rb,.pointer (some ⟨rb,7,none⟩),.pointer (some ⟨rb,11,none⟩)] w fun _ w'=>L8 O w' j rb {s with bad:=s.bg,e:=11}/\Jy (fun k=>k=j) O w O w':=by
 have q0:=h.q11;rw[a0]at q0;have q3:=h.q3;have hd:=h.drew;have a3:Jy (fun k=>k=j) O w O w.drew:=(KZ (fun e=>hj e.symm) O w).drew;refine J5 Lu Lk rfl rfl ?_;refine zg ?_;refine zvG (RV.ld q0 rfl) ?_;refine zTG rfl rfl ?_;refine K1 8 rfl rfl zk zk ?_;refine zg ?_;refine zw (RV.ld q3 rfl) ?_;refine Kw ?_;refine zc JW (bI O w.drew j rb s s.bg 11 hj he hd) ?_;rintro u w1 ⟨a1,a2⟩;refine zg ?_;exact cA rfl ⟨a1,a3.trans a2⟩
theorem sL:∀(n:Nat) (a0:List Int) (r:List UInt8) (p:Nat) (e:Int),gS n a0 r=.bad p e->p<=r.length
 |0,_,_,_,_,h=>by cases h
 |n+1,a0,r,p,e,h=>by
  have hs:=dy r;unfold gS at h
  split at h
  ·cases h
  split at h
  ·cases h;exact hs
  split at h
  ·cases h;exact hs
  have h1:=sL n _ _ p e h;have h2:=(zR (l:=aw r) aj).length_le;omega
theorem ng{r:List UInt8}{p:Nat}{e:Int}(h:dt r=.bad p e):p<=r.length:=by
 unfold dt at h
 cases hw:gS (r.length+1) [] r with
 |bad q f=>rw[hw]at h;cases h;exact sL _ _ _ _ _ hw
 |ok l=>
  rw[hw]at h
  cases l with
  |nil=>cases h;exact vX _
  |cons a l=>cases h
theorem tN(B:Nat)(O:Nat->Nat)(w:CR)(j ji rb:Nat)(s:LS)(m:Nat)(r0:List UInt8)(hR:KV B O w)(hj:j≠0)(a8:ji≠0)(a9:j≠ji)(hm:m<=s.l.length)(hl:s.l.length<=100000)(d6:s.to=(m:Int))(he:s.e=0)(g1:s.i=false)(g2:s.ig=sG)
  (hr:r0 <:+ s.l.take m) (hp:s.pos=(m:Int)-(r0.length:Int)) (h:L8 O w j rb s) :
  KK JQ 132 [nP rb,.pointer (some ⟨rb,6,none⟩),.pointer (some ⟨rb,10,none⟩)] w fun _ w'=>∃O' lv pos bad e,Jy (fun k=>k=j\/k=ji) O w O' w'/\KV B O' w'/\L8 O' w' j rb {s with pos:=pos,bad:=bad,e:=e,ig:=lv,i:=true}/\Ii m w' O' ji lv bad e (dt r0):=by
 have a0:¬(fun q:Nat=>q=j\/q=ji) 0:=fun e=>by rcases e with e|e;exact hj e.symm;exact a8 e.symm
 have h1:r0.length<=m:=by have:=hr.length_le;simp at this;omega
 have q0:=h.q10;rw[g1]at q0;refine J5 Lu Lk rfl rfl ?_;refine zg ?_;refine zvG (RV.ld q0 rfl) ?_;refine zFG rfl rfl ?_;refine ak (j:=10) h rfl (JD _) rfl rfl rfl rfl ?_;have g4:L8 O (w.setCell ⟨rb,10,none⟩ (.bool true)) j rb {s with i:=true}:=LL h 10 _;have f6:Jy (fun k=>k=j) O w O (w.setCell ⟨rb,10,none⟩ (.bool true)):=Jr (fun e=>hj e.symm) h.tag rfl;have g7:=hR.upd f6;generalize w.setCell ⟨rb,10,none⟩ (.bool true)=w1 at *;obtain⟨M,d1⟩:∃M,M=gS (r0.length+1) [] r0:=⟨_,rfl⟩
 refine zg ?_;refine zlp (fun y:Nat×List Int×List UInt8×(Nat->Nat)×World×J9=>[(0,nP rb),(1,.pointer (some ⟨rb,6,none⟩))]) (fun y=>y.2.2.2.2.1) (fun y=>L8 y.2.2.2.1 y.2.2.2.2.1 j rb {s with pos:=(m:Int)-(y.2.2.1.length:Int),ig:=y.2.2.2.2.2,i:=true}/\K6 encI 3 1 y.2.2.2.1 y.2.2.2.2.1 ji y.2.2.2.2.2 y.2.1/\y.2.2.1 <:+ s.l.take m/\gS y.1 y.2.1 y.2.2.1=M/\y.2.2.1.length<y.1/\y.2.1.length+y.2.2.1.length<=r0.length/\Jy (fun k=>k=j\/k=ji) O w y.2.2.2.1 y.2.2.2.2.1/\KV B y.2.2.2.1 y.2.2.2.2.1) (fun y=>y.1) (r0.length+1,[],r0,O,w1,sG) (⟨by dsimp only;rw[<-hp,<-g2];exact g4,Kg _ _ _ _ _ _,hr,d1.symm,Ln _,by simp,f6.mono (fun _ h=>.inl h) a0,g7⟩) ?_
 rintro⟨n,d5,r,O1,w2,lv⟩ ⟨f4,b1,b2,a4,hn,g5,f5,f7⟩;dsimp only at f4 b1 b2 a4 hn g5 f5 f7 ⊢;obtain⟨n,rfl⟩:∃q,n=q+1:=⟨n-1,by omega⟩
 have g':=dy r;unfold gS at a4;refine zg ?_;refine zc KM (dX O1 w2 j rb ({s with pos:=(m:Int)-((r).length:Int),ig:=lv,i:=true}:LS) m r hj hm hl d6 b2 rfl f4) ?_;rintro v w3 ⟨rfl,b6,e6⟩;have a3:=b1.upd e6 a8 (fun e=>a9 e.symm);have f3:=f7.upd e6;have b9:=f5.trans (e6.mono (fun _ h=>.inl h) a0);refine zg ?_
 by_cases h0:(aw r).length=0
 ·rw[if_pos h0]at a4;refine aS rfl ((decide_eq_false zo)) ?_;have f9:=b6.q6;have d7:=a3.sl;refine zg ?_;refine zv (RV.ld f9 rfl) ?_;refine zvG (KL (by first|exact d7) J6 rfl) ?_
  rcases d5 with _|⟨a,d5⟩
  ·have hM:dt r0=.bad 0 4:=by unfold dt;rw[<-d1,<-a4];rfl
   rw[hM];refine aZ rfl rfl ?_;have d':=b6.q2;dsimp only at d';rw[d6]at d';have hb3d:=b6.drew;have hrow3d:=a3.drew;have hR3d:=f3.drew;have hUt3d:=b9.drew;refine K1 8 rfl rfl zk zk ?_;refine zg ?_;refine zw (RV.ld d' rfl) ?_;refine Kw ?_;refine zc JW (bI O1 w3.drew j rb ({s with pos:=(m:Int)-((aw r).length:Int),ig:=lv,i:=true}:LS) (m:Int) 4 hj he hb3d) ?_;rintro u w7 ⟨b',c5⟩;have a2:=hrow3d.upd c5 a8 (fun e=>a9 e.symm);have e9:=hR3d.upd c5;have e3:=hUt3d.trans (c5.mono (fun _ h=>.inl h) a0);have d9:=M1 b';refine zg ?_;refine zv (RV.ld d9 rfl) ?_;refine zc Lw (kh e9 a2 a8 zo) ?_;rintro u w8 ⟨a6,a',e8⟩;have b5:=ln b' a' hj a9;have d8:=b5.q6;refine zg ?_;refine zv (RV.ld d8 rfl) ?_;refine zc Lv (eW e8 a6 a8 (by rw[ei];omega)) ?_;rintro u w9 ⟨a1,c',e7⟩;have b4:=b5.upd c' hj a9;have a7:=a1.one;refine zg ?_;refine ak (j:=6) b4 rfl (KH _) a7 rfl rfl rfl ?_;have b7:=b4.set 6 u;have a5:Jy (fun k=>k=j) O1 w9 O1 (w9.setCell ⟨rb,6,none⟩ u):=Jr (fun e=>hj e.symm) b4.tag rfl;have e1:=((e3.trans (a'.mono (fun _ h=>.inr h) a0)).trans (c'.mono (fun _ h=>.inr h) a0)).trans (a5.mono (fun _ h=>.inl h) a0);refine zg ?_;exact aH rfl ⟨O1,u,_,(m:Int),4,e1,e7.upd a5,b7,⟨rfl,by decide,by simp⟩⟩
  have hM:dt r0=.ok (L3 (gT (a::d5))):=by unfold dt;rw[<-d1,<-a4];rfl
  rw[hM];refine aS rfl ((beq_eq_false_iff_ne.2 (by simp;omega))) ?_;have d9:=M1 b6;refine zg ?_;refine zv (RV.ld d9 rfl) ?_;refine zc Lw (kh f3 a3 a8 zo) ?_;rintro u w8 ⟨a6,a',e8⟩;have b5:=ln b6 a' hj a9;have d8:=b5.q6;refine zg ?_;refine zv (RV.ld d8 rfl) ?_;refine zc Lv (eW e8 a6 a8 (by rw[ei];omega)) ?_;rintro u w9 ⟨a1,c',e7⟩;have b4:=b5.upd c' hj a9;have a7:=a1.one;refine zg ?_;refine ak (j:=6) b4 rfl (KH _) a7 rfl rfl rfl ?_;have b7:=b4.set 6 u;have a5:Jy (fun k=>k=j) O1 w9 O1 (w9.setCell ⟨rb,6,none⟩ u):=Jr (fun e=>hj e.symm) b4.tag rfl;have e1:=((b9.trans (a'.mono (fun _ h=>.inr h) a0)).trans (c'.mono (fun _ h=>.inr h) a0)).trans (a5.mono (fun _ h=>.inl h) a0);refine zg ?_;exact aH rfl ⟨O1,u,_,_,_,e1,e7.upd a5,b7,⟨he,a1.upd a5 a8 (fun e=>a9 e.symm)⟩⟩
 rw[if_neg h0]at a4;refine aZ rfl ((decide_eq_true zo)) ?_;have f':=b6.q1;have b0:=(bn r).trans b2;refine zg ?_;refine zvG (RV.ld f' rfl) ?_;refine zc L7 (gV O1 w3 j rb ({s with pos:=(m:Int)-((aw r).length:Int),ig:=lv,i:=true}:LS) m (aw r) hj hm hl d6 b0 rfl b6) ?_;rintro v w4 ⟨rfl,g3,e5⟩;have c7:=a3.upd e5 a8 (fun e=>a9 e.symm);have g6:=f3.upd e5;have e4:=b9.trans (e5.mono (fun _ h=>.inl h) a0);refine zg ?_;refine zc LU (iW ((aw r).takeWhile aj) w4) ?_;rintro v w5 ⟨rfl,g8⟩;have d4:Jy (fun _=>False) O1 w4 O1 w5:=aa (fun h=>h) O1 g8;have d3:=g3.upd d4 hj (fun h=>h);have c6:=c7.upd d4 a8 (fun h=>h);have e':=g6.upd d4;have b8:=e4.trans (d4.mono (fun _ h=>h.elim) a0);refine zg ?_;refine zvG (cX rfl rfl) ?_
 by_cases c9:(aw r).takeWhile aj=[]
 ·rw[if_pos c9]at a4;have hM:dt r0=.bad (aw r).length 4:=by unfold dt;rw[<-d1,<-a4];rfl
  rw[hM];refine zTG rfl ((by simpa using c9)) ?_;refine zc JW (bI O1 w5 j rb ({s with pos:=(m:Int)-(((aw r).dropWhile aj).length:Int),ig:=lv,i:=true}:LS) ((m:Int)-((aw r).length:Int)) 4 hj he d3) ?_;rintro u w6 ⟨e0,d0⟩;refine zg ?_;exact cA rfl ⟨O1,lv,_,_,_,b8.trans (d0.mono (fun _ h=>.inl h) a0),e'.upd d0,e0,rfl,by decide,rfl⟩
 rw[if_neg c9]at a4;have g9:=sM c9;refine zFG rfl ((by simpa using c9)) ?_
 cases b3:A7 ((aw r).takeWhile aj)with
 |none=>
  rw[b3]at a4;have hM:dt r0=.bad (aw r).length 5:=by unfold dt;rw[<-d1,<-a4];rfl
  rw[hM];refine zTG rfl rfl ?_;refine zc JW (bI O1 w5 j rb ({s with pos:=(m:Int)-(((aw r).dropWhile aj).length:Int),ig:=lv,i:=true}:LS) ((m:Int)-((aw r).length:Int)) 5 hj he d3) ?_;rintro u w6 ⟨e0,d0⟩;refine zg ?_;exact cA rfl ⟨O1,lv,_,_,_,b8.trans (d0.mono (fun _ h=>.inl h) a0),e'.upd d0,e0,rfl,by decide,rfl⟩
 |some c=>
  rw[b3]at a4;dsimp only at a4;have g0:D5 ((aw r).takeWhile aj)=(c:Int):=by unfold D5;rw[b3]
  rw[g0];refine aS rfl rfl ?_;have f8:=d3.q6;refine zg ?_;refine zvG (RV.ld f8 rfl) ?_;refine Ll I7 c6 e' ((c:Int)) (fun _=>rfl) rfl rfl rfl (by simp[JB,encI]) zo zo zo zd rfl rfl ?_;intro d2 w7 O7 a2 c5 e9;have c8:=a2.one;have b':=d3.upd c5 hj a9;refine zg ?_;refine ak (j:=6) b' rfl (KH _) c8 rfl rfl rfl ?_;have b5:=b'.set 6 d2;have a':Jy (fun k=>k=j) O7 w7 O7 (w7.setCell ⟨rb,6,none⟩ d2):=Jr (fun e=>hj e.symm) b'.tag rfl;have e2:=(b8.trans (c5.mono (fun _ h=>.inr h) a0)).trans (a'.mono (fun _ h=>.inl h) a0);refine zg ?_;refine zxd (n,d5++[(c:Int)],(aw r).dropWhile aj,O7,(w7.setCell ⟨rb,6,none⟩ d2),d2) (⟨b5,a2.upd a' a8 (fun e=>a9 e.symm),(zR _).trans b0,a4,by dsimp only;omega,by simp;omega,e2,e9.upd a'⟩)
theorem tM(B:Nat)(O:Nat->Nat)(w:CR)(j ji rb:Nat)(s:LS)(m:Nat)(r0:List UInt8)(hR:KV B O w)(hj:j≠0)(a8:ji≠0)(a9:j≠ji)(hm:m<=s.l.length)(hl:s.l.length<=100000)(d6:s.to=(m:Int))(he:s.e=0)(g1:s.k=false)(g2:s.kp=sG)
  (hr:r0 <:+ s.l.take m) (hp:s.pos=(m:Int)-(r0.length:Int)) (h:L8 O w j rb s) :
  KK JQ 132 [nP rb,.pointer (some ⟨rb,7,none⟩),.pointer (some ⟨rb,11,none⟩)] w fun _ w'=>∃O' lv pos bad e,Jy (fun k=>k=j\/k=ji) O w O' w'/\KV B O' w'/\L8 O' w' j rb {s with pos:=pos,bad:=bad,e:=e,kp:=lv,k:=true}/\Ii m w' O' ji lv bad e (dt r0):=by
 have a0:¬(fun q:Nat=>q=j\/q=ji) 0:=fun e=>by rcases e with e|e;exact hj e.symm;exact a8 e.symm
 have h1:r0.length<=m:=by have:=hr.length_le;simp at this;omega
 have q0:=h.q11;rw[g1]at q0;refine J5 Lu Lk rfl rfl ?_;refine zg ?_;refine zvG (RV.ld q0 rfl) ?_;refine zFG rfl rfl ?_;refine ak (j:=11) h rfl (JD _) rfl rfl rfl rfl ?_;have g4:L8 O (w.setCell ⟨rb,11,none⟩ (.bool true)) j rb {s with k:=true}:=LL h 11 _;have f6:Jy (fun k=>k=j) O w O (w.setCell ⟨rb,11,none⟩ (.bool true)):=Jr (fun e=>hj e.symm) h.tag rfl;have g7:=hR.upd f6;generalize w.setCell ⟨rb,11,none⟩ (.bool true)=w1 at *;obtain⟨M,d1⟩:∃M,M=gS (r0.length+1) [] r0:=⟨_,rfl⟩
 refine zg ?_;refine zlp (fun y:Nat×List Int×List UInt8×(Nat->Nat)×World×J9=>[(0,nP rb),(1,.pointer (some ⟨rb,7,none⟩))]) (fun y=>y.2.2.2.2.1) (fun y=>L8 y.2.2.2.1 y.2.2.2.2.1 j rb {s with pos:=(m:Int)-(y.2.2.1.length:Int),kp:=y.2.2.2.2.2,k:=true}/\K6 encI 3 1 y.2.2.2.1 y.2.2.2.2.1 ji y.2.2.2.2.2 y.2.1/\y.2.2.1 <:+ s.l.take m/\gS y.1 y.2.1 y.2.2.1=M/\y.2.2.1.length<y.1/\y.2.1.length+y.2.2.1.length<=r0.length/\Jy (fun k=>k=j\/k=ji) O w y.2.2.2.1 y.2.2.2.2.1/\KV B y.2.2.2.1 y.2.2.2.2.1) (fun y=>y.1) (r0.length+1,[],r0,O,w1,sG) (⟨by dsimp only;rw[<-hp,<-g2];exact g4,Kg _ _ _ _ _ _,hr,d1.symm,Ln _,by simp,f6.mono (fun _ h=>.inl h) a0,g7⟩) ?_
 rintro⟨n,d5,r,O1,w2,lv⟩ ⟨f4,b1,b2,a4,hn,g5,f5,f7⟩;dsimp only at f4 b1 b2 a4 hn g5 f5 f7 ⊢;obtain⟨n,rfl⟩:∃q,n=q+1:=⟨n-1,by omega⟩
 have g':=dy r;unfold gS at a4;refine zg ?_;refine zc KM (dX O1 w2 j rb ({s with pos:=(m:Int)-((r).length:Int),kp:=lv,k:=true}:LS) m r hj hm hl d6 b2 rfl f4) ?_;rintro v w3 ⟨rfl,b6,e6⟩;have a3:=b1.upd e6 a8 (fun e=>a9 e.symm);have f3:=f7.upd e6;have b9:=f5.trans (e6.mono (fun _ h=>.inl h) a0);refine zg ?_
 by_cases h0:(aw r).length=0
 ·rw[if_pos h0]at a4;refine aS rfl ((decide_eq_false zo)) ?_;have f9:=b6.q7;have d7:=a3.sl;refine zg ?_;refine zv (RV.ld f9 rfl) ?_;refine zvG (KL (by first|exact d7) J6 rfl) ?_
  rcases d5 with _|⟨a,d5⟩
  ·have hM:dt r0=.bad 0 4:=by unfold dt;rw[<-d1,<-a4];rfl
   rw[hM];refine aZ rfl rfl ?_;have d':=b6.q2;dsimp only at d';rw[d6]at d';have hb3d:=b6.drew;have hrow3d:=a3.drew;have hR3d:=f3.drew;have hUt3d:=b9.drew;refine K1 8 rfl rfl zk zk ?_;refine zg ?_;refine zw (RV.ld d' rfl) ?_;refine Kw ?_;refine zc JW (bI O1 w3.drew j rb ({s with pos:=(m:Int)-((aw r).length:Int),kp:=lv,k:=true}:LS) (m:Int) 4 hj he hb3d) ?_;rintro u w7 ⟨b',c5⟩;have a2:=hrow3d.upd c5 a8 (fun e=>a9 e.symm);have e9:=hR3d.upd c5;have e3:=hUt3d.trans (c5.mono (fun _ h=>.inl h) a0);have d9:=M0 b';refine zg ?_;refine zv (RV.ld d9 rfl) ?_;refine zc Lw (kh e9 a2 a8 zo) ?_;rintro u w8 ⟨a6,a',e8⟩;have b5:=ln b' a' hj a9;have d8:=b5.q7;refine zg ?_;refine zv (RV.ld d8 rfl) ?_;refine zc Lv (eW e8 a6 a8 (by rw[ei];omega)) ?_;rintro u w9 ⟨a1,c',e7⟩;have b4:=b5.upd c' hj a9;have a7:=a1.one;refine zg ?_;refine ak (j:=7) b4 rfl (KH _) a7 rfl rfl rfl ?_;have b7:=b4.set 7 u;have a5:Jy (fun k=>k=j) O1 w9 O1 (w9.setCell ⟨rb,7,none⟩ u):=Jr (fun e=>hj e.symm) b4.tag rfl;have e1:=((e3.trans (a'.mono (fun _ h=>.inr h) a0)).trans (c'.mono (fun _ h=>.inr h) a0)).trans (a5.mono (fun _ h=>.inl h) a0);refine zg ?_;exact aH rfl ⟨O1,u,_,(m:Int),4,e1,e7.upd a5,b7,⟨rfl,by decide,by simp⟩⟩
  have hM:dt r0=.ok (L3 (gT (a::d5))):=by unfold dt;rw[<-d1,<-a4];rfl
  rw[hM];refine aS rfl ((beq_eq_false_iff_ne.2 (by simp;omega))) ?_;have d9:=M0 b6;refine zg ?_;refine zv (RV.ld d9 rfl) ?_;refine zc Lw (kh f3 a3 a8 zo) ?_;rintro u w8 ⟨a6,a',e8⟩;have b5:=ln b6 a' hj a9;have d8:=b5.q7;refine zg ?_;refine zv (RV.ld d8 rfl) ?_;refine zc Lv (eW e8 a6 a8 (by rw[ei];omega)) ?_;rintro u w9 ⟨a1,c',e7⟩;have b4:=b5.upd c' hj a9;have a7:=a1.one;refine zg ?_;refine ak (j:=7) b4 rfl (KH _) a7 rfl rfl rfl ?_;have b7:=b4.set 7 u;have a5:Jy (fun k=>k=j) O1 w9 O1 (w9.setCell ⟨rb,7,none⟩ u):=Jr (fun e=>hj e.symm) b4.tag rfl;have e1:=((b9.trans (a'.mono (fun _ h=>.inr h) a0)).trans (c'.mono (fun _ h=>.inr h) a0)).trans (a5.mono (fun _ h=>.inl h) a0);refine zg ?_;exact aH rfl ⟨O1,u,_,_,_,e1,e7.upd a5,b7,⟨he,a1.upd a5 a8 (fun e=>a9 e.symm)⟩⟩
 rw[if_neg h0]at a4;refine aZ rfl ((decide_eq_true zo)) ?_;have f':=b6.q1;have b0:=(bn r).trans b2;refine zg ?_;refine zvG (RV.ld f' rfl) ?_;refine zc L7 (gV O1 w3 j rb ({s with pos:=(m:Int)-((aw r).length:Int),kp:=lv,k:=true}:LS) m (aw r) hj hm hl d6 b0 rfl b6) ?_;rintro v w4 ⟨rfl,g3,e5⟩;have c7:=a3.upd e5 a8 (fun e=>a9 e.symm);have g6:=f3.upd e5;have e4:=b9.trans (e5.mono (fun _ h=>.inl h) a0);refine zg ?_;refine zc LU (iW ((aw r).takeWhile aj) w4) ?_;rintro v w5 ⟨rfl,g8⟩;have d4:Jy (fun _=>False) O1 w4 O1 w5:=aa (fun h=>h) O1 g8;have d3:=g3.upd d4 hj (fun h=>h);have c6:=c7.upd d4 a8 (fun h=>h);have e':=g6.upd d4;have b8:=e4.trans (d4.mono (fun _ h=>h.elim) a0);refine zg ?_;refine zvG (cX rfl rfl) ?_
 by_cases c9:(aw r).takeWhile aj=[]
 ·rw[if_pos c9]at a4;have hM:dt r0=.bad (aw r).length 4:=by unfold dt;rw[<-d1,<-a4];rfl
  rw[hM];refine zTG rfl ((by simpa using c9)) ?_;refine zc JW (bI O1 w5 j rb ({s with pos:=(m:Int)-(((aw r).dropWhile aj).length:Int),kp:=lv,k:=true}:LS) ((m:Int)-((aw r).length:Int)) 4 hj he d3) ?_;rintro u w6 ⟨e0,d0⟩;refine zg ?_;exact cA rfl ⟨O1,lv,_,_,_,b8.trans (d0.mono (fun _ h=>.inl h) a0),e'.upd d0,e0,rfl,by decide,rfl⟩
 rw[if_neg c9]at a4;have g9:=sM c9;refine zFG rfl ((by simpa using c9)) ?_
 cases b3:A7 ((aw r).takeWhile aj)with
 |none=>
  rw[b3]at a4;have hM:dt r0=.bad (aw r).length 5:=by unfold dt;rw[<-d1,<-a4];rfl
  rw[hM];refine zTG rfl rfl ?_;refine zc JW (bI O1 w5 j rb ({s with pos:=(m:Int)-(((aw r).dropWhile aj).length:Int),kp:=lv,k:=true}:LS) ((m:Int)-((aw r).length:Int)) 5 hj he d3) ?_;rintro u w6 ⟨e0,d0⟩;refine zg ?_;exact cA rfl ⟨O1,lv,_,_,_,b8.trans (d0.mono (fun _ h=>.inl h) a0),e'.upd d0,e0,rfl,by decide,rfl⟩
 |some c=>
  rw[b3]at a4;dsimp only at a4;have g0:D5 ((aw r).takeWhile aj)=(c:Int):=by unfold D5;rw[b3]
  rw[g0];refine aS rfl rfl ?_;have f8:=d3.q7;refine zg ?_;refine zvG (RV.ld f8 rfl) ?_;refine Ll I7 c6 e' ((c:Int)) (fun _=>rfl) rfl rfl rfl (by simp[JB,encI]) zo zo zo zd rfl rfl ?_;intro d2 w7 O7 a2 c5 e9;have c8:=a2.one;have b':=d3.upd c5 hj a9;refine zg ?_;refine ak (j:=7) b' rfl (KH _) c8 rfl rfl rfl ?_;have b5:=b'.set 7 d2;have a':Jy (fun k=>k=j) O7 w7 O7 (w7.setCell ⟨rb,7,none⟩ d2):=Jr (fun e=>hj e.symm) b'.tag rfl;have e2:=(b8.trans (c5.mono (fun _ h=>.inr h) a0)).trans (a'.mono (fun _ h=>.inl h) a0);refine zg ?_;refine zxd (n,d5++[(c:Int)],(aw r).dropWhile aj,O7,(w7.setCell ⟨rb,7,none⟩ d2),d2) (⟨b5,a2.upd a' a8 (fun e=>a9 e.symm),(zR _).trans b0,a4,by dsimp only;omega,by simp;omega,e2,e9.upd a'⟩)
structure St where
 ts:List R3
 li:List Int
 lk:List Int
 hi:Bool
 hk:Bool
inductive RS where
 |go (s:St)
 |bad (p:Nat) (e:Int)
 |other
def IT(st:St)(d:Nat):LM->RS
 |.ok l=>.go {st with li:=l,hi:=true}
 |.bad p e=>.bad (d-p) e
def IS(st:St)(d:Nat):LM->RS
 |.ok l=>.go {st with lk:=l,hk:=true}
 |.bad p e=>.bad (d-p) e
def IR(st:St)(d:Nat):LR->RS
 |.ok t=>.go {st with ts:=st.ts++[t]}
 |.bad p e=>.bad (d+p) e
structure Mem(O:Nat->Nat)(w:CR)(jr ji jk:Nat)(s:LS)(st:St):Prop where
 ru:∃xs,K6 cj 85 7 O w jr s.ru xs/\st.ts.length=xs.length/\xs.length<=40/\∀i,i<xs.length->Rt O w (nth st.ts i) (nth xs i)
 ig:K6 encI 3 1 O w ji s.ig st.li
 kp:K6 encI 3 1 O w jk s.kp st.lk
 fi:s.i=st.hi
 fk:s.k=st.hk
 ni:st.hi=false->s.ig=sG
 nk:st.hk=false->s.kp=sG
theorem Mem.upd{S:Nat->Prop}{O O':Nat->Nat}{w w':CR}{jr ji jk:Nat}{s:LS}{st:St}(h:Mem O w jr ji jk s st)(u:Jy S O w O' w')(h1:jr≠0)(h2:ji≠0)(h3:jk≠0)(g1:¬S jr)(g2:¬S ji)(g3:¬S jk):Mem O' w' jr ji jk s st:=by
 obtain⟨⟨xs,a1,a2,a3,a4⟩,b,c,d,e,f,g⟩:=h;exact⟨⟨xs,a1.upd u h1 g1,a2,a3,fun i hi=>(a4 i hi).upd u⟩,b.upd u h2 g2,c.upd u h3 g3,d,e,f,g⟩
theorem Mem.with{O:Nat->Nat}{w:CR}{jr ji jk:Nat}{s s':LS}{st:St}(h:Mem O w jr ji jk s st)(e1:s'.ru=s.ru)(e2:s'.ig=s.ig)(e3:s'.kp=s.kp)(e4:s'.i=s.i)(e5:s'.k=s.k):Mem O w jr ji jk s' st:=by
 obtain⟨a,b,c,d,e,f,g⟩:=h;exact⟨by rw[e1];exact a,by rw[e2];exact b,by rw[e3];exact c,by rw[e4];exact d,by rw[e5];exact e,by rw[e2];exact f,by rw[e3];exact g⟩
section
variable{kn:Kn}
inductive RK where
 |go (kn:Kn) (st:St)
 |bad (p:Nat) (e:Int)
def pz(kn:Kn):RS->RK
 |.go st=>.go kn st
 |.bad p e=>.bad p e
 |.other=>.bad 0 0
def Ip(kn:Kn)(st:St)(d:Nat):ML->RK
 |.ok x=>.go (kn++[x]) st
 |.bad p e=>.bad (d-p) e
def cU(kn:Kn)(st:St)(seg:List UInt8):RK:=
 if(bp seg).length=0 then .go kn st
 else if((bp seg).takeWhile aj==[108,101,116])=true then Ip kn st (bC seg).length (tQ kn ((bp seg).dropWhile aj))
 else if((bp seg).takeWhile aj==[105,103,110,111,114,101])=true then
  (if st.hi=true then .bad ((bC seg).length-(bp seg).length) 11 else pz kn (IT st (bC seg).length (dt ((bp seg).dropWhile aj))))
 else if((bp seg).takeWhile aj==[107,101,101,112])=true then
  (if st.hk=true then .bad ((bC seg).length-(bp seg).length) 11 else pz kn (IS st (bC seg).length (dt ((bp seg).dropWhile aj))))
 else pz kn (IR st ((bC seg).length-(bp seg).length) (if st.ts.length=40 then Le 0 3 else jl kn (bp seg)))
def Ih(B:Nat)(O:Nat->Nat)(w w':CR)(j jr ji jk jm rb:Nat)(s:LS)(fr:Nat)(M:RK):Prop:=
 ∃O' s',Jy (fun k=>k=j\/k=jr\/k=ji\/k=jk\/k=jm) O w O' w'/\KV B O' w'/\L8 O' w' j rb s'/\s'.l=s.l/\
  match M with
  |.go kn' st'=>s'.e=0/\Mem O' w' jr ji jk s' st'/\Mac O' w' jm s'.mc kn'
  |.bad p e=>e≠0/\s'.e=e/\s'.bad=(fr:Int)+(p:Int)
theorem Bn{r:List UInt8}{p:Nat}{e:Int}(h:tQ kn r=.bad p e):p<=r.length:=by
 have h1:=dy r;have h2:=(zR (l:=aw r) aj).length_le;have h3:=dy ((aw r).dropWhile aj);unfold tQ at h
 split at h
 ·cases h;omega
 split at h
 ·cases h;omega
 split at h
 ·cases hx:fz kn (aw ((aw r).dropWhile aj)).tail with
  |ok t=>rw[hx]at h;cases h
  |bad q f=>rw[hx]at h;cases h;omega
 cases h;omega
theorem tt(B:Nat)(O:Nat->Nat)(w:CR)(j jr ji jk jm rb:Nat)(s:LS)(fr to:Nat)(seg:List UInt8)(st:St)(hR:KV B O w)(hj:j≠0)(b7:jr≠0)(b9:ji≠0)(b8:jk≠0)(d0:j≠jr)(c':j≠ji)(c9:j≠jk)(h5:jr≠ji)(h4:jr≠jk)(h3:ji≠jk)(b3:jm≠0)(c6:j≠jm)(g3:jr≠jm)(g':ji≠jm)(e7:jk≠jm)(g5:kn.length<=100000)(j0:fr<=to)(i9:to<=s.l.length)(d4:s.l.length<=100000)(he:s.e=0) 
  (f9:(s.l.take to).drop fr=seg) (h':Mem O w jr ji jk s st) (i1:Mac O w jm s.mc kn) (h:L8 O w j rb s) :
  KK JQ 92 [nP rb,nI fr,nI to] w fun _ w'=>Ih B O w w' j jr ji jk jm rb s fr (cU kn st seg):=by
 have b':¬(fun q:Nat=>q=j\/q=jr\/q=ji\/q=jk\/q=jm) 0:=fun e=>by rcases e with e|e|e|e|e;exact hj e.symm;exact b7 e.symm;exact b9 e.symm;exact b8 e.symm;exact b3 e.symm
 have h7:¬(fun q:Nat=>q=j) 0:=fun e=>hj e.symm
 have i':seg.length=to-fr:=by rw[<-f9];simp;omega
 have j8:(bp seg).length<=(bC seg).length:=dy _;have j9:(bC seg).length<=seg.length:=(JS (l:=seg) _).length_le;obtain⟨m,i0⟩:∃m,m=fr+(bC seg).length:=⟨_,rfl⟩
 have d3:m<=s.l.length:=zo;have g7:(s.l.take m).drop fr=bC seg:=by
  have h1:bC seg=seg.take (bC seg).length:=List.prefix_iff_eq_take.1 (JS _);have h2:(seg.take (bC seg).length)=(s.l.take m).drop fr:=by
   conv=>lhs;arg 2;rw[<-f9]
   rw[List.take_drop,List.take_take,Nat.min_eq_left zo,i0]
  rw[<-h2,<-h1]
 have d5:bC seg <:+ s.l.take m:=by rw[<-g7];exact List.drop_suffix _ _
 have b1:bp seg <:+ s.l.take m:=(bn _).trans d5;have f6:(fr:Int)=(m:Int)-((bC seg).length:Int):=zo;have g6:(m:Int)-((aw (bC seg)).length:Int)=((m-(bp seg).length:Nat):Int):=by
  have:(aw (bC seg)).length=(bp seg).length:=rfl;omega
 refine J5 func92 ntmps92 rfl rfl ?_;refine zh ?_
 refine ak (j:=1) h rfl (Jw _) rfl rfl rfl rfl ?_;have i4:=h.s_pos (fr:Int);have j4:Jy (fun k=>k=j) O w O (w.setCell ⟨rb,1,none⟩ (nI (fr:Int))):=Jr h7 h.tag rfl;refine zh ?_
 refine ak (j:=2) i4 rfl (Jw _) rfl rfl rfl rfl ?_;have g8:=i4.s_to (to:Int);have j3:Jy (fun k=>k=j) O (w.setCell ⟨rb,1,none⟩ (nI (fr:Int))) O ((w.setCell ⟨rb,1,none⟩ (nI (fr:Int))).setCell ⟨rb,2,none⟩ (nI (to:Int))):=Jr h7 i4.tag rfl;have e6:=j4.trans j3;have f7:=h'.upd e6 b7 b9 b8 (fun e=>d0 e.symm) (fun e=>c' e.symm) (fun e=>c9 e.symm);have f8:=i1.upd e6 b3 (fun e=>c6 e.symm);have i8:=hR.upd e6;generalize (w.setCell ⟨rb,1,none⟩ (nI (fr:Int))).setCell ⟨rb,2,none⟩ (nI (to:Int))=w2 at *;refine zh ?_
 refine zvH (RV.ld g8.q0 rfl) ?_;refine zv (dc JG rfl rfl rfl fr to rfl rfl j0 i9) ?_
 rw[show({s with pos:=(fr:Int),to:=(to:Int)}:LS).l=s.l from rfl,f9];refine zc call91 (dK seg 35 w2) ?_;rintro v w9 ⟨rfl,i7⟩;rw[i7];clear i7 w9
 cases hf:seg.findIdx? (· == 35)with
 |none=>
  have hi:sH seg 35 = -1:=by unfold sH;rw[hf]
  have i2:=zY hf;rw[hi];obtain rfl:m=to:=by rw[i0,i2,i'];omega
  refine zh ?_;refine aS rfl rfl ?_
  have d':=f7;have e2:=f8;have i6:=i8;have g1:=e6.mono (S':=fun k=>k=j\/k=jr\/k=ji\/k=jk\/k=jm) (fun _ h=>.inl h) b';refine zh ?_;refine zc KM (dX O w2 j rb ({s with pos:=(fr:Int),to:=(m:Int)}:LS) m (bC seg) hj d3 d4 rfl d5 f6 g8) ?_;rintro v w4 ⟨rfl,e4,f4⟩;have c7:=d'.upd f4 b7 b9 b8 (fun e=>d0 e.symm) (fun e=>c' e.symm) (fun e=>c9 e.symm);have c8:=e2.upd f4 b3 (fun e=>c6 e.symm);have g9:=i6.upd f4;have e5:=g1.trans (f4.mono (fun _ h=>.inl h) b');refine zh ?_
  by_cases h0:(bp seg).length=0
  ·have hM:cU kn st seg=.go kn st:=by unfold cU;rw[if_pos h0]
   rw[hM];refine zTH rfl ((by have d2:(aw (bC seg)).length=0:=h0;simp[d2])) ?_;exact cA rfl ⟨O,_,e5,g9,e4,rfl,he,c7.with rfl rfl rfl rfl rfl,c8⟩
  have d2:(aw (bC seg)).length=(bp seg).length:=rfl;refine zFH rfl ((by rw[d2,decide_eq_true zo];rfl)) ?_;refine zvH (RV.ld e4.q1 rfl) ?_;refine ak (j:=3) e4 rfl (Jw _) rfl rfl rfl rfl ?_;have i3:=e4.s_bg ((m:Int)-((aw (bC seg)).length:Int));have f3:Jy (fun k=>k=j) O w4 O (w4.setCell ⟨rb,3,none⟩ (nI ((m:Int)-((aw (bC seg)).length:Int)))):=Jr (fun e=>hj e.symm) e4.tag rfl;have d9:=c7.upd f3 b7 b9 b8 (fun e=>d0 e.symm) (fun e=>c' e.symm) (fun e=>c9 e.symm);have e1:=c8.upd f3 b3 (fun e=>c6 e.symm);have i5:=g9.upd f3;have g0:=e5.trans (f3.mono (fun _ h=>.inl h) b');generalize w4.setCell ⟨rb,3,none⟩ (nI ((m:Int)-((aw (bC seg)).length:Int)))=w5 at *;refine zh ?_;refine zc L7 (gV O w5 j rb ({s with pos:=((m:Int)-((aw (bC seg)).length:Int)),to:=(m:Int),bg:=((m:Int)-((aw (bC seg)).length:Int))}:LS) m (bp seg) hj d3 d4 rfl b1 rfl i3) ?_;rintro v w6 ⟨rfl,e8,e9⟩;have a8:=d9.upd e9 b7 b9 b8 (fun e=>d0 e.symm) (fun e=>c' e.symm) (fun e=>c9 e.symm);have a9:=e1.upd e9 b3 (fun e=>c6 e.symm);have f5:=i5.upd e9;have c5:=g0.trans (e9.mono (fun _ h=>.inl h) b');have j1:=(zR (l:=bp seg) aj).length_le;refine zh ?_;refine zvH (cX rfl rfl) ?_
  cases d1:((bp seg).takeWhile aj==[108,101,116])with
  |true=>
   have hM:cU kn st seg=Ip kn st (bC seg).length (tQ kn ((bp seg).dropWhile aj)):=by unfold cU;rw[if_neg h0,if_pos d1]
   rw[hM];refine zTH rfl rfl ?_;refine zc call131 (Bm B O w6 j jm rb ({s with pos:=(m:Int)-(((bp seg).dropWhile aj).length:Int),to:=(m:Int),bg:=((m:Int)-((aw (bC seg)).length:Int))}:LS) m ((bp seg).dropWhile aj) f5 hj b3 c6 d3 d4 rfl he ((zR _).trans b1) rfl g5 a9 e8) ?_;rintro u w7 ⟨O7,v7,pos,bad,e,a0,b6,b0,a6⟩;have a5:=c5.trans (a0.mono (S':=fun k=>k=j\/k=jr\/k=ji\/k=jk\/k=jm) (fun _ h=>by rcases h with h|h;exact .inl h;exact .inr (.inr (.inr (.inr h)))) b');have d8:=a8.upd a0 b7 b9 b8 (fun h=>by rcases h with h|h;exact d0 h.symm;exact g3 h) (fun h=>by rcases h with h|h;exact c' h.symm;exact g' h) (fun h=>by rcases h with h|h;exact c9 h.symm;exact e7 h);refine zh ?_
   cases hq:tQ kn ((bp seg).dropWhile aj)with
   |ok x=>
    rw[hq]at a6;obtain⟨b5,e0⟩:=a6;exact aH rfl ⟨O7,_,a5,b6,b0,rfl,b5,d8.with rfl rfl rfl rfl rfl,e0⟩
   |bad p e'=>
    rw[hq]at a6;obtain⟨b5,b2,a'⟩:=a6;have d7:=Bn hq;exact aH rfl ⟨O7,_,a5,b6,b0,rfl,b2,b5,by dsimp only;rw[a'];omega⟩
  |false=>
  refine zFH rfl rfl ?_;refine zvH (cX rfl rfl) ?_
  cases e3:((bp seg).takeWhile aj==[105,103,110,111,114,101])with
  |true=>
   refine aZ rfl rfl ?_;have hb6d:=e8.drew;have hmem6d:=a8.upd (aa (S:=fun _=>False) (fun h=>h) O (Fu w6).drew) b7 b9 b8 (fun h=>h) (fun h=>h) (fun h=>h);have hmac6d:=a9.upd (aa (S:=fun _=>False) (fun h=>h) O (Fu w6).drew) b3 (fun h=>h);have hR6d:=f5.drew;have hUt6d:=c5.drew;refine K1 8 rfl rfl zk zk ?_
   refine zh ?_;refine Kw ?_
   cases b4:st.hi with
   |true=>
    have hM:cU kn st seg=.bad ((bC seg).length-(bp seg).length) 11:=by unfold cU;rw[if_neg h0,if_neg (by rw[d1];decide),if_pos e3,if_pos b4]
    rw[hM];refine zc Ku (qh O w6.drew j rb ({s with pos:=(m:Int)-(((bp seg).dropWhile aj).length:Int),to:=(m:Int),bg:=((m:Int)-((aw (bC seg)).length:Int))}:LS) hj he (hmem6d.fi.trans b4) hb6d) ?_;rintro u w7 ⟨b0,a0⟩;refine zh ?_;exact aH rfl ⟨O,_,hUt6d.trans (a0.mono (fun _ h=>.inl h) b'),hR6d.upd a0,b0,rfl,zd,rfl,by dsimp only;rw[d2];omega⟩
   |false=>
    have hM:cU kn st seg=pz kn (IT st (bC seg).length (dt ((bp seg).dropWhile aj))):=by unfold cU;rw[if_neg h0,if_neg (by rw[d1];decide),if_pos e3,if_neg (by rw[b4];decide)]
    rw[hM];refine zc Ku (tN B O w6.drew j ji rb ({s with pos:=(m:Int)-(((bp seg).dropWhile aj).length:Int),to:=(m:Int),bg:=((m:Int)-((aw (bC seg)).length:Int))}:LS) m ((bp seg).dropWhile aj) hR6d hj b9 c' d3 d4 rfl he (hmem6d.fi.trans b4) (hmem6d.ni b4) ((zR _).trans b1) rfl hb6d) ?_;rintro u w7 ⟨O7,lv,pos,bad,e,a0,b6,b0,a6⟩;have a5:=hUt6d.trans (a0.mono (S':=fun k=>k=j\/k=jr\/k=ji\/k=jk\/k=jm) (fun _ h=>by rcases h with h|h;exact .inl h;exact .inr (.inr (.inl h))) b');refine zh ?_
    cases hq:dt ((bp seg).dropWhile aj)with
    |ok l=>
     rw[hq]at a6;obtain⟨b5,a7⟩:=a6;obtain⟨⟨xs,a1,a2,a3,a4⟩,mb,mc,md,me,mf,mg⟩:=hmem6d;exact aH rfl ⟨O7,_,a5,b6,b0,rfl,b5,⟨⟨xs,a1.upd a0 b7 (fun h=>by rcases h with h|h;exact d0 h.symm;exact h5 h),a2,a3,fun i hi=>(a4 i hi).upd a0⟩,a7,mc.upd a0 b8 (fun h=>by rcases h with h|h;exact c9 h.symm;exact h3 h.symm),rfl,me,(fun h=>by cases h),mg⟩,hmac6d.upd a0 b3 (fun h=>by rcases h with h|h;exact c6 h.symm;exact g' h.symm)⟩
    |bad p e'=>
     rw[hq]at a6;obtain⟨b5,b2,a'⟩:=a6;have d7:=ng hq;exact aH rfl ⟨O7,_,a5,b6,b0,rfl,b2,b5,by dsimp only;rw[a'];omega⟩
  |false=>
   refine zFH rfl rfl ?_;refine zvH (cX rfl rfl) ?_
   cases f':((bp seg).takeWhile aj==[107,101,101,112])with
   |true=>
    refine aZ rfl rfl ?_;have hb6d:=e8.drew;have hmem6d:=a8.upd (aa (S:=fun _=>False) (fun h=>h) O (Fu w6).drew) b7 b9 b8 (fun h=>h) (fun h=>h) (fun h=>h);have hmac6d:=a9.upd (aa (S:=fun _=>False) (fun h=>h) O (Fu w6).drew) b3 (fun h=>h);have hR6d:=f5.drew;have hUt6d:=c5.drew;refine K1 8 rfl rfl zk zk ?_
    refine zh ?_;refine Kw ?_
    cases b4:st.hk with
    |true=>
     have hM:cU kn st seg=.bad ((bC seg).length-(bp seg).length) 11:=by unfold cU;rw[if_neg h0,if_neg (by rw[d1];decide),if_neg (by rw[e3];decide),if_pos f',if_pos b4]
     rw[hM];refine zc Ku (qg O w6.drew j rb ({s with pos:=(m:Int)-(((bp seg).dropWhile aj).length:Int),to:=(m:Int),bg:=((m:Int)-((aw (bC seg)).length:Int))}:LS) hj he (hmem6d.fk.trans b4) hb6d) ?_;rintro u w7 ⟨b0,a0⟩;refine zh ?_;exact aH rfl ⟨O,_,hUt6d.trans (a0.mono (fun _ h=>.inl h) b'),hR6d.upd a0,b0,rfl,zd,rfl,by dsimp only;rw[d2];omega⟩
    |false=>
     have hM:cU kn st seg=pz kn (IS st (bC seg).length (dt ((bp seg).dropWhile aj))):=by unfold cU;rw[if_neg h0,if_neg (by rw[d1];decide),if_neg (by rw[e3];decide),if_pos f',if_neg (by rw[b4];decide)]
     rw[hM];refine zc Ku (tM B O w6.drew j jk rb ({s with pos:=(m:Int)-(((bp seg).dropWhile aj).length:Int),to:=(m:Int),bg:=((m:Int)-((aw (bC seg)).length:Int))}:LS) m ((bp seg).dropWhile aj) hR6d hj b8 c9 d3 d4 rfl he (hmem6d.fk.trans b4) (hmem6d.nk b4) ((zR _).trans b1) rfl hb6d) ?_;rintro u w7 ⟨O7,lv,pos,bad,e,a0,b6,b0,a6⟩;have a5:=hUt6d.trans (a0.mono (S':=fun k=>k=j\/k=jr\/k=ji\/k=jk\/k=jm) (fun _ h=>by rcases h with h|h;exact .inl h;exact .inr (.inr (.inr (.inl h)))) b');refine zh ?_
     cases hq:dt ((bp seg).dropWhile aj)with
     |ok l=>
      rw[hq]at a6;obtain⟨b5,a7⟩:=a6;obtain⟨⟨xs,a1,a2,a3,a4⟩,mb,mc,md,me,mf,mg⟩:=hmem6d;exact aH rfl ⟨O7,_,a5,b6,b0,rfl,b5,⟨⟨xs,a1.upd a0 b7 (fun h=>by rcases h with h|h;exact d0 h.symm;exact h4 h),a2,a3,fun i hi=>(a4 i hi).upd a0⟩,mb.upd a0 b9 (fun h=>by rcases h with h|h;exact c' h.symm;exact h3 h),a7,md,rfl,mf,(fun h=>by cases h)⟩,hmac6d.upd a0 b3 (fun h=>by rcases h with h|h;exact c6 h.symm;exact e7 h.symm)⟩
     |bad p e'=>
      rw[hq]at a6;obtain⟨b5,b2,a'⟩:=a6;have d7:=ng hq;exact aH rfl ⟨O7,_,a5,b6,b0,rfl,b2,b5,by dsimp only;rw[a'];omega⟩
   |false=>
    have hM:cU kn st seg=pz kn (IR st ((bC seg).length-(bp seg).length) (if st.ts.length=40 then Le 0 3 else jl kn (bp seg))):=by unfold cU;rw[if_neg h0,if_neg (by rw[d1];decide),if_neg (by rw[e3];decide),if_neg (by rw[f'];decide)]
    refine aS rfl rfl ?_;obtain⟨xs,d6,g4,h9,h8⟩:=a8.ru;refine zh ?_
    refine zc call133 (tk B O w6 j jr rb ({s with pos:=(m:Int)-(((bp seg).dropWhile aj).length:Int),to:=(m:Int),bg:=((m:Int)-((aw (bC seg)).length:Int))}:LS) m (bp seg) xs f5 hj b7 d0 d3 d4 rfl g6 he b3 c6 g3 a9 b1 d6 h9 e8) ?_;rintro v w7 ⟨O7,rv,a0,b6,a6⟩;have a5:=c5.trans (a0.mono (S':=fun k=>k=j\/k=jr\/k=ji\/k=jk\/k=jm) (fun _ h=>by rcases h with h|h;exact .inl h;exact .inr (.inl h)) b');refine zh ?_
    rw[hM,g4]
    cases hq:(if xs.length=40 then Le 0 3 else jl kn (bp seg))with
    |ok t=>
     rw[hq]at a6;obtain⟨x,a7,g2,b0⟩:=a6;have j5:xs.length≠40:=fun e=>by rw[if_pos e]at hq;cases hq
     obtain⟨_,mb,mc,md,me,mf,mg⟩:=a8;obtain⟨q1,q2,q3,q4⟩:=LA (ts:=st.ts) a7 g4 zo (fun i hi=>(h8 i hi).upd a0) g2;exact aH rfl ⟨O7,_,a5,b6,b0,rfl,he,⟨⟨xs++[x],q1,q2,q3,q4⟩,mb.upd a0 b9 (fun h=>by rcases h with h|h;exact c' h.symm;exact h5 h.symm),mc.upd a0 b8 (fun h=>by rcases h with h|h;exact c9 h.symm;exact h4 h.symm),md,me,mf,mg⟩,a9.upd a0 b3 (fun h=>by rcases h with h|h;exact c6 h.symm;exact g3 h.symm)⟩
    |bad p e=>
     rw[hq]at a6;obtain⟨b2,b0⟩:=a6;exact aH rfl ⟨O7,_,a5,b6,b0,rfl,b2,rfl,by dsimp only;rw[d2];omega⟩
 |some k=>
  have hi:sH seg 35=(k:Nat):=by unfold sH;rw[hf]
  obtain⟨i2,j7⟩:=zX hf;rw[hi];have j6:m=fr+k:=by rw[i0,i2];simp;omega
  refine zh ?_;refine zTH rfl ((decide_eq_true zo)) ?_
  refine ak (j:=2) g8 rfl (Jw _) rfl rfl rfl rfl ?_;rw[show(fr:Int)+((k:Nat):Int)=(m:Int)from by omega];have j2:=g8.s_to (m:Int);have h6:Jy (fun k=>k=j) O w2 O (w2.setCell ⟨rb,2,none⟩ (nI (m:Int))):=Jr h7 g8.tag rfl;have d':=f7.upd h6 b7 b9 b8 (fun e=>d0 e.symm) (fun e=>c' e.symm) (fun e=>c9 e.symm);have e2:=f8.upd h6 b3 (fun e=>c6 e.symm);have i6:=i8.upd h6;have g1:=(e6.trans h6).mono (S':=fun k=>k=j\/k=jr\/k=ji\/k=jk\/k=jm) (fun _ h=>.inl h) b';generalize w2.setCell ⟨rb,2,none⟩ (nI (m:Int))=w3 at *;refine zh ?_
  refine zc KM (dX O w3 j rb ({s with pos:=(fr:Int),to:=(m:Int)}:LS) m (bC seg) hj d3 d4 rfl d5 f6 j2) ?_;rintro v w4 ⟨rfl,e4,f4⟩;have c7:=d'.upd f4 b7 b9 b8 (fun e=>d0 e.symm) (fun e=>c' e.symm) (fun e=>c9 e.symm);have c8:=e2.upd f4 b3 (fun e=>c6 e.symm);have g9:=i6.upd f4;have e5:=g1.trans (f4.mono (fun _ h=>.inl h) b');refine zh ?_
  by_cases h0:(bp seg).length=0
  ·have hM:cU kn st seg=.go kn st:=by unfold cU;rw[if_pos h0]
   rw[hM];refine zTH rfl ((by have d2:(aw (bC seg)).length=0:=h0;simp[d2])) ?_;exact cA rfl ⟨O,_,e5,g9,e4,rfl,he,c7.with rfl rfl rfl rfl rfl,c8⟩
  have d2:(aw (bC seg)).length=(bp seg).length:=rfl;refine zFH rfl ((by rw[d2,decide_eq_true zo];rfl)) ?_;refine zvH (RV.ld e4.q1 rfl) ?_;refine ak (j:=3) e4 rfl (Jw _) rfl rfl rfl rfl ?_;have i3:=e4.s_bg ((m:Int)-((aw (bC seg)).length:Int));have f3:Jy (fun k=>k=j) O w4 O (w4.setCell ⟨rb,3,none⟩ (nI ((m:Int)-((aw (bC seg)).length:Int)))):=Jr (fun e=>hj e.symm) e4.tag rfl;have d9:=c7.upd f3 b7 b9 b8 (fun e=>d0 e.symm) (fun e=>c' e.symm) (fun e=>c9 e.symm);have e1:=c8.upd f3 b3 (fun e=>c6 e.symm);have i5:=g9.upd f3;have g0:=e5.trans (f3.mono (fun _ h=>.inl h) b');generalize w4.setCell ⟨rb,3,none⟩ (nI ((m:Int)-((aw (bC seg)).length:Int)))=w5 at *;refine zh ?_;refine zc L7 (gV O w5 j rb ({s with pos:=((m:Int)-((aw (bC seg)).length:Int)),to:=(m:Int),bg:=((m:Int)-((aw (bC seg)).length:Int))}:LS) m (bp seg) hj d3 d4 rfl b1 rfl i3) ?_;rintro v w6 ⟨rfl,e8,e9⟩;have a8:=d9.upd e9 b7 b9 b8 (fun e=>d0 e.symm) (fun e=>c' e.symm) (fun e=>c9 e.symm);have a9:=e1.upd e9 b3 (fun e=>c6 e.symm);have f5:=i5.upd e9;have c5:=g0.trans (e9.mono (fun _ h=>.inl h) b');have j1:=(zR (l:=bp seg) aj).length_le;refine zh ?_;refine zvH (cX rfl rfl) ?_
  cases d1:((bp seg).takeWhile aj==[108,101,116])with
  |true=>
   have hM:cU kn st seg=Ip kn st (bC seg).length (tQ kn ((bp seg).dropWhile aj)):=by unfold cU;rw[if_neg h0,if_pos d1]
   rw[hM];refine zTH rfl rfl ?_;refine zc call131 (Bm B O w6 j jm rb ({s with pos:=(m:Int)-(((bp seg).dropWhile aj).length:Int),to:=(m:Int),bg:=((m:Int)-((aw (bC seg)).length:Int))}:LS) m ((bp seg).dropWhile aj) f5 hj b3 c6 d3 d4 rfl he ((zR _).trans b1) rfl g5 a9 e8) ?_;rintro u w7 ⟨O7,v7,pos,bad,e,a0,b6,b0,a6⟩;have a5:=c5.trans (a0.mono (S':=fun k=>k=j\/k=jr\/k=ji\/k=jk\/k=jm) (fun _ h=>by rcases h with h|h;exact .inl h;exact .inr (.inr (.inr (.inr h)))) b');have d8:=a8.upd a0 b7 b9 b8 (fun h=>by rcases h with h|h;exact d0 h.symm;exact g3 h) (fun h=>by rcases h with h|h;exact c' h.symm;exact g' h) (fun h=>by rcases h with h|h;exact c9 h.symm;exact e7 h);refine zh ?_
   cases hq:tQ kn ((bp seg).dropWhile aj)with
   |ok x=>
    rw[hq]at a6;obtain⟨b5,e0⟩:=a6;exact aH rfl ⟨O7,_,a5,b6,b0,rfl,b5,d8.with rfl rfl rfl rfl rfl,e0⟩
   |bad p e'=>
    rw[hq]at a6;obtain⟨b5,b2,a'⟩:=a6;have d7:=Bn hq;exact aH rfl ⟨O7,_,a5,b6,b0,rfl,b2,b5,by dsimp only;rw[a'];omega⟩
  |false=>
  refine zFH rfl rfl ?_;refine zvH (cX rfl rfl) ?_
  cases e3:((bp seg).takeWhile aj==[105,103,110,111,114,101])with
  |true=>
   refine aZ rfl rfl ?_;have hb6d:=e8.drew;have hmem6d:=a8.upd (aa (S:=fun _=>False) (fun h=>h) O (Fu w6).drew) b7 b9 b8 (fun h=>h) (fun h=>h) (fun h=>h);have hmac6d:=a9.upd (aa (S:=fun _=>False) (fun h=>h) O (Fu w6).drew) b3 (fun h=>h);have hR6d:=f5.drew;have hUt6d:=c5.drew;refine K1 8 rfl rfl zk zk ?_
   refine zh ?_;refine Kw ?_
   cases b4:st.hi with
   |true=>
    have hM:cU kn st seg=.bad ((bC seg).length-(bp seg).length) 11:=by unfold cU;rw[if_neg h0,if_neg (by rw[d1];decide),if_pos e3,if_pos b4]
    rw[hM];refine zc Ku (qh O w6.drew j rb ({s with pos:=(m:Int)-(((bp seg).dropWhile aj).length:Int),to:=(m:Int),bg:=((m:Int)-((aw (bC seg)).length:Int))}:LS) hj he (hmem6d.fi.trans b4) hb6d) ?_;rintro u w7 ⟨b0,a0⟩;refine zh ?_;exact aH rfl ⟨O,_,hUt6d.trans (a0.mono (fun _ h=>.inl h) b'),hR6d.upd a0,b0,rfl,zd,rfl,by dsimp only;rw[d2];omega⟩
   |false=>
    have hM:cU kn st seg=pz kn (IT st (bC seg).length (dt ((bp seg).dropWhile aj))):=by unfold cU;rw[if_neg h0,if_neg (by rw[d1];decide),if_pos e3,if_neg (by rw[b4];decide)]
    rw[hM];refine zc Ku (tN B O w6.drew j ji rb ({s with pos:=(m:Int)-(((bp seg).dropWhile aj).length:Int),to:=(m:Int),bg:=((m:Int)-((aw (bC seg)).length:Int))}:LS) m ((bp seg).dropWhile aj) hR6d hj b9 c' d3 d4 rfl he (hmem6d.fi.trans b4) (hmem6d.ni b4) ((zR _).trans b1) rfl hb6d) ?_;rintro u w7 ⟨O7,lv,pos,bad,e,a0,b6,b0,a6⟩;have a5:=hUt6d.trans (a0.mono (S':=fun k=>k=j\/k=jr\/k=ji\/k=jk\/k=jm) (fun _ h=>by rcases h with h|h;exact .inl h;exact .inr (.inr (.inl h))) b');refine zh ?_
    cases hq:dt ((bp seg).dropWhile aj)with
    |ok l=>
     rw[hq]at a6;obtain⟨b5,a7⟩:=a6;obtain⟨⟨xs,a1,a2,a3,a4⟩,mb,mc,md,me,mf,mg⟩:=hmem6d;exact aH rfl ⟨O7,_,a5,b6,b0,rfl,b5,⟨⟨xs,a1.upd a0 b7 (fun h=>by rcases h with h|h;exact d0 h.symm;exact h5 h),a2,a3,fun i hi=>(a4 i hi).upd a0⟩,a7,mc.upd a0 b8 (fun h=>by rcases h with h|h;exact c9 h.symm;exact h3 h.symm),rfl,me,(fun h=>by cases h),mg⟩,hmac6d.upd a0 b3 (fun h=>by rcases h with h|h;exact c6 h.symm;exact g' h.symm)⟩
    |bad p e'=>
     rw[hq]at a6;obtain⟨b5,b2,a'⟩:=a6;have d7:=ng hq;exact aH rfl ⟨O7,_,a5,b6,b0,rfl,b2,b5,by dsimp only;rw[a'];omega⟩
  |false=>
   refine zFH rfl rfl ?_;refine zvH (cX rfl rfl) ?_
   cases f':((bp seg).takeWhile aj==[107,101,101,112])with
   |true=>
    refine aZ rfl rfl ?_;have hb6d:=e8.drew;have hmem6d:=a8.upd (aa (S:=fun _=>False) (fun h=>h) O (Fu w6).drew) b7 b9 b8 (fun h=>h) (fun h=>h) (fun h=>h);have hmac6d:=a9.upd (aa (S:=fun _=>False) (fun h=>h) O (Fu w6).drew) b3 (fun h=>h);have hR6d:=f5.drew;have hUt6d:=c5.drew;refine K1 8 rfl rfl zk zk ?_
    refine zh ?_;refine Kw ?_
    cases b4:st.hk with
    |true=>
     have hM:cU kn st seg=.bad ((bC seg).length-(bp seg).length) 11:=by unfold cU;rw[if_neg h0,if_neg (by rw[d1];decide),if_neg (by rw[e3];decide),if_pos f',if_pos b4]
     rw[hM];refine zc Ku (qg O w6.drew j rb ({s with pos:=(m:Int)-(((bp seg).dropWhile aj).length:Int),to:=(m:Int),bg:=((m:Int)-((aw (bC seg)).length:Int))}:LS) hj he (hmem6d.fk.trans b4) hb6d) ?_;rintro u w7 ⟨b0,a0⟩;refine zh ?_;exact aH rfl ⟨O,_,hUt6d.trans (a0.mono (fun _ h=>.inl h) b'),hR6d.upd a0,b0,rfl,zd,rfl,by dsimp only;rw[d2];omega⟩
    |false=>
     have hM:cU kn st seg=pz kn (IS st (bC seg).length (dt ((bp seg).dropWhile aj))):=by unfold cU;rw[if_neg h0,if_neg (by rw[d1];decide),if_neg (by rw[e3];decide),if_pos f',if_neg (by rw[b4];decide)]
     rw[hM];refine zc Ku (tM B O w6.drew j jk rb ({s with pos:=(m:Int)-(((bp seg).dropWhile aj).length:Int),to:=(m:Int),bg:=((m:Int)-((aw (bC seg)).length:Int))}:LS) m ((bp seg).dropWhile aj) hR6d hj b8 c9 d3 d4 rfl he (hmem6d.fk.trans b4) (hmem6d.nk b4) ((zR _).trans b1) rfl hb6d) ?_;rintro u w7 ⟨O7,lv,pos,bad,e,a0,b6,b0,a6⟩;have a5:=hUt6d.trans (a0.mono (S':=fun k=>k=j\/k=jr\/k=ji\/k=jk\/k=jm) (fun _ h=>by rcases h with h|h;exact .inl h;exact .inr (.inr (.inr (.inl h)))) b');refine zh ?_
     cases hq:dt ((bp seg).dropWhile aj)with
     |ok l=>
      rw[hq]at a6;obtain⟨b5,a7⟩:=a6;obtain⟨⟨xs,a1,a2,a3,a4⟩,mb,mc,md,me,mf,mg⟩:=hmem6d;exact aH rfl ⟨O7,_,a5,b6,b0,rfl,b5,⟨⟨xs,a1.upd a0 b7 (fun h=>by rcases h with h|h;exact d0 h.symm;exact h4 h),a2,a3,fun i hi=>(a4 i hi).upd a0⟩,mb.upd a0 b9 (fun h=>by rcases h with h|h;exact c' h.symm;exact h3 h),a7,md,rfl,mf,(fun h=>by cases h)⟩,hmac6d.upd a0 b3 (fun h=>by rcases h with h|h;exact c6 h.symm;exact e7 h.symm)⟩
     |bad p e'=>
      rw[hq]at a6;obtain⟨b5,b2,a'⟩:=a6;have d7:=ng hq;exact aH rfl ⟨O7,_,a5,b6,b0,rfl,b2,b5,by dsimp only;rw[a'];omega⟩
   |false=>
    have hM:cU kn st seg=pz kn (IR st ((bC seg).length-(bp seg).length) (if st.ts.length=40 then Le 0 3 else jl kn (bp seg))):=by unfold cU;rw[if_neg h0,if_neg (by rw[d1];decide),if_neg (by rw[e3];decide),if_neg (by rw[f'];decide)]
    refine aS rfl rfl ?_;obtain⟨xs,d6,g4,h9,h8⟩:=a8.ru;refine zh ?_
    refine zc call133 (tk B O w6 j jr rb ({s with pos:=(m:Int)-(((bp seg).dropWhile aj).length:Int),to:=(m:Int),bg:=((m:Int)-((aw (bC seg)).length:Int))}:LS) m (bp seg) xs f5 hj b7 d0 d3 d4 rfl g6 he b3 c6 g3 a9 b1 d6 h9 e8) ?_;rintro v w7 ⟨O7,rv,a0,b6,a6⟩;have a5:=c5.trans (a0.mono (S':=fun k=>k=j\/k=jr\/k=ji\/k=jk\/k=jm) (fun _ h=>by rcases h with h|h;exact .inl h;exact .inr (.inl h)) b');refine zh ?_
    rw[hM,g4]
    cases hq:(if xs.length=40 then Le 0 3 else jl kn (bp seg))with
    |ok t=>
     rw[hq]at a6;obtain⟨x,a7,g2,b0⟩:=a6;have j5:xs.length≠40:=fun e=>by rw[if_pos e]at hq;cases hq
     obtain⟨_,mb,mc,md,me,mf,mg⟩:=a8;obtain⟨q1,q2,q3,q4⟩:=LA (ts:=st.ts) a7 g4 zo (fun i hi=>(h8 i hi).upd a0) g2;exact aH rfl ⟨O7,_,a5,b6,b0,rfl,he,⟨⟨xs++[x],q1,q2,q3,q4⟩,mb.upd a0 b9 (fun h=>by rcases h with h|h;exact c' h.symm;exact h5 h.symm),mc.upd a0 b8 (fun h=>by rcases h with h|h;exact c9 h.symm;exact h4 h.symm),md,me,mf,mg⟩,a9.upd a0 b3 (fun h=>by rcases h with h|h;exact c6 h.symm;exact g3 h.symm)⟩
    |bad p e=>
     rw[hq]at a6;obtain⟨b2,b0⟩:=a6;exact aH rfl ⟨O7,_,a5,b6,b0,rfl,b2,rfl,by dsimp only;rw[d2];omega⟩
end
inductive TK where
 |ok (st:St)
 |bad (p:Nat) (e:Int)
def qi:Nat->Kn->St->Nat->List UInt8->TK
 |0,_,_,_,_=>.bad 0 3
 |n+1,kn,st,fr,r=>
  match cU kn st (eu r)with
  |.bad p e=>.bad (fr+p) e
  |.go kn' st'=>if(eu r).length=r.length then .ok st' else qi n kn' st' (fr+(eu r).length+1) (r.drop ((eu r).length+1))
def st0:St:=⟨[],[],[],false,false⟩
def kD(l:List UInt8):TK:=if 4096<l.length then .bad 0 3 else qi (l.length+1) [] st0 0 l
theorem A0{kn a0:Kn}{st a1:St}{seg:List UInt8}(h:cU kn st seg=.go a0 a1):a0.length<=kn.length+1:=by
 have hl:∀ {R:RS},pz kn R=.go a0 a1->a0.length<=kn.length+1:=fun {R} h=>by
  cases R with
  |go s=>cases h;omega
  |bad p e=>cases h
  |other=>cases h
 unfold cU at h
 split at h
 ·cases h;omega
 split at h
 ·unfold Ip at h
  split at h
  ·cases h;simp
  cases h
 split at h
 ·split at h
  ·cases h
  exact hl h
 split at h
 ·split at h
  ·cases h
  exact hl h
 exact hl h
def LoopK(l:List UInt8)(M:TK)(O:Nat->Nat)(w:CR)(jr ji jk jm:Nat)(n fr:Nat)(kn:Kn)(st:St)(s:LS):Prop:=
 (fr<=l.length/\s.e=0/\l.length-fr<n/\qi n kn st fr (l.drop fr)=M/\Mem O w jr ji jk s st/\Mac O w jm s.mc kn/\kn.length<=fr)\/(fr=l.length+1/\s.e=0/\M=.ok st/\Mem O w jr ji jk s st)\/
 (∃p e,e≠0/\s.e=e/\s.bad=((p:Nat):Int)/\M=.bad p e)
theorem LoopK.next{l:List UInt8}{M:TK}{B j jr ji jk jm rb n fr:Nat}{O:Nat->Nat}{w w':CR}{kn:Kn}{st:St}{s:LS}(a3:fr<=l.length)(hn:l.length-fr<n+1)(hM:qi (n+1) kn st fr (l.drop fr)=M)(a2:kn.length<=fr) 
  (hP:Ih B O w w' j jr ji jk jm rb s fr (cU kn st (eu (l.drop fr)))) :
  ∃O' s' n' kn' st',Jy (fun k=>k=j\/k=jr\/k=ji\/k=jk\/k=jm) O w O' w'/\KV B O' w'/\L8 O' w' j rb s'/\s'.l=s.l/\n'<n+1/\LoopK l M O' w' jr ji jk jm n' (fr+(eu (l.drop fr)).length+1) kn' st' s':=by
 obtain⟨O',s',hU,hR,hb,e1,hq⟩:=hP;have a0:(eu (l.drop fr)).length<=l.length-fr:=by
  have:=(JS (l:=l.drop fr) (fun b=>!(b==10))).length_le;simpa[eu]using this
 have a4:(l.drop fr).length=l.length-fr:=by simp
 unfold qi at hM;refine⟨O',s',?_⟩
 cases hr:cU kn st (eu (l.drop fr))with
 |bad p e=>
  rw[hr]at hq hM;obtain⟨q1,q2,q3⟩:=hq;exact⟨0,kn,st,hU,hR,hb,e1,zo,.inr (.inr ⟨fr+p,e,q1,q2,by rw[q3];simp,hM.symm⟩)⟩
 |go kn' st'=>
  have a1:=A0 hr;rw[hr]at hq hM;dsimp only at hM;obtain⟨q1,q2,q3⟩:=hq
  split at hM
  ·rename_i he;exact⟨0,kn',st',hU,hR,hb,e1,zo,.inr (.inl ⟨zo,q1,hM.symm,q2⟩)⟩
  rename_i he;exact⟨n,kn',st',hU,hR,hb,e1,zo,.inl ⟨zo,q1,zo,by rw[<-hM,Lr,Nat.add_assoc],q2,q3,zo⟩⟩
def If(w:CR)(v:J9):TK->Prop
 |.ok st=>∃tv,v=.tuple #[tv,nI 0,nI 0]/\Tx w tv st.li st.lk st.ts
 |.bad p e=>v=.tuple #[sF sG sG sG,nI (p:Int),nI e]/\e≠0
theorem Mem.tx{O:Nat->Nat}{w:CR}{jr ji jk:Nat}{s:LS}{st:St}(h:Mem O w jr ji jk s st):Tx w (sF s.ig s.kp s.ru) st.li st.lk st.ts:=by
 obtain⟨xs,a1,a2,a3,a4⟩:=h.ru;exact⟨s.ig,s.kp,s.ru,xs,rfl,h.ig.sl,h.kp.sl,a1.sl,a2,fun i hi=>(a4 i hi).weak fun _ _=>rfl⟩
theorem vu(l:List UInt8)(B:Nat)(O:Nat->Nat)(w:CR)(hR:KV B O w)(g0:l.length<=1000000000):KK JQ 50 [.string (bs l)] w fun v w'=>JV w w'/\If w' v (kD l):=by
 obtain⟨T,g3,hT⟩:=hR.bound;have a6:¬(fun q:Nat=>T<=q) 0:=fun e=>by omega
 have c6:∀b,¬T<=O b:=fun b=>by have:=hT b;omega
 refine J5 func50 ntmps50 rfl rfl ?_;refine zg ?_
 refine ax hR T zo (JJ _) rfl ?_;intro xb w1 O1 b8 f6 f8 g5;have b6:Jy (fun q=>T<=q) O w O1 w1:=f6.mono (fun _ h=>JE h.symm) a6;refine zg ?_
 refine zvG (cx JG rfl) ?_
 by_cases hl:4096<l.length
 ·have hM:kD l=.bad 0 3:=by unfold kD;rw[if_pos hl]
  rw[hM];refine zTG rfl ((decide_eq_true zo)) ?_;refine zv (aF Im (JJ _) rfl (by first|rfl|(simp only[Jz,Kb];rfl)) rfl rfl) ?_;refine zsa (us:=(#[nS,nS,nS]:Array J9)) b8 (JA _) ?_;have a7:=b8.setRow (us:=(#[nS,nS,nS]:Array J9));have a4:Jy (fun k=>k=T) O1 w1 O1 (w1.setRow xb (#[nS,nS,nS]:Array J9)):=Jq zo b8.tag rfl;refine zg ?_;refine cF rfl rfl rfl rfl a7.cellsAdd (Kr _) (JA _) ⟨aD (b6.trans (a4.mono (fun _ h=>JE h.symm) a6)) c6,rfl,by decide⟩
 have f9:kD l=qi (l.length+1) [] st0 0 l:=by unfold kD;rw[if_neg hl]
 refine zFG rfl ((decide_eq_false zo)) ?_;refine zv (aF IC (zeroValue167 _) rfl (by first|rfl|(simp only[Jz,Kb];rfl)) rfl rfl) ?_
 refine zv (Kl (vs:=[(0,.agg #[.string (bs l),nI 0,nI 0,nI 0,nI 0,nI 0])]) (cells:=(⟨l,0,0,0,0,0,nS,nS,nS,nS,false,false⟩:LS).cells) IB (zeroValue170 _) rfl zk) ?_;refine aE f8 (T+1) zo rfl rfl ?_
 intro rb w2 O2 d2 e5 f7 g4;have f5:L8 O2 w2 (T+1) rb ⟨l,0,0,0,0,0,nS,nS,nS,nS,false,false⟩:=d2;have e7:=b8.upd e5 zo zo;have d6:=b6.trans (e5.mono (fun _ h=>by rw[h];omega) a6);refine zg ?_;refine zlp (fun y:Nat×Nat×Kn×St×(Nat->Nat)×World×LS=>[(0,.string (bs l)),(2,nP xb),(5,nP rb),(6,nI (y.2.1:Nat))]) (fun y=>y.2.2.2.2.2.1) (fun y=>K0 y.2.2.2.2.1 y.2.2.2.2.2.1 T xb (#[nS,nS,nS]:Array J9) 41/\L8 y.2.2.2.2.1 y.2.2.2.2.2.1 (T+1) rb y.2.2.2.2.2.2/\y.2.2.2.2.2.2.l=l/\Jy (fun q=>T<=q) O w y.2.2.2.2.1 y.2.2.2.2.2.1/\KV B y.2.2.2.2.1 y.2.2.2.2.2.1/\y.2.1<=10000000/\LoopK l (kD l) y.2.2.2.2.1 y.2.2.2.2.2.1 (T+2) (T+3) (T+4) (T+5) y.1 y.2.1 y.2.2.1 y.2.2.2.1 y.2.2.2.2.2.2) (fun y=>y.1) (l.length+1,0,[],st0,O2,w2,⟨l,0,0,0,0,0,nS,nS,nS,nS,false,false⟩) (⟨e7,f5,rfl,d6,f7,by dsimp only;omega,.inl ⟨by dsimp only;omega,rfl,by dsimp only;omega,by rw[f9];rfl,⟨⟨[],Kg _ _ _ _ _ _,rfl,by simp,fun i hi=>absurd hi (by simp)⟩,Kg _ _ _ _ _ _,Kg _ _ _ _ _ _,rfl,rfl,fun _=>rfl,fun _=>rfl⟩,Mac.nil _ _ _,vX _⟩⟩) ?_;rintro⟨n,fr,kn,st,O1,w3,s⟩ ⟨a2,a3,a5,a1,d8,f4,e6⟩;dsimp only at a2 a3 a5 a1 d8 f4 e6 ⊢
 rcases e6 with⟨c5,he,e1,b1,a0,b4,e3⟩|⟨c5,he,b1,a0⟩|⟨p,e,b9,d0,a',b1⟩
 ·obtain⟨n,rfl⟩:∃m,n=m+1:=⟨n-1,by omega⟩
  have g2:(eu (l.drop fr)).length<=l.length-fr:=by
   have:=(JS (l:=l.drop fr) (fun b=>!(b==10))).length_le;simpa[eu]using this
  have q5:=a3.q5;rw[he]at q5;refine zg ?_;refine zvG (cx JG rfl) ?_;refine ay (d:=21) rfl (b':=true) ((decide_eq_true zo)) ?_;refine zg ?_;refine zvG (RV.ld q5 rfl) ?_;refine zTG rfl rfl ?_;refine zvG (cx JG rfl) ?_;refine zv (jV JG rfl rfl fr rfl c5) ?_;refine zc call91 (dK (l.drop fr) 10 w3) ?_;rintro v w9 ⟨rfl,e0⟩;rw[e0];clear e0 w9
  cases hf:(l.drop fr).findIdx? (· == 10)with
  |none=>
   have hi:sH (l.drop fr) 10 = -1:=by unfold sH;rw[hf]
   have e2:=congrArg Kh (zy hf);rw[Lc]at e2;rw[hi,show((l.length:Nat):Int)=((fr+(eu (l.drop fr)).length:Nat):Int)from by omega];refine zg ?_;refine zFG rfl rfl ?_;refine zc call92 (tt B O1 w3 (T+1) (T+2) (T+3) (T+4) (T+5) rb s fr (fr+(eu (l.drop fr)).length) (eu (l.drop fr)) st d8 zo zo zo zo zo zo zo zo zo zo zo zo zo zo zo zo zo (by rw[a5];omega) (by rw[a5];omega) he (by rw[a5];exact tO l fr) a0 b4 a3) ?_;rintro v w4 d9;obtain⟨O4,s4,n4,c8,c7,b7,d7,d1,g1,a9,d'⟩:=LoopK.next c5 e1 b1 e3 d9;have c9:=ln a2 b7 zo zo;have b0:=a1.trans (b7.mono (fun _ h=>by rcases h with h|h|h|h|h<;>rw[h]<;>omega) a6);refine zg ?_;refine zvG (JK rfl rfl (JC zo)) ?_;refine zx (n4,fr+(eu (l.drop fr)).length+1,c8,c7,O4,w4,s4) (⟨c9,d1,g1.trans a5,b0,d7,by dsimp only;omega,d'⟩) (a9)
  |some k=>
   have hi:sH (l.drop fr) 10=(k:Nat):=by unfold sH;rw[hf]
   have e2:=zu hf;rw[hi];refine zg ?_;refine zTG rfl ((decide_eq_true zo)) ?_;refine zvG (JK rfl rfl (JC zo)) ?_;rw[show(fr:Int)+((k:Nat):Int)=((fr+(eu (l.drop fr)).length:Nat):Int)from by omega];refine zc call92 (tt B O1 w3 (T+1) (T+2) (T+3) (T+4) (T+5) rb s fr (fr+(eu (l.drop fr)).length) (eu (l.drop fr)) st d8 zo zo zo zo zo zo zo zo zo zo zo zo zo zo zo zo zo (by rw[a5];omega) (by rw[a5];omega) he (by rw[a5];exact tO l fr) a0 b4 a3) ?_;rintro v w4 d9;obtain⟨O4,s4,n4,c8,c7,b7,d7,d1,g1,a9,d'⟩:=LoopK.next c5 e1 b1 e3 d9;have c9:=ln a2 b7 zo zo;have b0:=a1.trans (b7.mono (fun _ h=>by rcases h with h|h|h|h|h<;>rw[h]<;>omega) a6);refine zg ?_;refine zvG (JK rfl rfl (JC zo)) ?_;refine zx (n4,fr+(eu (l.drop fr)).length+1,c8,c7,O4,w4,s4) (⟨c9,d1,g1.trans a5,b0,d7,by dsimp only;omega,d'⟩) (a9)
 ·have q5:=a3.q5;rw[he]at q5;refine zg ?_;refine zvG (cx JG rfl) ?_;refine ay (d:=21) rfl (b':=false) ((decide_eq_false zo)) ?_;rw[b1];have q6:=a3.q6;have q7:=a3.q7;have q8:=a3.q8;have f':=a0.tx;have f3:=a0.ig.one;have e':=a0.kp.one;obtain⟨xs,e8,_,_,_⟩:=a0.ru;have e9:=e8.one;refine zg ?_;refine zFG rfl rfl ?_;refine zvG (RV.ld q5 rfl) ?_;refine zFG rfl rfl ?_;refine zv (ai (us:=[s.ig,s.kp,s.ru]) (Ap q6 q7 q8) (Kr _) (JA _) rfl) ?_;refine zsb (us:=#[s.ig,s.kp,s.ru]) a2 (JA _) (by simp only[Jz,f3,e',e9];rfl) ?_;have a7:=a2.setRow (us:=#[s.ig,s.kp,s.ru]);have a4:Jy (fun k=>k=T) O1 w3 O1 (w3.setRow xb #[s.ig,s.kp,s.ru]):=Jq zo a2.tag rfl;have d3:=a1.trans (a4.mono (fun _ h=>JE h.symm) a6);have b3:=a0.upd a4 zo zo zo zo zo zo;refine zg ?_;refine cF rfl rfl rfl rfl a7.cellsAdd (Kr _) (JA _) ⟨aD d3 c6,_,rfl,b3.tx⟩
 rw[b1];have q5:=a3.q5;rw[d0]at q5;have q4:=a3.q4;rw[a']at q4;have c':((e==0):Bool)=false:=by simpa using b9
 have b2:((e != 0):Bool)=true:=by simpa using b9
 cases e4:decide ((fr:Int)<=(l.length:Int))with
 |false=>
  refine zg ?_;refine zvG (cx JG rfl) ?_
  refine ay (d:=21) rfl (b':=false) (e4) ?_;refine zg ?_
  refine zFG rfl rfl ?_;refine zvG (RV.ld q5 rfl) ?_
  refine aZ rfl (b2) ?_;have d4:w3.drew.cell? ⟨rb,4,none⟩=some (nI (p:Nat)):=q4;have d5:w3.drew.cell? ⟨rb,5,none⟩=some (nI e):=q5;refine zg ?_
  refine aI (fun W=>W.cell? ⟨rb,4,none⟩=some (nI (p:Nat))/\W.cell? ⟨rb,5,none⟩=some (nI e)) 14 rfl zk ?_;refine zin ⟨d4,d5⟩ fun zS=>?_
  refine zr 0 rfl zS (fun _=>aF Im (JJ _) rfl (by first|rfl|(simp only[Jz,Kb];rfl)) rfl rfl) ?_;refine zrm 1 rfl zS rfl ?_
  refine zr 2 rfl zS (fun _=>aq rfl) ?_;refine zrf 3 rfl zS rfl ?_
  refine zrf 4 rfl zS rfl ?_;refine zt 5 rfl zS (fun w1 a8=>RV.ld a8.1 rfl) ?_
  refine zrm 6 rfl zS rfl ?_;refine zr 7 rfl zS (fun _=>aq rfl) ?_
  refine zrf 8 rfl zS rfl ?_;refine zrf 9 rfl zS rfl ?_
  refine zt 10 rfl zS (fun w1 a8=>RV.ld a8.2 rfl) ?_;refine Ae 11 zk rfl ?_
  refine zsa (us:=#[nS,nS,nS]) a2.drew (JA _) ?_;have a7:=KA (us:=#[nS,nS,nS]) a2.drew;have a4:Jy (fun k=>k=T) O1 w3.drew O1 (w3.drew.setRow xb #[nS,nS,nS]):=Jq zo a2.tag rfl;have b5:=(Kk a3).upd a4 zo zo;have z5:=b5.q5;rw[d0]at z5;have z4:=b5.q4;rw[a']at z4;refine zg ?_
  refine zaf (⟨z4,z5⟩) fun zS=>?_
  refine zra 12 rfl zS rfl ?_;refine zra 13 rfl zS rfl ?_
  refine Jn zk ?_;refine zg ?_
  refine cF rfl rfl rfl rfl a7.cellsAdd (Kr _) (JA _) ⟨aD ((a1.drew).trans (a4.mono (fun _ h=>JE h.symm) a6)) c6,rfl,b9⟩
 |true=>
  refine zg ?_;refine zvG (cx JG rfl) ?_
  refine ay (d:=21) rfl (b':=true) (e4) ?_;refine zg ?_
  refine zvG (RV.ld q5 rfl) ?_;refine zFG rfl (c') ?_
  refine zvG (RV.ld q5 rfl) ?_;refine aZ rfl (b2) ?_
  have d4:w3.drew.cell? ⟨rb,4,none⟩=some (nI (p:Nat)):=q4;have d5:w3.drew.cell? ⟨rb,5,none⟩=some (nI e):=q5;refine zg ?_;refine aI (fun W=>W.cell? ⟨rb,4,none⟩=some (nI (p:Nat))/\W.cell? ⟨rb,5,none⟩=some (nI e)) 14 rfl zk ?_;refine zin ⟨d4,d5⟩ fun zS=>?_
  refine zr 0 rfl zS (fun _=>aF Im (JJ _) rfl (by first|rfl|(simp only[Jz,Kb];rfl)) rfl rfl) ?_;refine zrm 1 rfl zS rfl ?_
  refine zr 2 rfl zS (fun _=>aq rfl) ?_;refine zrf 3 rfl zS rfl ?_
  refine zrf 4 rfl zS rfl ?_;refine zt 5 rfl zS (fun w1 a8=>RV.ld a8.1 rfl) ?_
  refine zrm 6 rfl zS rfl ?_;refine zr 7 rfl zS (fun _=>aq rfl) ?_
  refine zrf 8 rfl zS rfl ?_;refine zrf 9 rfl zS rfl ?_
  refine zt 10 rfl zS (fun w1 a8=>RV.ld a8.2 rfl) ?_;refine Ae 11 zk rfl ?_
  refine zsa (us:=#[nS,nS,nS]) a2.drew (JA _) ?_;have a7:=KA (us:=#[nS,nS,nS]) a2.drew;have a4:Jy (fun k=>k=T) O1 w3.drew O1 (w3.drew.setRow xb #[nS,nS,nS]):=Jq zo a2.tag rfl;have b5:=(Kk a3).upd a4 zo zo;have z5:=b5.q5;rw[d0]at z5;have z4:=b5.q4;rw[a']at z4;refine zg ?_
  refine zaf (⟨z4,z5⟩) fun zS=>?_
  refine zra 12 rfl zS rfl ?_;refine zra 13 rfl zS rfl ?_
  refine Jn zk ?_;refine zg ?_
  refine cF rfl rfl rfl rfl a7.cellsAdd (Kr _) (JA _) ⟨aD ((a1.drew).trans (a4.mono (fun _ h=>JE h.symm) a6)) c6,rfl,b9⟩
theorem lB:∀(n:Nat),n<=1000000->∀(t:Nd),nsz t<=n->∀(B:Nat) (O:Nat->Nat) (x:N3) (w:CR),KV B O w->Nt (fun _=>0) w t x->KK JQ 36 [nv x] w fun v w'=>∃y,v=nv y/\Nt O w' t y/\JV w w'
 |0,_,t,hn=>by have:=cN t;omega
 |n+1,b9,.mk k c kids,hn=>by
  intro B O x w hR h;obtain⟨T,j3,hT⟩:=hR.bound;have b3:∀b,¬T<=O b:=fun b=>by have:=hT b;omega
  obtain⟨xs,hs,hf,hl,hk⟩:=h.kids;simp only[KY]at hl hk;obtain⟨x0,x1,sv⟩:=x;obtain rfl:k=x0:=(congrArg Prod.fst h.ones).symm;obtain rfl:c=x1:=(congrArg (fun q:N3=>q.2.1) h.ones).symm;dsimp only at hs hf;have j2:=ef kids;simp only[nsz]at hn;have a':¬(fun q:Nat=>T<=q) 0:=fun e=>zo
  refine J5 func36 ntmps36 rfl rfl ?_;refine zh ?_
  refine aE hR (T+1) zo rfl rfl ?_;intro nb w1 O1 h9 i5 i9 j6;refine ax i9 T zo (Ko _) rfl ?_
  intro xb w2 O2 h5 h1 i8 j5;have g4:=h9.upd h1 zo zo;have n0:w2.cell? (nA nb 0)=some (nI k):=g4.cell 0 rfl;have n1:w2.cell? (nA nb 1)=some (nI c):=g4.cell 1 rfl;refine zh ?_;refine zv (aF xW (Ko _) rfl (by first|rfl|(simp only[Jz,Kb];rfl)) rfl rfl) ?_;refine ax i8 (T+2) zo (Ko _) rfl ?_;intro ob w3 O3 g2 i4 i7 j4;refine zsa (us:=#[nI k,nI c,nS]) g2 (Ke _) ?_;have h7:=g2.setRow (us:=#[nI k,nI c,nS]);have h0:Jy (fun q=>q=T+2) O3 w3 O3 (w3.setRow ob #[nI k,nI c,nS]):=Jq zo g2.tag rfl;have d7:=i4.trans h0;have i6:=i7.upd h0;have h8:=g4.upd d7 zo zo;have h4:=h5.upd d7 zo zo;have g5:Jy (fun q=>T<=q) O w O3 _:=((i5.mono (fun _ h=>by rw[h];omega) a').trans (h1.mono (fun _ h=>by rw[h];omega) a')).trans (d7.mono (fun _ h=>by rw[h];omega) a');generalize w3.setRow ob #[nI k,nI c,nS]=w4 at *;refine zh ?_
  refine zlp (fun y:Nat×(Nat->Nat)×World×J9×List N3=>[(1,nP nb),(2,nP xb),(3,nP ob),(4,nI y.1)]) (fun y=>y.2.2.1) (fun y=>y.1<=xs.length/\K0 y.2.1 y.2.2.1 (T+1) nb #[nI k,nI c,sv] 47/\K0 y.2.1 y.2.2.1 T xb #[nI 0,nI 0,nS] 83/\K0 y.2.1 y.2.2.1 (T+2) ob #[nI k,nI c,y.2.2.2.1] 83/\K6 aY 83 3 y.2.1 y.2.2.1 (T+3) y.2.2.2.1 y.2.2.2.2/\y.2.2.2.2.length=y.1/\(∀m,m<y.1->Nt y.2.1 y.2.2.1 (nth kids m) (nth y.2.2.2.2 m))/\Jy (fun q=>T<=q) O w y.2.1 y.2.2.1/\KV B y.2.1 y.2.2.1) (fun y=>xs.length-y.1) (0,O3,w4,nS,[]) (⟨vX _,h8,h4,h7,Kg _ _ _ _ _ _,rfl,fun m hm=>absurd hm (J0 m),g5,i6⟩) ?_;rintro⟨i,O1',d',lv,zs⟩ ⟨hi,d3,b6,d2,b2,d1,g0,b',d9⟩;dsimp only at hi d3 b6 d2 b2 d1 g0 b' d9 ⊢;have g8:=aD b' b3;have j0:=hs.ext g8;have c2:d'.cell? (nA nb 2)=some sv:=d3.cell 2 rfl;refine zh ?_
  refine zC ?_ ?_
  ·intro d4;replace d4:i<xs.length:=dT d4;have g':=hk i d4;have i':=g'.one;have j1:=bD kids i zo;have g3:=d3.drew;have g9:=b6.drew;have g1:=d2.drew;have c6:=b2.drew;have g6:=d9.drew;have e3:∀m,m<i->Nt O1' d'.drew (nth kids m) (nth zs m):=fun m hm=>(g0 m hm).drew
   have d5:=b'.drew;have h2:=aD d5 b3;have d8:=GT (g3.cell 2 rfl) h2;refine zh ?_;refine aI (fun W=>W.cell? ⟨nb,2,none⟩=some sv/\JV w W) 12 rfl zk ?_;refine zrf 0 rfl d8 rfl ?_;refine zrf 2 rfl d8 rfl ?_;refine zt 3 rfl d8 (fun w1 e6=>RV.ld e6.1 rfl) ?_;refine zrm 4 rfl d8 rfl ?_;refine zt 5 rfl d8 (fun w1 e6=>JP (by first|exact hs.ext e6.2) L6 (Ji _) rfl rfl _ rfl zo) ?_;refine zt 6 rfl d8 (fun w1 e6=>ai (us:=aY (nth xs i)) (fun j u hu=>(hs.ext e6.2).cell d4 hu) (Ju _) (Ji _) rfl) ?_;generalize d'.drew=wD at *;have i3:wD.cell? (nA ob 2)=some lv:=g1.cell 2 rfl;have c':=lB n zo (nth kids i) zo B O1' (nth xs i) wD g6 (g'.ext h2);refine bV 1 7 zk rfl rfl ?_ ?_
   ·refine zvH (RV.ld i3 rfl) ?_;refine af d8 ?_
    refine Ae 7 zk rfl ?_;refine zc KR c' ?_
    rintro v w5 ⟨z,rfl,f6,g7⟩;have b0:Jy (fun _=>False) O1' wD O1' w5:=aa (fun h=>h) O1' g7;have e1:=ln g3 b0 zo (fun h=>h);have f7:=ln g9 b0 zo (fun h=>h);have e9:=ln g1 b0 zo (fun h=>h);have b1:=LH c6 b0 zo (fun h=>h);have f':=La g6 b0;have b8:∀m,m<i->Nt O1' w5 (nth kids m) (nth zs m):=fun m hm=>(e3 m hm).upd b0
    have b4:=KN d5 (b0.mono (fun _ h=>h.elim) a');have f9:=GT (e1.cell 2 rfl) (aD b4 b3);refine zh ?_;refine af f9 ?_;refine Ae 8 zk rfl ?_;refine aL elN (enc:=aY) z rfl rfl rfl zd rfl ?_;intro w6 h6 f5;have a1:Jy (fun _=>False) O1' w5 O1' w6:=aa (fun h=>h) O1' f5;have b9:=e1.upd a1 zo (fun h=>h);have e5:=f7.upd a1 zo (fun h=>h);have e0:=e9.upd a1 zo (fun h=>h);have a5:=b1.upd a1 zo (fun h=>h);have f4:=f'.upd a1;have b5:∀m,m<i->Nt O1' w6 (nth kids m) (nth zs m):=fun m hm=>(b8 m hm).upd a1
    have c5:=f6.upd a1;have a9:=b4.trans (a1.mono (fun _ h=>h.elim) a');have e2:=GT (b9.cell 2 rfl) (aD a9 b3);refine zh ?_;refine af e2 ?_;have a6:∀u∈[z],∀c∈aY u,c.oneCell'=true:=fun u hu=>by
     rw[J3.1 hu];exact iA c5.one
    refine Ae 9 zk rfl ?_;refine aC elN a5 f4 h6 (by simp) rfl rfl (fun _ _=>rfl) a6 (by simp;omega) (by simp;omega) zo rfl ?_
    intro a3 w7 O7 a0 a4 f3;have e7:=a0.one;have c9:=ln b9 a4 zo zo;have b7:=ln e0 a4 zo zo;have e4:=ln e5 a4 zo zo;have a8:=a9.trans (a4.mono (fun _ h=>by rw[h];omega) a');have d0:=GT (c9.cell 2 rfl) (aD a8 b3);refine zh ?_;refine af d0 ?_;refine zrf 10 rfl d0 rfl ?_;refine Ae 11 zk rfl ?_;refine ak (j:=2) b7 rfl (LD _) e7 rfl rfl rfl ?_;have e8:K0 O7 (w7.setCell ⟨ob,2,none⟩ a3) (T+2) ob #[nI k,nI c,a3] 83:=b7.set 2 a3;have a2:Jy (fun q=>q=T+2) O7 w7 O7 (w7.setCell ⟨ob,2,none⟩ a3):=Jr zo b7.tag rfl;have c8:=c9.upd a2 zo zo;have a7:=a8.trans (a2.mono (fun _ h=>by rw[h];omega) a');have e':=GT (c8.cell 2 rfl) (aD a7 b3);refine zh ?_;refine af e' ?_;refine Jn zk ?_;refine zh ?_;refine zxd (i+1,O7,(w7.setCell ⟨ob,2,none⟩ a3),a3,zs++[z]) (⟨d4,c8,e4.upd a2 zo zo,e8,a0.upd a2 zo zo,by simp[d1],fun m hm=>?_,a7,f3.upd a2⟩);dsimp only at hm ⊢
    by_cases e:m<i
    ·rw[aB (xs:=zs++[z]) (by simp;omega),J4 zo,<-aB zo];exact((b5 m e).upd a4).upd a2
    obtain rfl:m=zs.length:=zo;rw[aB (xs:=zs++[z]) (by simp),J1 zo];simp only[JO,Jp];rw[d1];exact(c5.upd a4).upd a2
   refine zc KR c' ?_;rintro v w5 ⟨z,rfl,f6,g7⟩;have b0:Jy (fun _=>False) O1' wD O1' w5:=aa (fun h=>h) O1' g7;have e1:=ln g3 b0 zo (fun h=>h);have f7:=ln g9 b0 zo (fun h=>h);have e9:=ln g1 b0 zo (fun h=>h);have b1:=LH c6 b0 zo (fun h=>h);have f':=La g6 b0;have b8:∀m,m<i->Nt O1' w5 (nth kids m) (nth zs m):=fun m hm=>(e3 m hm).upd b0
   have b4:=KN d5 (b0.mono (fun _ h=>h.elim) a');have f9:=GT (e1.cell 2 rfl) (aD b4 b3);refine zh ?_;refine af f9 ?_;have i2:w5.cell? (nA ob 2)=some lv:=e9.cell 2 rfl;refine bV 1 8 zk rfl rfl ?_ ?_
   ·refine zvH (RV.ld i2 rfl) ?_;refine af f9 ?_
    refine Ae 8 zk rfl ?_;refine aL elN (enc:=aY) z rfl rfl rfl zd rfl ?_
    intro w6 h6 f5;have a1:Jy (fun _=>False) O1' w5 O1' w6:=aa (fun h=>h) O1' f5;have b9:=e1.upd a1 zo (fun h=>h);have e5:=f7.upd a1 zo (fun h=>h);have e0:=e9.upd a1 zo (fun h=>h);have a5:=b1.upd a1 zo (fun h=>h);have f4:=f'.upd a1;have b5:∀m,m<i->Nt O1' w6 (nth kids m) (nth zs m):=fun m hm=>(b8 m hm).upd a1
    have c5:=f6.upd a1;have a9:=b4.trans (a1.mono (fun _ h=>h.elim) a');have e2:=GT (b9.cell 2 rfl) (aD a9 b3);refine zh ?_;refine af e2 ?_;have a6:∀u∈[z],∀c∈aY u,c.oneCell'=true:=fun u hu=>by
     rw[J3.1 hu];exact iA c5.one
    refine Ae 9 zk rfl ?_;refine aC elN a5 f4 h6 (by simp) rfl rfl (fun _ _=>rfl) a6 (by simp;omega) (by simp;omega) zo rfl ?_
    intro a3 w7 O7 a0 a4 f3;have e7:=a0.one;have c9:=ln b9 a4 zo zo;have b7:=ln e0 a4 zo zo;have e4:=ln e5 a4 zo zo;have a8:=a9.trans (a4.mono (fun _ h=>by rw[h];omega) a');have d0:=GT (c9.cell 2 rfl) (aD a8 b3);refine zh ?_;refine af d0 ?_;refine zrf 10 rfl d0 rfl ?_;refine Ae 11 zk rfl ?_;refine ak (j:=2) b7 rfl (LD _) e7 rfl rfl rfl ?_;have e8:K0 O7 (w7.setCell ⟨ob,2,none⟩ a3) (T+2) ob #[nI k,nI c,a3] 83:=b7.set 2 a3;have a2:Jy (fun q=>q=T+2) O7 w7 O7 (w7.setCell ⟨ob,2,none⟩ a3):=Jr zo b7.tag rfl;have c8:=c9.upd a2 zo zo;have a7:=a8.trans (a2.mono (fun _ h=>by rw[h];omega) a');have e':=GT (c8.cell 2 rfl) (aD a7 b3);refine zh ?_;refine af e' ?_;refine Jn zk ?_;refine zh ?_;refine zxd (i+1,O7,(w7.setCell ⟨ob,2,none⟩ a3),a3,zs++[z]) (⟨d4,c8,e4.upd a2 zo zo,e8,a0.upd a2 zo zo,by simp[d1],fun m hm=>?_,a7,f3.upd a2⟩);dsimp only at hm ⊢
    by_cases e:m<i
    ·rw[aB (xs:=zs++[z]) (by simp;omega),J4 zo,<-aB zo];exact((b5 m e).upd a4).upd a2
    obtain rfl:m=zs.length:=zo;rw[aB (xs:=zs++[z]) (by simp),J1 zo];simp only[JO,Jp];rw[d1];exact(c5.upd a4).upd a2
   refine aL elN (enc:=aY) z rfl rfl rfl zd rfl ?_;intro w6 h6 f5;have a1:Jy (fun _=>False) O1' w5 O1' w6:=aa (fun h=>h) O1' f5;have b9:=e1.upd a1 zo (fun h=>h);have e5:=f7.upd a1 zo (fun h=>h);have e0:=e9.upd a1 zo (fun h=>h);have a5:=b1.upd a1 zo (fun h=>h);have f4:=f'.upd a1;have b5:∀m,m<i->Nt O1' w6 (nth kids m) (nth zs m):=fun m hm=>(b8 m hm).upd a1
   have c5:=f6.upd a1;have a9:=b4.trans (a1.mono (fun _ h=>h.elim) a');have e2:=GT (b9.cell 2 rfl) (aD a9 b3);refine zh ?_;refine af e2 ?_;have i1:w6.cell? (nA ob 2)=some lv:=e0.cell 2 rfl;refine Ae 1 zk rfl ?_;refine zvH (RV.ld i1 rfl) ?_;refine af e2 ?_;have a6:∀u∈[z],∀c∈aY u,c.oneCell'=true:=fun u hu=>by
    rw[J3.1 hu];exact iA c5.one
   refine Ae 9 zk rfl ?_;refine aC elN a5 f4 h6 (by simp) rfl rfl (fun _ _=>rfl) a6 (by simp;omega) (by simp;omega) zo rfl ?_
   intro a3 w7 O7 a0 a4 f3;have e7:=a0.one;have c9:=ln b9 a4 zo zo;have b7:=ln e0 a4 zo zo;have e4:=ln e5 a4 zo zo;have a8:=a9.trans (a4.mono (fun _ h=>by rw[h];omega) a');have d0:=GT (c9.cell 2 rfl) (aD a8 b3);refine zh ?_;refine af d0 ?_;refine zrf 10 rfl d0 rfl ?_;refine Ae 11 zk rfl ?_;refine ak (j:=2) b7 rfl (LD _) e7 rfl rfl rfl ?_;have e8:K0 O7 (w7.setCell ⟨ob,2,none⟩ a3) (T+2) ob #[nI k,nI c,a3] 83:=b7.set 2 a3;have a2:Jy (fun q=>q=T+2) O7 w7 O7 (w7.setCell ⟨ob,2,none⟩ a3):=Jr zo b7.tag rfl;have c8:=c9.upd a2 zo zo;have a7:=a8.trans (a2.mono (fun _ h=>by rw[h];omega) a');have e':=GT (c8.cell 2 rfl) (aD a7 b3);refine zh ?_;refine af e' ?_;refine Jn zk ?_;refine zh ?_;refine zxd (i+1,O7,(w7.setCell ⟨ob,2,none⟩ a3),a3,zs++[z]) (⟨d4,c8,e4.upd a2 zo zo,e8,a0.upd a2 zo zo,by simp[d1],fun m hm=>?_,a7,f3.upd a2⟩);dsimp only at hm ⊢
   by_cases e:m<i
   ·rw[aB (xs:=zs++[z]) (by simp;omega),J4 zo,<-aB zo];exact((b5 m e).upd a4).upd a2
   obtain rfl:m=zs.length:=zo;rw[aB (xs:=zs++[z]) (by simp),J1 zo];simp only[JO,Jp];rw[d1];exact(c5.upd a4).upd a2
  intro i0;obtain rfl:i=xs.length:=dF i0;have h':=b2.one;refine zh ?_;refine zv (ai (us:=aY ((k,c,lv):N3)) d2.cellsAdd (Lt _) (Ke _) rfl) ?_;refine zsb (us:=#[nI k,nI c,lv]) b6 (Ke _) (cn (x:=(k,c,lv)) h') ?_;have h3:=b6.setRow (us:=#[nI k,nI c,lv]);have f8:Jy (fun q=>q=T) O1' d' O1' (d'.setRow xb #[nI k,nI c,lv]):=Jq zo b6.tag rfl;have c7:=b2.upd f8 zo zo;have d6:=b'.trans (f8.mono (fun _ h=>by rw[h];omega) a');have hN:Nt O (d'.setRow xb #[nI k,nI c,lv]) (.mk k c kids) (k,c,lv):=
   .mk c7.sl (c7.freeT zo (fun b=>by have:=hT b;omega) (d9.upd f8) d6) zo (fun m hm=>((g0 m zo).upd f8).low d6)
  refine zh ?_;refine aN rfl rfl (h3.cellsAdd) (Lt _) (Ke _) (⟨(k,c,lv),rfl,hN,aD d6 b3⟩)
def RulesO(O:Nat->Nat)(w:CR)(rv:J9)(ts:List R3):Prop:=∃zs,Sl cj 7 w rv zs/\Lp O w rv/\ts.length=zs.length/\∀i,i<zs.length->Rt O w (nth ts i) (nth zs i)
theorem Fm(li lk:List Int)(ts:List R3)(xs:List X3)(ig kp ru:J9)(B:Nat)(O:Nat->Nat)(w:CR)(i':KV B O w)(h1:Sl encI 1 w ig li)(h2:Sl encI 1 w kp lk)(h3:Sl cj 7 w ru xs)(h4:ts.length=xs.length)(h5:∀i,i<xs.length->Rt (fun _=>0) w (nth ts i) (nth xs i))(hf:Few li lk ts):KK JQ 10 [sF ig kp ru] w fun u w'=>∃rv,u=sF ig kp rv/\RulesO O w' rv ts/\JV w w':=by
 obtain⟨f1,f2,f3,f4⟩:=hf;have o1:=h1.one;have o2:=h2.one;have o3:=h3.one;obtain⟨T,k8,hT⟩:=i'.bound;have b5:∀b,¬T<=O b:=fun b=>by have:=hT b;omega
 have b2:¬(fun q:Nat=>T<=q) 0:=fun e=>zo
 refine J5 func10 ntmps10 rfl rfl ?_;refine zh ?_
 refine aE i' T zo rfl rfl ?_;intro nb w1 O1 j6 k1 k5 l0;refine ax k5 (T+1) zo (JJ _) rfl ?_
 intro xb w2 O2 j2 i9 k4 k';have i2:=j6.upd i9 zo zo;have n0:w2.cell? (nA nb 0)=some ig:=i2.cell 0 rfl;have n1:w2.cell? (nA nb 1)=some kp:=i2.cell 1 rfl;refine zh ?_;refine zv (aF Im (JJ _) rfl (by simp only[Jz,o1,o2];rfl) rfl rfl) ?_;refine ax k4 (T+2) zo (JJ _) rfl ?_;intro ob w3 O3 i0 k0 k3 k9;refine zsb (us:=#[ig,kp,nS]) i0 (JA _) (by simp only[Jz,o1,o2];rfl) ?_;have j4:=i0.setRow (us:=#[ig,kp,nS]);have i8:Jy (fun q=>q=T+2) O3 w3 O3 (w3.setRow ob #[ig,kp,nS]):=Jq zo i0.tag rfl;have f7:=k0.trans i8;have k2:=k3.upd i8;have j5:=i2.upd f7 zo zo;have j1:=j2.upd f7 zo zo;have i3:Jy (fun q=>T<=q) O w O3 _:=((k1.mono (fun _ h=>by rw[h];omega) b2).trans (i9.mono (fun _ h=>by rw[h];omega) b2)).trans (f7.mono (fun _ h=>by rw[h];omega) b2);generalize w3.setRow ob #[ig,kp,nS]=w4 at *;refine zh ?_
 refine zlp (fun y:Nat×(Nat->Nat)×World×J9×List X3=>[(1,nP nb),(2,nP xb),(3,nP ob),(4,nI y.1)]) (fun y=>y.2.2.1) (fun y=>y.1<=xs.length/\K0 y.2.1 y.2.2.1 T nb #[ig,kp,ru] 25/\K0 y.2.1 y.2.2.1 (T+1) xb #[nS,nS,nS] 41/\K0 y.2.1 y.2.2.1 (T+2) ob #[ig,kp,y.2.2.2.1] 41/\K6 cj 85 7 y.2.1 y.2.2.1 (T+3) y.2.2.2.1 y.2.2.2.2/\y.2.2.2.2.length=y.1/\(∀m,m<y.1->Rt y.2.1 y.2.2.1 (nth ts m) (nth y.2.2.2.2 m))/\Jy (fun q=>T<=q) O w y.2.1 y.2.2.1/\KV B y.2.1 y.2.2.1) (fun y=>xs.length-y.1) (0,O3,w4,nS,[]) (⟨vX _,j5,j1,j4,Kg _ _ _ _ _ _,rfl,fun m hm=>absurd hm (J0 m),i3,k2⟩) ?_;rintro⟨i,O1,g3,lv,zs⟩ ⟨hi,f5,d1,e',c8,d7,h9,d9,g2⟩;dsimp only at hi f5 d1 e' c8 d7 h9 d9 g2 ⊢;have i6:=aD d9 b5;have k7:=h3.ext i6;have c2:g3.cell? (nA nb 2)=some ru:=f5.cell 2 rfl;refine zh ?_
 refine zC ?_ ?_
 ·intro b3;replace b3:i<xs.length:=dT b3;obtain⟨z1,z2⟩:=f4 i zo;have i1:=f5.drew;have i7:=d1.drew;have h':=e'.drew;have e0:=c8.drew;have h8:=g2.drew;have g8:∀m,m<i->Rt O1 g3.drew (nth ts m) (nth zs m):=fun m hm=>(h9 m hm).ext (Fu g3).drew
  have f6:=d9.drew;have i4:=aD f6 b5;have b6:=GT (i1.cell 2 rfl) i4;have j8:∀W,JV w W->∀(j:Nat) (u:J9),(aY (nth xs i).1)[j]? = some u->W.cell? (((adr ru 7 i).add 0).add j)=some u:=fun W hE j u hu=>by
   have e:(((adr ru 7 i).add 0).add j)=(adr ru 7 i).add j:=by rw[Lz,KS]
   rw[e];refine hE.cell (h3.cell b3 ?_);simp only[aY]at hu
   match j,hu with
   |0,hu=>exact hu
   |1,hu=>exact hu
   |2,hu=>exact hu
  have j3:∀W,JV w W->∀(j:Nat) (u:J9),(aY (nth xs i).2.1)[j]? = some u->W.cell? (((adr ru 7 i).add 3).add j)=some u:=fun W hE j u hu=>by
   have e:(((adr ru 7 i).add 3).add j)=(adr ru 7 i).add (3+j):=by rw[Lz]
   rw[e];refine hE.cell (h3.cell b3 ?_);simp only[aY]at hu
   match j,hu with
   |0,hu=>exact hu
   |1,hu=>exact hu
   |2,hu=>exact hu
  obtain⟨brk,g'⟩:∃b,b=(nth xs i).2.2:=⟨_,rfl⟩
  have j':∀W,JV w W->W.cell? ((adr ru 7 i).add 6)=some (.bool brk):=fun W hE=>by rw[g'];exact hE.cell (h3.cell b3 rfl)
  refine zh ?_;refine aI (fun W=>W.cell? ⟨nb,2,none⟩=some ru/\JV w W) 27 rfl zk ?_
  refine zrf 0 rfl b6 rfl ?_;refine zrf 2 rfl b6 rfl ?_
  refine zt 3 rfl b6 (fun w1 b8=>RV.ld b8.1 rfl) ?_;refine zrm 4 rfl b6 rfl ?_
  refine zt 5 rfl b6 (fun w1 b8=>JP (h3.ext b8.2) K5 (Kf _) rfl rfl i rfl b3) ?_;refine zrf 6 rfl b6 rfl ?_
  refine zt 7 rfl b6 (fun w1 b8=>ai (us:=aY (nth xs i).1) (j8 _ b8.2) (Ju _) (Ji _) rfl) ?_;refine zrf 9 rfl b6 rfl ?_
  refine zt 10 rfl b6 (fun w1 b8=>RV.ld b8.1 rfl) ?_;refine zrm 11 rfl b6 rfl ?_
  refine zt 12 rfl b6 (fun w1 b8=>JP (h3.ext b8.2) K5 (Kf _) rfl rfl i rfl b3) ?_;refine zrf 13 rfl b6 rfl ?_
  refine zt 14 rfl b6 (fun w1 b8=>ai (us:=aY (nth xs i).2.1) (j3 _ b8.2) (Ju _) (Ji _) rfl) ?_;refine zrf 16 rfl b6 rfl ?_
  refine zt 17 rfl b6 (fun w1 b8=>RV.ld b8.1 rfl) ?_;refine zrm 18 rfl b6 rfl ?_
  refine zt 19 rfl b6 (fun w1 b8=>JP (h3.ext b8.2) K5 (Kf _) rfl rfl i rfl b3) ?_;refine zrf 20 rfl b6 rfl ?_
  refine zt 21 rfl b6 (fun w1 b8=>RV.ld (j' _ b8.2) rfl) ?_;generalize g3.drew=wD at *;refine bV 1 8 zk rfl rfl ?_ ?_
  ·refine zvH (RV.ld (h'.cell 2 rfl) rfl) ?_;refine af b6 ?_
   refine Ae 8 zk rfl ?_;refine zc KR (lB 1000000 (J2 _) (nth ts i).1 zo B O1 (nth xs i).1 wD h8 ((h5 i b3).1.ext i4)) ?_
   rintro v5 w5 ⟨y1,rfl,h0,i5⟩;have c5:Jy (fun _=>False) O1 wD O1 w5:=aa (fun h=>h) O1 i5;have g6:=i1.upd c5 zo (fun h=>h);have h6:=i7.upd c5 zo (fun h=>h);have g9:=h'.upd c5 zo (fun h=>h);have c7:=e0.upd c5 zo (fun h=>h);have g1:=h8.upd c5;have d6:∀m,m<i->Rt O1 w5 (nth ts m) (nth zs m):=fun m hm=>(g8 m hm).upd c5
   have d0:=f6.trans (c5.mono (fun _ h=>h.elim) b2);have f9:=GT (g6.cell 2 rfl) (aD d0 b5);refine zh ?_;refine af f9 ?_;refine Ae 15 zk rfl ?_;refine zc KR (lB 1000000 (J2 _) (nth ts i).2.1 zo B O1 (nth xs i).2.1 w5 g1 ((h5 i b3).2.1.ext f9.2)) ?_;rintro v6 w6 ⟨y2,rfl,g4,e4⟩;have c':=h0.upd (aa (S:=fun _=>False) (fun h=>h) O1 e4);have a':Jy (fun _=>False) O1 w5 O1 w6:=aa (fun h=>h) O1 e4;have d8:=g6.upd a' zo (fun h=>h);have g5:=h6.upd a' zo (fun h=>h);have e9:=g9.upd a' zo (fun h=>h);have b4:=c7.upd a' zo (fun h=>h);have g7:=g1.upd a';have c9:∀m,m<i->Rt O1 w6 (nth ts m) (nth zs m):=fun m hm=>(d6 m hm).upd a'
   have b7:=d0.trans (a'.mono (fun _ h=>h.elim) b2);have d':=GT (d8.cell 2 rfl) (aD b7 b5);refine zh ?_;refine af d' ?_;refine zr 22 rfl d' (fun _=>Kl (vs:=[(0,nv y1),(1,nv y2),(2,.bool brk)]) (cells:=(cj (y1,y2,brk)).toArray) GN (Lh _) rfl zk) ?_;refine Ae 23 zk rfl ?_;refine aL elR (enc:=cj) (y1,y2,brk) rfl rfl rfl zd rfl ?_;intro w7 h7 c6;have a7:=c'.upd (aa (S:=fun _=>False) (fun h=>h) O1 c6);have a6:=g4.upd (aa (S:=fun _=>False) (fun h=>h) O1 c6);have a2:Jy (fun _=>False) O1 w6 O1 w7:=aa (fun h=>h) O1 c6;have d4:=d8.upd a2 zo (fun h=>h);have e6:=g5.upd a2 zo (fun h=>h);have e2:=e9.upd a2 zo (fun h=>h);have a8:=b4.upd a2 zo (fun h=>h);have g0:=g7.upd a2;have b9:∀m,m<i->Rt O1 w7 (nth ts m) (nth zs m):=fun m hm=>(c9 m hm).upd a2
   have b1:=b7.trans (a2.mono (fun _ h=>h.elim) b2);have e3:=GT (d4.cell 2 rfl) (aD b1 b5);refine zh ?_;refine af e3 ?_;have a9:∀u∈[((y1,y2,brk):X3)],∀c∈cj u,c.oneCell'=true:=fun u hu=>by
    rw[J3.1 hu];exact bU a7.one a6.one
   refine Ae 24 zk rfl ?_;refine aC elR a8 g0 h7 (by simp) rfl rfl (fun _ _=>rfl) a9 (by simp;omega) (by simp;omega) zo rfl ?_
   intro a5 w8 O8 a1 a4 f';have e7:=a1.one;have d3:=ln d4 a4 zo zo;have b':=ln e2 a4 zo zo;have e5:=ln e6 a4 zo zo;have b0:=b1.trans (a4.mono (fun _ h=>by rw[h];omega) b2);have d5:=GT (d3.cell 2 rfl) (aD b0 b5);refine zh ?_;refine af d5 ?_;refine zrf 25 rfl d5 rfl ?_;refine Ae 26 zk rfl ?_;refine ak (j:=2) b' rfl (Lj _) e7 rfl rfl rfl ?_;have e8:K0 O8 (w8.setCell ⟨ob,2,none⟩ a5) (T+2) ob #[ig,kp,a5] 41:=b'.set 2 a5;have a0:Jy (fun q=>q=T+2) O8 w8 O8 (w8.setCell ⟨ob,2,none⟩ a5):=Jr zo b'.tag rfl;have d2:=d3.upd a0 zo zo;have a3:=b0.trans (a0.mono (fun _ h=>by rw[h];omega) b2);have f8:=GT (d2.cell 2 rfl) (aD a3 b5);refine zh ?_;refine af f8 ?_;refine Jn zk ?_;refine zh ?_;refine zxd (i+1,O8,(w8.setCell ⟨ob,2,none⟩ a5),a5,zs++[((y1,y2,brk):X3)]) (⟨b3,d2,e5.upd a0 zo zo,e8,a1.upd a0 zo zo,by simp[d7],fun m hm=>?_,a3,f'.upd a0⟩);dsimp only at hm ⊢
   by_cases e:m<i
   ·rw[aB (xs:=zs++[((y1,y2,brk):X3)]) (by simp;omega),J4 zo,<-aB zo];exact((b9 m e).upd a4).upd a0
   obtain rfl:m=zs.length:=zo;rw[aB (xs:=zs++[((y1,y2,brk):X3)]) (by simp),J1 zo];simp only[JO,Jp];rw[d7];exact⟨(a7.upd a4).upd a0,(a6.upd a4).upd a0,g'.trans (h5 i b3).2.2⟩
  refine zc KR (lB 1000000 (J2 _) (nth ts i).1 zo B O1 (nth xs i).1 wD h8 ((h5 i b3).1.ext i4)) ?_;rintro v5 w5 ⟨y1,rfl,h0,i5⟩;have c5:Jy (fun _=>False) O1 wD O1 w5:=aa (fun h=>h) O1 i5;have g6:=i1.upd c5 zo (fun h=>h);have h6:=i7.upd c5 zo (fun h=>h);have g9:=h'.upd c5 zo (fun h=>h);have c7:=e0.upd c5 zo (fun h=>h);have g1:=h8.upd c5;have d6:∀m,m<i->Rt O1 w5 (nth ts m) (nth zs m):=fun m hm=>(g8 m hm).upd c5
  have d0:=f6.trans (c5.mono (fun _ h=>h.elim) b2);have f9:=GT (g6.cell 2 rfl) (aD d0 b5);refine zh ?_;refine af f9 ?_;refine bV 1 15 zk rfl rfl ?_ ?_
  ·refine zvH (RV.ld (g9.cell 2 rfl) rfl) ?_;refine af f9 ?_
   refine Ae 15 zk rfl ?_;refine zc KR (lB 1000000 (J2 _) (nth ts i).2.1 zo B O1 (nth xs i).2.1 w5 g1 ((h5 i b3).2.1.ext f9.2)) ?_
   rintro v6 w6 ⟨y2,rfl,g4,e4⟩;have c':=h0.upd (aa (S:=fun _=>False) (fun h=>h) O1 e4);have a':Jy (fun _=>False) O1 w5 O1 w6:=aa (fun h=>h) O1 e4;have d8:=g6.upd a' zo (fun h=>h);have g5:=h6.upd a' zo (fun h=>h);have e9:=g9.upd a' zo (fun h=>h);have b4:=c7.upd a' zo (fun h=>h);have g7:=g1.upd a';have c9:∀m,m<i->Rt O1 w6 (nth ts m) (nth zs m):=fun m hm=>(d6 m hm).upd a'
   have b7:=d0.trans (a'.mono (fun _ h=>h.elim) b2);have d':=GT (d8.cell 2 rfl) (aD b7 b5);refine zh ?_;refine af d' ?_;refine zr 22 rfl d' (fun _=>Kl (vs:=[(0,nv y1),(1,nv y2),(2,.bool brk)]) (cells:=(cj (y1,y2,brk)).toArray) GN (Lh _) rfl zk) ?_;refine Ae 23 zk rfl ?_;refine aL elR (enc:=cj) (y1,y2,brk) rfl rfl rfl zd rfl ?_;intro w7 h7 c6;have a7:=c'.upd (aa (S:=fun _=>False) (fun h=>h) O1 c6);have a6:=g4.upd (aa (S:=fun _=>False) (fun h=>h) O1 c6);have a2:Jy (fun _=>False) O1 w6 O1 w7:=aa (fun h=>h) O1 c6;have d4:=d8.upd a2 zo (fun h=>h);have e6:=g5.upd a2 zo (fun h=>h);have e2:=e9.upd a2 zo (fun h=>h);have a8:=b4.upd a2 zo (fun h=>h);have g0:=g7.upd a2;have b9:∀m,m<i->Rt O1 w7 (nth ts m) (nth zs m):=fun m hm=>(c9 m hm).upd a2
   have b1:=b7.trans (a2.mono (fun _ h=>h.elim) b2);have e3:=GT (d4.cell 2 rfl) (aD b1 b5);refine zh ?_;refine af e3 ?_;have a9:∀u∈[((y1,y2,brk):X3)],∀c∈cj u,c.oneCell'=true:=fun u hu=>by
    rw[J3.1 hu];exact bU a7.one a6.one
   refine Ae 24 zk rfl ?_;refine aC elR a8 g0 h7 (by simp) rfl rfl (fun _ _=>rfl) a9 (by simp;omega) (by simp;omega) zo rfl ?_
   intro a5 w8 O8 a1 a4 f';have e7:=a1.one;have d3:=ln d4 a4 zo zo;have b':=ln e2 a4 zo zo;have e5:=ln e6 a4 zo zo;have b0:=b1.trans (a4.mono (fun _ h=>by rw[h];omega) b2);have d5:=GT (d3.cell 2 rfl) (aD b0 b5);refine zh ?_;refine af d5 ?_;refine zrf 25 rfl d5 rfl ?_;refine Ae 26 zk rfl ?_;refine ak (j:=2) b' rfl (Lj _) e7 rfl rfl rfl ?_;have e8:K0 O8 (w8.setCell ⟨ob,2,none⟩ a5) (T+2) ob #[ig,kp,a5] 41:=b'.set 2 a5;have a0:Jy (fun q=>q=T+2) O8 w8 O8 (w8.setCell ⟨ob,2,none⟩ a5):=Jr zo b'.tag rfl;have d2:=d3.upd a0 zo zo;have a3:=b0.trans (a0.mono (fun _ h=>by rw[h];omega) b2);have f8:=GT (d2.cell 2 rfl) (aD a3 b5);refine zh ?_;refine af f8 ?_;refine Jn zk ?_;refine zh ?_;refine zxd (i+1,O8,(w8.setCell ⟨ob,2,none⟩ a5),a5,zs++[((y1,y2,brk):X3)]) (⟨b3,d2,e5.upd a0 zo zo,e8,a1.upd a0 zo zo,by simp[d7],fun m hm=>?_,a3,f'.upd a0⟩);dsimp only at hm ⊢
   by_cases e:m<i
   ·rw[aB (xs:=zs++[((y1,y2,brk):X3)]) (by simp;omega),J4 zo,<-aB zo];exact((b9 m e).upd a4).upd a0
   obtain rfl:m=zs.length:=zo;rw[aB (xs:=zs++[((y1,y2,brk):X3)]) (by simp),J1 zo];simp only[JO,Jp];rw[d7];exact⟨(a7.upd a4).upd a0,(a6.upd a4).upd a0,g'.trans (h5 i b3).2.2⟩
  refine zc KR (lB 1000000 (J2 _) (nth ts i).2.1 zo B O1 (nth xs i).2.1 w5 g1 ((h5 i b3).2.1.ext f9.2)) ?_;rintro v6 w6 ⟨y2,rfl,g4,e4⟩;have c':=h0.upd (aa (S:=fun _=>False) (fun h=>h) O1 e4);have a':Jy (fun _=>False) O1 w5 O1 w6:=aa (fun h=>h) O1 e4;have d8:=g6.upd a' zo (fun h=>h);have g5:=h6.upd a' zo (fun h=>h);have e9:=g9.upd a' zo (fun h=>h);have b4:=c7.upd a' zo (fun h=>h);have g7:=g1.upd a';have c9:∀m,m<i->Rt O1 w6 (nth ts m) (nth zs m):=fun m hm=>(d6 m hm).upd a'
  have b7:=d0.trans (a'.mono (fun _ h=>h.elim) b2);have d':=GT (d8.cell 2 rfl) (aD b7 b5);refine zh ?_;refine af d' ?_;refine zr 22 rfl d' (fun _=>Kl (vs:=[(0,nv y1),(1,nv y2),(2,.bool brk)]) (cells:=(cj (y1,y2,brk)).toArray) GN (Lh _) rfl zk) ?_;refine bV 1 23 zk rfl rfl ?_ ?_
  ·refine zvH (RV.ld (e9.cell 2 rfl) rfl) ?_;refine af d' ?_
   refine Ae 23 zk rfl ?_;refine aL elR (enc:=cj) (y1,y2,brk) rfl rfl rfl zd rfl ?_
   intro w7 h7 c6;have a7:=c'.upd (aa (S:=fun _=>False) (fun h=>h) O1 c6);have a6:=g4.upd (aa (S:=fun _=>False) (fun h=>h) O1 c6);have a2:Jy (fun _=>False) O1 w6 O1 w7:=aa (fun h=>h) O1 c6;have d4:=d8.upd a2 zo (fun h=>h);have e6:=g5.upd a2 zo (fun h=>h);have e2:=e9.upd a2 zo (fun h=>h);have a8:=b4.upd a2 zo (fun h=>h);have g0:=g7.upd a2;have b9:∀m,m<i->Rt O1 w7 (nth ts m) (nth zs m):=fun m hm=>(c9 m hm).upd a2
   have b1:=b7.trans (a2.mono (fun _ h=>h.elim) b2);have e3:=GT (d4.cell 2 rfl) (aD b1 b5);refine zh ?_;refine af e3 ?_;have a9:∀u∈[((y1,y2,brk):X3)],∀c∈cj u,c.oneCell'=true:=fun u hu=>by
    rw[J3.1 hu];exact bU a7.one a6.one
   refine Ae 24 zk rfl ?_;refine aC elR a8 g0 h7 (by simp) rfl rfl (fun _ _=>rfl) a9 (by simp;omega) (by simp;omega) zo rfl ?_
   intro a5 w8 O8 a1 a4 f';have e7:=a1.one;have d3:=ln d4 a4 zo zo;have b':=ln e2 a4 zo zo;have e5:=ln e6 a4 zo zo;have b0:=b1.trans (a4.mono (fun _ h=>by rw[h];omega) b2);have d5:=GT (d3.cell 2 rfl) (aD b0 b5);refine zh ?_;refine af d5 ?_;refine zrf 25 rfl d5 rfl ?_;refine Ae 26 zk rfl ?_;refine ak (j:=2) b' rfl (Lj _) e7 rfl rfl rfl ?_;have e8:K0 O8 (w8.setCell ⟨ob,2,none⟩ a5) (T+2) ob #[ig,kp,a5] 41:=b'.set 2 a5;have a0:Jy (fun q=>q=T+2) O8 w8 O8 (w8.setCell ⟨ob,2,none⟩ a5):=Jr zo b'.tag rfl;have d2:=d3.upd a0 zo zo;have a3:=b0.trans (a0.mono (fun _ h=>by rw[h];omega) b2);have f8:=GT (d2.cell 2 rfl) (aD a3 b5);refine zh ?_;refine af f8 ?_;refine Jn zk ?_;refine zh ?_;refine zxd (i+1,O8,(w8.setCell ⟨ob,2,none⟩ a5),a5,zs++[((y1,y2,brk):X3)]) (⟨b3,d2,e5.upd a0 zo zo,e8,a1.upd a0 zo zo,by simp[d7],fun m hm=>?_,a3,f'.upd a0⟩);dsimp only at hm ⊢
   by_cases e:m<i
   ·rw[aB (xs:=zs++[((y1,y2,brk):X3)]) (by simp;omega),J4 zo,<-aB zo];exact((b9 m e).upd a4).upd a0
   obtain rfl:m=zs.length:=zo;rw[aB (xs:=zs++[((y1,y2,brk):X3)]) (by simp),J1 zo];simp only[JO,Jp];rw[d7];exact⟨(a7.upd a4).upd a0,(a6.upd a4).upd a0,g'.trans (h5 i b3).2.2⟩
  refine aL elR (enc:=cj) (y1,y2,brk) rfl rfl rfl zd rfl ?_;intro w7 h7 c6;have a7:=c'.upd (aa (S:=fun _=>False) (fun h=>h) O1 c6);have a6:=g4.upd (aa (S:=fun _=>False) (fun h=>h) O1 c6);have a2:Jy (fun _=>False) O1 w6 O1 w7:=aa (fun h=>h) O1 c6;have d4:=d8.upd a2 zo (fun h=>h);have e6:=g5.upd a2 zo (fun h=>h);have e2:=e9.upd a2 zo (fun h=>h);have a8:=b4.upd a2 zo (fun h=>h);have g0:=g7.upd a2;have b9:∀m,m<i->Rt O1 w7 (nth ts m) (nth zs m):=fun m hm=>(c9 m hm).upd a2
  have b1:=b7.trans (a2.mono (fun _ h=>h.elim) b2);have e3:=GT (d4.cell 2 rfl) (aD b1 b5);refine zh ?_;refine af e3 ?_;refine Ae 1 zk rfl ?_;refine zvH (RV.ld (e2.cell 2 rfl) rfl) ?_;refine af e3 ?_;have a9:∀u∈[((y1,y2,brk):X3)],∀c∈cj u,c.oneCell'=true:=fun u hu=>by
   rw[J3.1 hu];exact bU a7.one a6.one
  refine Ae 24 zk rfl ?_;refine aC elR a8 g0 h7 (by simp) rfl rfl (fun _ _=>rfl) a9 (by simp;omega) (by simp;omega) zo rfl ?_
  intro a5 w8 O8 a1 a4 f';have e7:=a1.one;have d3:=ln d4 a4 zo zo;have b':=ln e2 a4 zo zo;have e5:=ln e6 a4 zo zo;have b0:=b1.trans (a4.mono (fun _ h=>by rw[h];omega) b2);have d5:=GT (d3.cell 2 rfl) (aD b0 b5);refine zh ?_;refine af d5 ?_;refine zrf 25 rfl d5 rfl ?_;refine Ae 26 zk rfl ?_;refine ak (j:=2) b' rfl (Lj _) e7 rfl rfl rfl ?_;have e8:K0 O8 (w8.setCell ⟨ob,2,none⟩ a5) (T+2) ob #[ig,kp,a5] 41:=b'.set 2 a5;have a0:Jy (fun q=>q=T+2) O8 w8 O8 (w8.setCell ⟨ob,2,none⟩ a5):=Jr zo b'.tag rfl;have d2:=d3.upd a0 zo zo;have a3:=b0.trans (a0.mono (fun _ h=>by rw[h];omega) b2);have f8:=GT (d2.cell 2 rfl) (aD a3 b5);refine zh ?_;refine af f8 ?_;refine Jn zk ?_;refine zh ?_;refine zxd (i+1,O8,(w8.setCell ⟨ob,2,none⟩ a5),a5,zs++[((y1,y2,brk):X3)]) (⟨b3,d2,e5.upd a0 zo zo,e8,a1.upd a0 zo zo,by simp[d7],fun m hm=>?_,a3,f'.upd a0⟩);dsimp only at hm ⊢
  by_cases e:m<i
  ·rw[aB (xs:=zs++[((y1,y2,brk):X3)]) (by simp;omega),J4 zo,<-aB zo];exact((b9 m e).upd a4).upd a0
  obtain rfl:m=zs.length:=zo;rw[aB (xs:=zs++[((y1,y2,brk):X3)]) (by simp),J1 zo];simp only[JO,Jp];rw[d7];exact⟨(a7.upd a4).upd a0,(a6.upd a4).upd a0,g'.trans (h5 i b3).2.2⟩
 intro j9;obtain rfl:i=xs.length:=dF j9;have j7:=c8.one;refine zh ?_;refine zv (ai (us:=[ig,kp,lv]) e'.cellsAdd (Kr _) (JA _) rfl) ?_;refine zsb (us:=#[ig,kp,lv]) d1 (JA _) (by simp only[Jz,o1,o2,j7];rfl) ?_;have j0:=d1.setRow (us:=#[ig,kp,lv]);have a0:Jy (fun q=>q=T+1) O1 g3 O1 (g3.setRow xb #[ig,kp,lv]):=Jq zo d1.tag rfl;have e1:=c8.upd a0 zo zo;have a3:=d9.trans (a0.mono (fun _ h=>by rw[h];omega) b2);have k6:=aD a3 b5;refine zh ?_;refine aN rfl rfl (j0.cellsAdd) (Kr _) (JA _) (⟨lv,rfl,⟨zs,e1.sl,e1.freeT zo (fun b=>by have:=hT b;omega) (g2.upd a0) a3,zo,fun m hm=>((h9 m zo).upd a0).weak (fun b e=>a3.z0 b e)⟩,k6⟩)
theorem mq(l:List Int)(sv:J9)(w:CR)(h:Sl encI 1 w sv l):KK JQ 37 [sv] w fun v w'=>v=.bool (dj l)/\JV w w':=by
 have a6:=h.len_le;refine J5 func37 ntmps37 rfl rfl ?_;refine zh ?_;refine zlp (fun y:Nat×CR=>[(0,sv),(3,nI y.1)]) (fun y=>y.2) (fun y=>y.1<=l.length/\JV w y.2/\∀i,i<y.1->jU l i=false) (fun y=>l.length-y.1) (0,w) (⟨vX _,Fu _,fun i hi=>absurd hi (J0 i)⟩) ?_;rintro⟨k,w1⟩ ⟨hk,hE,a3⟩;dsimp only at hk hE a3 ⊢;have h1:=h.ext hE;refine zh ?_;refine zC ?_ ?_
 ·intro a2;replace a2:k<l.length:=dT a2;have m1:=h1.ld a2;refine zh ?_;refine WC.still zk zk ?_;refine zh ?_
  cases b1:decide (nth l k<0)with
  |true=>
   have a1:jU l k=true:=by unfold jU;rw[b1];rfl
   refine bP (d:=15) rfl (b':=true) (rfl) ?_;refine zh ?_
   refine zwH (aQ rfl rfl) ?_;refine zw (aQ rfl rfl) ?_
   refine Lx ?_;refine zh ?_
   refine zTH rfl rfl ?_;refine ae rfl rfl (⟨by unfold dj;rw[cQ.2 ⟨k,a2,a1⟩];rfl,hE.drew⟩)
  |false=>
   refine bP (d:=15) rfl (b':=false) (rfl) ?_;refine zh ?_
   refine zwH (aW rfl rfl) ?_
   cases b2:decide ((35:Int)<nth l k)with
   |true=>
    have a1:jU l k=true:=by unfold jU;rw[decide_eq_true (show(36:Int)<=nth l k by have:=of_decide_eq_true b2;omega)];simp
    refine bP (d:=22) rfl (b':=true) (rfl) ?_;refine zh ?_
    refine zw (aQ rfl rfl) ?_;refine Lx ?_
    refine zh ?_;refine zTH rfl rfl ?_
    refine ae rfl rfl (⟨by unfold dj;rw[cQ.2 ⟨k,a2,a1⟩];rfl,hE.drew⟩)
   |false=>
    have a4:decide ((36:Int)<=nth l k)=false:=decide_eq_false (by have:=of_decide_eq_false b2;omega);refine bP (d:=22) rfl (b':=false) (rfl) ?_;refine zh ?_
    cases b3:decide ((0:Int)<(k:Int))with
    |false=>
     have a0:jU l k=false:=by unfold jU;rw[b1,a4,b3];rfl
     refine bP (d:=25) rfl (b':=false) (rfl) ?_;refine zh ?_
     refine zw (aW rfl rfl) ?_;refine zw (aW rfl rfl) ?_
     refine Lx ?_;refine zh ?_
     refine zFH rfl rfl ?_;refine zxd (k+1,w1.drew) (⟨a2,hE.drew,fun i hi=>(As.1 hi).elim (a3 i) (fun e=>by rw[e];exact a0)⟩)
    |true=>
     have a7:=of_decide_eq_true b3;have m2:=h1.ld (i:=k-1) zo;refine bP (d:=25) rfl (b':=true) (rfl) ?_;refine zh ?_;rw[show(k:Int)-1=((k-1:Nat):Int)from by omega];refine zh ?_;refine zw (aQ rfl rfl) ?_;refine zw (aW rfl rfl) ?_;refine Lx ?_;refine zh ?_;refine zC ?_ ?_
     ·intro hy;have a1:jU l k=true:=by unfold jU;rw[b1,a4,b3];exact hy
      refine zh ?_;refine ae rfl rfl (⟨by unfold dj;rw[cQ.2 ⟨k,a2,a1⟩];rfl,hE.drew⟩)
     intro hy;have a0:jU l k=false:=by unfold jU;rw[b1,a4,b3];exact hy
     refine zh ?_;refine zxd (k+1,w1.drew) (⟨a2,hE.drew,fun i hi=>(As.1 hi).elim (a3 i) (fun e=>by rw[e];exact a0)⟩)
 intro a5;replace a5:l.length<=k:=dF a5;refine zh ?_;refine ae rfl rfl (⟨by unfold dj;rw[bz.2 fun i hi=>a3 i zo];rfl,hE⟩)
theorem pZ(q:Int):∀(n:Nat) (t:Nd),nsz t<=n->∀(x:N3) (w:CR),Nt (fun _=>0) w t x->KK JQ 74 [nv x,nI q] w fun v w'=>v=.bool (Aj q t)/\JV w w'
 |0,t,hn=>by have:=cN t;omega
 |n+1,.mk k c kids,hn=>by
  intro x w h;have a7:=h.ones;obtain⟨xs,hs,hf,hl,hk⟩:=h.kids;simp only[KY]at hl hk;simp only[nsz]at hn;have hM:Aj q (.mk k c kids)=((k==q)||CK q kids):=rfl;rw[hM];generalize x.2.2=sv at *;subst a7;simp only[KX,Lb];have a':=hs.len_le;refine J5 func74 ntmps74 rfl rfl ?_;refine zh ?_;refine aE (au w) 1 zo rfl rfl ?_;intro xb w1 O1 a4 b1 b2 a2;have c0:w1.cell? (nA xb 0)=some (nI k):=a4.cell 0 rfl;have c2:w1.cell? (nA xb 2)=some sv:=a4.cell 2 rfl;have a9:=hs.ext a2;refine zh ?_;refine zlp (fun y:Nat×CR=>[(1,nI q),(2,nP xb),(5,nI y.1)]) (fun y=>y.2) (fun y=>y.1<=xs.length/\JV w1 y.2/\∀i,i<y.1->Aj q (nth kids i)=false) (fun y=>xs.length-y.1) (0,w1) (⟨vX _,Fu _,fun i hi=>absurd hi (J0 i)⟩) ?_;rintro⟨i,w2⟩ ⟨hi,a0,a3⟩;dsimp only at hi a0 a3 ⊢;have a8:=a9.ext a0;have d0:=a0.cell c0;have d2:=a0.cell c2;refine zh ?_;refine zC ?_ ?_
  ·intro a1;replace a1:i<xs.length:=dT a1;have b0:=bD kids i zo;refine zh ?_;refine zvH (ai (us:=aY (nth xs i)) (fun j u hu=>a8.cell a1 hu) (Ju _) (Ji _) rfl) ?_;refine zc call74 (pZ q n (nth kids i) zo (nth xs i) w2 ((hk i a1).ext (a2.trans a0))) ?_;rintro v w3 ⟨rfl,a6⟩;refine zh ?_;refine zC ?_ ?_
   ·intro hy;have hL:CK q kids=true:=by rw[<-rW];exact cQ.2 ⟨i,zo,hy⟩
    refine zh ?_;refine ae rfl rfl (⟨by rw[hL,Bool.or_true],(a2.trans a0).trans a6⟩)
   intro hy;refine zh ?_;refine zxd (i+1,w3) (⟨a1,a0.trans a6,fun j hj=>(As.1 hj).elim (a3 j) (fun e=>by rw[e];exact hy)⟩)
  intro a5;replace a5:xs.length<=i:=dF a5;have hL:CK q kids=false:=by rw[<-rW];exact bz.2 fun j hj=>a3 j zo
  refine zh ?_;refine ae rfl rfl (⟨by rw[hL,Bool.or_false],a2.trans a0⟩)
theorem jv:∀(n:Nat),n<=1000000->∀(t:Nd),nsz t<=n->(∃wi,bH t wi=true)->∀(x:N3) (w:CR),Nt (fun _=>0) w t x->KK JQ 73 [nv x] w fun v w'=>v=nI (bX t)/\JV w w'
 |0,_,t,hn,_=>by have:=cN t;omega
 |n+1,hn6,.mk k c kids,hn,⟨wi,hfit⟩=>by
  intro x w h;have b2:=h.ones;obtain⟨xs,hs,hf,hl,hk⟩:=h.kids;simp only[KY]at hl hk;simp only[nsz]at hn;simp only[bH,DZ]at hfit;obtain⟨a7,a6⟩:=hfit;have d4:=dm a7;have hM:bX (.mk k c kids)=if k=6\/k=7 then -1 else if k=9 then 0 else if k=4\/k=5\/k=8 then cD (k==4) 0 kids else 1:=rfl
  generalize x.2.2=sv at *;subst b2;simp only[KX,Lb];have b9:=hs.len_le;have d1:=ef kids;refine J5 func73 ntmps73 rfl rfl ?_;refine zh ?_;refine aE (au w) 1 zo rfl rfl ?_;intro xb w1 O1 b0 d5 d6 a4;have c0:w1.cell? (nA xb 0)=some (nI k):=b0.cell 0 rfl;have c2:w1.cell? (nA xb 2)=some sv:=b0.cell 2 rfl;have b5:=hs.ext a4;refine zh ?_;refine bK (fun w1=>_=w1) ((k==7)) 3 (rfl) rfl rfl rfl rfl rfl ?_ ?_
  ·intro a1;refine zh ?_;refine nE 10 4 (rfl) a1
  rintro _ rfl;refine zh ?_;refine zC ?_ ?_
  ·intro hc;simp only[JY,beq_iff_eq]at hc;refine zh ?_;refine ae rfl rfl (⟨by rw[hM,if_pos hc],a4⟩)
  intro hc;simp only[Ki,beq_eq_false_iff_ne]at hc;refine zh ?_;refine zC ?_ ?_
  ·intro a8;replace a8:=of_decide_eq_true a8;refine zh ?_;refine ae rfl rfl (⟨by rw[hM,if_neg zo,if_neg zo,if_neg zo],a4⟩)
  intro a8;replace a8:=of_decide_eq_false a8;have c6:bX (.mk k c kids)=cD (k==4) 0 kids:=by
   rw[hM,if_neg zo]
   by_cases h9:k=9
   ·obtain rfl:kids=[]:=J7 zo;rw[if_pos h9];rfl
   rw[if_neg h9,if_pos zo]
  rw[c6];refine zh ?_;refine zlp (fun y:Nat×Int×Int×CR=>[(1,nP xb),(3,nI y.2.1),(4,nI y.2.2.1),(5,nI y.1)]) (fun y=>y.2.2.2) (fun y=>y.1<=xs.length/\0<=y.2.1/\y.2.1<=dr (kids.take y.1)/\0<=y.2.2.1/\y.2.2.1<=dr (kids.take y.1)/\cD true y.2.1 (kids.drop y.1)=cD true 0 kids/\cD false y.2.2.1 (kids.drop y.1)=cD false 0 kids/\JV w1 y.2.2.2) (fun y=>xs.length-y.1) (0,0,0,w1) (⟨vX _,LC _,by simp[dr],LC _,by simp[dr],rfl,rfl,Fu _⟩) ?_;rintro⟨i,su,mo,w2⟩ ⟨hi,b6,b3,b8,b7,a0,a2,a3⟩;dsimp only at hi b6 b3 b8 b7 a0 a2 a3 ⊢;have b4:=b5.ext a3;have d0:=a3.cell c0;have d2:=a3.cell c2;refine zh ?_;refine zC ?_ ?_
  ·intro a5;replace a5:i<xs.length:=dT a5;have c':=bD kids i zo;have c8:=dJ kids i zo;have c7:=cp kids (i+1);have c9:=kI (nth kids i);have b':bH (nth kids i) true=true:=oz kids a6 _ (by rw[aB zo];exact Kz _);rw[jQ zo]at a0 a2;have hu:∀s a9,cD s a9 (nth kids i::kids.drop (i+1))=if bX (nth kids i)<0 then -1 else cD s (if s=true then a9+bX (nth kids i)else max a9 (bX (nth kids i))) (kids.drop (i+1)):=fun s a9=>rfl
   rw[hu]at a0 a2;refine zh ?_;refine zv (ai (us:=aY (nth xs i)) (fun j u hu=>b4.cell a5 hu) (Ju _) (Ji _) rfl) ?_;refine zc call73 (jv n zo (nth kids i) zo ⟨true,b'⟩ (nth xs i) w2 ((hk i a5).ext (a4.trans a3))) ?_;rintro v w3 ⟨rfl,b1⟩;refine zh ?_;refine zC ?_ ?_
   ·intro hy;replace hy:=of_decide_eq_true hy;rw[if_pos hy]at a0 a2;have a':cD (k==4) 0 kids = -1:=by
     cases d3:(k==4)with
     |false=>exact a2.symm
     |true=>exact a0.symm
    refine zh ?_;refine ae rfl rfl (⟨by rw[a'],(a4.trans a3).trans b1⟩)
   intro hy;replace hy:=of_decide_eq_false hy;rw[if_neg hy]at a0 a2;refine zh ?_;refine zvH (gH rfl rfl) ?_;refine zxd (i+1,su+bX (nth kids i),max mo (bX (nth kids i)),w3) (⟨a5,by dsimp only;omega,by dsimp only;omega,by dsimp only;omega,by dsimp only;omega,a0,a2,a3.trans b1⟩)
  intro c5;obtain rfl:i=xs.length:=dF c5;rw[Ka zo]at a0 a2;refine zh ?_;refine zC ?_ ?_
  ·intro h4;refine zh ?_;refine ae rfl rfl (⟨by rw[h4,<-a0];rfl,a4.trans a3⟩)
  intro h4;refine zh ?_;refine ae rfl rfl (⟨by rw[h4,<-a2];rfl,a4.trans a3⟩)
theorem tp(t:Nd)(x:N3)(w:CR)(h:Nt (fun _=>0) w t x)(hr:bj t=true):KK JQ 39 [nv x] w fun v w'=>v=nI (da t)/\JV w w':=by
 have hx:=h.ones;have a4:=hr;simp only[bj,DZ,decide_eq_true_eq]at hr;refine J5 func39 ntmps39 rfl rfl ?_;refine zh ?_;refine aE (au w) 1 zo rfl rfl ?_;intro xb w1 O1 a6 a9 a' a3;have a5:∀W,JV w1 W->∀(j:Nat) (u:J9),(aY x)[j]? = some u->W.cell? (nA xb j)=some u:=fun W hE j u hu=>hE.cell (a6.cellsAdd j u hu)
 refine zh ?_;refine zv (ai (us:=aY x) (a5 w1 (Fu _)) (Ju _) (Ji _) rfl) ?_
 refine zc call73 (jv 2000 zd t hr.1 ⟨false,hr.2⟩ x w1 (h.ext a3)) ?_;rintro v w2 ⟨rfl,a2⟩;refine zh ?_
 refine zv (ai (us:=aY x) (a5 w2 a2) (Ju _) (Ji _) rfl) ?_;refine zc call74 (pZ 3 (nsz t) t (J2 _) x w2 (h.ext (a3.trans a2))) ?_
 rintro v w3 ⟨rfl,a8⟩;have a0:=(a3.trans a2).trans a8;refine zh ?_;refine zC ?_ ?_
 ·intro h1;refine zh ?_;refine ae rfl rfl (⟨by unfold da;rw[a4,h1];rfl,a0⟩)
 intro h1;have a7:da t=if(decide (bX t<0)||decide (4<bX t))=true then 8 else 0:=by
  unfold da tL tK;rw[a4,h1,if_neg zd,if_pos rfl]
  by_cases h0:bX t<0
  ·rw[decide_eq_true h0,decide_eq_false (show¬(0:Int)<=bX t by omega)];rfl
  rw[decide_eq_false h0,decide_eq_true (show(0:Int)<=bX t by omega),show max (bX t) 0=bX t by omega];rfl
 rw[a7];refine zh ?_;refine bK (fun w1=>_=w1) (decide (4<bX t)) 2 (rfl) rfl rfl rfl rfl rfl ?_ ?_
 ·intro a1;refine zh ?_;refine nE 12 3 (rfl) a1
 rintro _ rfl;refine zh ?_;refine zC ?_ ?_
 ·intro h2;refine zh ?_;refine ae rfl rfl (⟨by rw[if_pos h2],a0⟩)
 intro h2;refine zh ?_;refine ae rfl rfl (⟨by rw[if_neg (by rw[h2];decide)],a0⟩)
theorem IJ{k c:Int}{kids:List Nd}{wi:Bool}(h:(k<0\/9<k)\/(k=9/\wi=true)):bH (.mk k c kids) wi=false:=by
 cases hq:bH (.mk k c kids) wi with
 |false=>rfl
 |true=>
  simp only[bH,DZ]at hq;have hc:=dm hq.1
  rcases h with h|⟨rfl,rfl⟩
  ·omega
  simp at hc
theorem GZ{k c:Int}{kids:List Nd}{wi:Bool}(hk:k=0\/k=2):bH (.mk k c kids) wi=(((((kids.length:Nat):Int)==0)&&decide (0<=c))&&decide (c<=35)):=by
 rw[JZ]
 cases kids with
 |nil=>rcases hk with rfl|rfl<;>simp[bH,eJ,fo,least,fx,named]<;>omega
 |cons a r=>
  constructor
  ·intro h;simp only[bH,DZ]at h;have hc:=dm h.1;simp only[K9]at hc;omega
  intro h;simp at h;omega
theorem Gc{k c:Int}{kids:List Nd}{wi:Bool}(hk:(k=1\/k=3)\/(k=9/\wi=false)):bH (.mk k c kids) wi=((((kids.length:Nat):Int)==0)&&(c==0)):=by
 rw[JZ]
 cases kids with
 |nil=>rcases hk with(rfl|rfl)|⟨rfl,rfl⟩<;>simp[bH,eJ,fo,least,fx,named]
 |cons a r=>
  constructor
  ·intro h;simp only[bH,DZ]at h;have hc:=dm h.1;simp only[K9]at hc;omega
  intro h;simp at h;omega
theorem GY{k c:Int}{kids:List Nd}{wi:Bool}(hk:k=4\/k=5)(h:kids.length<2):bH (.mk k c kids) wi=false:=by
 cases hq:bH (.mk k c kids) wi with
 |false=>rfl
 |true=>
  simp only[bH,DZ]at hq;have hc:=dm hq.1;omega
theorem Gb{k c:Int}{kids:List Nd}{wi:Bool}(hk:k=6\/k=7\/k=8)(h:kids.length≠1):bH (.mk k c kids) wi=false:=by
 cases hq:bH (.mk k c kids) wi with
 |false=>rfl
 |true=>
  simp only[bH,DZ]at hq;have hc:=dm hq.1;omega
theorem BW{k c:Int}{kids:List Nd}{wi:Bool}(hk:((k=4\/k=5)/\2<=kids.length)\/((k=6\/k=7\/k=8)/\kids.length=1))(hn:kids.length<=2000)(hf:eJ kids=true):bH (.mk k c kids) wi=(c==0):=by
 have hF:bH (.mk k c kids) wi=(fo k c kids.length wi&&eJ kids):=rfl;rw[hF,hf,Bool.and_true,JZ];generalize kids.length=m at *
 rcases hk with⟨rfl|rfl,h⟩|⟨rfl|rfl|rfl,rfl⟩<;>simp[fo,least,fx,named]<;>omega
theorem BV{k c:Int}{kids:List Nd}{wi:Bool}{i:Nat}(hi:i<kids.length)(hy:bH (nth kids i) true=false):bH (.mk k c kids) wi=false:=by
 have a0:eJ kids=false:=by
  cases hq:eJ kids with
  |false=>rfl
  |true=>exact absurd (oz kids hq (nth kids i) (by rw[aB hi];exact Kz _)) (by rw[hy];decide)
 have hF:bH (.mk k c kids) wi=(fo k c kids.length wi&&eJ kids):=rfl;rw[hF,a0,Kj]
theorem cy:∀(n:Nat),n<=2000->∀(t:Nd),nsz t<=n->∀(x:N3) (w:CR) (wi:Bool),Nt (fun _=>0) w t x->KK JQ 38 [nv x,.bool wi] w fun v w'=>v=.bool (bH t wi)/\JV w w'
 |0,_,t,hn=>by have:=cN t;omega
 |n+1,hn2,.mk k c kids,hn=>by
  intro x w wi h;have c5:=h.ones;have b9:=h;obtain⟨xs,hs,hf,hl,hk⟩:=h.kids;simp only[KY]at hl hk;have d1:nsz (.mk k c kids)<=2000:=zo;simp only[nsz]at hn;have d2:=ef kids;have b0:kids.length<=2000:=zo;generalize c':x.2.2=sv at *;subst c5;simp only[KX,Lb];simp only[KX,Lb]at b9;have c6:=hs.len_le;refine J5 func38 ntmps38 rfl rfl ?_;refine zh ?_;refine aE (au w) 1 zo rfl rfl ?_;intro xb w1 O1 b7 d4 d5 a7;have c9:∀W,JV w1 W->∀(j:Nat) (u:J9),(aY (k,c,sv))[j]? = some u->W.cell? (nA xb j)=some u:=fun W hE j u hu=>hE.cell (b7.cellsAdd j u hu)
  have c0:∀W,JV w1 W->W.cell? (nA xb 0)=some (nI k):=fun W hE=>hE.cell (b7.cell 0 rfl)
  have c1:∀W,JV w1 W->W.cell? (nA xb 1)=some (nI c):=fun W hE=>hE.cell (b7.cell 1 rfl)
  have c2:∀W,JV w1 W->W.cell? (nA xb 2)=some sv:=fun W hE=>hE.cell (b7.cell 2 rfl)
  refine zh ?_;refine aP (JV w1) (false) 3 (Fu w1) rfl rfl rfl rfl rfl ?_ ?_
  ·intro a1;refine zh ?_;refine zvH (ai (us:=aY (k,c,sv)) (c9 _ (Fu _)) (Ju _) (Ji _) rfl) ?_;refine zc M7 (fK (nsz (.mk k c kids)) (.mk k c kids) (J2 _) (k,c,sv) w1 2000 (b9.ext a7) zd) ?_;rintro v w2 ⟨rfl,a8⟩;rw[show min (nsz (.mk k c kids)) (2000+1)=nsz (.mk k c kids)from by omega];refine zh ?_;rw[decide_eq_false (show¬((2000:Int)<((nsz (.mk k c kids):Nat):Int))from by omega)];refine zh ?_;refine nE 9 4 (a8) a1
  intro w2 a8;refine zh ?_;refine bK (fun w1=>_=w1) (decide (k<0)) 3 (rfl) rfl rfl rfl rfl rfl ?_ ?_
  ·intro a2;refine zh ?_;refine zvH (RV.ld (c0 _ a8) rfl) ?_;refine nE 14 4 (rfl) a2
  rintro _ rfl;refine zh ?_;refine bK (fun w1=>_=w1) (decide (9<k)) 3 (rfl) rfl rfl rfl rfl rfl ?_ ?_
  ·intro a3;refine zh ?_;refine zvH (RV.ld (c0 _ a8) rfl) ?_;refine nE 19 4 (rfl) a3
  rintro _ rfl;refine zh ?_;refine bK (fun w1=>_=w1) (((k==9)&&wi)) 6 (rfl) rfl rfl rfl rfl rfl ?_ ?_
  ·intro a4;refine zh ?_;refine zvH (RV.ld (c0 _ a8) rfl) ?_
   cases c8:(k==9)with
   |true=>
    refine ay (d:=28) rfl (b':=true) (rfl) ?_;refine zh ?_
    refine nE 24 8 (rfl) a4
   |false=>
    refine ay (d:=28) rfl (b':=false) (rfl) ?_;refine zh ?_
    refine nE 24 8 (rfl) a4
  rintro _ rfl;have hE:=a7.trans a8;refine zh ?_;refine zC ?_ ?_
  ·intro hc
   have hz:bH (.mk k c kids) wi=false:=IJ (by
    simp only[Kj,Km,JY,DZ,decide_eq_true_eq,beq_iff_eq]at hc
    exact hc)
   refine zh ?_;refine ae rfl rfl (⟨by rw[hz],hE⟩)
  intro hc;simp only[Kj,Km,Ki,decide_eq_false_iff_not]at hc;obtain⟨⟨d3,c8⟩,h9⟩:=hc;have d0:=hs.ext hE;refine zh ?_;refine zvH (RV.ld (c2 _ a8) rfl) ?_;refine zvH (RV.ld (c0 _ a8) rfl) ?_;have c7:k=0\/k=1\/k=2\/k=3\/k=4\/k=5\/k=6\/k=7\/k=8\/k=9:=zo
  rcases c7 with rfl|rfl|rfl|rfl|rfl|rfl|rfl|rfl|rfl|rfl
  ·refine zTH rfl rfl ?_;refine zTH rfl rfl ?_
   refine aP (fun w1=>_=w1) (decide (0<=c)) 3 (rfl) rfl rfl rfl rfl rfl ?_ ?_
   ·intro b1;refine zh ?_;refine zvH (RV.ld (c1 _ a8) rfl) ?_;refine nE 44 4 (rfl) b1
   rintro _ rfl;refine zh ?_;refine aP (fun w1=>_=w1) (decide (c<=35)) 3 (rfl) rfl rfl rfl rfl rfl ?_ ?_
   ·intro b2;refine zh ?_;refine zvH (RV.ld (c1 _ a8) rfl) ?_;refine nE 49 4 (rfl) b2
   rintro _ rfl;have hz:=GZ (k:=0) (c:=c) (kids:=kids) (wi:=wi) zd;rw[hl]at hz;refine zh ?_;refine ae rfl rfl (⟨by rw[hz],hE⟩)
  ·refine zFH rfl rfl ?_;refine zFH rfl rfl ?_
   refine zTH rfl rfl ?_;refine zTH rfl rfl ?_
   refine aP (fun w1=>_=w1) ((c==0)) 3 (rfl) rfl rfl rfl rfl rfl ?_ ?_
   ·intro b1;refine zh ?_;refine zvH (RV.ld (c1 _ a8) rfl) ?_;refine nE 60 4 (rfl) b1
   rintro _ rfl;have hz:=Gc (k:=1) (c:=c) (kids:=kids) (wi:=wi) (.inl zd);rw[hl]at hz;refine zh ?_;refine ae rfl rfl (⟨by rw[hz],hE⟩)
  ·refine zFH rfl rfl ?_;refine zTH rfl rfl ?_
   refine aP (fun w1=>_=w1) (decide (0<=c)) 3 (rfl) rfl rfl rfl rfl rfl ?_ ?_
   ·intro b1;refine zh ?_;refine zvH (RV.ld (c1 _ a8) rfl) ?_;refine nE 44 4 (rfl) b1
   rintro _ rfl;refine zh ?_;refine aP (fun w1=>_=w1) (decide (c<=35)) 3 (rfl) rfl rfl rfl rfl rfl ?_ ?_
   ·intro b2;refine zh ?_;refine zvH (RV.ld (c1 _ a8) rfl) ?_;refine nE 49 4 (rfl) b2
   rintro _ rfl;have hz:=GZ (k:=2) (c:=c) (kids:=kids) (wi:=wi) zd;rw[hl]at hz;refine zh ?_;refine ae rfl rfl (⟨by rw[hz],hE⟩)
  ·refine zFH rfl rfl ?_;refine zFH rfl rfl ?_
   refine zFH rfl rfl ?_;refine zTH rfl rfl ?_
   refine zTH rfl rfl ?_;refine aP (fun w1=>_=w1) ((c==0)) 3 (rfl) rfl rfl rfl rfl rfl ?_ ?_
   ·intro b1;refine zh ?_;refine zvH (RV.ld (c1 _ a8) rfl) ?_;refine nE 60 4 (rfl) b1
   rintro _ rfl;have hz:=Gc (k:=3) (c:=c) (kids:=kids) (wi:=wi) (.inl zd);rw[hl]at hz;refine zh ?_;refine ae rfl rfl (⟨by rw[hz],hE⟩)
  ·refine zFH rfl rfl ?_;refine zFH rfl rfl ?_
   refine zFH rfl rfl ?_;refine zFH rfl rfl ?_
   refine zFH rfl rfl ?_;refine zTH rfl rfl ?_
   refine zTH rfl rfl ?_;refine zC ?_ ?_
   ·intro h2;replace h2:=of_decide_eq_true h2;have hz:=GY (k:=4) (c:=c) (wi:=wi) (kids:=kids) zd zo;refine zh ?_;refine ae rfl rfl (⟨by rw[hz],hE⟩)
   intro h2;replace h2:=of_decide_eq_false h2;have b5:((((4:Int)=4\/(4:Int)=5)/\2<=kids.length)\/(((4:Int)=6\/(4:Int)=7\/(4:Int)=8)/\kids.length=1)):=.inl ⟨zd,zo⟩;refine zh ?_;refine zlp (fun y:Nat×CR=>[(2,nP xb),(5,nI xs.length),(6,nI y.1)]) (fun y=>y.2) (fun y=>y.1<=xs.length/\JV w1 y.2/\∀i,i<y.1->bH (nth kids i) true=true) (fun y=>xs.length-y.1) (0,w2) (⟨vX _,a8,fun i hi=>absurd hi (J0 i)⟩) ?_;rintro⟨i,w3⟩ ⟨hi,a0,a5⟩;dsimp only at hi a0 a5 ⊢;have b3:=hs.ext (a7.trans a0);refine zh ?_;refine zC ?_ ?_
   ·intro a6;replace a6:i<xs.length:=dT a6;have b8:=bD kids i zo;refine zh ?_;refine zvH (RV.ld (c2 _ a0) rfl) ?_;refine zv (ai (us:=aY (nth xs i)) (fun j u hu=>b3.cell a6 hu) (Ju _) (Ji _) rfl) ?_;refine zc KQ (cy n zo (nth kids i) zo (nth xs i) w3 true ((hk i a6).ext (a7.trans a0))) ?_;rintro u w4 ⟨rfl,a'⟩;refine zh ?_;refine zC ?_ ?_
    ·intro hy;replace hy:bH (nth kids i) true=false:=by simpa using hy
     have hz:=BV (k:=4) (c:=c) (wi:=wi) (show i<kids.length by omega) hy;refine zh ?_;refine ae rfl rfl (⟨by rw[hz],(a7.trans a0).trans a'⟩)
    intro hy;replace hy:bH (nth kids i) true=true:=by simpa using hy
    refine zh ?_;refine zxd (i+1,w4) (⟨a6,a0.trans a',fun j hj=>(As.1 hj).elim (a5 j) (fun e=>by rw[e];exact hy)⟩)
   intro a9;replace a9:xs.length<=i:=dF a9;have b4:eJ kids=true:=by
    rw[<-fV,JN];exact bz.2 fun j hj=>by rw[a5 j zo];rfl
   have hz:=BW (k:=4) (c:=c) (wi:=wi) b5 b0 b4;refine zh ?_;refine zvH (RV.ld (c1 _ a0) rfl) ?_;refine ae rfl rfl (⟨by rw[hz],a7.trans a0⟩)
  ·refine zFH rfl rfl ?_;refine zFH rfl rfl ?_
   refine zFH rfl rfl ?_;refine zFH rfl rfl ?_
   refine zFH rfl rfl ?_;refine zFH rfl rfl ?_
   refine zTH rfl rfl ?_;refine zC ?_ ?_
   ·intro h2;replace h2:=of_decide_eq_true h2;have hz:=GY (k:=5) (c:=c) (wi:=wi) (kids:=kids) zd zo;refine zh ?_;refine ae rfl rfl (⟨by rw[hz],hE⟩)
   intro h2;replace h2:=of_decide_eq_false h2;have b5:((((5:Int)=4\/(5:Int)=5)/\2<=kids.length)\/(((5:Int)=6\/(5:Int)=7\/(5:Int)=8)/\kids.length=1)):=.inl ⟨zd,zo⟩;refine zh ?_;refine zlp (fun y:Nat×CR=>[(2,nP xb),(5,nI xs.length),(6,nI y.1)]) (fun y=>y.2) (fun y=>y.1<=xs.length/\JV w1 y.2/\∀i,i<y.1->bH (nth kids i) true=true) (fun y=>xs.length-y.1) (0,w2) (⟨vX _,a8,fun i hi=>absurd hi (J0 i)⟩) ?_;rintro⟨i,w3⟩ ⟨hi,a0,a5⟩;dsimp only at hi a0 a5 ⊢;have b3:=hs.ext (a7.trans a0);refine zh ?_;refine zC ?_ ?_
   ·intro a6;replace a6:i<xs.length:=dT a6;have b8:=bD kids i zo;refine zh ?_;refine zvH (RV.ld (c2 _ a0) rfl) ?_;refine zv (ai (us:=aY (nth xs i)) (fun j u hu=>b3.cell a6 hu) (Ju _) (Ji _) rfl) ?_;refine zc KQ (cy n zo (nth kids i) zo (nth xs i) w3 true ((hk i a6).ext (a7.trans a0))) ?_;rintro u w4 ⟨rfl,a'⟩;refine zh ?_;refine zC ?_ ?_
    ·intro hy;replace hy:bH (nth kids i) true=false:=by simpa using hy
     have hz:=BV (k:=5) (c:=c) (wi:=wi) (show i<kids.length by omega) hy;refine zh ?_;refine ae rfl rfl (⟨by rw[hz],(a7.trans a0).trans a'⟩)
    intro hy;replace hy:bH (nth kids i) true=true:=by simpa using hy
    refine zh ?_;refine zxd (i+1,w4) (⟨a6,a0.trans a',fun j hj=>(As.1 hj).elim (a5 j) (fun e=>by rw[e];exact hy)⟩)
   intro a9;replace a9:xs.length<=i:=dF a9;have b4:eJ kids=true:=by
    rw[<-fV,JN];exact bz.2 fun j hj=>by rw[a5 j zo];rfl
   have hz:=BW (k:=5) (c:=c) (wi:=wi) b5 b0 b4;refine zh ?_;refine zvH (RV.ld (c1 _ a0) rfl) ?_;refine ae rfl rfl (⟨by rw[hz],a7.trans a0⟩)
  ·refine zFH rfl rfl ?_;refine zFH rfl rfl ?_
   refine zFH rfl rfl ?_;refine zFH rfl rfl ?_
   refine zFH rfl rfl ?_;refine zFH rfl rfl ?_
   refine zFH rfl rfl ?_;refine zC ?_ ?_
   ·intro h2;have b6:(xs.length:Int)≠1:=by simpa using h2
    have hz:=Gb (k:=6) (c:=c) (wi:=wi) (kids:=kids) zd zo;refine zh ?_;refine ae rfl rfl (⟨by rw[hz],hE⟩)
   intro h2;have b6:(xs.length:Int)=1:=by simpa using h2
   have b5:((((6:Int)=4\/(6:Int)=5)/\2<=kids.length)\/(((6:Int)=6\/(6:Int)=7\/(6:Int)=8)/\kids.length=1)):=.inr ⟨zd,zo⟩;refine zh ?_;refine zlp (fun y:Nat×CR=>[(2,nP xb),(5,nI xs.length),(6,nI y.1)]) (fun y=>y.2) (fun y=>y.1<=xs.length/\JV w1 y.2/\∀i,i<y.1->bH (nth kids i) true=true) (fun y=>xs.length-y.1) (0,w2) (⟨vX _,a8,fun i hi=>absurd hi (J0 i)⟩) ?_;rintro⟨i,w3⟩ ⟨hi,a0,a5⟩;dsimp only at hi a0 a5 ⊢;have b3:=hs.ext (a7.trans a0);refine zh ?_;refine zC ?_ ?_
   ·intro a6;replace a6:i<xs.length:=dT a6;have b8:=bD kids i zo;refine zh ?_;refine zvH (RV.ld (c2 _ a0) rfl) ?_;refine zv (ai (us:=aY (nth xs i)) (fun j u hu=>b3.cell a6 hu) (Ju _) (Ji _) rfl) ?_;refine zc KQ (cy n zo (nth kids i) zo (nth xs i) w3 true ((hk i a6).ext (a7.trans a0))) ?_;rintro u w4 ⟨rfl,a'⟩;refine zh ?_;refine zC ?_ ?_
    ·intro hy;replace hy:bH (nth kids i) true=false:=by simpa using hy
     have hz:=BV (k:=6) (c:=c) (wi:=wi) (show i<kids.length by omega) hy;refine zh ?_;refine ae rfl rfl (⟨by rw[hz],(a7.trans a0).trans a'⟩)
    intro hy;replace hy:bH (nth kids i) true=true:=by simpa using hy
    refine zh ?_;refine zxd (i+1,w4) (⟨a6,a0.trans a',fun j hj=>(As.1 hj).elim (a5 j) (fun e=>by rw[e];exact hy)⟩)
   intro a9;replace a9:xs.length<=i:=dF a9;have b4:eJ kids=true:=by
    rw[<-fV,JN];exact bz.2 fun j hj=>by rw[a5 j zo];rfl
   have hz:=BW (k:=6) (c:=c) (wi:=wi) b5 b0 b4;refine zh ?_;refine zvH (RV.ld (c1 _ a0) rfl) ?_;refine ae rfl rfl (⟨by rw[hz],a7.trans a0⟩)
  ·refine zFH rfl rfl ?_;refine zFH rfl rfl ?_
   refine zFH rfl rfl ?_;refine zFH rfl rfl ?_
   refine zFH rfl rfl ?_;refine zFH rfl rfl ?_
   refine zFH rfl rfl ?_;refine zC ?_ ?_
   ·intro h2;have b6:(xs.length:Int)≠1:=by simpa using h2
    have hz:=Gb (k:=7) (c:=c) (wi:=wi) (kids:=kids) zd zo;refine zh ?_;refine ae rfl rfl (⟨by rw[hz],hE⟩)
   intro h2;have b6:(xs.length:Int)=1:=by simpa using h2
   have b5:((((7:Int)=4\/(7:Int)=5)/\2<=kids.length)\/(((7:Int)=6\/(7:Int)=7\/(7:Int)=8)/\kids.length=1)):=.inr ⟨zd,zo⟩;refine zh ?_;refine zlp (fun y:Nat×CR=>[(2,nP xb),(5,nI xs.length),(6,nI y.1)]) (fun y=>y.2) (fun y=>y.1<=xs.length/\JV w1 y.2/\∀i,i<y.1->bH (nth kids i) true=true) (fun y=>xs.length-y.1) (0,w2) (⟨vX _,a8,fun i hi=>absurd hi (J0 i)⟩) ?_;rintro⟨i,w3⟩ ⟨hi,a0,a5⟩;dsimp only at hi a0 a5 ⊢;have b3:=hs.ext (a7.trans a0);refine zh ?_;refine zC ?_ ?_
   ·intro a6;replace a6:i<xs.length:=dT a6;have b8:=bD kids i zo;refine zh ?_;refine zvH (RV.ld (c2 _ a0) rfl) ?_;refine zv (ai (us:=aY (nth xs i)) (fun j u hu=>b3.cell a6 hu) (Ju _) (Ji _) rfl) ?_;refine zc KQ (cy n zo (nth kids i) zo (nth xs i) w3 true ((hk i a6).ext (a7.trans a0))) ?_;rintro u w4 ⟨rfl,a'⟩;refine zh ?_;refine zC ?_ ?_
    ·intro hy;replace hy:bH (nth kids i) true=false:=by simpa using hy
     have hz:=BV (k:=7) (c:=c) (wi:=wi) (show i<kids.length by omega) hy;refine zh ?_;refine ae rfl rfl (⟨by rw[hz],(a7.trans a0).trans a'⟩)
    intro hy;replace hy:bH (nth kids i) true=true:=by simpa using hy
    refine zh ?_;refine zxd (i+1,w4) (⟨a6,a0.trans a',fun j hj=>(As.1 hj).elim (a5 j) (fun e=>by rw[e];exact hy)⟩)
   intro a9;replace a9:xs.length<=i:=dF a9;have b4:eJ kids=true:=by
    rw[<-fV,JN];exact bz.2 fun j hj=>by rw[a5 j zo];rfl
   have hz:=BW (k:=7) (c:=c) (wi:=wi) b5 b0 b4;refine zh ?_;refine zvH (RV.ld (c1 _ a0) rfl) ?_;refine ae rfl rfl (⟨by rw[hz],a7.trans a0⟩)
  ·refine zFH rfl rfl ?_;refine zFH rfl rfl ?_
   refine zFH rfl rfl ?_;refine zFH rfl rfl ?_
   refine zFH rfl rfl ?_;refine zFH rfl rfl ?_
   refine zFH rfl rfl ?_;refine zC ?_ ?_
   ·intro h2;have b6:(xs.length:Int)≠1:=by simpa using h2
    have hz:=Gb (k:=8) (c:=c) (wi:=wi) (kids:=kids) zd zo;refine zh ?_;refine ae rfl rfl (⟨by rw[hz],hE⟩)
   intro h2;have b6:(xs.length:Int)=1:=by simpa using h2
   have b5:((((8:Int)=4\/(8:Int)=5)/\2<=kids.length)\/(((8:Int)=6\/(8:Int)=7\/(8:Int)=8)/\kids.length=1)):=.inr ⟨zd,zo⟩;refine zh ?_;refine zlp (fun y:Nat×CR=>[(2,nP xb),(5,nI xs.length),(6,nI y.1)]) (fun y=>y.2) (fun y=>y.1<=xs.length/\JV w1 y.2/\∀i,i<y.1->bH (nth kids i) true=true) (fun y=>xs.length-y.1) (0,w2) (⟨vX _,a8,fun i hi=>absurd hi (J0 i)⟩) ?_;rintro⟨i,w3⟩ ⟨hi,a0,a5⟩;dsimp only at hi a0 a5 ⊢;have b3:=hs.ext (a7.trans a0);refine zh ?_;refine zC ?_ ?_
   ·intro a6;replace a6:i<xs.length:=dT a6;have b8:=bD kids i zo;refine zh ?_;refine zvH (RV.ld (c2 _ a0) rfl) ?_;refine zv (ai (us:=aY (nth xs i)) (fun j u hu=>b3.cell a6 hu) (Ju _) (Ji _) rfl) ?_;refine zc KQ (cy n zo (nth kids i) zo (nth xs i) w3 true ((hk i a6).ext (a7.trans a0))) ?_;rintro u w4 ⟨rfl,a'⟩;refine zh ?_;refine zC ?_ ?_
    ·intro hy;replace hy:bH (nth kids i) true=false:=by simpa using hy
     have hz:=BV (k:=8) (c:=c) (wi:=wi) (show i<kids.length by omega) hy;refine zh ?_;refine ae rfl rfl (⟨by rw[hz],(a7.trans a0).trans a'⟩)
    intro hy;replace hy:bH (nth kids i) true=true:=by simpa using hy
    refine zh ?_;refine zxd (i+1,w4) (⟨a6,a0.trans a',fun j hj=>(As.1 hj).elim (a5 j) (fun e=>by rw[e];exact hy)⟩)
   intro a9;replace a9:xs.length<=i:=dF a9;have b4:eJ kids=true:=by
    rw[<-fV,JN];exact bz.2 fun j hj=>by rw[a5 j zo];rfl
   have hz:=BW (k:=8) (c:=c) (wi:=wi) b5 b0 b4;refine zh ?_;refine zvH (RV.ld (c1 _ a0) rfl) ?_;refine ae rfl rfl (⟨by rw[hz],a7.trans a0⟩)
  have hw:wi=false:=by simpa using h9
  refine zFH rfl rfl ?_;refine zFH rfl rfl ?_
  refine zFH rfl rfl ?_;refine zFH rfl rfl ?_
  refine zTH rfl rfl ?_;refine aP (fun w1=>_=w1) ((c==0)) 3 (rfl) rfl rfl rfl rfl rfl ?_ ?_
  ·intro b1;refine zh ?_;refine zvH (RV.ld (c1 _ a8) rfl) ?_;refine nE 60 4 (rfl) b1
  rintro _ rfl;have hz:=Gc (k:=9) (c:=c) (kids:=kids) (wi:=wi) (.inr ⟨rfl,hw⟩);rw[hl]at hz;refine zh ?_;refine ae rfl rfl (⟨by rw[hz],hE⟩)
theorem xK{t:Nd}(h:nsz t<=2000):bj t=bH t false:=by
 unfold bj;rw[decide_eq_true h];rfl
theorem rm(li lk:List Int)(ts:List R3)(v:J9)(w:CR)(h:Tx w v li lk ts)(hf:Few li lk ts):KK JQ 11 [v] w fun u w'=>u=.bool (dE li lk ts)/\JV w w':=by
 obtain⟨ig,kp,ru,xs,rfl,h1,h2,h3,h4,h5⟩:=h;have o1:=h1.one;have o2:=h2.one;have o3:=h3.one;obtain⟨f1,f2,f3,f4⟩:=hf;have hR:dE li lk ts=(((decide ((xs.length:Int)<=40)&&dj li)&&dj lk)&&Gi (fun i=>mP (nth ts i)) xs.length):=by
  unfold dE G9 Gi;rw[h4]
 obtain⟨A,hA⟩:∃A,A=((decide ((xs.length:Int)<=40)&&dj li)&&dj lk):=⟨_,rfl⟩
 rw[<-hA]at hR;refine J5 func11 ntmps11 rfl rfl ?_;refine zh ?_;refine aE (au w) 1 zo rfl rfl ?_;intro xb w1 O1 b0 c7 c9 a9;have c0:∀W,JV w1 W->W.cell? (nA xb 0)=some ig:=fun W hE=>hE.cell (b0.cell 0 rfl)
 have c1:∀W,JV w1 W->W.cell? (nA xb 1)=some kp:=fun W hE=>hE.cell (b0.cell 1 rfl)
 have c2:∀W,JV w1 W->W.cell? (nA xb 2)=some ru:=fun W hE=>hE.cell (b0.cell 2 rfl)
 have g3:=h3.ext a9;refine zh ?_;refine zvH (RV.ld (c2 _ (Fu _)) rfl) ?_;refine aP (JV w1) (dj li) 3 (Fu w1) rfl rfl rfl rfl rfl ?_ ?_
 ·intro a1;refine zh ?_;refine zvH (RV.ld (c0 _ (Fu _)) rfl) ?_;refine zc call37 (mq li ig w1 (h1.ext a9)) ?_;rintro u w2 ⟨rfl,a5⟩;refine zh ?_;refine nE 10 4 (a5) a1
 intro w2 a5;refine zh ?_;refine aP (JV w1) (dj lk) 3 (a5) rfl rfl rfl rfl rfl ?_ ?_
 ·intro a2;refine zh ?_;refine zvH (RV.ld (c1 _ a5) rfl) ?_;refine zc call37 (mq lk kp _ (h2.ext (a9.trans a5))) ?_;rintro u w3 ⟨rfl,b'⟩;refine zh ?_;refine nE 15 4 (a5.trans b') a2
 intro w3 b5;refine zh ?_;rw[<-hA];refine zlp (fun y:Nat×Bool×CR=>[(1,nP xb),(3,.bool y.2.1),(4,nI y.1)]) (fun y=>y.2.2) (fun y=>y.1<=xs.length/\JV w1 y.2.2/\(y.2.1=true->A=true/\∀j,j<y.1->mP (nth ts j)=true)/\(y.2.1=false->dE li lk ts=false)) (fun y=>xs.length-y.1) (0,A,w3) (⟨vX _,b5,fun e=>⟨e,fun j hj=>absurd hj (J0 j)⟩,fun e=>by dsimp only at e;rw[hR,e];rfl⟩) ?_;rintro⟨i,ok,w4⟩ ⟨hi,a3,hT,hF⟩;dsimp only at hi a3 hT hF ⊢;have c5:=g3.ext a3;refine zh ?_;refine zvH (RV.ld (c2 _ a3) rfl) ?_;refine aP (fun w1=>_=w1) (ok) 1 (rfl) rfl rfl rfl rfl rfl ?_ ?_
 ·intro b1;refine zh ?_;refine nE 25 2 (rfl) b1
 rintro _ rfl;refine zh ?_;refine zC ?_ ?_
 ·intro hc;simp only[DZ,decide_eq_true_eq]at hc;obtain⟨a7,rfl⟩:=hc;replace a7:i<xs.length:=zo;obtain⟨b6,a0⟩:=hT rfl;have a6:=h5 i a7;have ox:=bU (b:=(nth xs i).2.2) a6.1.one a6.2.1.one;obtain⟨z1,z2⟩:=f4 i zo;refine zh ?_;refine zvH (RV.ld (c2 _ a3) rfl) ?_;refine zv (ai (us:=cj (nth xs i)) (fun j u hu=>c5.cell a7 hu) (isAgg49 _) (Kf _) rfl) ?_;refine ax (au w4) 1 zo (zeroValue49 _) rfl ?_;intro kb w5 O5 b2 b9 c8 c';refine zsb (us:=(cj (nth xs i)).toArray) b2 (Kf _) (Ld.2 ox) ?_;have b8:=b2.setRow (us:=(cj (nth xs i)).toArray);have a8:JV w4 (w5.setRow kb (cj (nth xs i)).toArray):=(b9.trans (Jq zd b2.tag rfl)).ext;generalize w5.setRow kb (cj (nth xs i)).toArray=w6 at *;obtain⟨lx,rx,_,_⟩:=iT b8;have b4:=(a9.trans a3).trans a8;refine zh ?_;refine zv (ai (us:=aY (nth xs i).1) (lx _ (Fu _)) (Ju _) (Ji _) rfl) ?_;refine zc KQ (cy 2000 (J2 _) (nth ts i).1 zo (nth xs i).1 w6 false (a6.1.ext b4)) ?_;rintro u w7 ⟨rfl,a'⟩;rw[<-xK (t:=(nth ts i).1) zo];refine zh ?_;refine aP (JV w6) (bj (nth ts i).2.1) 3 (a') rfl rfl rfl rfl rfl ?_ ?_
  ·intro d1;refine zh ?_;refine zvH (ai (us:=aY (nth xs i).2.1) (rx _ a') (Ju _) (Ji _) rfl) ?_;refine zc KQ (cy 2000 (J2 _) (nth ts i).2.1 zo (nth xs i).2.1 _ false (a6.2.1.ext (b4.trans a'))) ?_;rintro u w8 ⟨rfl,a4⟩;rw[<-xK (t:=(nth ts i).2.1) zo];refine zh ?_;refine nE 38 4 (a'.trans a4) d1
  intro w8 a4;refine zh ?_;refine aP (JV w6) ((da (nth ts i).2.1==0)) 4 (a4) rfl rfl rfl rfl rfl ?_ ?_
  ·intro d2;have b7:bj (nth ts i).2.1=true:=by simp only[DZ]at d2;exact d2.2
   refine zh ?_;refine zvH (ai (us:=aY (nth xs i).2.1) (rx _ a4) (Ju _) (Ji _) rfl) ?_
   refine zc call39 (tp (nth ts i).2.1 (nth xs i).2.1 _ (a6.2.1.ext (b4.trans a4)) b7) ?_;rintro u w9 ⟨rfl,b3⟩;refine zh ?_
   refine nE 43 5 (a4.trans b3) d2
  intro w9 b3;refine zh ?_;refine zxd (i+1,mP (nth ts i),w9) (⟨a7,(a3.trans a8).trans b3,fun e=>⟨b6,fun j hj=>(As.1 hj).elim (a0 j) (fun q=>by rw[q];exact e)⟩,fun e=>by rw[hR,Gh a7 e,Kj]⟩)
 intro hc;simp only[Bool.and_eq_false_iff,decide_eq_false_iff_not]at hc;have hv:ok=dE li lk ts:=by
  cases ok with
  |false=>exact(hF rfl).symm
  |true=>
   obtain⟨b6,a0⟩:=hT rfl;have c6:xs.length<=i:=by
    rcases hc with hc|hc
    ·omega
    cases hc
   rw[hR,b6,DN fun j hj=>a0 j zo];rfl
 refine zh ?_;refine ae rfl rfl (⟨by rw[hv],a9.trans a3⟩)
theorem PostC.shape{B:Nat}{w:CR}{v:J9}{li lk:List Int}{ts:List R3}(h:Ly B w v li lk ts):∃cs:List J9,∃e:Int,v=.tuple #[.agg cs.toArray,nI e]/\cs.length=17/\(cs.all JB=true):=by
 rcases h with⟨_,rfl⟩|⟨_,⟨a,b,a1,a0,u,_,_,_,_,_,_,rfl,hT,_⟩|⟨_,rfl⟩⟩
 ·exact⟨_,1,rfl,rfl,rfl⟩
 ·obtain⟨gv,lc,rc,rfl,h1,h2,h3⟩:=hT;obtain⟨ll,lo⟩:=h2.one;obtain⟨rl,ro⟩:=h3.one;refine⟨_,0,rfl,by simp[ll,rl],?_⟩;rw[Ld];intro x hx;simp only[List.mem_append,JL,K8,or_false]at hx
  rcases hx with(hx|hx)|hx
  ·rcases hx with rfl|rfl|rfl|rfl|rfl
   ·rfl
   ·rfl
   ·rfl
   ·rfl
   exact h1.one
  ·exact lo x hx
  exact ro x hx
 exact⟨_,7,rfl,rfl,rfl⟩
theorem TabV.ext{w w':CR}{v:J9}{t:TabM}(h:TabV w v t)(e:JV w w'):TabV w' v t:=by
 obtain⟨gv,lc,rc,rfl,h1,h2,h3⟩:=h;exact⟨gv,lc,rc,rfl,h1.ext e,h2.ext e,h3.ext e⟩
theorem TabN.mono{B B':Nat}{v:J9}(h:TabN B v)(hb:B'<=B):TabN B' v:=fun cs e x hx=>(h cs e x hx).mono hb
theorem PostC.ext{B B':Nat}{w w':CR}{v:J9}{li lk:List Int}{ts:List R3}(h:Ly B w v li lk ts)(e:JV w w')(hb:B'<=B):Ly B' w' v li lk ts:=by
 rcases h with h|⟨h0,⟨a,b,a1,a0,u,h1,h2,h3,h4,h5,h6,h7,hT,hN⟩|h⟩
 ·exact .inl h
 ·exact .inr ⟨h0,.inl ⟨a,b,a1,a0,u,h1,h2,h3,h4,h5,h6,h7,hT.ext e,hN.mono hb⟩⟩
 exact .inr ⟨h0,.inr h⟩
theorem PostC.upd{B:Nat}{S:Nat->Prop}{O O':Nat->Nat}{w0 w w':CR}{v:J9}{li lk:List Int}{ts:List R3}(h:Ly w0.heap.size w v li lk ts)(r:KV B O w0)(u:Jy S O w O' w'):Ly w0.heap.size w' v li lk ts:=by
 rcases h with h|⟨h0,⟨a,b,a1,a0,x,h1,h2,h3,h4,h5,h6,h7,hT,hN⟩|h⟩
 ·exact .inl h
 ·refine .inr ⟨h0,.inl ⟨a,b,a1,a0,x,h1,h2,h3,h4,h5,h6,h7,?_,hN⟩⟩;obtain⟨gv,lc,rc,rfl,k1,k2,k3⟩:=hT;have hn:=hN _ rfl;have n1:NewV w0.heap.size gv:=hn gv (by simp);exact⟨gv,lc,rc,rfl,k1.upd (n1.free k1 (fun x _=>by simp) r) u,k2.upd (fun x hx=>hn x (by simp[hx])) r u,k3.upd (fun x hx=>hn x (by simp[hx])) r u⟩
 exact .inr ⟨h0,.inr h⟩
def Ig(B:Nat)(w:CR)(v:J9):TK->Prop
 |.bad p e=>v=.tuple #[.agg pc,nI (p:Int),nI e]/\e≠0
 |.ok st=>∃(cs:List J9) (e:Int),v=.tuple #[.agg cs.toArray,nI 0,nI e]/\Ly B w (.tuple #[.agg cs.toArray,nI e]) st.li st.lk st.ts
theorem pd(l:List UInt8)(w:CR)(b9:l.length<=1000000000):KK JQ 18 [.string (bs l)] w fun v w'=>JV w w'/\Ig w.heap.size w' v (kD l):=by
 refine J5 func18 ntmps18 rfl rfl ?_;refine zh ?_
 refine ax (au w) 1 zo (Li _) rfl ?_;intro cb w1 O1 a8 b8 b5 d0;refine zh ?_
 refine zc call50 (vu l w.heap.size O1 w1 b5 b9) ?_;rintro v w2 ⟨a7,hP⟩;have d2:=b5.ext a7;have hz:¬(0=1):=zo
 cases hM:kD l with
 |bad p e=>
  rw[hM]at hP;obtain⟨rfl,he⟩:=hP;refine zh ?_;refine ax (au w2) 1 zo (JJ _) rfl ?_;intro tb w3 O3 a1 b4 c8 c';refine zsa (us:=#[sG,sG,sG]) a1 (JA _) ?_;have a0:=(b4.trans (Jq (us:=#[sG,sG,sG]) zd a1.tag rfl)).ext;generalize w3.setRow tb #[sG,sG,sG]=w4 at *;have c5:=aa (S:=fun q=>q=1) hz O1 (a7.trans a0);have a4:=a8.upd (aa (S:=fun _=>False) (fun h=>h) O1 (a7.trans a0)) zd (fun h=>h);refine zh ?_;refine zTH rfl ((by simpa using he)) ?_;refine zvH (Kl (cells:=pc) FM (Li _) rfl rfl) ?_;refine zsa (us:=pc) a4 (KG _) ?_;have b3:=a4.setRow (us:=pc);have c7:Jy (fun j=>j=1) O1 w4 O1 (w4.setRow cb pc):=Jq zd a4.tag rfl;refine zh ?_;refine cF rfl rfl rfl rfl (b3.cellsAdd) (LQ _) (KG _) (⟨((b8.trans c5).trans c7).ext,rfl,he⟩)
 |ok st=>
  rw[hM]at hP;obtain⟨tv,rfl,hx⟩:=hP;obtain⟨ta,a5,tc,xs,rfl,x1,x2,x3,_⟩:=hx.ex;have o1:=x1.one;have o2:=x2.one;have o3:=x3.one;refine zh ?_;refine ax (au w2) 1 zo (JJ _) rfl ?_;intro tb w3 O3 a1 b4 c8 c';refine zsb (us:=#[ta,a5,tc]) a1 (JA _) (by simp[o1,o2,o3]) ?_;have b1:=a1.setRow (us:=#[ta,a5,tc]);have a0:=(b4.trans (Jq (us:=#[ta,a5,tc]) zd a1.tag rfl)).ext;generalize w3.setRow tb #[ta,a5,tc]=w4 at *;refine zh ?_;refine zFH rfl rfl ?_;refine zv (ai (us:=[ta,a5,tc]) b1.cellsAdd (Kr _) (JA _) rfl) ?_;refine zc call9 (oG st.li st.lk st.ts (sF ta a5 tc) w4 (hx.ext a0)) ?_;rintro v w5 ⟨c9,hC⟩;obtain⟨cs,e,rfl,a6,b6⟩:=hC.shape;refine zh ?_;refine ax (au w5) 1 zo (Li _) rfl ?_;intro xb w6 O6 a2 c6 d1 d3;refine bE (us:=cs.toArray) a2 (show cs.toArray.size=17 from by simpa using a6) (by rw[show cs.toArray.size=17 from by simpa using a6];exact KG _) (by simpa using b6) rfl rfl rfl ?_;have b0:=a2.setRow (us:=cs.toArray);have a9:=(c6.trans (Jq (us:=cs.toArray) zd a2.tag rfl)).ext;generalize w6.setRow xb cs.toArray=w7 at *;have a':=((a7.trans a0).trans c9).trans a9;have b':=aa (S:=fun q=>q=1) hz O1 a';have a3:=a8.upd (aa (S:=fun _=>False) (fun h=>h) O1 a') zd (fun h=>h);refine zh ?_;refine zvH (ai (us:=cs) (by simpa using b0.cellsAdd) (LQ _) (by rw[a6];exact KG _) rfl) ?_
  refine bE (us:=cs.toArray) a3 (show cs.toArray.size=17 from by simpa using a6) (by rw[show cs.toArray.size=17 from by simpa using a6];exact KG _) (by simpa using b6) rfl rfl rfl ?_;have b2:=a3.setRow (us:=cs.toArray);have b7:Jy (fun j=>j=1) O1 w7 O1 (w7.setRow cb cs.toArray):=Jq zd a3.tag rfl;refine zh ?_
  refine cF rfl rfl rfl rfl (us:=cs) (by simpa using b2.cellsAdd) (LQ _) (by rw[a6];exact KG _) ⟨((b8.trans b').trans b7).ext,cs,e,rfl,((hC.ext a9 (J2 _)).upd (b5.ext (a7.trans a0)) b7).ext (Fu _) (((d0.trans a7).trans a0).size)⟩
theorem ot(l l':List Bool)(av bv:J9)(w:CR)(h:Sl cP 1 w av l)(h':Sl cP 1 w bv l'):KK JQ 23 [av,bv] w fun v w'=>v=.bool (decide (l=l'))/\JV w w':=by
 have q1:=h.len_le;have q2:=h'.len_le;refine J5 func23 ntmps23 rfl rfl ?_;refine zh ?_;refine zvH (KL h' Jv rfl) ?_;refine zC ?_ ?_
 ·intro a4;have a1:¬l=l':=fun e=>by subst e;simp at a4
  refine zh ?_;refine ae rfl rfl (⟨by rw[decide_eq_false a1],Fu w⟩)
 intro a7;have a9:l.length=l'.length:=by have:=of_decide_eq_true (p:=((l.length:Int)=(l'.length:Int))) (by simpa using a7);omega
 refine zh ?_;refine zlp (fun z:Nat×CR=>[(0,av),(1,bv),(5,nI (z.1:Nat))]) (fun z=>z.2) (fun z=>z.1<=l.length/\JV w z.2/\∀i,i<z.1->nth l i=nth l' i) (fun z=>l.length-z.1) (0,w) (⟨vX _,Fu w,fun i hi=>absurd hi (J0 i)⟩) ?_
 rintro⟨k,w1⟩ ⟨hk,hE,a0⟩;dsimp only at hk hE a0 ⊢;have h1:=h.ext hE;have h2:=h'.ext hE;refine zh ?_;refine zC ?_ ?_
 ·intro a2;replace a2:k<l.length:=dT a2;have e1:w1.cell? (adr av 1 k)=some (.bool (nth l k)):=by have:=h1.cell (i:=k) (j:=0) a2 rfl;rw[ao]at this;exact this
  have e2:w1.cell? (adr bv 1 k)=some (.bool (nth l' k)):=by have:=h2.cell (i:=k) (j:=0) zo rfl;rw[ao]at this;exact this
  refine zh ?_;refine aI (fun W=>W.cell? (adr av 1 k)=some (.bool (nth l k))/\W.cell? (adr bv 1 k)=some (.bool (nth l' k))) 9 rfl zk ?_
  refine zin ⟨e1,e2⟩ fun zS=>?_
  refine zrm 0 rfl zS rfl ?_;refine zrm 1 rfl zS rfl ?_
  refine zr 2 rfl zS (fun _=>ah h1.sh underlying69 (JD _) rfl rfl k rfl zo) ?_;refine zt 3 rfl zS (fun w1 a3=>RV.ld a3.1 rfl) ?_
  refine zrm 4 rfl zS rfl ?_;refine zrm 5 rfl zS rfl ?_
  refine zr 6 rfl zS (fun _=>ah h2.sh Jv (JD _) rfl rfl k rfl zo) ?_;refine zt 7 rfl zS (fun w1 a3=>RV.ld a3.2 rfl) ?_
  refine zr 8 rfl zS (fun _=>Gm underlying4 rfl rfl) ?_;refine Jn zk ?_
  refine zh ?_;refine zC ?_ ?_
  ·intro a4;have a1:¬l=l':=fun e=>by subst e;simp at a4
   refine zh ?_;refine ae rfl rfl (⟨by rw[decide_eq_false a1],hE.drew⟩)
  intro a7;have a6:nth l k=nth l' k:=by simpa using a7
  refine zh ?_;have a8:∀i,i<k+1->nth l i=nth l' i:=fun i hi=>(As.1 hi).elim (a0 i) (fun e=>by rw[e];exact a6)
  refine zxd (k+1,w1.drew) (⟨a2,hE.drew,a8⟩)
 intro b0;have a':k=l.length:=dF b0;subst a';have a5:l=l':=JU a9 fun i i1 i2=>by have:=a0 i i1;rwa[aB i1,aB i2]at this
 refine zh ?_;refine ae rfl rfl (⟨by rw[decide_eq_true a5],hE⟩)
theorem AK(li lk:List Int)(ts:List R3)(v:J9)(w:CR)(h:Tx w v li lk ts):KK JQ 7 [v] w fun u w'=>∃g,u=.bool g/\JV w w'/\(g=true->Few li lk ts/\ts.length<=8):=by
 obtain⟨ig,kp,ru,xs,rfl,h1,h2,h3,h4,h5⟩:=h;have o1:=h1.one;have o2:=h2.one;have o3:=h3.one;refine J5 func7 ntmps7 rfl rfl ?_;refine zh ?_;refine aE (au w) 1 zo rfl rfl ?_;intro xb w1 O1 a' b8 b9 a2;have b5:Tx w1 (sF ig kp ru) li lk ts:=⟨⟨ig,kp,ru,xs,rfl,h1.ext a2,h2.ext a2,h3.ext a2,h4,fun i hi=>(h5 i hi).ext a2⟩⟩
 have c2:w1.cell? (nA xb 2)=some ru:=a'.cell 2 rfl;refine zh ?_;refine zv (ai (us:=[ig,kp,ru]) a'.cellsAdd (isAgg26 _) (sizeOf26 _) rfl) ?_;refine zc call29 (BJ li lk ts (sF ig kp ru) w1 b5) ?_;rintro _ w2 ⟨g,rfl,a6,hg⟩;have g3:=h3.ext (a2.trans a6);refine zh ?_;refine bK (fun w1=>_=w1) (decide ((8:Int)<(xs.length:Int))) 4 (rfl) rfl rfl rfl rfl rfl ?_ ?_
 ·intro a1;refine zh ?_;refine zvH (RV.ld (a6.cell c2) rfl) ?_;refine nE 7 5 (rfl) a1
 rintro _ rfl;refine zh ?_;refine zC ?_ ?_
 ·intro hc;refine zh ?_;refine ae rfl rfl (⟨false,rfl,a2.trans a6,fun e=>by cases e⟩)
 intro hc;simp only[Ki,decide_eq_false_iff_not]at hc;obtain⟨b4,b7⟩:=hc;have a9:=hg b4;have h8:ts.length<=8:=zo;have a7:=a2.trans a6;refine zh ?_;refine zlp (fun y:Nat×Nat×CR=>[(1,nP xb),(3,nI (y.2.1:Nat)),(4,nI y.1)]) (fun y=>y.2.2) (fun y=>y.1<=xs.length/\y.2.1<=302*y.1/\JV w2 y.2.2) (fun y=>xs.length-y.1) (0,0,w2) (⟨vX _,by dsimp only;omega,Fu _⟩) ?_;rintro⟨i,s,w3⟩ ⟨hi,a5,a4⟩;dsimp only at hi a5 a4 ⊢;have d2:=(a6.trans a4).cell c2;have a8:=g3.ext a4;refine zh ?_;refine aP (fun w1=>_=w1) (decide ((s:Int)<=60)) 2 (rfl) rfl rfl rfl rfl rfl ?_ ?_
 ·intro b1;refine zh ?_;refine nE 18 3 (rfl) b1
 rintro _ rfl;refine zh ?_;refine zC ?_ ?_
 ·intro hc;simp only[DZ,decide_eq_true_eq]at hc;have a3:i<xs.length:=zo;have b0:=(h5 i a3).ext (a7.trans a4);have b3:∀W,JV w3 W->∀(j:Nat) (u:J9),(aY (nth xs i).1)[j]? = some u->W.cell? (((adr ru 7 i).add 0).add j)=some u:=fun W hE=>(gU (a8.ext hE) a3).1
  have b2:∀W,JV w3 W->∀(j:Nat) (u:J9),(aY (nth xs i).2.1)[j]? = some u->W.cell? (((adr ru 7 i).add 3).add j)=some u:=fun W hE=>(gU (a8.ext hE) a3).2.1
  refine zh ?_;refine yJ (JV w3) zk zk ((Fu w3).drew) ?_
  refine jx (fun w1 a0=>ix rfl) rfl ?_;refine jx (fun w1 a0=>Kx 2 LP rfl rfl (sizeOf23 _) zd rfl) rfl ?_
  refine jx (fun w1 a0=>M9 (by first|exact a0.cell d2) (isAgg23 _) rfl) rfl ?_;refine jx (fun w1 a0=>ix rfl) rfl ?_
  refine jx (fun w1 a0=>JP (a8.ext a0) K5 (Kf _) rfl rfl i rfl a3) rfl ?_;refine jx (fun w1 a0=>Kx 0 LO rfl rfl (Ji _) zd rfl) rfl ?_
  refine jx (fun w1 a0=>ai (us:=aY (nth xs i).1) (b3 _ a0) (Ju _) (Ji _) rfl) rfl ?_;refine M8 M7 rfl (fun w1 a0=>(fK (nsz (nth ts i).1) (nth ts i).1 (J2 _) (nth xs i).1 _ 60 (b0.1.ext a0) zd).mono fun v w' h=>⟨h.1,a0.trans h.2⟩) rfl ?_
  refine jx (fun w1 a0=>JK rfl rfl (JC zo)) rfl ?_;refine jx (fun w1 a0=>Kx 2 LP rfl rfl (sizeOf23 _) zd rfl) rfl ?_
  refine jx (fun w1 a0=>M9 (by first|exact a0.cell d2) (isAgg23 _) rfl) rfl ?_;refine jx (fun w1 a0=>ix rfl) rfl ?_
  refine jx (fun w1 a0=>JP (a8.ext a0) K5 (Kf _) rfl rfl i rfl a3) rfl ?_;refine jx (fun w1 a0=>Kx 3 LO rfl rfl (Ji _) zd rfl) rfl ?_
  refine jx (fun w1 a0=>ai (us:=aY (nth xs i).2.1) (b2 _ a0) (Ju _) (Ji _) rfl) rfl ?_;refine M8 M7 rfl (fun w1 a0=>(fK (nsz (nth ts i).2.1) (nth ts i).2.1 (J2 _) (nth xs i).2.1 _ 60 (b0.2.1.ext a0) zd).mono fun v w' h=>⟨h.1,a0.trans h.2⟩) rfl ?_
  refine jx (fun w1 a0=>JK rfl rfl (JC zo)) rfl ?_;refine jx (fun w1 a0=>Gv rfl) rfl ?_
  refine WQ.nil ?_;intro w4 b6;refine zh ?_
  rw[show(s:Int)+((min (nsz (nth ts i).1) (60+1):Nat):Int)+((min (nsz (nth ts i).2.1) (60+1):Nat):Int)=((s+(min (nsz (nth ts i).1) 61+min (nsz (nth ts i).2.1) 61):Nat):Int)from by omega];refine zxd (i+1,s+(min (nsz (nth ts i).1) 61+min (nsz (nth ts i).2.1) 61),w4) (⟨a3,by dsimp only;omega,a4.trans b6⟩)
 intro hc;refine zh ?_;refine ae rfl rfl (⟨_,rfl,a7.trans a4,fun _=>⟨a9,h8⟩⟩)
end Go.Proofs.YtlehnbkknlpkbaaGreatDoor
