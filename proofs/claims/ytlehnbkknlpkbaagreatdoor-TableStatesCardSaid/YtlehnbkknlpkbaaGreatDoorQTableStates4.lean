/- Texts that the proof of this statement needs, merged and shortened. -/
import Derived.Test.YtlehnbkknlpkbaaGreatDoorQTableStates3
open Go.VL.RV renaming move->ix,assign->qy,indexAddr->vX,len->As,add->AK,lss->FJ,lookup->Gb,eql->GZ,extract->JB,sub->JW,neq->KD,geq->KE,leq->KZ,build->Lc
open Go.VL.WL renaming nil->ln,push->Fu,storeAt->JA,off->KB,mapUpdate->KM,val->KX
open Go renaming World->ow,Value->ox,TypeId->uw,FuncId->Jv,Program->L7
open Go.VL.WC renaming region->oz,seq->pc,block->yr,skip->yY,still->BW,exit->J0,tail->Jq,ret->JT
open Go.VL.Ret renaming enter->oD
open Go.Proofs.Tryz renaming underlying22->oU,underlying9->pN,prog->rm,sizeOf3->tG,sizeOf83->vO,sizeOf86->yP,sizeOf30->zf,zeroValue3->A2,zeroValue139->Bh,underlying198->CX,underlying192->CY,isAgg83->CZ,zeroValue30->Da,zeroValue86->G6,sizeOf85->Gv,sizeOf39->GT,isAgg86->Ib,isAgg30->J6,zeroValue85->Jw,zeroValue83->Jy,underlying5->Jz,isAgg85->JH,sizeOf139->K4,call119->K7,underlying3->Kh,sizeOf22->Ki,call156->Kz,call100->KA,underlying200->KV,underlying132->KW,underlying50->L2,underlying39->L3,underlying21->L4,call165->L5,call116->L6,underlying4->La
open List renaming replicate->ps,mem_singleton->pZ,all_cons->qN,foldl_cons->rf,findIdx?_eq_some_iff_getElem->rU,range->su,take_length->sQ,length_cons->tq,foldl_append->ug,findIdx?_eq_none_iff->uh,all_nil->uY,all_eq_true->vg,length_append->zI,mem_map->zR,eq_nil_of_length_eq_zero->BV,nil_append->C2,map_append->C9,mem_range->Dd,dropWhile_cons_of_neg->De,drop_eq_getElem_cons->DA,any_eq_false->DH,mem_cons->DZ,getElem?_eq_getElem->Fm,eq_of_mem_replicate->Fo,range_succ->Gh,mem_append->Gi,map_cons->I4,flatMap_cons->IJ,takeWhile_append_dropWhile->IP,suffix_cons->J1,cons_append->J2,length_map->J4,takeWhile_cons_of_neg->Ji,foldl_nil->Jn,dropWhile_cons_of_pos->Jo,pairwise_iff_getElem->Jt,getElem_append_right->Ju,getElem_append_left->JC,find?_range_eq_some->JD,take_of_length_le->JI,map_nil->JJ,take_append_drop->JQ,length_singleton->JR,dropWhile_suffix->JS,getElem_of_mem->K1,flatMap_append->K2,findIdx?_cons->K5,countP_append->K6,nodup_append->Kb,length_range->Kc,getElem_take->Kd,length_take->Kf,nodup_cons->Kl,length_set->Km,append_nil->Ko,take_take->Kq,take_drop->Kr,findIdx?->Kx,map_map->KF
open Nat renaming zero_le->pR,lt_succ_iff_lt_or_eq->rk,not_lt_zero->rI,le_refl->sN,sub_self->Gc,mod_lt->Ka,min_eq_left->Kp,le_trans->KG,blt->KH,add_comm->KI,le_succ->KR
open Bool renaming and_eq_true->ri,not_eq_true'->DN,or_eq_true->J5,false_and->Ku,true_and->Ky,not_or->KL
open Go.VL.Upd renaming setRow->rj,set->xK,trans->Dc,refl->FX,drew->JY,ofDrew->K8,alloc->Kk,putObj->KS
open UInt8 renaming ofNat->sx
open Go.VL.WH renaming one->sP,done->Ae,leaf->KN
open Go.Value renaming oneCell'->th,bool->B1,string->Kw,slice->KC,agg->KO
open Go.VL.BlkO renaming upd->tp,drew->Db,setRow->JX,tag->Kv
open Go.VL.Ext renaming refl->tJ,alloc->JL
open Option.some renaming inj->tR
open Go.VL renaming Upd->uu,BlkO->yJ,Ext->ze,Ret->BG,Ints->J7,Rng->J9,RowT->Jr,NewV->K9,Free->KJ,Elem->L9
open Go.VL.Fit renaming i64->uM
open Go.VL.RowT renaming nil->uV,drew->JG
open Go.Utf8 renaming valid->zl,decode->GY,encode->JU
open Go.World renaming drew->AW,setRow->JE,putObj_heap_same->JF,cell?_alloc_at->JN
open Go.VL.WS renaming nil->BJ,go->Kj,call->Le
open Classical renaming byContradiction->CR
open Go.VL.Sl renaming ext->J3,one->JV,upd->KY
open Go.Instr renaming next->J8
open Go.VL.Free renaming upd->Jp
open Go.RowKit.Below renaming refl->Js,trans->KP
open Int renaming eq_ofNat_of_zero_le->JK,toNat_natCast->Kg
open Decidable renaming not_not->JM
open Go.Sem renaming run_bind->JO,run->Ke
open Go.VL.Rng renaming upd->JP,drew->JZ
open Go.Result renaming andThen_ok->K0
open Go.Exit renaming noGoto->KK
open Go.Proofs.YtlehnbkknlpkbaaGreatDoor.Nt renaming leaf->KQ
open Go.Proofs.YtlehnbkknlpkbaaGreatDoor renaming RowsN->KT,RightD->KU,RowsG->Lb
open List.Nodup renaming sublist->L0
open Go.Addr renaming add->L1
open List.cons renaming injEq->L8
open Function renaming comp_apply->Ld
open Go.IntKind renaming u64->Lh
open Go.Builtin renaming len_->Li
set_option maxRecDepth 10000
open Go.VL Go.Proofs Go.Proofs.Tryz
section
namespace Go.VL
section
variable{P:L7}{N:Nat}{st:St}{w:ow}{t:uw}{x:Operand}
theorem Cu{κ ν:Type}{kv:κ->ox}{vv:ν->ox}{T K E:uw}{O:Nat->Nat}{i r:Nat}{l:List (κ×ν)}(hm:MapO kv vv O w i r l)(hu:P.underlying T=some (.map K E))(hx:ev st x=some (.map (some r))):RV P N (.call ⟨.builtin .len,#[x],#[T]⟩) t st w (nI (l.length:Int)):=
 fun a ha a0 p e g=>by
  obtain⟨es,c,h1,h2⟩:=hm.blk;have h3:es.size=l.length:=by have:=congrArg List.length h2;simpa using this
  simp only[execOp,resolve,List.map_toArray,I4,JJ,ha.ev hx];simp[invoke,Go.builtin,Li,run_underlying hu,goInt,getObj,Ke,h1,h3]
end
section
variable{P:L7}{N:Nat}{ops:Array Oper}{Q:Exit→Act→ow→Prop}{rest:List Oper}{st:St}{w:ow}
variable{t:uw}{p:String}{e:Array Edge}{d:Nat}
theorem oV{T E:uw}{sz a0:Nat}(he:L9 P T E sz a0){α:Type}(enc:α->List ox){B:Nat}{O:Nat->Nat}(r:J9 B O w)(i:Nat)(a1:i≠0)(hd:KH d N=true) 
  (h:∀v w' O',Jr enc E sz O' w' i v []->uu (fun k=>k=i) O w O' w'->J9 B O' w'->WL P N ops Q rest ((d,v)::st) w'):WL P N ops Q (⟨some d,.buildSlice T 0 #[],t,p,e,none⟩::rest) st w:=by
 obtain⟨a2,z,hi,hz,a4,a5,a3⟩:=he.parts;have u1:=Kk (S:=fun k=>k=i) (fun e=>a1 e.symm) r (.cells #[] E) i;refine KX (v:=.slice (some ⟨w.heap.size,0,none⟩) 0 0) (w':=w.alloc (.cells #[] E)) hd (fun a ha=>?_) (h _ _ (lJ O w.heap.size i) ⟨⟨?_,fun g hg=>?_⟩,fun c hc=>absurd hc (by simp)⟩ u1 (r.upd u1))
 ·simp[execOp,Instr.buildSlice,run_underlying he.ht,sizeOf,typeInfo,hi,Instr.fill,newRow,newObj,show Array.range 0 = #[]from rfl];rfl
 ·have:=World.ownsRow_lit (base:=0) (size:=sz) (e:=E) w #[] 0 (pR _) (by simp[maxLen]) (by simp);simpa using this
 simp[Value.ownBlock]at hg;subst hg;exact eB _ _ _
end
end Go.VL
namespace Go.Proofs.YtlehnbkknlpkbaaGreatDoor
open Go.VL Go.Proofs
set_option maxRecDepth 10000
def jL:List Int->Nat->Nat
 |[],n=>n
 |g::r,n=>if g<0\/(n:Int)<g then 0 else jL r (max n (g.toNat+1))
def iq(l:List Int):Nat:=if l.length=37 then jL l 0 else 0
theorem iQ(l:List Int)(sv:ox)(w:ow)(h:Sl encI 1 w sv l): BG rm 40 [sv] w fun v w' => v = .int .i64 ((iq l:Nat):Int) ∧ w' = w := by
  have hl := h.len_le
  refine oD func40 ntmps40 rfl rfl ?_
  refine zh ?_
  refine zC ?_ ?_
  · intro hne
    refine zh ?_
    refine ae rfl rfl (⟨by unfold iq; rw[if_neg (fun e => by rw[e]at hne; simp at hne)]; rfl, rfl⟩)
  · intro he
    replace he : l.length = 37 := by have : (l.length : Int) = 37 := by simpa using he
                                     omega
    have hm:iq l = jL l 0 := by unfold iq; rw[if_pos he]
    rw[hm]
    refine zh ?_
    refine zlp (fun z:Nat×Nat => [(3, .int .i64 z.2), (9, sv), (10, .int .i64 l.length), (11, .int .i64 z.1)]) (fun z => w) (fun z => z.1 ≤ l.length ∧ z.2 ≤ z.1 ∧ jL (l.drop z.1) z.2 = jL l 0) (fun z => l.length - z.1) (0, 0) (⟨pR _, sN _, rfl⟩) ?_
    rintro⟨i, n⟩ ⟨hi, hn, heq⟩
    dsimp only at hi hn heq ⊢
    refine zh ?_
    refine zC ?_ ?_
    · intro hlt
      replace hlt:i < l.length := by have := of_decide_eq_true hlt; omega
      have m1:w.cell? (adr sv 1 i) = some (.int .i64 (nth l i)) := by have := h.cell (i := i) (j := 0) hlt rfl; rwa[ao]at this
      rw[DA hlt, ← aB hlt, jL]at heq
      refine zh ?_
      by_cases h0:nth l i < 0
      · rw[if_pos (.inl h0)]at heq
        rw[← heq]
        refine ay (d := 17) rfl (b' := true) ((decide_eq_true h0)) ?_
        refine zh ?_
        refine zTH rfl rfl ?_
        refine ae rfl rfl (⟨rfl, rfl⟩)
      · skip
        refine ay (d := 17) rfl (b' := false) ((decide_eq_false h0)) ?_
        refine zh ?_
        refine zC ?_ ?_
        · intro h1
          replace h1:(n:Int) < nth l i := of_decide_eq_true h1
          rw[if_pos (.inr h1)]at heq
          rw[← heq]
          refine zh ?_
          refine ae rfl rfl (⟨rfl, rfl⟩)
        · intro h1
          replace h1:¬(n:Int) < nth l i := of_decide_eq_false h1
          rw[if_neg (fun h => h.elim h0 h1)]at heq
          refine zh ?_
          refine zvH (gH rfl rfl) ?_
          rw[show max (n:Int) (nth l i + 1) = ((max n ((nth l i).toNat + 1):Nat):Int)from by omega]
          refine zxd (i + 1, max n ((nth l i).toNat + 1)) (⟨hlt, by dsimp only; omega, heq⟩)
    · intro hge
      obtain rfl:i = l.length := by have := of_decide_eq_false hge; omega
      rw[List.drop_length, jL]at heq
      rw[← heq]
      refine zh ?_
      refine ae rfl rfl (⟨rfl, rfl⟩)
abbrev zJ(d:ox×ox):List ox:=[d.1,d.2]
def qA(rows:List (List Nat))(m:Nat):List UInt8:=rows.flatMap fun r=>[sx (nth r m / 256),sx (nth r m % 256)]
def oH(tabs:List (List (List Nat)))(m:Nat):List UInt8:=tabs.flatMap fun rows=>qA rows m
theorem kX(rows:List (List Nat))(m:Nat):(qA rows m).length=2*rows.length:=by
 unfold qA
 induction rows with
 |nil=>rfl
 |cons r l ih=>rw[IJ,zI,ih];simp;omega
structure TabsD(w:ow)(sv:ox)(ds:List (ox×ox))(tabs:List (List (List Nat)))(tlss:List (List Nat)):Prop where
 sl:Sl zJ 2 w sv ds
 l1:tabs.length=ds.length
 l2:tlss.length=ds.length
 at_:∀i,i<ds.length->KT w (nth ds i).1 (nth tabs i)/\Sl jb 1 w (nth ds i).2 (nth tlss i)/\KU (nth tabs i) (nth tlss i)
theorem TabsD.ext{w w':ow}{sv:ox}{ds:List (ox×ox)}{tabs:List (List (List Nat))}{a0:List (List Nat)}(h:TabsD w sv ds tabs a0)(e:ze w w'):TabsD w' sv ds tabs a0:=
 ⟨h.sl.ext e,h.l1,h.l2,fun i hi=>⟨(h.at_ i hi).1.ext e,(h.at_ i hi).2.1.ext e,(h.at_ i hi).2.2⟩⟩
theorem RowsN.one{w:ow}{v:ox}{rows:List (List Nat)}(h:KT w v rows):v.oneCell'=true:=by
 obtain⟨vs,h1,_⟩:=h;exact h1.one
theorem zM(ds:List (ox×ox))(tabs:List (List (List Nat)))(b3:List (List Nat))(sv:ox)(m:Nat)(w:ow)(h:TabsD w sv ds tabs b3)(hm:m<37)(e7:ds.length<=1000):
  BG rm 69 [sv,nI (m:Nat)] w fun v w'=>v=.string (bs (oH tabs m))/\ze w w':=by
 have d2:=h.l1;have e4:=h.sl;refine oD func69 ntmps69 rfl rfl ?_;refine zh ?_;refine zlp (fun z:Nat×ox×(Nat->Nat)×World=>[(1,nI (m:Nat)),(5,z.2.1),(10,sv),(11,nI ds.length),(12,nI z.1)]) (fun z=>z.2.2.2) (fun z=>z.1<=ds.length/\Jr B3 5 1 z.2.2.1 z.2.2.2 1 z.2.1 (oH (tabs.take z.1) m)/\(oH (tabs.take z.1) m).length<=2000*z.1/\uu (fun q=>1<=q) (fun _=>0) w z.2.2.1 z.2.2.2/\J9 w.heap.size z.2.2.1 z.2.2.2) (fun z=>ds.length-z.1) (0,nS,fun _=>0,w) (⟨pR _,uV _ _ _ _ _ _,pR _,FX zd _ _,au w⟩) ?_;rintro⟨i,v1,O1,w1⟩ ⟨hi,a2,d3,hU,hR⟩;dsimp only at hi a2 d3 hU hR ⊢;have h1:=h.ext hU.ext;have d1:=h1.sl;refine zh ?_;refine zC ?_ ?_
 ·intro a5;replace a5:i<ds.length:=dT a5;obtain⟨c9,c7,b8⟩:=h1.at_ i a5;have o1:=c9.one;have o2:=c7.one;obtain⟨rows,a1⟩:∃rows,rows=nth tabs i:=⟨_,rfl⟩
  rw[<-a1]at c9 b8;have e5:=b8.le;have c8:oH (tabs.take (i+1)) m=oH (tabs.take i) m++qA rows m:=by
   unfold oH;rw[aR zo,K2,<-a1];simp
  refine zh ?_;refine zv (ai (us:=zJ (nth ds i)) (fun j u hu=>d1.cell a5 hu) (Ib _) (yP _) rfl) ?_
  refine ax hR 2 zo (G6 _) rfl ?_;intro db w2 O2 a4 d9 e1 e8;refine zsb (us:=#[(nth ds i).1,(nth ds i).2]) a4 (yP _) (by simp only[qN,o1,o2];rfl) ?_
  have b':=a4.setRow (us:=#[(nth ds i).1,(nth ds i).2]);have c':uu (fun j=>j=2) O2 w2 O2 (w2.setRow db #[(nth ds i).1,(nth ds i).2]):=rj zd a4.tag rfl;have b0:=d9.trans c';have a9:=a2.upd b0 zd zd;have e0:=e1.upd c';have b2:=hU.trans (b0.mono (fun _ h=>zo) zd);generalize w2.setRow db #[(nth ds i).1,(nth ds i).2]=w3 at *;have c0:w3.cell? (nA db 0)=some (nth ds i).1:=b'.cell 0 rfl;have b7:KT w (nth ds i).1 rows:=by rw[a1];exact(h.at_ i a5).1
  obtain⟨vs,a6,e3,a7⟩:=b7;have e2:=a6.ext b2.ext;refine zh ?_;refine zlp (fun y:Nat×ox×(Nat->Nat)×World=>[(1,nI (m:Nat)),(5,y.2.1),(10,sv),(11,nI ds.length),(12,nI i),(17,(nth ds i).1),(18,nI vs.length),(19,nI y.1)]) (fun y=>y.2.2.2) (fun y=>y.1<=rows.length/\Jr B3 5 1 y.2.2.1 y.2.2.2 1 y.2.1 (oH (tabs.take i) m++qA (rows.take y.1) m)/\uu (fun q=>1<=q) (fun _=>0) w y.2.2.1 y.2.2.2/\J9 w.heap.size y.2.2.1 y.2.2.2) (fun y=>rows.length-y.1) (0,v1,O2,w3) (⟨pR _,by dsimp only;rw[List.take_zero];exact(by simpa[qA]using a9),b2,e0⟩) ?_;rintro⟨j,v4,O4,w4⟩ ⟨hj,a0,a',c6⟩;dsimp only at hj a0 a' c6 ⊢;have b5:=a6.ext a'.ext;have d6:=kX (rows.take j) m;have c7:(rows.take j).length<=j:=by simp;omega
  refine zh ?_;refine zC ?_ ?_
  ·intro a3;replace a3:j<rows.length:=dT a3;have b9:=(a7 j a3).ext a'.ext;obtain⟨r1,r2⟩:=b8.row j a3;obtain⟨p,hp⟩:∃p,p=nth (nth rows j) m:=⟨_,rfl⟩
   have e6:p<=999:=by have:=r2 m hm;rw[<-hp]at this;omega
   have m1:w4.cell? (adr (nth ds i).1 1 j)=some (nth vs j):=by have:=b5.cell (i:=j) (j:=0) zo rfl;rwa[ao]at this
   have b6:qA (rows.take (j+1)) m=qA (rows.take j) m++[sx (p / 256),sx (p % 256)]:=by
    unfold qA;rw[aR a3,K2,hp];simp
   refine zh ?_;have k1:w4.drew.cell? (adr (nth vs j) 1 m)=some (nI (p:Int)):=by have:=b9.cell (i:=m) (j:=0) zo rfl;rw[ao]at this;rw[hp];exact this
   refine aI (fun W=>W.cell? (adr (nth vs j) 1 m)=some (nI (p:Int))) 15 rfl zk ?_;refine zrm 0 rfl k1 rfl ?_
   refine zrm 1 rfl k1 rfl ?_;refine zrm 2 rfl k1 rfl ?_
   refine zr 3 rfl k1 (fun _=>ah b9.sh oU (tG _) rfl rfl m rfl zo) ?_;refine zt 4 rfl k1 (fun w1 b4=>RV.ld b4 rfl) ?_
   refine zr 5 rfl k1 (fun _=>iM (a:=p) (b:=8) rfl rfl rfl rfl zd) ?_;refine zr 6 rfl k1 (fun _=>ns Kh Jz rfl) ?_
   refine zrm 7 rfl k1 rfl ?_;refine zrm 8 rfl k1 rfl ?_
   refine zr 9 rfl k1 (fun _=>ah b9.sh oU (tG _) rfl rfl m rfl zo) ?_;refine zt 10 rfl k1 (fun w1 b4=>RV.ld b4 rfl) ?_
   refine zr 11 rfl k1 (fun _=>ns Kh Jz rfl) ?_;rw[qR p,qR (p / 2^8),show p / 2^8 % 256=p / 256 from by omega];refine sP 12 zk rfl ?_
   refine gb KV (sizeOf5 _) (zeroValue5 _) B3 [sx (p / 256),sx (p % 256)] rfl rfl rfl rfl zk (by simp) rfl ?_;intro bv w5 d7 d0;have c5:uu (fun _=>False) O4 w4 O4 w5:=(aa (fun h=>h) O4 (tJ w4).drew).trans (aa (fun h=>h) O4 d0);refine zh ?_
   refine af (d0.cell k1) ?_;refine sP 13 zk rfl ?_
   refine aC I8 (a0.upd c5 zd fun h=>h) (c6.upd c5) d7 (by simp) rfl rfl (by simp) (by simp[th]) (by simp;omega) (by simp;omega) zd rfl ?_;intro v6 w6 O6 a8 d8 d';have b1:uu (fun q=>1<=q) (fun _=>0) w O6 w6:=(a'.trans (c5.mono (fun _ h=>h.elim) zd)).trans (d8.mono (fun _ h=>zo) zd);have k6:w6.cell? (adr (nth vs j) 1 m)=some (nI (p:Int)):=by have:=((a7 j a3).ext b1.ext).cell (i:=m) (j:=0) zo rfl;rw[ao]at this;rw[hp];exact this
   refine zh ?_;refine af (k6) ?_
   refine zra 14 rfl (k6) rfl ?_;refine Ae zk ?_
   refine zh ?_;refine zxd (j+1,v6,O6,w6) (⟨a3,by dsimp only;rw[b6,<-List.append_assoc];exact a8,b1,d'⟩)
  intro d4;obtain rfl:j=rows.length:=dF d4;rw[sQ]at a0 d6;refine zh ?_;refine zxd (i+1,v4,O4,w4) (⟨a5,by dsimp only;rw[c8];exact a0,by dsimp only;rw[c8,zI];omega,a',c6⟩)
 intro d5;obtain rfl:i=ds.length:=dF d5;rw[<-d2,sQ]at a2;refine zh ?_;refine zvH (yL a2.sl KV Jz pN rfl) ?_;refine ae rfl rfl (⟨rfl,hU.ext⟩)
end Go.Proofs.YtlehnbkknlpkbaaGreatDoor
end
namespace Go.Proofs.YtlehnbkknlpkbaaGreatDoor
def Ai(S:List (List UInt8))(k:List UInt8):Option Nat:=S.findIdx? (· == k)
def Ch(S:List (List UInt8))(k:List UInt8):List (List UInt8):=if(Ai S k).isSome=true then S else S++[k]
def CH(S:List (List UInt8))(k:List UInt8):Nat:=(Ai S k).getD S.length
def df(ks:List (List UInt8)):Nat->List (List UInt8)×List Nat
 |0=>([],[])
 |i+1=>(Ch (df ks i).1 (nth ks i),(df ks i).2++[CH (df ks i).1 (nth ks i)])
theorem BE{S:List (List UInt8)}{s t:List UInt8}(h:Ai S s=none):Ai (S++[s]) t=if s=t then some S.length else Ai S t:=by
 unfold Ai at h ⊢;rw[List.findIdx?_append]
 by_cases e:s=t
 ·rw[if_pos e];have:Kx (fun o=>o==t) S=none:=by rw[<-e];exact h
  rw[this];simp[K5,e]
 rw[if_neg e]
 cases Kx (fun o=>o==t) S with
 |some k=>simp
 |none=>simp[K5,e]
theorem nW(ks:List (List UInt8)):∀i,(df ks i).2.length=i/\(df ks i).1.length<=i
 |0=>⟨rfl,sN _⟩
 |i+1=>by
  obtain⟨h1,h2⟩:=nW ks i;unfold df;refine⟨by simp[h1],?_⟩;dsimp only;unfold Ch
  split
  ·omega
  simp;omega
structure NumK(D:List (ByteArray×Int))(S:List (List UInt8)):Prop where
 at_:∀k,bx D (bs k)=(Ai S k).map fun n:Nat=>(n:Int)
 len:D.length=S.length
theorem DK{κ ν:Type}[DecidableEq κ]{l:List (κ×ν)}{k:κ}(h:bx l k=none)(x:ν):cJ l k x=l++[(k,x)]:=by
 induction l with
 |nil=>rfl
 |cons p r ih=>
  obtain⟨a,y⟩:=p;simp only[bx]at h
  split at h
  ·cases h
  rename_i hn;simp only[cJ,if_neg hn,ih h,J2]
theorem NumK.add{D:List (ByteArray×Int)}{S:List (List UInt8)}(h:NumK D S){s:List UInt8}(hs:Ai S s=none):NumK (cJ D (bs s) (D.length:Int)) (S++[s]):=by
 refine⟨fun k=>?_,?_⟩
 ·rw[bf,BE hs]
  by_cases e:s=k
  ·rw[if_pos (by rw[e]),if_pos e,h.len];rfl
  rw[if_neg (fun e2=>e (Fa e2)),if_neg e];exact h.at_ k
 rw[DK (by rw[h.at_,hs];rfl)];simp[h.len]
theorem tE(ks:List (List UInt8))(sv:ox)(w:ow)(h:Sl encS 1 w sv ks)(c5:ks.length<=1000):BG rm 70 [sv] w fun v w'=>Sl aX 1 w' v (df ks ks.length).2/\ze w w'/\K9 w.heap.size v:=by
 refine oD func70 ntmps70 rfl rfl ?_;refine zh ?_
 refine bq Kw (fun v:Int=>nI v) (au w) 2 zd rfl ?_;intro r w1 O1 b8 b1 b5;have h1:=h.ext b1.ext;refine zh ?_
 refine zlp (fun z:Nat×ox×(Nat->Nat)×World×List (ByteArray×Int)=>[(3,.map (some r)),(4,z.2.1),(10,sv),(11,nI ks.length),(12,nI z.1)]) (fun z=>z.2.2.2.1) (fun z=>z.1<=ks.length/\Jr aX 3 1 z.2.2.1 z.2.2.2.1 1 z.2.1 (df ks z.1).2/\MapO Kw (fun v:Int=>nI v) z.2.2.1 z.2.2.2.1 2 r z.2.2.2.2/\NumK z.2.2.2.2 (df ks z.1).1/\uu (fun q=>1<=q) (fun _=>0) w z.2.2.1 z.2.2.2.1/\J9 w.heap.size z.2.2.1 z.2.2.2.1) (fun z=>ks.length-z.1) (0,nS,O1,w1,[]) (⟨pR _,uV _ _ _ _ _ _,b8,⟨fun k=>rfl,rfl⟩,b1.mono (fun _ h=>zo) zd,b5⟩) ?_;rintro⟨i,v2,O2,w2,D⟩ ⟨hi,a0,a3,hN,a8,a9⟩;dsimp only at hi a0 a3 hN a8 a9 ⊢;have h2:=h.ext a8.ext;obtain⟨b',b9⟩:=nW ks i;refine zh ?_
 refine zC ?_ ?_
 ·intro a6;replace a6:i<ks.length:=dT a6;obtain⟨k,hk⟩:∃k,k=nth ks i:=⟨_,rfl⟩
  have m1:w2.cell? (adr sv 1 i)=some (.string (bs k)):=by have:=h2.cell (i:=i) (j:=0) a6 rfl;rw[ao]at this;rw[hk];exact this
  have a7:=hN.at_ k;have e1:df ks (i+1)=(Ch (df ks i).1 k,(df ks i).2++[CH (df ks i).1 k]):=by rw[hk];rfl
  refine zh ?_
  cases a2:Ai (df ks i).1 k with
  |some q=>
   rw[a2]at a7;have f1:Ch (df ks i).1 k=(df ks i).1:=by unfold Ch;rw[a2];rfl
   have f2:CH (df ks i).1 k=q:=by unfold CH;rw[a2];rfl
   rw[f1,f2]at e1;refine zvH (cS (u:=.tuple #[nI (q:Int),.bool true]) a3 CY ue (A2 _) (bs k) rfl rfl rfl (by rw[a7];rfl)) ?_;refine zFH rfl rfl ?_;refine zv (Gb (u:=nI (q:Int)) a3 CY ue (A2 _) (bs k) rfl rfl rfl (by rw[a7];rfl)) ?_;refine Fu kU a0 a9 ((q:Nat)) (fun _=>rfl) rfl rfl rfl (by simp[th]) zo zo zo zd rfl rfl ?_;intro v3 w3 O3 a1 a4 a';refine zh ?_;refine zxd (i+1,v3,O3,w3,D) (⟨a6,by dsimp only;rw[e1];exact a1,a3.upd a4 zd zd,by dsimp only;rw[e1];exact hN,a8.trans (a4.mono (fun _ h=>zo) zd),a'⟩)
  |none=>
   rw[a2]at a7;have f1:Ch (df ks i).1 k=(df ks i).1++[k]:=by unfold Ch;rw[a2];rfl
   have f2:CH (df ks i).1 k=(df ks i).1.length:=by unfold CH;rw[a2];rfl
   rw[f1,f2]at e1;have b6:=hN.add a2;have b7:=hN.len;refine zvH (cS (u:=.tuple #[nI 0,.bool false]) a3 CY ue (A2 _) (bs k) rfl rfl rfl (by rw[a7];rfl)) ?_;refine zTH rfl rfl ?_;refine zv (Cu a3 CY rfl) ?_;refine KM a3 CY ue zd (bs k) (D.length:Int) rfl rfl rfl rfl rfl ?_;intro w3 b2 a4;have a1:=a0.upd a4 zd zd;have a':=a9.upd a4;refine zh ?_;refine zv (Gb (u:=nI (((df ks i).1.length:Nat):Int)) b2 CY ue (A2 _) (bs k) rfl rfl rfl (by rw[bf,if_pos rfl,b7];rfl)) ?_;refine Fu kU a1 a' (((df ks i).1.length:Nat)) (fun _=>rfl) rfl rfl rfl (by simp[th]) zo zo zo zd rfl rfl ?_;intro v4 w4 O4 a5 b0 b4;refine zh ?_;refine zxd (i+1,v4,O4,w4,cJ D (bs k) (D.length:Int)) (⟨a6,by dsimp only;rw[e1];exact a5,b2.upd b0 zd zd,by dsimp only;rw[e1];exact b6,(a8.trans (a4.mono (fun _ h=>zo) zd)).trans (b0.mono (fun _ h=>zo) zd),b4⟩)
 intro b3;obtain rfl:i=ks.length:=dF b3;refine zh ?_;refine ae rfl rfl (⟨a0.sl,a8.ext,a0.newV zd a9⟩)
theorem elD:L9 rm 132 86 2 48:=⟨KW,by kernel_rfl,zd⟩
theorem zP(l:List (ox×ox))(sv:ox)(w:ow)(h:Sl zJ 2 w sv l)(hz:∀u∈l,(zJ u).length=2)(h1:∀u∈l,∀c∈zJ u,c.oneCell'=true)(hl:l.length<=100000):
  BG rm 66 [sv] w fun v w'=>Sl zJ 2 w' v l/\ze w w'/\∀(B:Nat) (O:Nat->Nat),J9 B O w->KJ O w' v:=by
 obtain⟨a,c,rfl,_,_,ha⟩:=h.shape;refine oD func66 ntmps66 rfl rfl ?_;refine zh ?_;refine zvH (jW KW rfl rfl) ?_
 cases a with
 |none=>
  have a4:l=[]:=BV (CR fun a3=>by obtain⟨b,o,e⟩:=ha a3;cases e);subst a4;refine zTH rfl rfl ?_;refine ae rfl rfl (⟨(uV zJ 0 2 (fun _=>0) w 0).sl,tJ _,fun B O _ a n c e hn=>by cases e⟩)
 |some a=>
  refine zFH rfl rfl ?_;refine oV elD zJ (au w) 1 zd rfl ?_
  intro v1 w1 O1 a1 a2 a7;have h2:=h.ext a2.ext;refine zh ?_;refine ez elD a1 a7 h2 rfl rfl hz h1 (by simp;omega) (by simp;omega) zd rfl ?_;intro v2 w2 O2 a0 a5 a6;refine zh ?_;refine ae rfl rfl (⟨by have:=a0.sl;rwa[C2]at this,(a2.trans a5).ext,fun B O hO=>a0.free zd a6 hO⟩)
theorem qB(l:List (Nat))(sv:ox)(w:ow)(h:Sl aX 1 w sv l)(hz:∀u∈l,(aX u).length=1)(h1:∀u∈l,∀c∈aX u,c.oneCell'=true)(hl:l.length<=100000):
  BG rm 115 [sv] w fun v w'=>Sl aX 1 w' v l/\ze w w'/\∀(B:Nat) (O:Nat->Nat),J9 B O w->KJ O w' v:=by
 obtain⟨a,c,rfl,_,_,ha⟩:=h.shape;refine oD func115 ntmps115 rfl rfl ?_;refine zh ?_;refine zvH (jW oU rfl rfl) ?_
 cases a with
 |none=>
  have a4:l=[]:=BV (CR fun a3=>by obtain⟨b,o,e⟩:=ha a3;cases e);subst a4;refine zTH rfl rfl ?_;refine ae rfl rfl (⟨(uV aX 0 1 (fun _=>0) w 0).sl,tJ _,fun B O _ a n c e hn=>by cases e⟩)
 |some a=>
  refine zFH rfl rfl ?_;refine oV kU aX (au w) 1 zd rfl ?_
  intro v1 w1 O1 a1 a2 a7;have h2:=h.ext a2.ext;refine zh ?_;refine ez kU a1 a7 h2 rfl rfl hz h1 (by simp;omega) (by simp;omega) zd rfl ?_;intro v2 w2 O2 a0 a5 a6;refine zh ?_;refine ae rfl rfl (⟨by have:=a0.sl;rwa[C2]at this,(a2.trans a5).ext,fun B O hO=>a0.free zd a6 hO⟩)
theorem lY(l:List (Nat))(sv:ox)(w:ow)(h:Sl jb 1 w sv l)(hz:∀u∈l,(jb u).length=1)(h1:∀u∈l,∀c∈jb u,c.oneCell'=true)(hl:l.length<=100000):
  BG rm 116 [sv] w fun v w'=>Sl jb 1 w' v l/\ze w w'/\∀(B:Nat) (O:Nat->Nat),J9 B O w->KJ O w' v:=by
 obtain⟨a,c,rfl,_,_,ha⟩:=h.shape;refine oD func116 ntmps116 rfl rfl ?_;refine zh ?_;refine zvH (jW underlying31 rfl rfl) ?_
 cases a with
 |none=>
  have a4:l=[]:=BV (CR fun a3=>by obtain⟨b,o,e⟩:=ha a3;cases e);subst a4;refine zTH rfl rfl ?_;refine ae rfl rfl (⟨(uV jb 0 1 (fun _=>0) w 0).sl,tJ _,fun B O _ a n c e hn=>by cases e⟩)
 |some a=>
  refine zFH rfl rfl ?_;refine oV mS jb (au w) 1 zd rfl ?_
  intro v1 w1 O1 a1 a2 a7;have h2:=h.ext a2.ext;refine zh ?_;refine ez mS a1 a7 h2 rfl rfl hz h1 (by simp;omega) (by simp;omega) zd rfl ?_;intro v2 w2 O2 a0 a5 a6;refine zh ?_;refine ae rfl rfl (⟨by have:=a0.sl;rwa[C2]at this,(a2.trans a5).ext,fun B O hO=>a0.free zd a6 hO⟩)
theorem pH{F:Jv}(hF:∀(args:Array ox) (w:ow),(callFunc F args).run rm w=.ok (.enter F args) w)(cs:Array ox)(l:List (ox×ox))(sv:ox)(q:Nat->Bool)(w:ow)(h:Sl zJ 2 w sv l) 
  (hq:∀i,i<l.length->∀w',ze w w'->BG rm F ([(fun d:ox×ox=>KO #[d.1,d.2]) (nth l i)]++cs.toList) w' fun v w''=>v=.bool (q i)/\ze w' w'') :
  BG rm 113 [sv,.func (.func F) #[] cs] w fun v w'=>v=nI (dQ q l.length)/\ze w w':=by
 have hl:=h.len_le;refine oD func113 ntmps113 rfl rfl ?_;refine zh ?_;refine zlp (fun x:Nat×ow=>[(0,sv),(1,.func (.func F) #[] cs),(7,nI l.length),(8,nI x.1)]) (fun x=>x.2) (fun x=>x.1<=l.length/\ze w x.2/\∀i,i<x.1->q i=false) (fun x=>l.length-x.1) (0,w) (⟨pR _,tJ _,fun i hi=>absurd hi (rI i)⟩) ?_;rintro⟨k,w1⟩ ⟨hk,hE,a1⟩;dsimp only at hk hE a1 ⊢;have h1:=h.ext hE;refine zh ?_;refine zC ?_ ?_
 ·intro a0;replace a0:k<l.length:=dT a0;refine zh ?_;refine zv (ai (us:=zJ (nth l k)) (fun j u hu=>h1.cell a0 hu) (Ib _) (yP _) rfl) ?_;refine dN rfl hF rfl (hq k a0 w1 hE) rfl ?_;rintro v w2 ⟨rfl,a3⟩;refine zh ?_;refine zC ?_ ?_
  ·intro hy;refine zh ?_;refine ae rfl rfl (⟨by rw[cG a0 hy a1],hE.trans a3⟩)
  intro hy;refine zh ?_;refine zxd (k+1,w2) (⟨a0,hE.trans a3,fun i hi=>(rk.1 hi).elim (a1 i) (fun e=>by rw[e];exact hy)⟩)
 intro a2;replace a2:l.length<=k:=dF a2;refine zh ?_;refine ae rfl rfl (⟨by rw[cE fun i hi=>a1 i zo],hE⟩)
theorem xc(nv tv:ox)(rows:List (List Nat))(a0:List Nat)(w:ow)(hn:KT w nv rows)(a2:Sl jb 1 w tv a0)(hr:KU rows a0):BG rm 67 [.agg #[nv,tv]] w fun v w'=>v=.bool false/\ze w w':=by
 refine oD func67 ntmps67 rfl rfl ?_;refine zh ?_
 refine aE (au w) 1 zo rfl rfl ?_;intro db w1 O1 a3 a5 a6 a1;refine zh ?_
 refine zv (ai (us:=[nv,tv]) a3.cellsAdd (Ib _) (yP _) rfl) ?_;refine zc call68 (jR nv tv rows a0 w1 (hn.ext a1) (a2.ext a1) hr) ?_
 rintro _ w2 ⟨rfl,a4⟩;refine zh ?_;refine ae rfl rfl (⟨rfl,a1.trans a4⟩)
theorem xh{F:Jv}(hF:∀(args:Array ox) (w:ow),(callFunc F args).run rm w=.ok (.enter F args) w)(cs:Array ox)(l:List (ox×ox))(sv:ox)(w:ow)(h:Sl zJ 2 w sv l) 
  (hq:∀i,i<l.length->∀w',ze w w'->BG rm F ([(fun d:ox×ox=>KO #[d.1,d.2]) (nth l i)]++cs.toList) w' fun v w''=>v=.bool false/\ze w' w'') :
  BG rm 65 [sv,.func (.func F) #[] cs] w fun v w'=>v=sv/\ze w w':=by
 refine oD func65 ntmps65 rfl rfl ?_;refine zh ?_
 refine zc call113 (pH hF cs l sv (fun _=>false) w h hq) ?_;rintro _ w1 ⟨rfl,a0⟩;rw[cE (q:=fun _=>false) fun i hi=>rfl];refine zh ?_
 refine zTH rfl rfl ?_;refine ae rfl rfl (⟨rfl,a0⟩)
def bJ(tabs:List (List (List Nat))):List Nat:=(df ((su 37).map (oH tabs)) 37).2
theorem IM:L9 rm 136 9 1 16:=⟨underlying136,by kernel_rfl,zd⟩
theorem zE(ds:List (ox×ox))(tabs:List (List (List Nat)))(a2:List (List Nat))(sv:ox)(w:ow)(h:TabsD w sv ds tabs a2)(b8:ds.length<=1000):
  BG rm 34 [sv] w fun v w'=>Sl aX 1 w' v (bJ tabs)/\ze w w'/\K9 w.heap.size v:=by
 have b5:=h.sl;have a8:∀u∈ds,∀c∈zJ u,c.oneCell'=true:=fun u hu c hc=>by
  obtain⟨j,hj,rfl⟩:=cI hu
  rcases DZ.1 hc with rfl|hc
  ·exact(h.at_ j hj).1.one
  rw[pZ.1 hc];exact(h.at_ j hj).2.1.one
 refine oD func34 ntmps34 rfl rfl ?_;refine zh ?_
 refine zc call66 (zP ds sv w b5 (fun _ _=>rfl) a8 zo) ?_;rintro a6 w1 ⟨b2,a',_⟩;refine zc call65 (xh call67 #[] ds a6 w1 b2 (fun i hi w' b0=>xc _ _ _ _ w' ((h.at_ i hi).1.ext (a'.trans b0)) ((h.at_ i hi).2.1.ext (a'.trans b0)) (h.at_ i hi).2.2)) ?_
 rintro v2 w2 ⟨b1,b4⟩;rw[b1];clear b1 v2;have a1:=a'.trans b4;have c5:TabsD w2 a6 ds tabs a2:=⟨b2.ext b4,h.l1,h.l2,fun i hi=>⟨(h.at_ i hi).1.ext a1,(h.at_ i hi).2.1.ext a1,(h.at_ i hi).2.2⟩⟩
 refine zh ?_;refine zlp (fun z:Nat×ox×(Nat->Nat)×World=>[(0,a6),(3,z.2.1),(8,nI z.1)]) (fun z=>z.2.2.2) (fun z=>z.1<=37/\Jr encS 9 1 z.2.2.1 z.2.2.2 1 z.2.1 ((su z.1).map (oH tabs))/\uu (fun q=>q=1) (fun _=>0) w2 z.2.2.1 z.2.2.2/\J9 w2.heap.size z.2.2.1 z.2.2.2) (fun z=>37-z.1) (0,nS,fun _=>0,w2) (⟨pR _,uV _ _ _ _ _ _,FX zd _ _,au w2⟩) ?_
 rintro⟨m,v3,O3,w3⟩ ⟨hm,a0,a5,b3⟩;dsimp only at hm a0 a5 b3 ⊢;have b':=c5.ext a5.ext;refine zh ?_;refine zC ?_ ?_
 ·intro a7;replace a7:m<37:=dT a7;refine zh ?_;refine zc call69 (zM ds tabs a2 a6 m w3 b' a7 b8) ?_;rintro _ w4 ⟨rfl,c8⟩;have a9:uu (fun _=>False) O3 w3 O3 w4:=aa (fun h=>h) O3 c8;have a4:=a0.upd a9 zd (fun h=>h);have c9:((su m).map (oH tabs)).length=m:=by simp
  refine Fu IM a4 (b3.upd a9) ((oH tabs m)) (fun _=>rfl) rfl rfl rfl (by simp[th]) zo zo zo zd rfl rfl ?_;intro v5 w5 O5 a3 b9 c6;refine zh ?_
  refine zxd (m+1,v5,O5,w5) (⟨a7,by dsimp only;rw[Gh,C9];exact a3,(a5.trans (a9.mono (fun _ h=>h.elim) zd)).trans b9,c6⟩)
 intro b7;obtain rfl:m=37:=dF b7;refine zh ?_;refine zc call70 (tE _ v3 w3 a0.sl (by simp)) ?_;rintro v6 w6 ⟨h6,c7,b6⟩;refine zh ?_;refine ae rfl rfl (⟨by rw[J4,Kc]at h6;exact h6,(a1.trans a5.ext).trans c7,b6.mono (KG a1.size a5.size)⟩)
attribute [irreducible] bJ
def pY:List Int->Nat->Prop
 |[],_=>True
 |g::r,n=>0<=g/\g<=n/\pY r (max n (g.toNat+1))
theorem lP{g:Int}:∀(l:List Int) (n:Nat),pY l n->0<=g->g<=(jL l n:Nat)->pY (l++[g]) n/\jL (l++[g]) n=max (jL l n) (g.toNat+1)
 |[],n,_,h0,h1=>by
  simp only[jL]at h1;simp only[C2,pY,jL];rw[if_neg zo];exact⟨⟨h0,h1,trivial⟩,rfl⟩
 |a::l,n,h,h0,h1=>by
  obtain⟨a1,a2,a3⟩:=h;simp only[jL]at h1;rw[if_neg zo]at h1;have ih:=lP l _ a3 h0 h1;simp only[J2,pY,jL];rw[if_neg zo,if_neg zo];exact⟨⟨a1,a2,ih.1⟩,ih.2⟩
abbrev ints(l:List Nat):List Int:=l.map fun n:Nat=>(n:Int)
structure NuI(ks:List (List UInt8))(i:Nat)(S:List (List UInt8))(r:List Nat):Prop where
 len:r.length=i
 lt:∀j,j<i->nth r j<S.length/\nth S (nth r j)=nth ks j
 nd:S.Nodup
 hit:∀k,k<S.length->∃j,j<i/\nth r j=k
 right:pY (ints r) 0
 many:jL (ints r) 0=S.length
theorem BD{S:List (List UInt8)}{s:List UInt8}{k:Nat}(h:Ai S s=some k):k<S.length/\nth S k=s:=by
 obtain⟨h1,h2,_⟩:=rU.1 h;exact⟨h1,by rw[aB h1];simpa using h2⟩
theorem BF{S:List (List UInt8)}{s:List UInt8}(h:Ai S s=none):s∉S:=fun hs=>by
 have:=uh.1 h s hs;simp at this
theorem tF(ks:List (List UInt8)):∀i,NuI ks i (df ks i).1 (df ks i).2
 |0=>⟨rfl,fun j hj=>absurd hj (rI j),List.nodup_nil,fun k hk=>absurd hk (rI k),trivial,rfl⟩
 |i+1=>by
  have ih:=tF ks i;unfold df;generalize df ks i=R at *;obtain⟨S,r⟩:=R;dsimp only at ih ⊢;have hl:=ih.len;have a0:∀(g:Nat),ints (r++[g])=ints r++[(g:Int)]:=fun g=>by simp[ints]
  cases h:Ai S (nth ks i)with
  |some k=>
   obtain⟨h1,h2⟩:=BD h;have e1:Ch S (nth ks i)=S:=by unfold Ch;rw[h];rfl
   have e2:CH S (nth ks i)=k:=by unfold CH;rw[h];rfl
   rw[e1,e2];have hs:=lP (g:=(k:Int)) (ints r) 0 ih.right zo (by rw[ih.many];omega);refine⟨by simp[hl],fun j hj=>?_,ih.nd,fun q hq=>?_,by rw[a0];exact hs.1,by rw[a0,hs.2,ih.many];simp;omega⟩
   ·rw[aA]
    by_cases e:j<r.length
    ·rw[if_pos e];exact ih.lt j zo
    rw[if_neg e,show j-r.length=0 from by omega,ar];obtain rfl:j=i:=zo;exact⟨h1,h2⟩
   obtain⟨j,hj,e⟩:=ih.hit q hq;exact⟨j,zo,by rw[aA,if_pos zo];exact e⟩
  |none=>
   have hn:=BF h;have e1:Ch S (nth ks i)=S++[nth ks i]:=by unfold Ch;rw[h];rfl
   have e2:CH S (nth ks i)=S.length:=by unfold CH;rw[h];rfl
   rw[e1,e2];have hs:=lP (g:=(S.length:Int)) (ints r) 0 ih.right zo (by rw[ih.many];omega);refine⟨by simp[hl],fun j hj=>?_,Kb.2 ⟨ih.nd,by simp,fun a ha b hb e=>?_⟩,fun q hq=>?_,by rw[a0];exact hs.1,by rw[a0,hs.2,ih.many];simp⟩
   ·rw[aA]
    by_cases e:j<r.length
    ·obtain⟨a1,a2⟩:=ih.lt j zo;rw[if_pos e];exact⟨by simp;omega,by rw[aA,if_pos a1];exact a2⟩
    rw[if_neg e,show j-r.length=0 from by omega,ar];obtain rfl:j=i:=zo;exact⟨by simp,by rw[aA,if_neg zo,Gc,ar]⟩
   ·rw[pZ]at hb;subst hb;subst e;exact hn ha
   rw[zI,JR]at hq
   by_cases e:q<S.length
   ·obtain⟨j,hj,e⟩:=ih.hit q e;exact⟨j,zo,by rw[aA,if_pos zo];exact e⟩
   exact⟨i,zo,by rw[aA,if_neg zo,show i-r.length=0 from by omega,ar];omega⟩
theorem DW{a b:Nat}(ha:a<256)(hb:b<256)(h:sx a=sx b):a=b:=by
 have:=congrArg UInt8.toNat h;simp at this;omega
theorem yy:∀ {rows:List (List Nat)} {i j:Nat},(∀r∈rows,nth r i<=999/\nth r j<=999)->qA rows i=qA rows j->∀r∈rows,nth r i=nth r j
 |[],_,_,_,_=>fun r hr=>absurd hr (by simp)
 |r::rows,i,j,h,e=>by
  obtain⟨h1,h2⟩:=h r (by simp);unfold qA at e;simp only[IJ,J2,C2,L8]at e;obtain⟨e1,e2,e3⟩:=e;have a1:=DW zo zo e1;have a2:=DW zo zo e2;intro q hq
  rcases DZ.1 hq with rfl|hq
  ·omega
  exact yy (fun q hq=>h q (by simp[hq])) e3 q hq
theorem yz:∀ {tabs:List (List (List Nat))} {i j:Nat},(∀rows∈tabs,∀r∈rows,nth r i<=999/\nth r j<=999)->oH tabs i=oH tabs j->∀rows∈tabs,∀r∈rows,nth r i=nth r j
 |[],_,_,_,_=>fun r hr=>absurd hr (by simp)
 |t::tabs,i,j,h,e=>by
  unfold oH at e;simp only[IJ]at e;obtain⟨e1,e2⟩:=List.append_inj e (by rw[kX,kX]);intro q hq
  rcases DZ.1 hq with rfl|hq
  ·exact yy (h q (by simp)) e1
  exact yz (fun q hq=>h q (by simp[hq])) e2 q hq
structure GrpI(g:List Nat)(many:Nat):Prop where
 len:g.length=37
 lt:∀i,i<37->nth g i<many
 hit:∀k,k<many->∃i,i<37/\nth g i=k
 cnt:iq (ints g)=many
 pos:1<=many
 le:many<=37
theorem A8{α:Type}{l:List α}(h:l.Nodup){i j:Nat}(hi:i<l.length)(hj:j<l.length)(e:l[i]=l[j]):i=j:=by
 rcases Nat.lt_trichotomy i j with h1|h1|h1
 ·exact absurd e (Jt.1 h i j hi hj h1)
 ·exact h1
 exact absurd e.symm (Jt.1 h j i hj hi h1)
theorem qq(tabs:List (List (List Nat))):∃many,GrpI (bJ tabs) many/\∀i j,i<37->j<37->(nth (bJ tabs) i=nth (bJ tabs) j↔oH tabs i=oH tabs j):=by
 have h:=tF ((su 37).map (oH tabs)) 37;have a4:=(nW ((su 37).map (oH tabs)) 37).2;have hk:∀j,j<37->nth ((su 37).map (oH tabs)) j=oH tabs j:=fun j hj=>by rw[dI (by simpa using hj),aB (by simpa using hj)];simp
 unfold bJ;have a0:=h.len;refine⟨(df ((su 37).map (oH tabs)) 37).1.length,⟨a0,fun i hi=>(h.lt i hi).1,h.hit,?_,?_,a4⟩,fun i j hi hj=>⟨fun e=>?_,fun e=>?_⟩⟩
 ·unfold iq;rw[if_pos (by rw[J4];exact a0)];exact h.many
 ·have:=(h.lt 0 zd).1;omega
 ·have h1:=(h.lt i hi).2;have h2:=(h.lt j hj).2;rw[hk i hi]at h1;rw[hk j hj]at h2;rw[<-h1,<-h2,e]
 obtain⟨a1,a2⟩:=h.lt i hi;obtain⟨b1,b2⟩:=h.lt j hj;rw[hk i hi]at a2;rw[hk j hj]at b2;have a3:=h.nd;show nth (df _ 37).2 i=nth (df _ 37).2 j;rw[aB a1]at a2;rw[aB b1]at b2;exact A8 a3 a1 b1 (by rw[a2,b2,e])
def px(g:List Nat)(many:Nat)(row:List Nat):List Nat:=(su many).map fun k=>nth row ((g.findIdx? (· == k)).getD 0)
theorem nf(g:List Nat)(many:Nat)(row:List Nat):(px g many row).length=many:=by simp[px]
theorem vI{g:List Nat}{many:Nat}(hg:GrpI g many){row:List Nat}(hc:∀i j,i<37->j<37->nth g i=nth g j->nth row i=nth row j){i:Nat}(hi:i<37):nth (px g many row) (nth g i)=nth row i:=by
 have a0:=hg.len;have hk:=hg.lt i hi;unfold px;rw[aB (xs:=List.map _ (su many)) (by simpa using hk),List.getElem_map,List.getElem_range]
 cases hf:g.findIdx? (· == nth g i)with
 |none=>
  have:=uh.1 hf (nth g i) (aO zo);simp at this
 |some q=>
  obtain⟨h1,h2,_⟩:=rU.1 hf;rw[<-aB h1]at h2;exact hc q i zo hi (by simpa using h2)
theorem Be{g:List Nat}{many:Nat}(hg:GrpI g many){row a0:List Nat}(hc:∀i j,i<37->j<37->nth g i=nth g j->nth row i=nth row j)(ho:a0.length=many)(h:∀i,i<37->nth a0 (nth g i)=nth row i):a0=px g many row:=by
 refine List.ext_getElem (by rw[ho,nf]) fun k h1 h2=>?_
 obtain⟨i,hi,e⟩:=hg.hit k zo;rw[<-aB h1,<-aB h2,<-e,h i hi,vI hg hc hi]
theorem zq(g row:List Nat)(many:Nat)(gv rv:ox)(w:ow)(hg:GrpI g many)(hgs:Sl aX 1 w gv g)(hrs:Sl aX 1 w rv row)(hrl:row.length = 37)(hc:∀i j, i < 37 → j < 37 → nth g i = nth g j → nth row i = nth row j):
  BG rm 117 [gv, rv, nI (many:Nat)] w fun v w' => ∃ov, v = .tuple #[ov, .bool true] ∧ Sl aX 1 w' ov (px g many row) ∧ ze w w' ∧ ∀(B:Nat) (O:Nat → Nat), J9 B O w → KJ O w' ov := by
 have hgl := hg.len
 have hml := hg.le
 refine oD func117 ntmps117 rfl rfl ?_
 refine pc ?_
 refine oz ?_
 refine zv (qy rfl) ?_
 refine zv (qy rfl) ?_
 refine ln ?_
 refine az ?_
 refine pc ?_
 refine oz ?_
 refine zv (ix rfl) ?_
 refine bN kU (val := fun n:Nat => nI (n:Int)) (0:Nat) (by kernel_rfl) (fun _ => rfl) (au w) 1 (by decide) many rfl rfl rfl rfl (by omega) (by omega) rfl ?_
 intro w1 O1 ov hov hrow1 hU1 hR1 hE1
 clear hov
 have hg1 := hgs.ext hE1
 have hr1 := hrs.ext hE1
 refine zv (qy rfl) ?_
 refine ln ?_
 refine az ?_
 refine pc ?_
 refine pc ?_
 refine oz ?_
 refine zv (ix rfl) ?_
 refine zv (As (by first | exact hr1) oU rfl) ?_
 refine zv (JW rfl rfl (uM (by omega))) ?_
 refine zv (qy rfl) ?_
 refine ln ?_
 refine az ?_
 refine yr ?_
 rw[show((row.length:Int) - 1) = ((37:Nat):Int) - 1 from by rw[hrl]]
 refine zlp (fun z:Nat×ow×List Nat => [(0, gv), (1, rv), (8, ov), (9, nI ((z.1:Int) - 1))]) (fun z => z.2.1) (fun z => z.1 ≤ 37 ∧ Jr aX 3 1 O1 z.2.1 1 ov z.2.2 ∧ uu (fun q => q = 1) O1 w1 O1 z.2.1 ∧ z.2.2.length = many ∧ ∀i, z.1 ≤ i → i < 37 → nth z.2.2 (nth g i) = nth row i) (fun z => z.1) (37, w1, ps many 0) (⟨sN _, hrow1, FX (by decide) _ _, by simp, fun i h1 h2 => by dsimp only at h1; omega⟩) ?_
 rintro⟨j, w2, out⟩ ⟨hj, hrow2, hU2, hol, hout⟩
 dsimp only at hj hrow2 hU2 hol hout ⊢
 have hE02:ze w w2 := (hU1.trans hU2).ext
 have hg2 := hgs.ext hE02
 have hr2 := hrs.ext hE02
 refine pc ?_
 refine pc ?_
 refine oz ?_
 refine zv (ix rfl) ?_
 refine zv (KE rfl rfl) ?_
 refine ln ?_
 refine az ?_
 refine zC ?_ ?_
 ·intro hge
  replace hge:1 ≤ j := by have := of_decide_eq_true hge; omega
  obtain⟨m, rfl⟩:∃m, j = m + 1 := ⟨j - 1, by omega⟩
  rw[show(((m + 1:Nat):Int) - 1) = (m:Int)from by omega]
  have hgm := hg.lt m (by omega)
  have k1:w2.cell? (adr gv 1 m) = some (nI ((nth g m:Nat):Int)) := by have := hg2.cell (i := m) (j := 0) (by omega) rfl; rwa[ao]at this
  have k2:w2.cell? (adr rv 1 m) = some (nI ((nth row m:Nat):Int)) := by have := hr2.cell (i := m) (j := 0) (by omega) rfl; rwa[ao]at this
  refine yY ?_
  refine az ?_
  refine pc ?_
  refine yr ?_
  refine Jq 10 rfl rfl (by kernel_rfl) (by kernel_rfl) ?_
  refine zw (ix rfl) ?_
  refine zw (ix rfl) ?_
  refine zw (ix rfl) ?_
  refine zw (ah hg2.sh oU (tG _) rfl rfl m rfl (by omega)) ?_
  refine zw (RV.ld k1 rfl) ?_
  refine zw (ix rfl) ?_
  refine zw (ix rfl) ?_
  refine zw (ah hr2.sh oU (tG _) rfl rfl m rfl (by omega)) ?_
  refine zw (RV.ld k2 rfl) ?_
  refine zw (ah hrow2.sl.sh oU (tG _) rfl rfl (nth g m) rfl (by omega)) ?_
  refine Kj ?_
  refine JA hrow2.drew (nth g m) (by omega) (nth row m) (tG _) rfl (by decide) rfl rfl rfl rfl ?_
  intro w3 hrow3 hU3
  refine ln ?_
  refine eh ?_
  refine az ?_
  refine oz ?_
  refine zv (ix rfl) ?_
  refine zv (JW rfl rfl (uM (by omega))) ?_
  refine zv (qy rfl) ?_
  refine ln ?_
  refine zxd (m, w3, out.set (nth g m) (nth row m)) (⟨by dsimp only; omega, hrow3, hU2.drew.trans hU3, by dsimp only; rw[Km]; exact hol, fun i h1 h2 => ?_⟩)
  dsimp only at h1 ⊢
  rw[aT (by omega)]
  split
  ·rename_i e; exact hc m i (by omega) h2 e.symm
  ·rename_i e
   refine hout i ?_ h2
   have:i ≠ m := fun e2 => e (by rw[e2])
   omega
 ·intro hlt
  obtain rfl:j = 0 := by have := of_decide_eq_false hlt; omega
  have hnar := Be hg hc hol fun i hi => hout i (pR _) hi
  refine J0 ?_
  refine cT ?_
  refine cT ?_
  refine eY ?_
  refine az ?_
  refine pc ?_
  refine pc ?_
  refine oz ?_
  refine zv (ix rfl) ?_
  refine zv (As (by first | exact hr2) oU rfl) ?_
  refine zv (ix rfl) ?_
  refine ln ?_
  refine az ?_
  refine yr ?_
  refine zlp (fun z:Nat => [(0, gv), (8, ov), (31, rv), (32, nI row.length), (33, nI z)]) (fun z => w2) (fun z => z ≤ row.length) (fun z => row.length - z) 0 (pR _) ?_
  intro i hi
  refine pc ?_
  refine oz ?_
  refine zv (FJ rfl rfl) ?_
  refine ln ?_
  refine az ?_
  refine pc ?_
  refine zC ?_ ?_
  ·intro hlti
   replace hlti:i < row.length := by have := of_decide_eq_true hlti; omega
   have hgi := hg.lt i (by omega)
   have k1:w2.cell? (adr gv 1 i) = some (nI ((nth g i:Nat):Int)) := by have := hg2.cell (i := i) (j := 0) (by omega) rfl; rwa[ao]at this
   have k2:w2.cell? (adr rv 1 i) = some (nI ((nth row i:Nat):Int)) := by have := hr2.cell (i := i) (j := 0) (by omega) rfl; rwa[ao]at this
   have k3:w2.cell? (adr ov 1 (nth g i)) = some (nI ((nth row i:Nat):Int)) := by have := hrow2.sl.cell (i := nth g i) (j := 0) (by omega) rfl; rw[ao, hout i (pR _) (by omega)]at this; exact this
   refine yY ?_
   refine az ?_
   refine pc ?_
   refine yr ?_
   refine pc ?_
   refine oz ?_
   refine zv (ix rfl) ?_
   refine zv (vX (by first | exact hr2) oU (tG _) rfl rfl _ rfl (by omega)) ?_
   refine zv (RV.ld k2 rfl) ?_
   refine zv (qy rfl) ?_
   refine zv (qy rfl) ?_
   refine ln ?_
   refine az ?_
   refine pc ?_
   refine oz ?_
   refine zv (ix rfl) ?_
   refine zv (ix rfl) ?_
   refine zv (ix rfl) ?_
   refine zv (ah hg2.sh oU (tG _) rfl rfl i rfl (by omega)) ?_
   refine zv (RV.ld k1 rfl) ?_
   refine zv (ah hrow2.sl.sh oU (tG _) rfl rfl (nth g i) rfl (by omega)) ?_
   refine zv (RV.ld k3 rfl) ?_
   refine zv (ix rfl) ?_
   refine zv (KD rfl rfl) ?_
   refine ln ?_
   refine az ?_
   refine aS rfl ((by simp)) ?_
   refine yY ?_
   refine eh ?_
   refine az ?_
   refine oz ?_
   refine zv (AK rfl rfl (uM (by omega))) ?_
   refine zv (ix rfl) ?_
   refine ln ?_
   refine zxd (i + 1) (hlti)
  ·intro hgei
   refine J0 ?_
   refine cT ?_
   refine cT ?_
   refine eY ?_
   refine az ?_
   refine pc ?_
   refine oz ?_
   refine zv (ix rfl) ?_
   refine zv (qy rfl) ?_
   refine zv (qy rfl) ?_
   refine ln ?_
   refine az ?_
   refine JT ?_
   refine bQ rfl rfl rfl (⟨ov, rfl, by rw[← hnar]; exact hrow2.sl, hE02, fun B O hO => hrow2.free (by decide) (hR1.upd hU2) hO⟩)
theorem _root_.Go.VL.Sl.natIv{w:ow}{v:ox}{l:List Nat}(h:Sl aX 1 w v l):Sl encI 1 w v (l.map fun(n:Nat)=>(n:Int)):=
 ⟨by simpa using h.shape,fun i hi j u hu=>h.cells i (by simpa using hi) j u (by simpa using hu)⟩
theorem FN:cV rm 139 #[(0,1),(1,1),(2,1)]:=⟨_,underlying139,fun w=>by kernel_rfl⟩
theorem Dm(g:List Nat)(many:Nat)(gv nv tv:ox)(rows:List (List Nat))(a':List Nat)(w:ow)(hg:GrpI g many)(g1:Sl aX 1 w gv g)(hn:KT w nv rows)(h5:Sl jb 1 w tv a')(hr:KU rows a') 
  (hc:∀p,p<rows.length->∀i j,i<37->j<37->nth g i=nth g j->nth (nth rows p) i=nth (nth rows p) j) :
  BG rm 71 [gv,.agg #[nv,tv]] w fun v w'=>∃gv' nv' tv',v=.tuple #[.agg #[gv',nv',tv'],nI 0]/\gv'.oneCell'=true/\nv'.oneCell'=true/\tv'.oneCell'=true/\Lb w.heap.size w' nv' (rows.map (px g many))/\Sl jb 1 w' tv' a'/\K9 w.heap.size tv'/\ze w w':=by
 have j6:=hr.le;have i1:=hr.tl;have j7:=hg.len;have j4:=hg.pos;have j5:=hg.le;refine oD func71 ntmps71 rfl rfl ?_;refine zh ?_;refine aE (au w) 1 zo rfl rfl ?_;intro db w1 O1 g4 i8 j1 j9;refine ax j1 2 zo (Bh _) rfl ?_;intro cb w2 O2 g8 h8 j0 j8;have e7:=g4.upd h8 zd zd;have e9:uu (fun q=>1<=q) (fun _=>0) w O2 w2:=(i8.mono (fun _ h=>zo) zd).trans (h8.mono (fun _ h=>zo) zd);have d4:=e9.ext;refine zh ?_;refine zc call40 (iQ (ints g) gv w2 (g1.ext d4).natIv) ?_;rintro _ w3 ⟨rfl,h4⟩;rw[h4,hg.cnt];clear h4 w3;refine zh ?_;refine ay (d:=16) rfl (b':=false) ((by rw[beq_eq_false_iff_ne];omega)) ?_;refine zh ?_;refine zvH (ai (us:=[nv,tv]) e7.cellsAdd (Ib _) (yP _) rfl) ?_;refine zc call68 (jR nv tv rows a' w2 (hn.ext d4) (h5.ext d4) hr) ?_;rintro _ w3 ⟨rfl,j2⟩;have f5:uu (fun _=>False) O2 w2 O2 w3:=aa (fun h=>h) O2 j2;have c':=e7.upd f5 zd (fun h=>h);have g7:=g8.upd f5 zd (fun h=>h);have b6:=e9.trans (f5.mono (fun _ h=>h.elim) zd);have i':=j0.upd f5;refine zh ?_;refine zFH rfl rfl ?_;have d1:w3.drew.cell? (nA db 1)=some tv:=c'.cell 1 rfl;refine aI (fun W=>W.cell? (nA db 1)=some tv) 8 rfl zk ?_;refine zrm 0 rfl d1 rfl ?_;refine zrf 2 rfl d1 rfl ?_;refine zt 3 rfl d1 (fun w1 h'=>RV.ld h' rfl) ?_
 refine yI (fun x:ox×ox×Nat×(Nat->Nat)×World=>[(0,gv),(3,nP db),(4,nP cb),(6,nI (many:Nat)),(23,x.1),(26,x.2.1),(7,.pointer (some ⟨x.2.2.1,0,none⟩)),(27,.agg #[x.1,nS,x.2.1])]) (fun x=>x.2.2.2.2) (fun x=>Sl aX 1 x.2.2.2.2 x.1 g/\Sl jb 1 x.2.2.2.2 x.2.1 a'/\KJ x.2.2.2.1 x.2.2.2.2 x.2.1/\yJ x.2.2.2.1 x.2.2.2.2 3 x.2.2.1 #[nS,nS,nS] 139/\uu (fun q=>q=3) O2 w3 x.2.2.2.1 x.2.2.2.2/\J9 w.heap.size x.2.2.2.1 x.2.2.2.2/\K9 w3.heap.size x.2.1) #[true,true,true,true,true,true,true,false] 1 ?_ ?_
 ·intro hN;have hR:=i'.drew;have hU:uu (fun q=>q=3) O2 w3 O2 w3.drew:=aa zd O2 (tJ w3).drew;have k0:∀O W,uu (fun q=>q=3) O2 w3 O W->W.cell? (nA db 1)=some tv:=fun O W u=>(c'.upd u zd zd).cell 1 rfl
  have kg:∀O W,uu (fun q=>q=3) O2 w3 O W->Sl aX 1 W gv g:=fun O W u=>g1.ext (b6.trans (u.mono (fun _ h=>zo) zd)).ext
  have kt:∀O W,uu (fun q=>q=3) O2 w3 O W->Sl jb 1 W tv a':=fun O W u=>h5.ext (b6.trans (u.mono (fun _ h=>zo) zd)).ext
  refine bV 1 6 zk rfl rfl ?_ ?_ 
  ·refine zc call115 (qB g gv _ (kg _ _ hU) (fun _ _=>rfl) (fun u hu c hc=>by rw[pZ.1 hc];rfl) zo) ?_;rintro a1 wa ⟨fA,f4,_⟩;have b2:=fun O=>aa (S:=fun _=>False) (fun h=>h) O f4
   have hU:=Dc hU ((b2 _).mono (fun _ h=>h.elim) zd);have hR:=JP hR (b2 _)
   try have fB:=J3 fB f4
   try have gB:=Jp gB (b2 _)
   try have fC:=tp fC (b2 _) zd (fun h=>h)
   refine zh ?_;refine af (k0 _ _ hU) ?_
   refine bV 4 6 zk rfl rfl ?_ ?_ 
   ·refine zc L6 (lY a' tv _ (kt _ _ hU) (fun _ _=>rfl) (fun u hu c hc=>by rw[pZ.1 hc];rfl) zo) ?_;rintro a0 wb ⟨fB,b8,b9⟩;have nB:=(rJ b9).mono hU.size;have gB:=b9 _ _ hR;have a9:=fun O=>aa (S:=fun _=>False) (fun h=>h) O b8
    have hU:=Dc hU ((a9 _).mono (fun _ h=>h.elim) zd);have hR:=JP hR (a9 _)
    try have fA:=J3 fA b8
    try have fC:=tp fC (a9 _) zd (fun h=>h)
    refine zh ?_;refine af (k0 _ _ hU) ?_
    have oA:=JV fA;have oB:=JV fB;refine zr 5 rfl (k0 _ _ hU) (fun _=>aF FN (Bh _) rfl (by simp only[qN,oA,oB,uY];rfl) rfl rfl) ?_;refine sP 6 zk rfl ?_;refine ax hR 3 zd (Bh _) rfl ?_;intro ob wc Oc fC a8 e' f3;have hU:=Dc hU a8;have hR:=e'
    try have fA:=J3 fA f3
    try have fB:=KY fB gB a8
    try have gB:=Jp gB a8
    refine zh ?_;refine af (k0 _ _ hU) ?_
    exact KN (hN (a1,a0,ob,_,_) ⟨fA,fB,gB,fC,hU,hR,nB⟩) zk ⟨rfl,rfl,rfl,rfl,rfl,rfl,rfl,rfl,trivial⟩ rfl
   refine ax hR 3 zd (Bh _) rfl ?_;intro ob wc Oc fC a8 e' f3;have hU:=Dc hU a8;have hR:=e'
   try have fA:=J3 fA f3
   try have fB:=KY fB gB a8
   try have gB:=Jp gB a8
   refine zh ?_;refine af (k0 _ _ hU) ?_
   refine sP 4 zk rfl ?_;refine zc L6 (lY a' tv _ (kt _ _ hU) (fun _ _=>rfl) (fun u hu c hc=>by rw[pZ.1 hc];rfl) zo) ?_
   rintro a0 wb ⟨fB,b8,b9⟩;have nB:=(rJ b9).mono hU.size;have gB:=b9 _ _ hR;have a9:=fun O=>aa (S:=fun _=>False) (fun h=>h) O b8
   have hU:=Dc hU ((a9 _).mono (fun _ h=>h.elim) zd);have hR:=JP hR (a9 _)
   try have fA:=J3 fA b8
   try have fC:=tp fC (a9 _) zd (fun h=>h)
   refine zh ?_;refine af (k0 _ _ hU) ?_
   have oA:=JV fA;have oB:=JV fB;refine zr 5 rfl (k0 _ _ hU) (fun _=>aF FN (Bh _) rfl (by simp only[qN,oA,oB,uY];rfl) rfl rfl) ?_;exact KN (hN (a1,a0,ob,_,_) ⟨fA,fB,gB,fC,hU,hR,nB⟩) zk ⟨rfl,rfl,rfl,rfl,rfl,rfl,rfl,rfl,trivial⟩ rfl
  refine ax hR 3 zd (Bh _) rfl ?_;intro ob wc Oc fC a8 e' f3;have hU:=Dc hU a8;have hR:=e'
  try have fA:=J3 fA f3
  try have fB:=KY fB gB a8
  try have gB:=Jp gB a8
  refine zh ?_;refine af (k0 _ _ hU) ?_
  refine sP 1 zk rfl ?_;refine zc call115 (qB g gv _ (kg _ _ hU) (fun _ _=>rfl) (fun u hu c hc=>by rw[pZ.1 hc];rfl) zo) ?_
  rintro a1 wa ⟨fA,f4,_⟩;have b2:=fun O=>aa (S:=fun _=>False) (fun h=>h) O f4
  have hU:=Dc hU ((b2 _).mono (fun _ h=>h.elim) zd);have hR:=JP hR (b2 _)
  try have fB:=J3 fB f4
  try have gB:=Jp gB (b2 _)
  try have fC:=tp fC (b2 _) zd (fun h=>h)
  refine zh ?_;refine af (k0 _ _ hU) ?_
  refine sP 4 zk rfl ?_;refine zc L6 (lY a' tv _ (kt _ _ hU) (fun _ _=>rfl) (fun u hu c hc=>by rw[pZ.1 hc];rfl) zo) ?_
  rintro a0 wb ⟨fB,b8,b9⟩;have nB:=(rJ b9).mono hU.size;have gB:=b9 _ _ hR;have a9:=fun O=>aa (S:=fun _=>False) (fun h=>h) O b8
  have hU:=Dc hU ((a9 _).mono (fun _ h=>h.elim) zd);have hR:=JP hR (a9 _)
  try have fA:=J3 fA b8
  try have fC:=tp fC (a9 _) zd (fun h=>h)
  refine zh ?_;refine af (k0 _ _ hU) ?_
  have oA:=JV fA;have oB:=JV fB;refine zr 5 rfl (k0 _ _ hU) (fun _=>aF FN (Bh _) rfl (by simp only[qN,oA,oB,uY];rfl) rfl rfl) ?_;exact KN (hN (a1,a0,ob,_,_) ⟨fA,fB,gB,fC,hU,hR,nB⟩) zk ⟨rfl,rfl,rfl,rfl,rfl,rfl,rfl,rfl,trivial⟩ rfl
 rintro⟨a1,a0,ob,O7,w7⟩ ⟨e5,c5,c9,b1,b4,h9,e4⟩;dsimp only at e5 c5 c9 b1 b4 h9 e4 ⊢;have o1:=e5.one;have o2:=c5.one;have g3:=c'.upd b4 zd zd;have g6:=g7.upd b4 zd zd;refine sP 7 zk rfl ?_;refine zsb (us:=#[a1,nS,a0]) b1 (K4 _) (by simp only[qN,o1,o2];rfl) ?_;have g0:=b1.setRow (us:=#[a1,nS,a0]);have d7:uu (fun j=>j=3) O7 w7 O7 (w7.setRow ob #[a1,nS,a0]):=rj zd b1.tag rfl;have f9:=c5.upd c9 d7;have g2:=c9.upd d7;have e6:=g3.upd d7 zd zd;have g5:=g6.upd d7 zd zd;have d3:=(b6.trans (b4.mono (fun _ h=>zo) zd)).trans (d7.mono (fun _ h=>zo) zd);have i9:=h9.upd d7;generalize w7.setRow ob #[a1,nS,a0]=w8 at *;refine zh ?_;refine af (e6.cell 1 rfl) ?_;have e0:w8.cell? (nA db 0)=some nv:=e6.cell 0 rfl;obtain⟨vs,d9,j3,f8⟩:=hn;have i0:=d9.ext d3.ext;refine Ae zk ?_;refine zh ?_;refine zlp (fun z:Nat×(Nat->Nat)×World×ox×List ox=>[(0,gv),(3,nP db),(4,nP cb),(6,nI (many:Nat)),(7,nP ob),(29,nv),(30,nI vs.length),(31,nI z.1)]) (fun z=>z.2.2.1) (fun z=>z.1<=rows.length/\uu (fun q=>3<=q) O7 w8 z.2.1 z.2.2.1/\J9 w.heap.size z.2.1 z.2.2.1/\yJ z.2.1 z.2.2.1 3 ob #[a1,z.2.2.2.1,a0] 139/\RwO z.2.1 z.2.2.1 4 z.2.2.2.1 z.2.2.2.2 ((rows.take z.1).map (px g many))/\∀k,k<z.1->K9 w.heap.size (nth z.2.2.2.2 k)) (fun z=>rows.length-z.1) (0,O7,w8,nS,[]) (⟨pR _,FX zd _ _,i9,g0,⟨uV _ _ _ _ _ _,rfl,fun k hk=>absurd hk (rI k)⟩,fun k hk=>absurd hk (rI k)⟩) ?_
 rintro⟨i,O9,w9,d6,d5⟩ ⟨hi,e8,f6,c6,a4,c7⟩;dsimp only at hi e8 f6 c6 a4 c7 ⊢;have b5:=d3.trans (e8.mono (fun _ h=>zo) zd);have f7:=d9.ext b5.ext;have i2:=a4.len;have f':((rows.take i).map (px g many)).length=i:=by simp;omega
 refine zh ?_;refine zC ?_ ?_
 ·intro c8;replace c8:i<rows.length:=dT c8;have m1:w9.cell? (adr nv 1 i)=some (nth vs i):=by have:=f7.cell (i:=i) (j:=0) zo rfl;rwa[ao]at this
  obtain⟨r1,r2⟩:=hr.row i c8;refine zh ?_;refine zc call117 (zq g (nth rows i) many gv (nth vs i) w9 hg (g1.ext b5.ext) ((f8 i c8).ext b5.ext) r1 (hc i c8)) ?_;rintro _ h3 ⟨ov,rfl,h6,h2,h7⟩;have b3:uu (fun _=>False) O9 w9 O9 h3:=aa (fun h=>h) O9 h2;have e2:=h7 _ _ f6;have i3:=(rJ h7).mono b5.size;have h1:=f6.upd b3;have b7:=c6.upd b3 zd (fun h=>h);have a2:=a4.upd b3 zd (fun h=>h);obtain⟨oa,oc,i4,_⟩:=h6.shape;subst i4;refine zh ?_;refine aS rfl rfl ?_;have f0:h3.cell? (nA ob 1)=some d6:=b7.cell 1 rfl;refine zh ?_;refine Fu D9 a2.row h1 ((.slice oa (px g many (nth rows i)).length oc:ox)) (fun _=>rfl) rfl rfl rfl (by simp[th]) zo zo zo zd rfl rfl ?_;intro a3 d8 O11 a6 a5 h0;have a7:=b7.upd a5 zd zd;have e1:RwO O11 d8 4 a3 (d5++[.slice oa (px g many (nth rows i)).length oc]) ((rows.take (i+1)).map (px g many)):=by
   rw[aR c8,C9];refine⟨a6,by simp;omega,fun k hk=>?_⟩;rw[aA,aA]
   by_cases e:k<((rows.take i).map (px g many)).length
   ·rw[if_pos zo,if_pos e];exact⟨(a2.at_ k e).1.upd (a2.at_ k e).2 a5,(a2.at_ k e).2.upd a5⟩
   have i5:k=i:=by simp at hk;omega
   subst i5;rw[if_neg zo,if_neg e,f',show k-d5.length=0 from by omega,Gc,ar,I4,JJ,ar];exact⟨h6.upd e2 a5,e2.upd a5⟩
  refine zh ?_;refine ak (j:=1) a7 rfl (sizeOf50 _) a6.one rfl rfl rfl ?_
  have d2:uu (fun j=>j=3) O11 d8 O11 (d8.setCell ⟨ob,1,none⟩ a3):=xK zd a7.tag rfl;have e3:yJ O11 (d8.setCell ⟨ob,1,none⟩ a3) 3 ob #[a1,a3,a0] 139:=a7.set 1 _;have d':=e1.upd d2 zd zd;have g':=h0.upd d2;generalize d8.setCell ⟨ob,1,none⟩ a3=w12 at *;refine zh ?_;refine zxd (i+1,O11,w12,a3,d5++[.slice oa (px g many (nth rows i)).length oc]) (⟨c8,((e8.trans (b3.mono (fun _ h=>h.elim) zd)).trans (a5.mono (fun _ h=>zo) zd)).trans (d2.mono (fun _ h=>zo) zd),g',e3,d',fun k hk=>?_⟩);dsimp only at hk ⊢;rw[aA]
  by_cases e:k<d5.length
  ·rw[if_pos e];exact c7 k zo
  rw[if_neg e,show k-d5.length=0 from by omega,ar];exact i3
 intro i6;obtain rfl:i=rows.length:=dF i6;rw[sQ]at a4;have o3:=a4.row.one;have d0:=g5.upd e8 zd zd;refine zh ?_;refine zv (ai (us:=[a1,d6,a0]) c6.cellsAdd (isAgg139 _) (K4 _) rfl) ?_;refine zsb (us:=#[a1,d6,a0]) d0 (K4 _) (by simp only[qN,o1,o2,o3];rfl) ?_;have i7:=d0.setRow (us:=#[a1,d6,a0]);have g9:uu (fun j=>j=2) O9 w9 O9 (w9.setRow cb #[a1,d6,a0]):=rj zd d0.tag rfl;have b0:=a4.upd g9 zd zd;have hU9z:=(e8.mono (S':=fun q=>2<=q) (fun _ h=>zo) zd).trans (g9.mono (fun _ h=>zo) zd);refine zh ?_;refine bA rfl rfl rfl (i7.cellsAdd) (isAgg139 _) (K4 _) (⟨a1,d6,a0,rfl,o1,o3,o2,⟨d5,b0.row.sl,b0.row.newV zd (f6.upd g9),b0.len,fun k hk=>⟨(b0.at_ k hk).1,c7 k (by simpa using hk)⟩⟩,f9.upd g2 hU9z,e4.mono b6.size,(d3.trans (hU9z.mono (fun _ h=>zo) zd)).ext⟩)
def pK(a0:List Int)(base c:Nat):Bool:=!(decide (base+c<a0.length)&&nth a0 (base+c) != -1)
theorem zi(pb:Nat)(cv kv:ox)(a0:List Nat)(a2:List Int)(base:Nat)(w:ow) 
  (hp:w.cell? ⟨pb,3,none⟩=some kv) (hk:J7 w kv a2) (hc:Jm w cv a0) (a6:∀c∈a0,c<=64) (hb:base<=200000) :
  BG rm 153 [nP pb,cv,nI base] w fun v w'=>v=.bool (a0.all (pK a2 base))/\w=w':=by
 have a8:=hk.len_le;have a':=hc.len_le;refine oD func153 ntmps153 rfl rfl ?_;refine zh ?_;refine zlp (fun k:Nat=>[(0,nP pb),(1,cv),(2,nI base),(9,cv),(10,nI a0.length),(11,nI k)]) (fun k=>w) (fun k=>k<=a0.length/\∀j,j<k->pK a2 base (nth a0 j)=true) (fun k=>a0.length-k) 0 (⟨pR _,fun j hj=>absurd hj (rI j)⟩) ?_;intro k ⟨a9,a4⟩;refine zh ?_;refine zC ?_ ?_
 ·intro a1;replace a1:k<a0.length:=by simpa using a1
  have b0:=a6 _ (aO a1);refine zh ?_;refine zvH (RV.ld (hc.ld zo) rfl) ?_;refine zvH (RV.ld hp rfl) ?_
  by_cases a5:base+nth a0 k<a2.length
  ·refine ay (d:=24) rfl (b':=true) (by simpa using(by omega:(base:Int)+((nth a0 k:Nat):Int)<(a2.length:Int))) ?_;refine zh ?_
   refine zvH (RV.ld hp rfl) ?_;refine zvH (RV.ld (hk.ld zo) rfl) ?_
   refine zC ?_ ?_
   ·intro a3;refine zh ?_;refine ae rfl rfl (⟨?_,rfl⟩);rw[vG a1];simp only[pK,a5,a3];rfl
   intro a3;refine zh ?_;refine zxd (k+1) (⟨a1,fun j hj=>?_⟩)
   rcases rk.1 hj with h|rfl
   ·exact a4 j h
   simp only[pK,a5,a3];rfl
  refine ay (d:=24) rfl (b':=false) (by simpa using(by omega:¬(base:Int)+((nth a0 k:Nat):Int)<(a2.length:Int))) ?_;refine zh ?_
  refine zFH rfl rfl ?_;refine zxd (k+1) (⟨a1,fun j hj=>?_⟩)
  rcases rk.1 hj with h|rfl
  ·exact a4 j h
  simp only[pK,a5];rfl
 intro a7;replace a7:a0.length<=k:=by simpa using a7
 refine zh ?_;refine ae rfl rfl (⟨?_,rfl⟩)
 rw[Gg fun j hj=>a4 j zo]
def cnt(row:List Int)(n:Int):Int:=(row.count n:Int)
def mL(row:List Int)(b n:Int):Int:=if cnt row b<cnt row n\/(cnt row n=cnt row b/\n<b)then n else b
def bO(row:List Int):Int:=row.foldl (mL row) (nth row 0)
abbrev iv:Int->ox:=Value.int .i64
theorem qo:KeyL rm 3 iv:=KeyL.int Kh
theorem An(row:List Int)(rv:ox)(w:ow)(h:J7 w rv row)(a9:0<row.length):
  BG rm 152 [rv] w fun u w'=>u=nI (bO row)/\ze w w':=by
 have hl:=h.len_le;have a6:∀r z,0<=cnt r z:=fun r z=>by simp only[cnt];omega
 have a5:∀k z,cnt (row.take k) z<=k:=fun k z=>by
  have h1:=List.count_le_length (a:=z) (l:=row.take k);have h2:=List.length_take_le k row;simp only[cnt];omega
 refine oD func152 ntmps152 rfl rfl ?_;refine zh ?_
 refine WL.makeMap rfl ?_;refine zh ?_
 refine zvH (As (by first|exact h.ext (JL _ _)) oU rfl) ?_;refine zlp (fun x:Nat×ow×List (Int×Int)=>[(0,rv),(3,.map (some w.heap.size)),(10,rv),(11,nI row.length),(12,nI x.1)]) (fun x=>x.2.1) (fun x=>x.1<=row.length/\MapO iv iv (lJ (fun _=>0) w.heap.size 1) x.2.1 1 w.heap.size x.2.2/\uu (fun j=>j=1) (fun _=>0) w (lJ (fun _=>0) w.heap.size 1) x.2.1/\∀z,(bx x.2.2 z).getD 0=cnt (row.take x.1) z) (fun x=>row.length-x.1) (0,_,[]) (⟨pR _,MapO.new _ _ _,Kk zd (au _) _ _,fun z=>by simp[bx,cnt]⟩) ?_
 rintro⟨k,w1,m⟩ ⟨hk,hm,hU,a2⟩;dsimp only at hk hm hU a2 ⊢;have h1:=h.ext hU.ext;refine zh ?_;refine zC ?_ ?_
 ·intro a1;replace a1:k<row.length:=by simpa using a1
  have hc:=a5 k (nth row k);have a':=a6 (row.take k) (nth row k);refine zh ?_;refine zvH (RV.ld (h1.ld zo) rfl) ?_;refine zvH (Gb hm CX qo (A2 _) (nth row k) rfl rfl rfl (u:=iv (cnt (row.take k) (nth row k))) (by rw[<-a2];cases bx m (nth row k)<;>rfl)) ?_;refine KM hm CX qo zd (nth row k) (cnt (row.take k) (nth row k)+1) rfl rfl rfl rfl rfl ?_;intro w2 a7 a8;refine zh ?_;refine zxd (k+1,w2,_) (⟨a1,a7,hU.trans a8,fun z=>?_⟩);dsimp only;rw[bf,aR a1]
  by_cases hz:nth row k=z
  ·subst hz;simp[cnt]
  rw[if_neg hz,a2];simp[cnt,List.count_append,hz]
 intro a3;replace a3:row.length<=k:=by simpa using a3
 have a4:∀z,(bx m z).getD 0=cnt row z:=fun z=>by rw[a2,JI a3]
 refine zh ?_;refine zvH (RV.ld (h1.ld zo) rfl) ?_
 refine zlp (fun x:Nat×Int=>[(3,.map (some w.heap.size)),(24,rv),(25,nI row.length),(26,nI x.1),(6,nI x.2)]) (fun x=>w1) (fun x=>x.1<=row.length/\(row.take x.1).foldl (mL row) (nth row 0)=x.2) (fun x=>row.length-x.1) (0,nth row 0) (⟨pR _,rfl⟩) ?_;rintro⟨k,b⟩ ⟨hk,hb⟩;dsimp only at hk hb ⊢;refine zh ?_
 refine zC ?_ ?_
 ·intro a1;replace a1:k<row.length:=by simpa using a1
  have a0:(row.take (k+1)).foldl (mL row) (nth row 0)=mL row b (nth row k):=by rw[aR a1,ug,hb];rfl
  have L:∀z,Gk iv (nI 0) (bx m z)=iv (cnt row z):=fun z=>by rw[<-a4];cases bx m z<;>rfl
  refine zh ?_;refine zvH (RV.ld (h1.ld zo) rfl) ?_
  refine zvH (Gb hm CX qo (A2 _) (nth row k) rfl rfl rfl (L _)) ?_;refine zvH (Gb hm CX qo (A2 _) b rfl rfl rfl (L _)) ?_
  by_cases h1:cnt row b<cnt row (nth row k)
  ·refine ay (d:=37) rfl (b':=true) (decide_eq_true h1) ?_;refine zh ?_
   refine zTH rfl rfl ?_;refine zxd (k+1,_) (⟨a1,by rw[a0,mL,if_pos (.inl h1)]⟩)
  refine ay (d:=37) rfl (b':=false) (decide_eq_false h1) ?_;refine zh ?_
  refine zvH (Gb hm CX qo (A2 _) (nth row k) rfl rfl rfl (L _)) ?_;refine zvH (Gb hm CX qo (A2 _) b rfl rfl rfl (L _)) ?_
  by_cases h2:cnt row (nth row k)=cnt row b
  ·refine ay (d:=45) rfl (b':=true) (by simpa using h2) ?_;refine zh ?_
   refine zC ?_ ?_
   ·intro h3;replace h3:nth row k<b:=by simpa using h3
    refine zh ?_;refine zxd (k+1,_) (⟨a1,by rw[a0,mL,if_pos (.inr ⟨h2,h3⟩)]⟩)
   intro h3;replace h3:¬nth row k<b:=by simpa using h3
   refine zh ?_;refine zxd (k+1,_) (⟨a1,by rw[a0,mL,if_neg (fun h=>h.elim h1 fun h=>h3 h.2)]⟩)
  refine ay (d:=45) rfl (b':=false) (by simpa using h2) ?_;refine zh ?_
  refine zFH rfl rfl ?_;refine zxd (k+1,_) (⟨a1,by rw[a0,mL,if_neg (fun h=>h.elim h1 fun h=>h2 h.1)]⟩)
 intro a3;replace a3:row.length<=k:=by simpa using a3
 refine zh ?_;refine ae rfl rfl (⟨?_,hU.ext⟩)
 rw[bO,<-hb,JI a3]
theorem pL:L9 rm 22 3 1 8:=⟨oU,by kernel_rfl,zd⟩
abbrev mV(O:Nat->Nat)(w:ow)(i:Nat)(v:ox)(l:List Int):Prop:=Jr (fun x=>[nI x]) 3 1 O w i v l
structure PSt where
 width:Int
 usual:List Int
 base:List Int
 check:List Int
 next:List Int
structure PkR(T:Nat)(O:Nat->Nat)(w:ow)(pb:Nat)(p:PSt)(uv bv kv nv:ox):Prop where
 blk:yJ O w (T+1) pb #[nI p.width,uv,bv,kv,nv] 30
 u:mV O w (T+2) uv p.usual
 b:mV O w (T+3) bv p.base
 k:mV O w (T+4) kv p.check
 n:mV O w (T+5) nv p.next
def PkO(T:Nat)(O:Nat->Nat)(w:ow)(pb:Nat)(p:PSt):Prop:=∃uv bv kv nv,PkR T O w pb p uv bv kv nv
def jB(T:Nat)(i:Nat):Prop:=T+1<=i/\i<=T+5
theorem ij(T:Nat):¬jB T 0:=by unfold jB;omega
theorem PkR.upd{T:Nat}{S:Nat->Prop}{O O':Nat->Nat}{w w':ow}{pb:Nat}{p:PSt}{uv bv kv nv:ox}(h:PkR T O w pb p uv bv kv nv)(u:uu S O w O' w')(hS:∀i,jB T i->¬S i):PkR T O' w' pb p uv bv kv nv:=
 ⟨h.blk.upd u zo (hS _ (by unfold jB;omega)),h.u.upd u zo (hS _ (by unfold jB;omega)),h.b.upd u zo (hS _ (by unfold jB;omega)),h.k.upd u zo (hS _ (by unfold jB;omega)),h.n.upd u zo (hS _ (by unfold jB;omega))⟩
theorem PkO.upd{T:Nat}{S:Nat->Prop}{O O':Nat->Nat}{w w':ow}{pb:Nat}{p:PSt}(h:PkO T O w pb p)(u:uu S O w O' w')(hS:∀i,jB T i->¬S i):PkO T O' w' pb p:=by
 obtain⟨uv,bv,kv,nv,h⟩:=h;exact⟨uv,bv,kv,nv,h.upd u hS⟩
section
variable{T:Nat}{O O':Nat→Nat}{w w':ow}{pb:Nat}{p:PSt}{uv bv kv nv v:ox}{l:List Int}
theorem PkR.setK(h:PkR T O w pb p uv bv kv nv)(u:uu (fun j=>j=T+4) O w O' w')(r:mV O' w' (T+4) v l):
  PkR T O' (w'.setCell ⟨pb,3,none⟩ v) pb { p with check:=l } uv bv v nv/\uu (jB T) O w O' (w'.setCell ⟨pb,3,none⟩ v):=by
 have hb:=h.blk.upd u zo zo;have us:uu (fun j=>j=T+1) O' w' O' (w'.setCell ⟨pb,3,none⟩ v):=xK zo hb.tag rfl
 exact⟨⟨hb.set 3 v,(h.u.upd u zo zo).upd us zo zo,(h.b.upd u zo zo).upd us zo zo,r.upd us zo zo,(h.n.upd u zo zo).upd us zo zo⟩,
  (u.mono (by unfold jB;omega) (ij T)).trans (us.mono (by unfold jB;omega) (ij T))⟩
theorem PkR.setN(h:PkR T O w pb p uv bv kv nv)(u:uu (fun j=>j=T+5) O w O' w')(r:mV O' w' (T+5) v l):
  PkR T O' (w'.setCell ⟨pb,4,none⟩ v) pb { p with next:=l } uv bv kv v/\uu (jB T) O w O' (w'.setCell ⟨pb,4,none⟩ v):=by
 have hb:=h.blk.upd u zo zo;have us:uu (fun j=>j=T+1) O' w' O' (w'.setCell ⟨pb,4,none⟩ v):=xK zo hb.tag rfl
 exact⟨⟨hb.set 4 v,(h.u.upd u zo zo).upd us zo zo,(h.b.upd u zo zo).upd us zo zo,(h.k.upd u zo zo).upd us zo zo,r.upd us zo zo⟩,
  (u.mono (by unfold jB;omega) (ij T)).trans (us.mono (by unfold jB;omega) (ij T))⟩
theorem PkR.setU(h:PkR T O w pb p uv bv kv nv)(u:uu (fun j=>j=T+2) O w O' w')(r:mV O' w' (T+2) v l):
  PkR T O' (w'.setCell ⟨pb,1,none⟩ v) pb { p with usual:=l } v bv kv nv/\uu (jB T) O w O' (w'.setCell ⟨pb,1,none⟩ v):=by
 have hb:=h.blk.upd u zo zo;have us:uu (fun j=>j=T+1) O' w' O' (w'.setCell ⟨pb,1,none⟩ v):=xK zo hb.tag rfl
 exact⟨⟨hb.set 1 v,r.upd us zo zo,(h.b.upd u zo zo).upd us zo zo,(h.k.upd u zo zo).upd us zo zo,(h.n.upd u zo zo).upd us zo zo⟩,
  (u.mono (by unfold jB;omega) (ij T)).trans (us.mono (by unfold jB;omega) (ij T))⟩
theorem PkR.setB(h:PkR T O w pb p uv bv kv nv)(u:uu (fun j=>j=T+3) O w O' w')(r:mV O' w' (T+3) v l):
  PkR T O' (w'.setCell ⟨pb,2,none⟩ v) pb { p with base:=l } uv v kv nv/\uu (jB T) O w O' (w'.setCell ⟨pb,2,none⟩ v):=by
 have hb:=h.blk.upd u zo zo;have us:uu (fun j=>j=T+1) O' w' O' (w'.setCell ⟨pb,2,none⟩ v):=xK zo hb.tag rfl
 exact⟨⟨hb.set 2 v,(h.u.upd u zo zo).upd us zo zo,r.upd us zo zo,(h.k.upd u zo zo).upd us zo zo,(h.n.upd u zo zo).upd us zo zo⟩,
  (u.mono (by unfold jB;omega) (ij T)).trans (us.mono (by unfold jB;omega) (ij T))⟩
theorem PkR.c1(h:PkR T O w pb p uv bv kv nv):w.cell? ⟨pb,1,none⟩=some uv:=h.blk.cell 1 rfl
theorem PkR.c2(h:PkR T O w pb p uv bv kv nv):w.cell? ⟨pb,2,none⟩=some bv:=h.blk.cell 2 rfl
theorem PkR.c3(h:PkR T O w pb p uv bv kv nv):w.cell? ⟨pb,3,none⟩=some kv:=h.blk.cell 3 rfl
theorem PkR.c4(h:PkR T O w pb p uv bv kv nv):w.cell? ⟨pb,4,none⟩=some nv:=h.blk.cell 4 rfl
end
def PSt.long(p:PSt)(j:Nat):PSt:={ p with check:=p.check++ps j (-1),next:=p.next++ps j 0 }
def PSt.take(p:PSt)(slot:Nat)(row entry:Int):PSt:=
 let q:=p.long (slot+1-p.check.length)
 { q with check:=q.check.set slot row,next:=q.next.set slot entry }
theorem CQ(T:Nat)(pb:Nat)(p:PSt)(slot:Nat)(row entry:Int)(B:Nat)(O:Nat->Nat)(w:ow)(hp:PkO T O w pb p)(hR:J9 B O w)(hs:slot<=1000000)(hl:p.next.length=p.check.length):
  BG rm 154 [nP pb,nI slot,nI row,nI entry] w fun _ w'=>∃O',PkO T O' w' pb (p.take slot row entry)/\uu (jB T) O w O' w'/\J9 B O' w':=by
 refine oD func154 ntmps154 rfl rfl ?_;refine zh ?_
 refine zlp (fun x:Nat×(Nat->Nat)×World=>[(0,nP pb),(1,nI slot),(2,nI row),(3,nI entry)]) (fun x=>x.2.2) (fun x=>PkO T x.2.1 x.2.2 pb (p.long x.1)/\uu (jB T) O w x.2.1 x.2.2/\J9 B x.2.1 x.2.2/\x.1<=slot+1-p.check.length) (fun x=>slot+1-p.check.length-x.1) (0,O,w) (⟨by simpa[PSt.long]using hp,FX (ij T) _ _,hR,pR _⟩) ?_;rintro⟨j,O1,w1⟩ ⟨⟨uv,bv,kv,nv,h⟩,hU,a5,hj⟩;dsimp only at h hU a5 hj ⊢;have hk:=h.k.sl;have b8:(p.long j).check.length=p.check.length+j:=by simp[PSt.long]
 have b6:(p.long j).next.length=p.check.length+j:=by simp[PSt.long,hl]
 have b7:=hk.len_le;refine zh ?_;refine zvH (RV.ld h.c3 rfl) ?_;refine zC ?_ ?_
 ·intro b0;replace b0:p.check.length+j<=slot:=dT b0;refine zh ?_;refine zv (RV.ld h.c3 rfl) ?_;refine Fu pL h.k a5 (-1) (fun _=>rfl) rfl rfl rfl (by simp[th]) zo zo zo zd rfl rfl ?_;intro a9 w2 O2 a4 a1 b';obtain⟨h3,a0⟩:=h.setK a1 a4;have a2:=h.blk.upd a1 zo zo;have b3:J9 B O2 (w2.setCell ⟨pb,3,none⟩ a9):=a5.upd a0;refine zh ?_;refine ak (j:=3) a2 rfl (Ki _) a4.one rfl rfl rfl ?_;refine zh ?_;refine zv (RV.ld h3.c4 rfl) ?_;have h3n:mV O2 (w2.setCell ⟨pb,3,none⟩ a9) (T+5) nv (p.long j).next:=h3.n;refine Fu pL h3n b3 (0) (fun _=>rfl) rfl rfl rfl (by simp[th]) zo zo zo zd rfl rfl ?_;intro a8 w4 O4 a' a3 b9;obtain⟨h5,b2⟩:=h3.setN a3 a';have b5:=h3.blk.upd a3 zo zo;refine zh ?_;refine ak (j:=4) b5 rfl (Ki _) a'.one rfl rfl rfl ?_;refine zh ?_;have e:(p.long (j+1)) = { p.long j with check:=(p.long j).check++[-1],next:=(p.long j).next++[0] }:=by
   simp[PSt.long,List.replicate_succ']
  have hP:PkO T O4 (w4.setCell ⟨pb,4,none⟩ a8) pb (p.long (j+1)):=by rw[e];exact⟨_,_,_,_,h5⟩
  refine zxd (j+1,O4,w4.setCell ⟨pb,4,none⟩ a8) (⟨hP,(hU.trans a0).trans b2,b3.upd b2,zo⟩)
 intro b1;replace b1:¬p.check.length+j<=slot:=dF b1;obtain rfl:j=slot+1-p.check.length:=zo;have hN:=h.n.sl;refine zh ?_;refine aI (fun w1=>w1.cell? ⟨pb,3,none⟩=some kv/\w1.cell? ⟨pb,4,none⟩=some nv) 16 rfl zk ?_;refine zin ⟨h.c3,h.c4⟩ fun zS=>?_
 refine zrm 0 rfl zS rfl ?_;refine zr 1 rfl zS (fun _=>aq rfl) ?_
 refine zrf 2 rfl zS rfl ?_;refine zt 3 rfl zS (fun w1 a6=>RV.ld a6.1 rfl) ?_
 refine zrm 4 rfl zS rfl ?_;refine zrm 5 rfl zS rfl ?_
 refine zr 6 rfl zS (fun _=>aq rfl) ?_;refine zrf 7 rfl zS rfl ?_
 refine zt 8 rfl zS (fun w1 a6=>RV.ld a6.2 rfl) ?_;refine zrm 9 rfl zS rfl ?_
 refine zrm 10 rfl zS rfl ?_;refine zrm 11 rfl zS rfl ?_
 refine zr 12 rfl zS (fun _=>ah hk.sh oU (tG _) rfl rfl slot rfl zo) ?_;have h2:PkR T O1 w1.drew pb (p.long (slot+1-p.check.length)) uv bv kv nv:=⟨h.blk.drew,h.u.drew,h.b.drew,h.k.drew,h.n.drew⟩
 refine sP 13 zk rfl ?_;refine JA h2.k slot zo row (tG _) rfl zo rfl rfl rfl rfl ?_
 intro w2 a4 a1;have a2:=h2.blk.upd a1 zo zo;refine zh ?_;refine af (⟨a2.cell 3 rfl,a2.cell 4 rfl⟩) ?_;refine zr 14 rfl (⟨a2.cell 3 rfl,a2.cell 4 rfl⟩) (fun _=>ah hN.sh oU (tG _) rfl rfl slot rfl zo) ?_;refine sP 15 zk rfl ?_;refine JA (h2.n.upd a1 zo zo) slot zo entry (tG _) rfl zo rfl rfl rfl rfl ?_;intro w3 b4 a0;have a7:=a2.upd a0 zo zo;refine zh ?_;refine af (⟨a7.cell 3 rfl,a7.cell 4 rfl⟩) ?_;refine Ae zk ?_;have a3:uu (jB T) O1 w1 O1 w3:=((a1.mono (by unfold jB;omega) (ij T)).trans (a0.mono (by unfold jB;omega) (ij T))).ofDrew;refine aH rfl (⟨O1,⟨uv,bv,kv,nv,⟨a7,(h2.u.upd a1 zo zo).upd a0 zo zo,(h2.b.upd a1 zo zo).upd a0 zo zo,a4.upd a0 zo zo,b4⟩⟩,hU.trans a3,a5.upd a3⟩)
theorem pG{F:Jv}(hF:∀(args:Array ox) (w:ow),(callFunc F args).run rm w=.ok (.enter F args) w)(cs:Array ox)(l:List (Int))(sv:ox)(q:Nat->Bool)(w:ow)(h:Sl (fun x=>[nI x]) 1 w sv l) 
  (hq:∀i,i<l.length->∀w',ze w w'->BG rm F ([nI (nth l i)]++cs.toList) w' fun v w''=>v=.bool (q i)/\ze w' w'') :
  BG rm 174 [sv,.func (.func F) #[] cs] w fun v w'=>v=nI (dQ q l.length)/\ze w w':=by
 have hl:=h.len_le;refine oD func174 ntmps174 rfl rfl ?_;refine zh ?_;refine zlp (fun x:Nat×ow=>[(0,sv),(1,.func (.func F) #[] cs),(7,nI l.length),(8,nI x.1)]) (fun x=>x.2) (fun x=>x.1<=l.length/\ze w x.2/\∀i,i<x.1->q i=false) (fun x=>l.length-x.1) (0,w) (⟨pR _,tJ _,fun i hi=>absurd hi (rI i)⟩) ?_;rintro⟨k,w1⟩ ⟨hk,hE,a1⟩;dsimp only at hk hE a1 ⊢;have h1:=h.ext hE;refine zh ?_;refine zC ?_ ?_
 ·intro a0;replace a0:k<l.length:=dT a0;refine zh ?_;refine zv (RV.ld (h1.ld a0) rfl) ?_;refine dN rfl hF rfl (hq k a0 w1 hE) rfl ?_;rintro v w2 ⟨rfl,a3⟩;refine zh ?_;refine zC ?_ ?_
  ·intro hy;refine zh ?_;refine ae rfl rfl (⟨by rw[cG a0 hy a1],hE.trans a3⟩)
  intro hy;refine zh ?_;refine zxd (k+1,w2) (⟨a0,hE.trans a3,fun i hi=>(rk.1 hi).elim (a1 i) (fun e=>by rw[e];exact hy)⟩)
 intro a2;replace a2:l.length<=k:=dF a2;refine zh ?_;refine ae rfl rfl (⟨by rw[cE fun i hi=>a1 i zo],hE⟩)
theorem lW{F:Jv}(hF:∀(args:Array ox) (w:ow),(callFunc F args).run rm w=.ok (.enter F args) w)(cs:Array ox)(l:List (Int))(sv:ox)(q:Nat->Bool)(w:ow)(h:Sl (fun x=>[nI x]) 1 w sv l) 
  (hq:∀i,i<l.length->∀w',ze w w'->BG rm F ([nI (nth l i)]++cs.toList) w' fun v w''=>v=.bool (q i)/\ze w' w'') :
  BG rm 150 [sv,.func (.func F) #[] cs] w fun v w'=>v=.bool (anyN q l.length)/\ze w w':=by
 refine oD func150 ntmps150 rfl rfl ?_;refine zh ?_
 refine zc call174 (pG hF cs l sv q w h hq) ?_;rintro v w1 ⟨rfl,hE⟩;refine zh ?_
 refine ae rfl rfl (⟨by rw[firstN_any],hE⟩)
theorem pD{F:Jv}(hF:∀(args:Array ox) (w:ow),(callFunc F args).run rm w=.ok (.enter F args) w)(cs:Array ox)(l:List (ox))(sv:ox)(q:Nat->Bool)(w:ow)(h:Sl (fun x=>[x]) 1 w sv l) 
  (hq:∀i,i<l.length->∀w',ze w w'->BG rm F ([id (nth l i)]++cs.toList) w' fun v w''=>v=.bool (q i)/\ze w' w'') :
  BG rm 124 [sv,.func (.func F) #[] cs] w fun v w'=>v=nI (dQ q l.length)/\ze w w':=by
 have hl:=h.len_le;refine oD func124 ntmps124 rfl rfl ?_;refine zh ?_;refine zlp (fun x:Nat×ow=>[(0,sv),(1,.func (.func F) #[] cs),(7,nI l.length),(8,nI x.1)]) (fun x=>x.2) (fun x=>x.1<=l.length/\ze w x.2/\∀i,i<x.1->q i=false) (fun x=>l.length-x.1) (0,w) (⟨pR _,tJ _,fun i hi=>absurd hi (rI i)⟩) ?_;rintro⟨k,w1⟩ ⟨hk,hE,a1⟩;dsimp only at hk hE a1 ⊢;have h1:=h.ext hE;refine zh ?_;refine zC ?_ ?_
 ·intro a0;replace a0:k<l.length:=dT a0;refine zh ?_;refine zv (RV.ld (h1.ld a0) rfl) ?_;refine dN rfl hF rfl (hq k a0 w1 hE) rfl ?_;rintro v w2 ⟨rfl,a3⟩;refine zh ?_;refine zC ?_ ?_
  ·intro hy;refine zh ?_;refine ae rfl rfl (⟨by rw[cG a0 hy a1],hE.trans a3⟩)
  intro hy;refine zh ?_;refine zxd (k+1,w2) (⟨a0,hE.trans a3,fun i hi=>(rk.1 hi).elim (a1 i) (fun e=>by rw[e];exact hy)⟩)
 intro a2;replace a2:l.length<=k:=dF a2;refine zh ?_;refine ae rfl rfl (⟨by rw[cE fun i hi=>a1 i zo],hE⟩)
theorem fW{F:Jv}(hF:∀(args:Array ox) (w:ow),(callFunc F args).run rm w=.ok (.enter F args) w)(cs:Array ox)(l:List (ox))(sv:ox)(q:Nat->Bool)(w:ow)(h:Sl (fun x=>[x]) 1 w sv l) 
  (hq:∀i,i<l.length->∀w',ze w w'->BG rm F ([id (nth l i)]++cs.toList) w' fun v w''=>v=.bool (q i)/\ze w' w'') :
  BG rm 78 [sv,.func (.func F) #[] cs] w fun v w'=>v=.bool (anyN q l.length)/\ze w w':=by
 refine oD func78 ntmps78 rfl rfl ?_;refine zh ?_
 refine zc call124 (pD hF cs l sv q w h hq) ?_;rintro v w1 ⟨rfl,hE⟩;refine zh ?_
 refine ae rfl rfl (⟨by rw[firstN_any],hE⟩)
theorem uX(a:Int)(b1 b2:Addr)(lo hi:Int)(w:ow)(h1:w.cell? b1=some (nI lo))(h2:w.cell? b2=some (nI hi)):
  BG rm 151 [nI a,.pointer (some b1),.pointer (some b2)] w fun v w'=>v=.bool (decide (a<lo)||decide (hi<a))/\w=w':=by
 refine oD func151 ntmps151 rfl rfl ?_;refine zh ?_
 by_cases a0:a<lo
 ·refine ay (d:=8) rfl (b':=true) (decide_eq_true a0) ?_;refine zh ?_
  refine ae rfl rfl (⟨by simp[a0],rfl⟩)
 refine ay (d:=8) rfl (b':=false) (decide_eq_false a0) ?_;refine zh ?_
 refine ae rfl rfl (⟨by simp[a0],rfl⟩)
def inB(lo hi:Int)(l:List Int):Bool:=l.all fun n=>decide (lo<=n)&&decide (n<=hi)
theorem fF(lo hi:Int)(l:List Int)(lv:ox)(w:ow)(h:J7 w lv l):
  BG rm 119 [lv,nI lo,nI hi] w fun v w'=>v=.bool (inB lo hi l)/\ze w w':=by
 refine oD func119 ntmps119 rfl rfl ?_;refine zh ?_
 refine WL.box rfl rfl ?_;refine WL.box rfl rfl ?_
 refine zh ?_;refine zv (eA rfl rfl) ?_
 have hE:ze w ((w.alloc (.cells #[nI lo] 3)).alloc (.cells #[nI hi] 3)):=(JL _ _).trans (JL _ _);have c2:((w.alloc (.cells #[nI lo] 3)).alloc (.cells #[nI hi] 3)).cell? ⟨w.heap.size,0,none⟩=some (nI lo):=(JL _ _).cell (by rw[JN _ _ _ _ rfl];rfl);have c3:((w.alloc (.cells #[nI lo] 3)).alloc (.cells #[nI hi] 3)).cell? ⟨(w.alloc (.cells #[nI lo] 3)).heap.size,0,none⟩=some (nI hi):=by rw[JN _ _ _ _ rfl];rfl
 refine zc call150 (lW call151 _ l lv (fun i=>decide (nth l i<lo)||decide (hi<nth l i)) _ (h.ext hE) (fun i hi w' a0=>(uX _ _ _ _ _ w' (a0.cell c2) (a0.cell c3)).mono fun v w'' ⟨e1,e2⟩=>⟨e1,e2▸tJ _⟩)) ?_;rintro v w1 ⟨rfl,a1⟩;refine zh ?_
 refine ae rfl rfl (⟨?_,hE.trans a1⟩);rw[iG (l:=l) (p:=fun n=>decide (n<lo)||decide (hi<n)),inB,List.all_eq_not_any_not];congr 3;funext n;rw[Bool.eq_iff_iff];simp
def fX(row:List Int)(u:Int)(k:Nat):List Nat:=(su k).filter fun c=>nth row c != u
def bM(row:List Int)(u:Int):List Nat:=fX row u row.length
theorem jS(row:List Int)(u:Int)(k:Nat):fX row u (k+1)=if nth row k=u then fX row u k else fX row u k++[k]:=by
 unfold fX;rw[Gh,List.filter_append]
 by_cases h:nth row k=u<;>simp[h]
theorem kW{row:List Int}{u:Int}{k c:Nat}(h:c∈fX row u k):c<k:=by
 simp only[fX,List.mem_filter,Dd]at h;exact h.1
theorem zN(row:List Int)(u:Int)(k:Nat):(fX row u k).length<=k:=by
 have:=List.length_filter_le (fun c=>nth row c != u) (su k);simpa[fX]using this
def eQ(a1:List Int)(a0:List Nat)(b:Nat):Bool:=a0.all (pK a1 b)
def fZ(a1:List Int)(a0:List Nat):Nat:=((su (a1.length+1)).find? (eQ a1 a0)).getD 0
theorem lM(a1:List Int)(a0:List Nat):eQ a1 a0 a1.length=true:=by
 rw[eQ,vg];intro c _;simp[pK]
theorem Cc{a1:List Int}{a0:List Nat}{b:Nat}(hb:eQ a1 a0 b=true)(a2:∀j,j<b->eQ a1 a0 j=false):fZ a1 a0=b:=by
 have a3:b<=a1.length:=by
  refine Nat.le_of_not_lt fun h=>?_
  have:=a2 _ h;rw[lM]at this;cases this
 have:(su (a1.length+1)).find? (eQ a1 a0)=some b:=by
  rw[JD];exact⟨hb,Dd.2 zo,fun j hj=>by simp[a2 j hj]⟩
 rw[fZ,this];rfl
theorem gF(a1:List Int)(a0:List Nat):eQ a1 a0 (fZ a1 a0)=true/\fZ a1 a0<=a1.length/\∀j,j<fZ a1 a0->eQ a1 a0 j=false:=by
 have:∃b,(su (a1.length+1)).find? (eQ a1 a0)=some b:=by
  cases hf:(su (a1.length+1)).find? (eQ a1 a0)with
  |some j=>exact⟨j,rfl⟩
  |none=>rw[List.find?_eq_none]at hf;exact absurd (lM a1 a0) (hf _ (Dd.2 zo))
 obtain⟨b,hb⟩:=this;have h2:=hb;rw[JD]at h2;have h3:=Dd.1 h2.2.1;rw[fZ,hb];exact⟨h2.1,by simpa using(by omega:b<=a1.length),fun j hj=>by simpa using h2.2.2 j hj⟩
def PSt.lay(p:PSt)(row:List Int):PSt:=
 let u:=bO row
 let a0:=bM row u
 let b:=fZ p.check a0
 let q:=a0.foldl (fun q c=>q.take (b+c) p.base.length (nth row c)) p
 { q with usual:=q.usual++[u],base:=q.base++[(b:Int)] }
theorem mK{p:PSt}{s:Nat}{r e:Int}(h:p.next.length=p.check.length):(p.take s r e).next.length=(p.take s r e).check.length:=by simp[PSt.take,PSt.long,h]
def yM(T:Nat)(i:Nat):Prop:=T+1<=i/\i<=T+6
theorem tz(T:Nat):¬yM T 0:=by unfold yM;omega
abbrev IV(O:Nat->Nat)(w:ow)(i:Nat)(v:ox)(l:List Nat):Prop:=Jr (fun(x:Nat)=>[nI (x:Int)]) 3 1 O w i v l
theorem vD(T pb:Nat)(p:PSt)(row:List Int)(rv:ox)(B:Nat)(O:Nat → Nat)(w:ow)(hp:PkO T O w pb p)(hR:J9 B O w)
  (hrow:∀w', RowKit.Below B w w' → J7 w' rv row) (hne:0 < row.length) (hw:row.length ≤ 64) (hl:p.next.length = p.check.length) (hck:p.check.length ≤ 100000)
  (hul:p.usual.length ≤ 100000) (hbl:p.base.length ≤ 100000) :
  BG rm 120 [nP pb, rv] w fun _ w' => ∃O', PkO T O' w' pb (p.lay row) ∧ uu (yM T) O w O' w' ∧ J9 B O' w' := by
 have hrl := (hrow w (Js _ _)).len_le
 refine oD func120 ntmps120 rfl rfl ?_
 refine pc ?_
 refine oz ?_
 refine zv (ix rfl) ?_
 refine zc call152 (An row rv w (hrow w (Js _ _)) hne) ?_
 rintro v w1 ⟨rfl, hE1⟩
 have hU1:uu (yM T) O w O w1 := aa (tz T) O hE1
 have hR1 := hR.upd hU1
 have hp1:PkO T O w1 pb p := hp.upd (aa (S := fun _ => False) (fun h => h) O hE1) (fun _ _ h => h)
 generalize hu:bO row = u
 refine zv (qy rfl) ?_
 refine ln ?_
 refine az ?_
 refine pc ?_
 refine oz ?_
 refine zv (qy rfl) ?_
 refine ln ?_
 refine az ?_
 refine pc ?_
 refine pc ?_
 refine oz ?_
 refine zv (ix rfl) ?_
 refine zv (As (by first | exact hrow _ (hU1.below hR)) oU rfl) ?_
 refine zv (ix rfl) ?_
 refine ln ?_
 refine az ?_
 refine yr ?_
 refine zlp (fun x:Nat×(Nat → Nat)×World×ox => [(0, nP pb), (1, rv), (4, nI u), (5, x.2.2.2), (13, rv), (14, nI row.length), (15, nI x.1)]) (fun x => x.2.2.1) (fun x => x.1 ≤ row.length ∧ PkO T x.2.1 x.2.2.1 pb p ∧ IV x.2.1 x.2.2.1 (T + 6) x.2.2.2 (fX row u x.1) ∧ uu (yM T) O w x.2.1 x.2.2.1) (fun x => row.length - x.1) (0, O, w1, nS) (⟨pR _, hp1, uV _ _ _ _ _ _, hU1⟩) ?_
 rintro⟨k, O2, w2, cv⟩ ⟨hk, hp2, hcv, hU2⟩
 dsimp only at hk hp2 hcv hU2 ⊢
 have hR2 := hR.upd hU2
 have hr2 := hrow w2 (hU2.below hR)
 refine pc ?_
 refine oz ?_
 refine zv (FJ rfl rfl) ?_
 refine ln ?_
 refine az ?_
 refine pc ?_
 refine zC ?_ ?_
 ·intro hlt
  replace hlt:k < row.length := by have := of_decide_eq_true hlt; omega
  have hcl := zN row u k
  refine yY ?_
  refine az ?_
  refine pc ?_
  refine yr ?_
  refine pc ?_
  refine oz ?_
  refine zv (ix rfl) ?_
  refine zv (vX (by first | exact hr2) oU (tG _) rfl rfl _ rfl (by omega)) ?_
  refine zv (RV.ld (hr2.ld (by omega)) rfl) ?_
  refine zv (qy rfl) ?_
  refine zv (qy rfl) ?_
  refine ln ?_
  refine az ?_
  refine pc ?_
  refine oz ?_
  refine zv (ix rfl) ?_
  refine zv (ix rfl) ?_
  refine zv (KD rfl rfl) ?_
  refine ln ?_
  refine az ?_
  refine zC ?_ ?_
  ·intro hne2
   replace hne2:nth row k ≠ u := by simpa using hne2
   refine oz ?_
   refine zv (ix rfl) ?_
   refine zv (ix rfl) ?_
   refine Fu pL hcv hR2 (k) (fun _ => rfl) rfl rfl rfl (by simp[th]) (by omega) (by omega) (by omega) (by decide) rfl rfl ?_
   intro cv3 w3 O3 hcv3 hU3 hR3
   refine zv (qy rfl) ?_
   refine ln ?_
   refine eh ?_
   refine az ?_
   refine oz ?_
   refine zv (AK rfl rfl (uM (by omega))) ?_
   refine zv (ix rfl) ?_
   refine ln ?_
   refine zxd (k + 1, O3, w3, cv3) (⟨hlt, hp2.upd hU3 (by unfold jB; omega), by dsimp only; rw[jS, if_neg hne2]; exact hcv3, hU2.trans (hU3.mono (by unfold yM; omega) (tz T))⟩)
  ·intro heq
   replace heq:nth row k = u := by simpa using heq
   refine yY ?_
   refine eh ?_
   refine az ?_
   refine oz ?_
   refine zv (AK rfl rfl (uM (by omega))) ?_
   refine zv (ix rfl) ?_
   refine ln ?_
   refine zxd (k + 1, O2, w2, cv) (⟨hlt, hp2, by dsimp only; rw[jS, if_pos heq]; exact hcv, hU2⟩)
 ·intro hge
  obtain rfl:k = row.length := by have := of_decide_eq_false hge; omega
  obtain⟨uv, bv, kv, nv, h⟩ := hp2
  have hcols:∀c ∈ bM row u, c ≤ 64 := fun c hc => by have := kW hc; omega
  replace hcv:IV O2 w2 (T + 6) cv (bM row u) := hcv
  refine J0 ?_
  refine cT ?_
  refine cT ?_
  refine eY ?_
  refine az ?_
  refine pc ?_
  refine oz ?_
  refine zv (qy rfl) ?_
  refine ln ?_
  refine az ?_
  refine pc ?_
  refine yr ?_
  refine zlp (fun b:Nat => [(0, nP pb), (1, rv), (4, nI u), (5, cv), (8, nI b)]) (fun b => w2) (fun b => b ≤ p.check.length ∧ ∀j, j < b → eQ p.check (bM row u) j = false) (fun b => p.check.length - b) 0 (⟨pR _, fun j hj => absurd hj (rI j)⟩) ?_
  intro b ⟨hb, hno⟩
  refine pc ?_
  refine pc ?_
  refine oz ?_
  refine zv (ix rfl) ?_
  refine zv (ix rfl) ?_
  refine zv (ix rfl) ?_
  refine zc call153 (zi pb cv kv (bM row u) p.check b w2 h.c3 h.k.sl hcv.sl hcols (by omega)) ?_
  rintro v _ ⟨rfl, rfl⟩
  refine zv (RV.not rfl) ?_
  refine ln ?_
  refine az ?_
  refine zC ?_ ?_
  ·intro hbad
   replace hbad:eQ p.check (bM row u) b = false := by rw[DN]at hbad; exact hbad
   have hlt:b < p.check.length := by
    refine Nat.lt_of_le_of_ne hb fun e => ?_
    rw[e, lM]at hbad; cases hbad
   refine yY ?_
   refine az ?_
   refine yr ?_
   refine oz ?_
   refine zv (ix rfl) ?_
   refine zv (AK rfl rfl (uM (by omega))) ?_
   refine zv (qy rfl) ?_
   refine ln ?_
   refine eh ?_
   refine zxd (b + 1) (⟨hlt, fun j hj => (rk.1 hj).elim (hno j) (fun e => by rw[e]; exact hbad)⟩)
  ·intro hgood
   replace hgood:eQ p.check (bM row u) b = true := by rw[Bool.not_eq_false']at hgood; exact hgood
   have hbase := Cc hgood hno
   have hcs := hcv.sl
   refine J0 ?_
   refine cT ?_
   refine cT ?_
   refine eY ?_
   refine az ?_
   refine pc ?_
   refine pc ?_
   refine oz ?_
   refine zv (ix rfl) ?_
   refine zv (As (by first | exact hcs) oU rfl) ?_
   refine zv (ix rfl) ?_
   refine ln ?_
   refine az ?_
   refine yr ?_
   refine zlp (fun x:Nat×(Nat → Nat)×World => [(0, nP pb), (1, rv), (4, nI u), (5, cv), (8, nI b), (35, cv), (36, nI (bM row u).length), (37, nI x.1)]) (fun x => x.2.2) (fun x => x.1 ≤ (bM row u).length ∧ IV x.2.1 x.2.2 (T + 6) cv (bM row u) ∧ uu (yM T) O w x.2.1 x.2.2 ∧ (∃q:PSt, q = ((bM row u).take x.1).foldl (fun q c => q.take (b + c) p.base.length (nth row c)) p ∧ PkO T x.2.1 x.2.2 pb q ∧ q.base = p.base ∧ q.usual = p.usual ∧ q.next.length = q.check.length)) (fun x => (bM row u).length - x.1) (0, O2, w2) (⟨pR _, hcv, hU2, p, rfl, ⟨uv, bv, kv, nv, h⟩, rfl, rfl, hl⟩) ?_
   rintro⟨k, O4, w4⟩ ⟨hk4, hcv4, hU4, q, hq, ⟨uv4, bv4, kv4, nv4, h4⟩, hqb, hqu, hql⟩
   dsimp only at hk4 hcv4 hU4 hq h4 ⊢
   have hR4 := hR.upd hU4
   have hr4 := hrow w4 (hU4.below hR)
   have hcs4 := hcv4.sl
   have hb4 := h4.b.sl
   have hcm := hcs4.len_le
   refine pc ?_
   refine oz ?_
   refine zv (FJ rfl rfl) ?_
   refine ln ?_
   refine az ?_
   refine pc ?_
   refine zC ?_ ?_
   ·intro hlt
    replace hlt:k < (bM row u).length := by have := of_decide_eq_true hlt; omega
    have hc64 := hcols _ (aO hlt)
    have hcr := kW (aO hlt)
    refine yY ?_
    refine az ?_
    refine pc ?_
    refine yr ?_
    refine pc ?_
    refine oz ?_
    refine zv (vX (by first | exact hcs4) oU (tG _) rfl rfl _ rfl (by omega)) ?_
    refine zv (RV.ld (hcs4.ld (by omega)) rfl) ?_
    refine zv (qy rfl) ?_
    refine ln ?_
    refine az ?_
    refine Jq 13 rfl rfl (by kernel_rfl) (by kernel_rfl) ?_
    refine zw (ix rfl) ?_
    refine zw (ix rfl) ?_
    refine zw (ix rfl) ?_
    refine zw (AK rfl rfl (uM (by omega))) ?_
    refine zw (ix rfl) ?_
    refine zw (aq rfl) ?_
    refine zw (RV.fa rfl) ?_
    refine zw (RV.ld h4.c2 rfl) ?_
    refine zw (As ((hb4).drew) oU rfl) ?_
    refine zw (ix rfl) ?_
    refine zw (ix rfl) ?_
    refine zw (vX hr4.drew oU (tG _) rfl rfl (nth (bM row u) k) rfl hcr) ?_
    refine zw (RV.ld (hr4.ld hcr) rfl) ?_
    refine Kj ?_
    have hp5:PkO T O4 w4.drew pb q := ⟨uv4, bv4, kv4, nv4, h4.blk.drew, h4.u.drew, h4.b.drew, h4.k.drew, h4.n.drew⟩
    rw[show(q.base.length:Int) = (p.base.length:Int)from by rw[hqb]]
    refine zc call154 (CQ T pb q (b + nth (bM row u) k) p.base.length (nth row (nth (bM row u) k)) B O4 w4.drew hp5 hR4.drew (by omega) hql) ?_
    rintro v w5 ⟨O5, hp6, hU5, hR5⟩
    have hU6:uu (yM T) O4 w4 O5 w5 := (hU5.mono (fun i hi => by unfold jB at hi; unfold yM; omega) (tz T)).ofDrew
    refine ln ?_
    refine eh ?_
    refine az ?_
    refine oz ?_
    refine zv (AK rfl rfl (uM (by omega))) ?_
    refine zv (ix rfl) ?_
    refine ln ?_
    refine zxd (k + 1, O5, w5) (⟨hlt, hcv4.drew.upd hU5 (by omega) (by unfold jB; omega), hU4.trans hU6, _, ?_, hp6, hqb, hqu, mK hql⟩)
    rw[aR hlt, ug, ← hq]; rfl
   ·intro hge
    obtain rfl:k = (bM row u).length := by have := of_decide_eq_false hge; omega
    rw[sQ]at hq
    refine J0 ?_
    refine cT ?_
    refine cT ?_
    refine eY ?_
    refine az ?_
    refine pc ?_
    refine oz ?_
    refine zv (ix rfl) ?_
    refine zv (ix rfl) ?_
    refine zv (aq rfl) ?_
    refine zv (RV.fa rfl) ?_
    refine zv (RV.ld h4.c1 rfl) ?_
    refine zv (ix rfl) ?_
    have hub:q.usual.length ≤ 100000 := by rw[hqu]; exact hul
    refine Fu pL h4.u hR4 (u) (fun _ => rfl) rfl rfl rfl (by simp[th]) (by omega) (by omega) (by omega) (by decide) rfl rfl ?_
    intro uv5 w5 O5 hu5 hU5 hR5
    obtain⟨h5, hU6⟩ := h4.setU hU5 hu5
    have hb5 := h4.blk.upd hU5 (by omega) (by omega)
    have hR6:J9 B O5 (w5.setCell ⟨pb, 1, none⟩ uv5) := hR4.upd hU6
    refine zv (aq rfl) ?_
    refine zv (RV.fa rfl) ?_
    refine ak (j := 1) hb5 rfl (Ki _) hu5.one rfl rfl rfl ?_
    refine ln ?_
    refine az ?_
    refine oz ?_
    refine zv (ix rfl) ?_
    refine zv (ix rfl) ?_
    refine zv (aq rfl) ?_
    refine zv (RV.fa rfl) ?_
    refine zv (RV.ld h5.c2 rfl) ?_
    refine zv (ix rfl) ?_
    have h5b:mV O5 (w5.setCell ⟨pb, 1, none⟩ uv5) (T + 3) bv4 q.base := h5.b
    have hbb:q.base.length ≤ 100000 := by rw[hqb]; exact hbl
    refine Fu pL h5b hR6 (b) (fun _ => rfl) rfl rfl rfl (by simp[th]) (by omega) (by omega) (by omega) (by decide) rfl rfl ?_
    intro bv6 w6 O6 hb6 hU7 hR7
    obtain⟨h6, hU8⟩ := h5.setB hU7 hb6
    have hb7 := h5.blk.upd hU7 (by omega) (by omega)
    refine zv (aq rfl) ?_
    refine zv (RV.fa rfl) ?_
    refine ak (j := 2) hb7 rfl (Ki _) hb6.one rfl rfl rfl ?_
    refine ln ?_
    have hU9:uu (yM T) O w O6 (w6.setCell ⟨pb, 2, none⟩ bv6) := (hU4.trans (hU6.mono (fun i hi => by unfold jB at hi; unfold yM; omega) (tz T))).trans (hU8.mono (fun i hi => by unfold jB at hi; unfold yM; omega) (tz T))
    refine aH rfl (⟨O6, ?_, hU9, hR.upd hU9⟩)
    have e:p.lay row = { q with usual := q.usual ++ [u], base := q.base ++ [(b:Int)] } := by simp only[PSt.lay, hu]; rw[hbase, ← hq]
    rw[e]; exact⟨_, _, _, _, h6⟩
theorem GO:cV rm 30 #[(0,1),(1,1),(2,1),(3,1),(4,1)]:=⟨_,underlying30,fun w=>by kernel_rfl⟩
def Rows(w:ow)(v:ox)(L:List (List Int)):Prop:=
 ∃rvs:List ox,Sl (fun x=>[x]) 1 w v rvs/\rvs.length=L.length/\∀i,i<L.length->J7 w (nth rvs i) (nth L i)
theorem Rows.ext{w w':ow}{v:ox}{L:List (List Int)}(h:Rows w v L)(e:ze w w'):Rows w' v L:=by
 obtain⟨a0,h1,h2,h3⟩:=h;exact⟨a0,h1.ext e,h2,fun i hi=>(h3 i hi).ext e⟩
def iF(a0:Int)(row:List Int):Bool:=(row.length:Int) != a0 || !(inB 0 65535 row)
theorem Gf(a0:Int)(row:List Int)(rv:ox)(b:Addr)(w:ow)(h:J7 w rv row)(hb:w.cell? b=some (nI a0)):
  BG rm 118 [rv,.pointer (some b)] w fun v w'=>v=.bool (iF a0 row)/\ze w w':=by
 refine oD func118 ntmps118 rfl rfl ?_;refine zh ?_
 by_cases hl:(row.length:Int)=a0
 ·refine ay (d:=8) rfl (b':=false) (by simpa using hl) ?_;refine zh ?_
  refine zc K7 (fF 0 65535 row rv w h) ?_;rintro v w1 ⟨rfl,hE⟩;refine zh ?_
  refine ae rfl rfl (⟨by simp[iF,hl],hE⟩)
 refine ay (d:=8) rfl (b':=true) (by simpa using hl) ?_;refine zh ?_
 refine ae rfl rfl (⟨by simp[iF,hl],tJ _⟩)
def cf(a0:Int)(L:List (List Int)):Bool:=decide (a0<1)||decide (64<a0)||decide (1000<L.length)||L.any (iF a0)
def lI(a0:Int)(L:List (List Int)):PSt:=L.foldl PSt.lay ⟨a0,[],[],[],[]⟩
def PkV(w:ow)(v:ox)(p:PSt):Prop:=
 ∃uv bv kv nv,v=.agg #[nI p.width,uv,bv,kv,nv]/\J7 w uv p.usual/\J7 w bv p.base/\J7 w kv p.check/\J7 w nv p.next
theorem PkV.ext{w w':ow}{v:ox}{p:PSt}(h:PkV w v p)(e:ze w w'):PkV w' v p:=by
 obtain⟨uv,bv,kv,nv,h0,h1,h2,h3,h4⟩:=h;exact⟨uv,bv,kv,nv,h0,h1.ext e,h2.ext e,h3.ext e,h4.ext e⟩
theorem sD(p:PSt)(s:Nat)(r e:Int):(p.take s r e).check.length=max p.check.length (s+1)/\(p.take s r e).usual=p.usual/\(p.take s r e).base=p.base/\(p.take s r e).width=p.width:=by
 simp[PSt.take,PSt.long];omega
theorem kO(f:Nat->Int)(b:Nat)(r:Int):∀(a0:List Nat) (p:PSt),(∀c∈a0,c<64)->p.next.length=p.check.length->
  let q:=a0.foldl (fun q c=>q.take (b+c) r (f c)) p
  q.check.length<=max p.check.length (b+64)/\q.usual=p.usual/\q.base=p.base/\q.width=p.width/\q.next.length=q.check.length
 |[],p,_,hl=>⟨by simp;omega,rfl,rfl,rfl,hl⟩
 |c::a0,p,hc,hl=>by
  have h:=kO f b r a0 (p.take (b+c) r (f c)) (fun x hx=>hc x (by simp[hx])) (mK hl);obtain⟨t1,t2,t3,t4⟩:=sD p (b+c) r (f c);have:=hc c (by simp);simp only[rf]at h ⊢;rw[t1,t2,t3,t4]at h;exact⟨zo,h.2⟩
theorem iO(p:PSt)(row:List Int)(hw:row.length<=64)(hl:p.next.length=p.check.length):
  (p.lay row).check.length<=p.check.length+64/\(p.lay row).usual=p.usual++[bO row]/\(p.lay row).base.length=p.base.length+1/\(p.lay row).width=p.width/\(p.lay row).next.length=(p.lay row).check.length:=by
 have hb:=(gF p.check (bM row (bO row))).2.1;obtain⟨h1,h2,h3,h4,h5⟩:=kO (fun c=>nth row c) (fZ p.check (bM row (bO row))) p.base.length (bM row (bO row)) p (fun c hc=>by have:=kW hc;omega) hl;refine⟨?_,?_,?_,h4,h5⟩
 ·simp only[PSt.lay];omega
 ·simp only[PSt.lay];rw[h2]
 simp only[PSt.lay];rw[h3];simp
def PkF(B:Nat)(v:ox):Prop:=∃wd uv bv kv nv,v=.agg #[wd,uv,bv,kv,nv]/\K9 B uv/\K9 B bv/\K9 B kv/\K9 B nv
theorem nU(width:Int)(L:List (List Int))(rv:ox)(w:ow)(h:Rows w rv L):
  BG rm 72 [nI width,rv] w fun v w'=>∃pv e,v=.tuple #[pv,nI e]/\PkV w' pv (if cf width L then⟨0,[],[],[],[]⟩else lI width L)/\e=(if cf width L then 1 else 0)/\ze w w'/\(cf width L=false->PkF w.heap.size pv):=by
 obtain⟨a4,hr,b1,c6⟩:=h;have f5:=hr.len_le;refine oD func72 ntmps72 rfl rfl ?_;refine zh ?_;refine aE (au w) 1 zo rfl rfl ?_;intro bw w1 O1 e0 e1 e7 f3;refine ax e7 2 zo (Da _) rfl ?_;intro br w2 O2 a1 d3 e6 e';have a':=e0.upd d3 zd zd;have cw:∀w',ze w2 w'->w'.cell? ⟨bw,0,none⟩=some (nI width):=fun w' e=>e.cell (a'.cell 0 rfl)
 have hE:=f3.trans e';have hU:=(e1.mono (S':=fun j=>1<=j/\j<=16) zo zo).trans (d3.mono zo zo);have d5:=hr.ext hE;refine zh ?_;refine zvH (eA rfl rfl) ?_;refine zvH (RV.ld (cw _ (tJ _)) rfl) ?_;have b4:∀(w3:ow),ze w w3->cf width L=true->
   ∃pv e,Value.tuple #[.agg #[nI 0,nS,nS,nS,nS],nI 1]=.tuple #[pv,nI e]/\PkV w3 pv (if cf width L then⟨0,[],[],[],[]⟩else lI width L)/\e=(if cf width L then 1 else 0)/\ze w w3/\(cf width L=false->PkF w.heap.size pv):=by
  intro w3 he hb;rw[hb];exact⟨_,_,rfl,⟨_,_,_,_,rfl,(uV _ 3 _ (fun _=>0) w3 1).sl,(uV _ 3 _ (fun _=>0) w3 1).sl,(uV _ 3 _ (fun _=>0) w3 1).sl,(uV _ 3 _ (fun _=>0) w3 1).sl⟩,rfl,he,fun h=>absurd h zd⟩
 by_cases h1:width<1
 ·refine ay (d:=13) rfl (b':=true) (decide_eq_true h1) ?_;refine zh ?_
  refine zTH rfl rfl ?_;refine zv (aF GO (Da _) rfl (by first|rfl|(simp only[qN,uY];rfl)) rfl rfl) ?_
  refine bE a1 rfl (zf _) rfl rfl rfl rfl ?_;refine zh ?_
  refine bA rfl rfl rfl ((a1.setRow).cellsAdd) (J6 _) (zf _) (b4 _ (hU.trans (rj zo a1.tag zo)).ext (by simp[cf,h1]))
 refine ay (d:=13) rfl (b':=false) (decide_eq_false h1) ?_;refine zh ?_
 refine zvH (RV.ld (cw _ (tJ _)) rfl) ?_
 by_cases h2:64<width
 ·refine ay (d:=17) rfl (b':=true) (decide_eq_true h2) ?_;refine zh ?_
  refine zTH rfl rfl ?_;refine zv (aF GO (Da _) rfl (by first|rfl|(simp only[qN,uY];rfl)) rfl rfl) ?_
  refine bE a1 rfl (zf _) rfl rfl rfl rfl ?_;refine zh ?_
  refine bA rfl rfl rfl ((a1.setRow).cellsAdd) (J6 _) (zf _) (b4 _ (hU.trans (rj zo a1.tag zo)).ext (by simp[cf,h2]))
 refine ay (d:=17) rfl (b':=false) (decide_eq_false h2) ?_;refine zh ?_
 by_cases h3:1000<L.length
 ·refine ay (d:=22) rfl (b':=true) (by rw[b1];exact decide_eq_true zo) ?_;refine zh ?_
  refine zTH rfl rfl ?_;refine zv (aF GO (Da _) rfl (by first|rfl|(simp only[qN,uY];rfl)) rfl rfl) ?_
  refine bE a1 rfl (zf _) rfl rfl rfl rfl ?_;refine zh ?_
  refine bA rfl rfl rfl ((a1.setRow).cellsAdd) (J6 _) (zf _) (b4 _ (hU.trans (rj zo a1.tag zo)).ext (by simp[cf,h3]))
 refine ay (d:=22) rfl (b':=false) (by rw[b1];exact decide_eq_false zo) ?_;refine zh ?_
 refine zc call78 (fW call118 _ a4 rv (fun i=>iF width (nth L i)) _ d5 (fun i hi w' c5=>Gf width (nth L i) (nth a4 i) _ w' (((c6 i zo).ext hE).ext c5) (cw w' c5))) ?_;rintro v w3 ⟨rfl,b3⟩;rw[b1,iG (p:=iF width)];have a2:=a1.upd (aa (S:=fun _=>False) (fun h=>h) O2 b3) zd (fun h=>h);have b6:=a'.upd (aa (S:=fun _=>False) (fun h=>h) O2 b3) zd (fun h=>h);have d2:=hU.trans (aa zo O2 b3);refine zh ?_
 refine zC ?_ ?_
 ·intro a3;refine zh ?_;refine zv (aF GO (Da _) rfl (by first|rfl|(simp only[qN,uY];rfl)) rfl rfl) ?_;refine bE a2 rfl (zf _) rfl rfl rfl rfl ?_;refine zh ?_;refine bA rfl rfl rfl ((a2.setRow).cellsAdd) (J6 _) (zf _) (b4 _ (d2.trans (rj zo a2.tag zo)).ext (by simp only[cf,a3];simp))
 intro a5;have a3:cf width L=false:=by simp only[cf,a5];simp[h1,h2,h3]
 have e5:=e6.ext b3;refine zh ?_;refine zv (RV.ld (b6.cell 0 rfl) rfl) ?_;refine zv (aF GO (Da _) rfl (by first|rfl|(simp only[qN,uY];rfl)) rfl rfl) ?_;refine ax e5 11 zo (Da _) rfl ?_;intro pb w4 O4 b2 d1 e4 f6;refine zsa (us:=#[nI width,nS,nS,nS,nS]) b2 (zf _) ?_;have d0:uu (fun j=>1<=j/\j<=16) O4 w4 O4 (w4.setRow pb #[nI width,nS,nS,nS,nS]):=rj zo b2.tag zo;have b8:yJ O4 (w4.setRow pb #[nI width,nS,nS,nS,nS]) 2 br _ 30:=(a2.upd d1 zd zd).upd (rj (S:=fun j=>j=11) zd b2.tag rfl) zd zd;have e9:PkO 10 O4 (w4.setRow pb #[nI width,nS,nS,nS,nS]) pb ⟨width,[],[],[],[]⟩:=⟨_,_,_,_,b2.setRow,uV _ _ _ _ _ _,uV _ _ _ _ _ _,uV _ _ _ _ _ _,uV _ _ _ _ _ _⟩
 have c':=(d2.trans (d1.mono (S':=fun j=>1<=j/\j<=16) zo zo)).trans d0;have e3:=e4.upd d0;generalize w4.setRow pb #[nI width,nS,nS,nS,nS]=w5 at *;have f4:1<=width/\width<=64/\L.length<=1000:=zo;have a9:∀i,i<L.length->((nth L i).length:Int)=width:=fun i hi=>by
  have:=DH.1 a5 _ (aO hi);simp only[iF,J5,not_or,bne_iff_ne,ne_eq,JM]at this;exact this.1
 refine zh ?_;refine zvH (As (by first|exact hr.ext c'.ext) L2 rfl) ?_
 refine zlp (fun x:Nat×(Nat->Nat)×World=>[(1,rv),(4,nP br),(7,nP pb),(30,rv),(31,nI a4.length),(32,nI x.1)]) (fun x=>x.2.2) (fun x=>x.1<=a4.length/\yJ x.2.1 x.2.2 2 br #[nI 0,nS,nS,nS,nS] 30/\J9 w.heap.size x.2.1 x.2.2/\uu (fun j=>1<=j/\j<=16) (fun _=>0) w x.2.1 x.2.2/\(∃q,q=(L.take x.1).foldl PSt.lay ⟨width,[],[],[],[]⟩/\PkO 10 x.2.1 x.2.2 pb q/\q.check.length<=64*x.1/\q.usual.length=x.1/\q.base.length=x.1/\q.next.length=q.check.length)) (fun x=>a4.length-x.1) (0,O4,w5) (⟨pR _,b8,e3,c',_,rfl,e9,by simp,rfl,rfl,rfl⟩) ?_;rintro⟨k,O7,w7⟩ ⟨hk,a0,a8,b0,q,hq,b9,d7,c7,d8,c8⟩;dsimp only at hk a0 a8 b0 hq b9 d7 c7 d8 ⊢;have d4:=hr.ext b0.ext;refine zh ?_
 refine zC ?_ ?_
 ·intro b5;replace b5:k<a4.length:=dT b5;have a6:k<L.length:=zo;have d9:=a9 k a6;refine zh ?_;refine zvH (RV.ld (d4.ld zo) rfl) ?_;refine zc call120 (vD 10 pb q (nth L k) (nth a4 k) w.heap.size O7 w7 b9 a8 (fun w' hB=>(c6 k a6).ext (KP b0.ext hB)) zo zo c8 zo zo zo) ?_;rintro v w8 ⟨O8,e8,c9,e2⟩;have b7:=a0.upd c9 zd (by unfold yM;omega);obtain⟨l1,l2,l3,l4,l5⟩:=iO q (nth L k) zo c8;refine zh ?_;refine zxd (k+1,O8,w8) (⟨b5,b7,e2,b0.trans (c9.mono (by unfold yM;omega) zo),_,?_,e8,zo,by rw[l2];simp[c7],zo,l5⟩);rw[aR a6,ug,<-hq];rfl
 intro d';obtain rfl:k=a4.length:=by have:=of_decide_eq_false d';omega
 rw[b1,sQ]at hq;obtain⟨uv,bv,kv,nv,h7⟩:=b9;refine zh ?_;refine zv (ai h7.blk.cellsAdd (J6 _) (zf _) rfl) ?_;refine zsb (us:=#[nI q.width,uv,bv,kv,nv]) a0 (zf _) (by simp only[qN,h7.u.one,h7.b.one,h7.k.one,h7.n.one];rfl) ?_;have a7:uu (fun j=>j=2) O7 w7 O7 (w7.setRow br #[nI q.width,uv,bv,kv,nv]):=rj zd a0.tag rfl;have h9:=h7.upd a7 (by unfold jB;omega);have d6:lI width L=q:=hq.symm;refine zh ?_;refine bA rfl rfl rfl ((a0.setRow).cellsAdd) (J6 _) (zf _) (⟨_,_,rfl,⟨uv,bv,kv,nv,?_,?_,?_,?_,?_⟩,by rw[a3];rfl,(b0.trans (a7.mono zo zo)).ext,fun _=>⟨_,uv,bv,kv,nv,rfl,h9.u.newV zd (a8.upd a7),h9.b.newV zd (a8.upd a7),h9.k.newV zd (a8.upd a7),h9.n.newV zd (a8.upd a7)⟩⟩)
 all_goals rw[a3,if_neg Bool.false_ne_true,d6]
 ·exact h9.u.sl
 ·exact h9.b.sl
 ·exact h9.k.sl
 exact h9.n.sl
def vZ(n:Int):Bool:=decide (0<=n)
def eN(l:List Int):Nat:=l.countP vZ
def yx(row:List Int)(u:Int):Nat:=row.countP fun n=>n != u
def lK(L:List (List Int))(us:List Int)(i:Nat):Nat:=((su i).map fun j=>yx (nth L j) (nth us j)).sum
theorem tC(L:List (List Int))(us:List Int)(i:Nat):lK L us (i+1)=lK L us i+yx (nth L i) (nth us i):=by
 simp[lK,Gh]
theorem zO(row:List Int)(u:Int):(bM row u).length=yx row u:=by
 have a0:∀k,k<=row.length->(fX row u k).length=(row.take k).countP (fun n=>n != u):=by
  intro k
  induction k with
  |zero=>intro _;rfl
  |succ k ih=>
   intro hk;rw[jS,aR zo,K6];have:=ih zo
   by_cases h:nth row k=u
   ·rw[if_pos h,this];simp[h]
   rw[if_neg h,zI,this];simp[h]
 have:=a0 row.length (sN _)
 rwa[sQ]at this
def qt(a0:List Int)(s:Nat):Prop:=a0.length<=s\/nth a0 s = -1
theorem BM{a0:List Int}{b c:Nat}:pK a0 b c=true↔qt a0 (b+c):=by
 simp only[pK,qt,DN,Bool.and_eq_false_iff,decide_eq_false_iff_not]
 constructor
 ·rintro(h|h)
  ·exact .inl zo
  exact .inr (by simpa using h)
 rintro(h|h)
 ·exact .inl zo
 exact .inr (by simpa using h)
theorem yR{l:List Int}{s:Nat}{r:Int}(hs:s<l.length)(hf:nth l s = -1)(hr:0<=r):eN (l.set s r)=eN l+1:=by
 induction l generalizing s with
 |nil=>simp at hs
 |cons a l ih=>
  cases s with
  |zero=>rw[ar]at hf;subst hf;simp[eN,vZ,hr]
  |succ s=>
   rw[bd]at hf;have:=ih (by simpa using hs) hf;simp only[eN,List.set_cons_succ,List.countP_cons]at this ⊢;omega
theorem vd(l:List Int)(j:Nat):eN (l++ps j (-1))=eN l:=by
 simp only[eN,K6];have:(ps j (-1:Int)).countP vZ=0:=by rw[List.countP_eq_zero];intro a ha;rw[Fo ha];decide
 omega
theorem AB(p:PSt)(s:Nat)(r e:Int)(hf:qt p.check s)(hr:0<=r):
  eN (p.take s r e).check=eN p.check+1/\(∀t,t≠s->qt p.check t->qt (p.take s r e).check t)/\
  ((p.check=[]\/0<=nth p.check (p.check.length-1))->(0<=nth (p.take s r e).check ((p.take s r e).check.length-1))):=by
 have a2:(p.check++ps (s+1-p.check.length) (-1:Int)).length=max p.check.length (s+1):=by simp;omega
 have a0:s<(p.check++ps (s+1-p.check.length) (-1:Int)).length:=zo;have a1:∀j i,nth (ps j (-1:Int)) i = -1\/j<=i:=fun j i=>by
  by_cases h:i<j
  ·left;rw[aB (by simpa using h)];simp
  right;omega
 have hs:nth (p.check++ps (s+1-p.check.length) (-1:Int)) s = -1:=by
  rw[aA]
  split
  ·rename_i h;rcases hf with h2|h2
   ·omega
   exact h2
  rename_i h;exact(a1 _ _).resolve_right zo
 have hc:(p.take s r e).check=(p.check++ps (s+1-p.check.length) (-1)).set s r:=rfl;refine⟨?_,fun t ht a3=>?_,fun hl=>?_⟩
 ·rw[hc,yR a0 hs hr,vd]
 ·rw[hc]
  rcases a3 with h|h
  ·by_cases h2:(p.check++ps (s+1-p.check.length) (-1:Int)).length<=t
   ·exact .inl (by simpa using h2)
   refine .inr ?_;rw[aT a0,if_neg ht,aA,if_neg zo];exact(a1 _ _).resolve_right zo
  by_cases h2:t<p.check.length
  ·refine .inr ?_;rw[aT a0,if_neg ht,aA,if_pos h2,h]
  by_cases h3:(p.check++ps (s+1-p.check.length) (-1:Int)).length<=t
  ·exact .inl (by simpa using h3)
  refine .inr ?_;rw[aT a0,if_neg ht,aA,if_neg zo];exact(a1 _ _).resolve_right zo
 rw[hc,aT a0,Km,a2]
 split
 ·exact hr
 rename_i hne;have h3:s+1<=p.check.length:=zo;rw[aA,if_pos zo,show max p.check.length (s+1)-1=p.check.length-1 from by omega]
 rcases hl with h|h
 ·rw[h]at h3;simp at h3
 exact h
theorem ui(f:Nat->Int)(b:Nat)(r:Int)(hr:0<=r):∀(a0:List Nat) (p:PSt),a0.Nodup->(∀c∈a0,qt p.check (b+c))->
  let q:=a0.foldl (fun q c=>q.take (b+c) r (f c)) p
  eN q.check=eN p.check+a0.length/\((p.check=[]\/0<=nth p.check (p.check.length-1))->(q.check=[]\/0<=nth q.check (q.check.length-1)))
 |[],p,_,_=>⟨by simp,fun h=>h⟩
 |c::a0,p,hnd,hf=>by
  obtain⟨hc,a1⟩:=Kl.1 hnd;obtain⟨h1,h2,h3⟩:=AB p (b+c) r (f c) (hf c (by simp)) hr;obtain⟨g1,g2⟩:=ui f b r hr a0 (p.take (b+c) r (f c)) a1 (fun x hx=>h2 (b+x) (fun e=>hc ((by omega:x=c)▸hx)) (hf x (by simp[hx])));refine⟨?_,fun h=>?_⟩
  ·simp only[rf,tq];rw[g1,h1];omega
  simp only[rf];exact g2 (.inr (h3 h))
theorem mB(row:List Int)(u:Int):(bM row u).Nodup:=L0 List.filter_sublist List.nodup_range
theorem Dq(p:PSt)(row:List Int):eN (p.lay row).check=eN p.check+yx row (bO row)/\
  ((p.check=[]\/0<=nth p.check (p.check.length-1))->((p.lay row).check=[]\/0<=nth (p.lay row).check ((p.lay row).check.length-1))):=by
 have a0:=(gF p.check (bM row (bO row))).1;rw[eQ,vg]at a0;have:=ui (fun c=>nth row c) (fZ p.check (bM row (bO row))) p.base.length zo (bM row (bO row)) p (mB _ _) (fun c hc=>BM.1 (a0 c hc));rw[zO]at this;exact this
theorem qb(width:Int)(L:List (List Int))(hw:∀r∈L,r.length<=64):
  let q:=lI width L
  q.usual=L.map bO/\q.base.length=L.length/\q.next.length=q.check.length/\q.check.length<=64*L.length/\q.width=width/\eN q.check=lK L q.usual L.length/\(q.check=[]\/0<=nth q.check (q.check.length-1)):=by
 have a1:∀k,k<=L.length->let q:=(L.take k).foldl PSt.lay ⟨width,[],[],[],[]⟩
   q.usual=(L.take k).map bO/\q.base.length=k/\q.next.length=q.check.length/\q.check.length<=64*k/\q.width=width/\eN q.check=lK L ((L.take k).map bO) k/\(q.check=[]\/0<=nth q.check (q.check.length-1)):=by
  intro k
  induction k with
  |zero=>intro _;exact⟨rfl,rfl,rfl,by simp,rfl,rfl,.inl rfl⟩
  |succ k ih=>
   intro hk;obtain⟨h1,h2,h3,h4,h5,h6,h7⟩:=ih zo;generalize hq:(L.take k).foldl PSt.lay ⟨width,[],[],[],[]⟩=q at *;obtain⟨l1,l2,l3,l4,l5⟩:=iO q (nth L k) (hw _ (aO zo)) h3;obtain⟨u1,u2⟩:=Dq q (nth L k);rw[aR zo,ug,hq,C9];simp only[rf,Jn,I4,JJ];refine⟨by rw[l2,h1],zo,l5,zo,by rw[l4,h5],?_,u2 h7⟩;rw[u1,h6,tC];have a0:((L.take k).map bO).length=k:=by simp;omega
   congr 1
   ·simp only[lK];congr 1;refine List.map_congr_left fun j hj=>?_
    have:=Dd.1 hj;rw[aA,if_pos zo]
   rw[aA,if_neg zo,a0,Gc,ar]
 have:=a1 L.length (sN _);rw[sQ]at this;obtain⟨h1,h2,h3,h4,h5,h6,h7⟩:=this;exact⟨h1,h2,h3,h4,h5,by rw[lI,h1];exact h6,h7⟩
abbrev Ent:=Nat×Nat×Int
def iz(A:List Ent):Nat:=A.foldl (fun m x=>max m (x.1+1)) 0
def dz(f:Ent->Int)(A:List Ent)(l:List Int):List Int:=A.foldl (fun l x=>l.set x.1 (f x)) l
def kS(x:Ent):Int:=x.2.1
def I5(x:Ent):Int:=x.2.2
def eZ(A:List Ent):List Int:=dz kS A (ps (iz A) (-1))
def kF(A:List Ent):List Int:=dz I5 A (ps (iz A) 0)
theorem qz(A:List Ent)(x:Ent):iz (A++[x])=max (iz A) (x.1+1):=by simp[iz,ug]
theorem zH(A:List Ent):∀m,m<=A.foldl (fun m x=>max m (x.1+1)) m:=by
 induction A with
 |nil=>intro m;exact sN m
 |cons y A ih=>intro m;simp only[rf];have:=ih (max m (y.1+1));omega
theorem eI{A:List Ent}{x:Ent}(h:x∈A):x.1<iz A:=by
 have:∀(A:List Ent) m,x∈A->x.1<A.foldl (fun m x=>max m (x.1+1)) m:=by
  intro A
  induction A with
  |nil=>intro m h;simp at h
  |cons y A ih=>
   intro m h;simp only[rf]
   rcases DZ.1 h with rfl|h
   ·have:=zH A (max m (x.1+1));omega
   exact ih _ h
 exact this A 0 h
theorem lE(f:Ent->Int):∀(A:List Ent) (l:List Int),(dz f A l).length=l.length
 |[],_=>rfl
 |x::A,l=>by simp only[dz,rf];exact(lE f A _).trans (by simp)
theorem fY(A:List Ent):(eZ A).length=iz A:=by rw[eZ,lE];simp
theorem nV(A:List Ent):(kF A).length=iz A:=by rw[kF,lE];simp
theorem gi(f:Ent->Int):∀(A:List Ent) (l r:List Int),(∀x∈A,x.1<l.length)->dz f A (l++r)=dz f A l++r
 |[],_,_,_=>rfl
 |x::A,l,r,h=>by
  simp only[dz,rf];rw[List.set_append_left _ _ (h x (by simp))];exact gi f A _ r (fun y hy=>by simpa using h y (by simp[hy]))
theorem nL(f:Ent->Int)(A:List Ent)(x:Ent)(l:List Int):dz f (A++[x]) l=(dz f A l).set x.1 (f x):=by simp[dz,ug]
theorem AZ(n s:Nat)(z:Int):ps (max n (s+1)) z=ps n z++ps (s+1-n) z:=by
 rw[List.replicate_append_replicate];congr 1;omega
theorem zQ(A:List Ent)(x:Ent):eZ (A++[x])=(eZ A++ps (x.1+1-(eZ A).length) (-1)).set x.1 x.2.1:=by
 rw[eZ,qz,nL,AZ,gi _ _ _ _ (fun y hy=>by simpa using eI hy),fY];rfl
theorem zn(A:List Ent)(x:Ent):kF (A++[x])=(kF A++ps (x.1+1-(kF A).length) 0).set x.1 x.2.2:=by
 rw[kF,qz,nL,AZ,gi _ _ _ _ (fun y hy=>by simpa using eI hy),nV];rfl
theorem AC(p:PSt)(A:List Ent)(x:Ent)(h1:p.check=eZ A)(h2:p.next=kF A):(p.take x.1 x.2.1 x.2.2).check=eZ (A++[x])/\(p.take x.1 x.2.1 x.2.2).next=kF (A++[x]):=by
 refine⟨?_,?_⟩
 ·rw[zQ,<-h1];rfl
 rw[zn,<-h2,h2,nV,<-fY,<-h2,<-h1];rfl
def jG(row:List Int)(u:Int)(b i k:Nat):List Ent:=(fX row u k).map fun c=>(b+c,i,nth row c)
theorem uj(row:List Int)(b i:Nat):∀(a0:List Nat) (p:PSt) (A:List Ent),p.check=eZ A->p.next=kF A->
  let q:=a0.foldl (fun q c=>q.take (b+c) i (nth row c)) p
  q.check=eZ (A++a0.map fun c=>(b+c,i,nth row c))/\q.next=kF (A++a0.map fun c=>(b+c,i,nth row c))
 |[],p,A,h1,h2=>by simpa using⟨h1,h2⟩
 |c::a0,p,A,h1,h2=>by
  obtain⟨g1,g2⟩:=AC p A (b+c,i,nth row c) h1 h2;have:=uj row b i a0 _ _ g1 g2;simpa using this
theorem yh(p:PSt)(A:List Ent)(row:List Int)(h1:p.check=eZ A)(h2:p.next=kF A):
  let b:=fZ p.check (bM row (bO row))
  (p.lay row).check=eZ (A++jG row (bO row) b p.base.length row.length)/\(p.lay row).next=kF (A++jG row (bO row) b p.base.length row.length):=
 uj row _ _ _ p A h1 h2
theorem yi(p:PSt)(row:List Int):(p.lay row).base=p.base++[(fZ p.check (bM row (bO row)):Int)]/\(p.lay row).usual=p.usual++[bO row]/\(p.lay row).width=p.width:=by
 have a1:∀(a0:List Nat) (f:Nat->Int) (b:Nat) (r:Int) (p:PSt),let q:=a0.foldl (fun q c=>q.take (b+c) r (f c)) p;q.base=p.base/\q.usual=p.usual/\q.width=p.width:=by
  intro a0 f b r
  induction a0 with
  |nil=>intro p;exact⟨rfl,rfl,rfl⟩
  |cons c a0 ih=>intro p;exact ih (p.take (b+c) r (f c))
 obtain⟨h1,h2,h3⟩:=a1 (bM row (bO row)) (fun c=>nth row c) (fZ p.check (bM row (bO row))) p.base.length p;refine⟨?_,?_,h3⟩
 ·simp only[PSt.lay];rw[h1]
 simp only[PSt.lay];rw[h2]
theorem pW(A:List Ent)(s:Nat):∀(l:List Int),s<l.length->(∀x∈A,x.1<l.length)->(nth (dz kS A l) s≠-1↔(A.any (fun x=>x.1==s)=true\/nth l s≠-1)):=by
 induction A with
 |nil=>intro l _ _;simp[dz]
 |cons x A ih=>
  intro l hs h;have h1:=ih (l.set x.1 (kS x)) (by simpa using hs) (fun y hy=>by simpa using h y (by simp[hy]));simp only[dz,rf]at h1 ⊢;rw[h1,aT (h x (by simp)),List.any_cons]
  by_cases e:x.1=s
  ·have:kS x≠-1:=by unfold kS;omega
   simp[e,this]
  have e2:¬s=x.1:=fun h=>e h.symm
  simp[e,e2]
theorem AA(A:List Ent)(s:Nat):(A.any fun x=>x.1==s)=(decide (s<(eZ A).length)&&nth (eZ A) s != -1):=by
 by_cases hs:s<iz A
 ·have h1:=pW A s (ps (iz A) (-1)) (by simpa using hs) (fun y hy=>by simpa using eI hy);have h2:nth (ps (iz A) (-1:Int)) s = -1:=by rw[aB (by simpa using hs)];simp
  rw[fY];simp only[h2,ne_eq,not_true,or_false]at h1;rw[decide_eq_true hs,Ky]
  cases ha:A.any (fun x=>x.1==s)with
  |true=>have:=h1.2 ha;exact(bne_iff_ne.2 this).symm
  |false=>
   rw[ha]at h1;have:nth (eZ A) s = -1:=JM.1 (fun h=>by cases h1.1 h);rw[this];rfl
 rw[fY,decide_eq_false hs,Ku,DH];intro x hx h;have:=eI hx;have:x.1=s:=by simpa using h
 omega
theorem zG(A:List Ent)(b c:Nat):pK (eZ A) b c = !(A.any fun x=>x.1==b+c):=by rw[AA];rfl
def wOk(a0:Int)(n:Nat):Bool:=decide (1<=a0)&&decide (a0<=64)&&decide ((n:Int)<=1000)
def inR(n:Int):Bool:=decide (0<=n)&&decide (n<=65535)
theorem uI(a0:Int)(row:List Int):(!iF a0 row)=((row.length:Int)==a0&&row.all inR):=by
 simp only[iF,bne,KL,Bool.not_not];rfl
theorem qd(a0:Int)(L:List (List Int)):(!cf a0 L)=(wOk a0 L.length&&L.all (fun r=>!iF a0 r)):=by
 simp only[cf,wOk,KL,List.not_any_eq_all_not];congr 2
 ·congr 1<;>rw[<-decide_not]<;>exact decide_eq_decide.2 zo
 rw[<-decide_not];exact decide_eq_decide.2 zo
theorem rC{a0:Int}{L:List (List Int)}(h:cf a0 L=false):1<=a0/\a0<=64/\L.length<=1000/\(∀r∈L,(r.length:Int)=a0)/\∀r∈L,r.length<=64:=by
 have h2:(!cf a0 L)=true:=by rw[h];rfl
 rw[qd,ri]at h2;simp only[wOk,ri,decide_eq_true_eq]at h2;have h3:∀r∈L,(r.length:Int)=a0:=fun r hr=>by
  have:=vg.1 h2.2 r hr;rw[uI,ri]at this;simpa using this.1
 exact⟨zo,zo,zo,h3,fun r hr=>by have:=h3 r hr;omega⟩
def de(p:PSt):Bool:=
 !(decide (p.width<1)||decide (64<p.width)||decide ((1000:Int)<p.usual.length)||((p.base.length:Int) != p.usual.length)) &&
 !((p.check.length:Int) != p.next.length||decide ((65599:Int)<p.check.length)) &&
 (inB 0 65535 p.usual&&inB 0 65535 p.base&&inB 0 65535 p.next&&inB (-1) ((p.usual.length:Int)-1) p.check)
theorem zj(p:PSt)(pv:ox)(w:ow)(hp:PkV w pv p):
  BG rm 121 [pv] w fun v w'=>v=.bool (de p)/\ze w w':=by
 obtain⟨u1,b1,k1,n1,rfl,a4,a7,a5,a6⟩:=hp;have b0:=a4.len_le;refine oD func121 ntmps121 rfl rfl ?_;refine zg ?_;refine aE (au w) 1 zo rfl rfl ?_;intro x1 w1 O1 a0 b2 b3 a1;replace a4:=a4.ext a1;replace a7:=a7.ext a1;replace a5:=a5.ext a1;replace a6:=a6.ext a1;refine zg ?_;refine zv (RV.ld (a0.cell 1 rfl) rfl) ?_;refine zvG (As a4 oU rfl) ?_;refine zvG (RV.ld (a0.cell 0 rfl) rfl) ?_;refine bK (fun w1=>_=w1) (decide ((64:Int)<p.width)) 3 (rfl) rfl rfl rfl rfl rfl ?_ ?_
 ·intro h1;refine zg ?_;refine zvG (RV.ld (a0.cell 0 rfl) rfl) ?_;refine Cy (tA:=11) 4 (rfl) rfl rfl rfl (fun v hv=>(tR hv).symm.trans (congrArg B1 h1)) rfl
 rintro _ rfl;refine zg ?_;refine bK (fun w1=>_=w1) (decide ((1000:Int)<p.usual.length)) 2 (rfl) rfl rfl rfl rfl rfl ?_ ?_
 ·intro h2;refine zg ?_;refine Cy (tA:=16) 3 (rfl) rfl rfl rfl (fun v hv=>(tR hv).symm.trans (congrArg B1 h2)) rfl
 rintro _ rfl;refine zg ?_;refine bK (fun w1=>_=w1) ((p.base.length:Int) != p.usual.length) 5 (rfl) rfl rfl rfl rfl rfl ?_ ?_
 ·intro h3;refine zg ?_;refine zvG (RV.ld (a0.cell 2 rfl) rfl) ?_;refine zvG (As a7 oU rfl) ?_;refine Cy (tA:=20) 6 (rfl) rfl rfl rfl (fun v hv=>(tR hv).symm.trans (congrArg B1 h3)) rfl
 rintro _ rfl;refine zg ?_;refine zC ?_ ?_
 ·intro hg;refine zg ?_;refine ae rfl rfl (⟨by simp only[de,hg];rfl,a1⟩)
 intro hg;refine zg ?_;refine zv (RV.ld (a0.cell 3 rfl) rfl) ?_;refine zvG (As a5 oU rfl) ?_;refine zv (RV.ld (a0.cell 4 rfl) rfl) ?_;refine zvG (As a6 oU rfl) ?_;refine bK (fun w1=>_=w1) (decide ((65599:Int)<p.check.length)) 4 (rfl) rfl rfl rfl rfl rfl ?_ ?_
 ·intro h4;refine zg ?_;refine zvG (RV.ld (a0.cell 3 rfl) rfl) ?_;refine zvG (As a5 oU rfl) ?_;refine Cy (tA:=35) 5 (rfl) rfl rfl rfl (fun v hv=>(tR hv).symm.trans (congrArg B1 h4)) rfl
 rintro _ rfl;refine zg ?_;refine zC ?_ ?_
 ·intro a9;refine zg ?_;refine ae rfl rfl (⟨by simp only[de,a9,Bool.not_true,Bool.and_false,Ku],a1⟩)
 intro a9;refine zg ?_;refine zv (RV.ld (a0.cell 1 rfl) rfl) ?_;refine zc K7 (fF 0 65535 p.usual u1 w1 a4) ?_;rintro v w2 ⟨rfl,a8⟩;refine zg ?_;refine aP (ze w1) (inB 0 65535 p.base) 3 (a8) rfl rfl rfl rfl rfl ?_ ?_
 ·intro h5;refine zg ?_;refine zvG (RV.ld (a8.cell (a0.cell 2 rfl)) rfl) ?_;refine zc K7 (fF 0 65535 p.base b1 w2 (a7.ext a8)) ?_;rintro v w3 ⟨rfl,a3⟩;refine zg ?_;refine Cy (tA:=44) 4 (a8.trans a3) rfl rfl rfl (fun v hv=>(tR hv).symm.trans (congrArg B1 h5)) rfl
 intro w3 a3;refine zg ?_;refine aP (ze w1) (inB 0 65535 p.next) 3 (a3) rfl rfl rfl rfl rfl ?_ ?_
 ·intro h6;refine zg ?_;refine zvG (RV.ld (a3.cell (a0.cell 4 rfl)) rfl) ?_;refine zc K7 (fF 0 65535 p.next n1 w3 (a6.ext a3)) ?_;rintro v w4 ⟨rfl,a2⟩;refine zg ?_;refine Cy (tA:=49) 4 (a3.trans a2) rfl rfl rfl (fun v hv=>(tR hv).symm.trans (congrArg B1 h6)) rfl
 intro w4 a2;refine zg ?_;refine aP (ze w1) (inB (-1) ((p.usual.length:Int)-1) p.check) 5 (a2) rfl rfl rfl rfl rfl ?_ ?_
 ·intro h7;refine zg ?_;refine zvG (RV.ld (a2.cell (a0.cell 3 rfl)) rfl) ?_;refine zvG (JW rfl rfl (uM zo)) ?_;refine zc K7 (fF (-1) ((p.usual.length:Int)-1) p.check k1 w4 (a5.ext a2)) ?_;rintro v w5 ⟨rfl,a'⟩;refine zg ?_;refine Cy (tA:=54) 6 (a2.trans a') rfl rfl rfl (fun v hv=>(tR hv).symm.trans (congrArg B1 h7)) rfl
 intro w5 a';refine zg ?_;refine ae rfl rfl (⟨by simp only[de,hg,a9,Bool.not_false,Ky],a1.trans a'⟩)
theorem sR(row:List Int):∀(l:List Int) (b:Int),(l.foldl (mL row) b=b)\/l.foldl (mL row) b∈l
 |[],b=>.inl rfl
 |n::l,b=>by
  simp only[rf]
  rcases sR row l (mL row b n)with h|h
  ·rw[h];unfold mL;split
   ·right;simp
   left;rfl
  right;simp[h]
theorem yQ(row:List Int)(h:0<row.length):bO row∈row:=by
 rcases sR row row (nth row 0)with e|e
 ·rw[bO,e];exact aO h
 exact e
theorem lD(f:Ent->Int):∀(A:List Ent) (l:List Int) (n:Int),n∈dz f A l->n∈l\/∃x∈A,n=f x
 |[],l,n,h=>.inl h
 |x::A,l,n,h=>by
  rcases lD f A (l.set x.1 (f x)) n h with h|⟨y,hy,he⟩
  ·rcases List.mem_or_eq_of_mem_set h with h|h
   ·exact .inl h
   exact .inr ⟨x,by simp,h⟩
  exact .inr ⟨y,by simp[hy],he⟩
theorem uf{lo hi:Int}{l:List Int}(h:∀n∈l,lo<=n/\n<=hi):inB lo hi l=true:=by
 rw[inB,vg];intro n hn;have:=h n hn;simp[this]
theorem A6{lo hi:Int}{l:List Int}(h:inB lo hi l=true){n:Int}(hn:n∈l):lo<=n/\n<=hi:=by
 rw[inB,vg]at h;simpa using h n hn
theorem A3(a0:Int)(L:List (List Int))(hw:∀r∈L,r.length<=64)(a2:∀r∈L,inB 0 65535 r=true):∀k,k<=L.length->
  let q:=(L.take k).foldl PSt.lay ⟨a0,[],[],[],[]⟩
  ∃A:List Ent,q.check=eZ A/\q.next=kF A/\q.base.length=k/\q.check.length<=64*k/\(∀b∈q.base,0<=b/\b<=64*(k:Int))/\∀x∈A,x.2.1<k/\0<=x.2.2/\x.2.2<=65535:=by
 intro k
 induction k with
 |zero=>intro _;exact⟨[],rfl,rfl,rfl,pR _,by simp,by simp⟩
 |succ k ih=>
  intro hk;obtain⟨A,h1,h2,h3,h4,h5,h6⟩:=ih zo;have hm:=aO (l:=L) (j:=k) zo;have hr:=a2 _ hm;rw[aR zo,ug];generalize (L.take k).foldl PSt.lay ⟨a0,[],[],[],[]⟩=q at *;simp only[rf,Jn];generalize nth L k=row at *;obtain⟨e1,e2⟩:=yh q A row h1 h2;obtain⟨l1,l2,l3,l4,l5⟩:=iO q row (hw _ hm) (by rw[h1,h2,nV,fY]);obtain⟨m1,m2,m3⟩:=yi q row;have hb:=(gF q.check (bM row (bO row))).2.1;refine⟨_,e1,e2,zo,zo,fun b a1=>?_,fun x hx=>?_⟩
  ·rw[m1]at a1
   rcases Gi.1 a1 with h|h
   ·have:=h5 b h;omega
   simp only[pZ]at h;subst h;omega
  rcases Gi.1 hx with h|h
  ·have:=h6 x h;omega
  simp only[jG,zR]at h;obtain⟨c,hc,rfl⟩:=h;have:=A6 hr (aO (kW hc));exact⟨by dsimp only;omega,this⟩
theorem vw(width:Int)(L:List (List Int))(a1:cf width L=false):de (lI width L)=true:=by
 obtain⟨a5,a4,hL,a0,a2⟩:=rC a1;have a3:∀r∈L,inB 0 65535 r=true:=fun r hr=>by
  have h2:(!cf width L)=true:=by rw[a1];rfl
  rw[qd,ri]at h2;have:=vg.1 h2.2 r hr;rw[uI,ri]at this;exact this.2
 obtain⟨A,h1,h2,h3,h4,h5,h6⟩:=A3 width L a2 a3 L.length (sN _);rw[sQ]at h1 h2 h3 h4 h5;obtain⟨s1,s2,s3,s4,s5,_,_⟩:=qb width L a2;have hq:L.foldl PSt.lay ⟨width,[],[],[],[]⟩=lI width L:=rfl;rw[hq]at h1 h2 h3 h4 h5;generalize lI width L=q at *;have a6:q.usual.length=L.length:=by rw[s1];simp
 have b1:inB 0 65535 q.usual=true:=uf fun n hn=>by
  rw[s1]at hn;obtain⟨r,hr,rfl⟩:=zR.1 hn;exact A6 (a3 r hr) (yQ r (by have:=a0 r hr;omega))
 have b2:inB 0 65535 q.base=true:=uf fun n hn=>by have:=h5 n hn;omega
 have b3:inB 0 65535 q.next=true:=uf fun n hn=>by
  rw[h2]at hn
  rcases lD _ _ _ _ hn with h|⟨x,hx,rfl⟩
  ·have:=Fo h;omega
  exact(h6 x hx).2
 have b4:inB (-1) ((q.usual.length:Int)-1) q.check=true:=uf fun n hn=>by
  rw[h1]at hn
  rcases lD _ _ _ _ hn with h|⟨x,hx,rfl⟩
  ·have:=Fo h;omega
  have:=(h6 x hx).1;unfold kS;omega
 simp only[de,b1,b2,b3,b4,Bool.and_true];have c1:¬q.width<1:=zo;have c2:¬64<q.width:=zo;have c3:¬(1000:Int)<q.usual.length:=zo;have c4:¬(65599:Int)<q.check.length:=zo;have c5:(q.base.length:Int)=q.usual.length:=zo;have c6:(q.check.length:Int)=q.next.length:=zo;simp[c1,c2,c3,c5,c6];omega
def getM(p:PSt)(r c:Nat):Int:=
 let k:=(nth p.base r).toNat+c
 if k<p.check.length/\nth p.check k=r then nth p.next k else nth p.usual r
structure OkP(p:PSt):Prop where
 w1:1<=p.width
 w2:p.width<=64
 rows:p.usual.length<=1000
 bl:p.base.length=p.usual.length
 cl:p.check.length=p.next.length
 c2:p.check.length<=65599
 base:∀r,r<p.base.length->0<=nth p.base r/\nth p.base r<=65535
theorem okP(p:PSt)(h:de p=true):OkP p:=by
 simp only[de,ri,DN,Bool.or_eq_false_iff,decide_eq_false_iff_not,bne_eq_false_iff_eq]at h;obtain⟨⟨⟨⟨⟨h1,h2⟩,h3⟩,h4⟩,h5,h6⟩,⟨⟨h7,h8⟩,h9⟩,a0⟩:=h;exact⟨zo,zo,zo,zo,zo,zo,fun r hr=>A6 h8 (aO hr)⟩
theorem F9(p:PSt)(ok:OkP p)(u1 b1 k1 n1:ox)(pb r c:Nat)(w:ow)(hu:J7 w u1 p.usual)(hb:J7 w b1 p.base)(hk:J7 w k1 p.check)(hn:J7 w n1 p.next)
  (hc:∀j u,(#[nI p.width,u1,b1,k1,n1]:Array ox)[j]? = some u->w.cell? ⟨pb,j,none⟩=some u) (hr:r<p.base.length) (a3:c<64) :
  BG rm 122 [nP pb,nI r,nI c] w fun v w'=>v=nI (getM p r c)/\w=w':=by
 obtain⟨o1,o2,o3,o4,o5,o6,o7⟩:=ok;have a1:=o7 r hr;obtain⟨b,a0⟩:=JK a1.1;have hg:getM p r c=if b+c<p.check.length/\nth p.check (b+c)=r then nth p.next (b+c)else nth p.usual r:=by simp only[getM,a0];rfl
 refine oD func122 ntmps122 rfl rfl ?_;refine zg ?_
 refine zvG (RV.ld (hc 2 _ rfl) rfl) ?_;refine zv (vX hb oU (tG _) rfl rfl _ rfl zo) ?_
 refine zv (RV.ld (hb.ld hr) rfl) ?_;have a2:nI (nth p.base r)=nI (b:Int):=by rw[a0]
 rw[a2];refine zg ?_;refine zvG (AK rfl rfl (uM zo)) ?_;refine zv (RV.ld (hc 3 _ rfl) rfl) ?_;refine zvG (As hk oU rfl) ?_
 by_cases h1:b+c<p.check.length
 ·refine ay (d:=24) rfl (b':=true) (decide_eq_true zo) ?_;refine zg ?_
  refine zvG (RV.ld (hc 3 _ rfl) rfl) ?_;refine zvG (vX hk oU (tG _) rfl rfl _ rfl zo) ?_
  refine zvG (RV.ld (hk.ld h1) rfl) ?_;refine zC ?_ ?_
  ·intro he;replace he:nth p.check (b+c)=r:=by simpa using he
   rw[if_pos ⟨h1,he⟩]at hg;refine zg ?_;refine zvG (RV.ld (hc 4 _ rfl) rfl) ?_;refine zv (vX hn oU (tG _) rfl rfl (b+c) rfl zo) ?_;refine zvG (RV.ld (hn.ld (i:=b+c) zo) rfl) ?_;refine ae rfl rfl (⟨by rw[hg],rfl⟩)
  intro he;replace he:¬nth p.check (b+c)=r:=by simpa using he
  rw[if_neg (fun h=>he h.2)]at hg;refine zg ?_;refine zvG (RV.ld (hc 1 _ rfl) rfl) ?_;refine zv (vX hu oU (tG _) rfl rfl _ rfl zo) ?_;refine zvG (RV.ld (hu.ld (i:=r) zo) rfl) ?_;refine ae rfl rfl (⟨by rw[hg],rfl⟩)
 rw[if_neg (fun h=>h1 h.1)]at hg;refine ay (d:=24) rfl (b':=false) (decide_eq_false zo) ?_;refine zg ?_;refine zFG rfl rfl ?_;refine zvG (RV.ld (hc 1 _ rfl) rfl) ?_;refine zv (vX hu oU (tG _) rfl rfl _ rfl zo) ?_;refine zvG (RV.ld (hu.ld (i:=r) zo) rfl) ?_;refine ae rfl rfl (⟨by rw[hg],rfl⟩)
def CF(p:PSt)(r:Nat):List Int:=(su p.width.toNat).map (getM p r)
def gj(p:PSt):List (List Int):=(su p.usual.length).map (CF p)
def fQ(p:PSt)(r c:Nat):List Int:=(su c).map (getM p r)++ps (p.width.toNat-c) 0
theorem AU(p:PSt)(r c:Nat)(h:c<p.width.toNat):(fQ p r c).set c (getM p r c)=fQ p r (c+1):=by
 simp only[fQ];rw[List.set_append_right _ _ (by simp),Gh,C9];obtain⟨d,hd⟩:∃d,p.width.toNat-c=d+1:=⟨p.width.toNat-c-1,zo⟩
 rw[hd,show p.width.toNat-(c+1)=d from by omega];simp[List.replicate_succ]
theorem tm(p:PSt)(r c:Nat)(h:c<=p.width.toNat):(fQ p r c).length=p.width.toNat:=by simp[fQ];omega
theorem AV(p:PSt)(r:Nat):fQ p r p.width.toNat=CF p r:=by simp[fQ,CF]
theorem gp(f:Nat->List Int)(n i:Nat)(h:i<n):nth ((su n).map f) i=f i:=by
 rw[aB (by simpa using h)];simp
theorem IN:L9 rm 50 22 1 24:=⟨L2,by kernel_rfl,zd⟩
theorem tw(p:PSt)(pv:ox)(w:ow)(hp:PkV w pv p):
  BG rm 75 [pv] w fun v w'=>∃rv,v=.tuple #[rv,.bool (de p)]/\(if de p then Rows w' rv (gj p)else rv=nS)/\ze w w':=by
 have d2:=hp;obtain⟨u1,b1,k1,n1,rfl,hu,hb,hk,hn⟩:=hp;refine oD func75 ntmps75 rfl rfl ?_;refine zg ?_;refine aE (au w) 1 zo rfl rfl ?_;intro x1 w1 O1 c5 e2 e5 d0;refine zg ?_;refine zv (ai c5.cellsAdd (J6 _) (zf _) rfl) ?_;refine zc call121 (zj p _ w1 (d2.ext d0)) ?_;rintro v w2 ⟨rfl,c'⟩;have hE:=d0.trans c';have hc:∀w',ze w2 w'->∀j u,(#[nI p.width,u1,b1,k1,n1]:Array ox)[j]? = some u->w'.cell? ⟨x1,j,none⟩=some u:=fun w' e j u hu=>e.cell (c'.cell (c5.cell j hu))
 replace hu:=hu.ext hE;replace hb:=hb.ext hE;replace hk:=hk.ext hE;replace hn:=hn.ext hE;refine zg ?_;refine zC ?_ ?_
 ·intro hg;replace hg:de p=false:=by simpa using hg
  refine zg ?_;refine bQ rfl rfl rfl (⟨_,by rw[hg],by rw[hg];rfl,hE⟩)
 intro hg;replace hg:de p=true:=by simpa using hg
 have ok:=okP p hg;obtain⟨o1,o2,o3,o4,o5,o6,o7⟩:=ok;have ok:=okP p hg;obtain⟨n,c6⟩:∃n:Nat,p.width=n:=JK zo;have a':p.width.toNat=n:=by omega
 refine zg ?_;refine zv (RV.ld (hc _ (tJ _) 1 _ rfl) rfl) ?_
 refine zvG (As (by first|exact hu) oU rfl) ?_;refine zlp (fun x:Nat×(Nat->Nat)×World×ox×List ox=>[(1,nP x1),(4,x.2.2.2.1),(13,nI p.usual.length),(14,nI x.1)]) (fun x=>x.2.2.1) (fun x=>x.1<=p.usual.length/\Jr (fun v=>[v]) 22 1 x.2.1 x.2.2.1 16 x.2.2.2.1 x.2.2.2.2/\x.2.2.2.2.length=x.1/\(∀i,i<x.1->J7 x.2.2.1 (nth x.2.2.2.2 i) (CF p i)/\KJ x.2.1 x.2.2.1 (nth x.2.2.2.2 i))/\uu (fun j=>j=16) (fun _=>0) w2 x.2.1 x.2.2.1) (fun x=>p.usual.length-x.1) (0,(fun _=>0),w2,nS,[]) (⟨pR _,uV _ _ _ _ _ _,rfl,fun i hi=>absurd hi (rI i),FX zd _ _⟩) ?_
 rintro⟨k,O3,w3,ov,vs⟩ ⟨d7,b3,a9,a0,b2⟩;dsimp only at d7 b3 a9 a0 b2 ⊢;have b9:=b2.ext;have c9:=(au w2).upd b2;refine zg ?_;refine zC ?_ ?_
 ·intro b4;replace b4:k<p.usual.length:=by have:=of_decide_eq_true b4;omega
  refine zg ?_;refine zv (RV.ld (hc _ b9 0 _ rfl) rfl) ?_
  refine bN pL (val:=fun n:Int=>nI n) (0:Int) zk (fun _=>rfl) (au w3) 15 zd n rfl rfl c6 c6 zo zo rfl ?_;intro w4 O4 lv d5 d6 e0 e4 e6;have a4:mV O4 w4 15 lv (fQ p k 0):=by simpa[fQ,a']using d6
  have b6:=a4.sl;have a2:(fQ p k 0).length=n:=by rw[tm _ _ _ (pR _),a']
  refine zg ?_;refine zvG (As (by first|exact b6) oU rfl) ?_
  have b':nI ((fQ p k 0).length:Int)=nI (n:Int):=by rw[a2]
  rw[b'];refine zlp (fun y:Nat×ow=>[(1,nP x1),(4,ov),(5,nI k),(6,lv),(13,nI p.usual.length),(14,nI k),(21,nI n),(22,nI y.1)]) (fun y=>y.2) (fun y=>y.1<=n/\mV O4 y.2 15 lv (fQ p k y.1)/\uu (fun j=>j=15) (fun _=>0) w3 O4 y.2) (fun y=>n-y.1) (0,w4) (⟨pR _,a4,e0⟩) ?_;rintro⟨c,w5⟩ ⟨d9,a3,a6⟩;dsimp only at d9 a3 a6 ⊢;have a7:=b9.trans a6.ext;have b5:=a3.sl;have c7:(fQ p k c).length=n:=by rw[tm _ _ _ zo,a']
  refine zg ?_;refine zC ?_ ?_
  ·intro a1;replace a1:c<n:=by have:=of_decide_eq_true a1;omega
   refine zg ?_;refine zc call122 (F9 p ok u1 b1 k1 n1 x1 k c w5 (hu.ext a7) (hb.ext a7) (hk.ext a7) (hn.ext a7) (hc _ a7) zo zo) ?_
   rintro v _ ⟨rfl,rfl⟩;refine zv (vX (by first|exact b5) oU (tG _) rfl rfl _ rfl zo) ?_;refine JA a3 c zo (getM p k c) (tG _) rfl zo rfl rfl rfl rfl ?_;intro w6 b0 d';rw[AU _ _ _ zo]at b0;refine zg ?_;refine zvG (AK rfl rfl (uM zo)) ?_;refine zxd (c+1,w6) (⟨a1,b0,a6.trans d'⟩)
  intro b7;obtain rfl:c=n:=by have:=of_decide_eq_false b7;omega
  have b0:J7 w5 lv (CF p k):=by have:=a3.sl;rw[<-a',AV]at this;exact this
  have c8:KJ O3 w5 lv:=a3.free zd ((au w3).upd a6) c9;have a8:=a6.ext;have b8:uu (fun _=>False) O3 w3 O3 w5:=aa (fun h=>h) O3 a8;have d4:=b3.upd b8 zd (fun h=>h);have e1:=c9.ext a8;subst d5;refine zg ?_;refine Fu IN d4 e1 ((KC (some ⟨w3.heap.size,0,none⟩) c c)) (fun _=>rfl) rfl rfl rfl (by simp[th]) zo zo zo zd rfl rfl ?_;intro d1 w7 O7 d3 a5 e3;refine zg ?_;refine zvG (AK rfl rfl (uM zo)) ?_;refine zxd (k+1,O7,w7,d1,vs++[KC (some ⟨w3.heap.size,0,none⟩) c c]) (⟨b4,d3,by simp[a9],?_,(b2.trans (aa zd O3 a8)).trans a5⟩);intro i hi;dsimp only at hi ⊢;rw[aA,a9]
  split
  ·rename_i h;obtain⟨g1,g2⟩:=a0 i h;exact⟨(g1.ext a8).upd (g2.upd b8) a5,(g2.upd b8).upd a5⟩
  rename_i h;obtain rfl:i=k:=by omega
  rw[Gc,ar];exact⟨b0.upd c8 a5,c8.upd a5⟩
 intro d8;obtain rfl:k=p.usual.length:=by have:=of_decide_eq_false d8;omega
 refine zg ?_;refine bQ rfl rfl rfl (⟨_,by rw[hg],by rw[hg,if_pos rfl];exact⟨vs,b3.sl,by simp[a9,gj],fun i hi=>by simp only[gj,J4,Kc]at hi;rw[gj,gp _ _ _ hi];exact(a0 i hi).1⟩,hE.trans b9⟩)
theorem pV(f:Ent->Int)(s:Nat):∀(A:List Ent) (l:List Int),(∀x∈A,x.1<l.length)->(∀x∈A,x.1≠s)->nth (dz f A l) s=nth l s
 |[],_,_,_=>rfl
 |x::A,l,h,hs=>by
  have:=pV f s A (l.set x.1 (f x)) (fun y hy=>by simpa using h y (by simp[hy])) (fun y hy=>hs y (by simp[hy]));simp only[dz,rf]at this ⊢;rw[this,aT (h x (by simp)),if_neg (fun e=>hs x (by simp) e.symm)]
theorem ko(f:Ent->Int):∀(A:List Ent) (l:List Int),(A.map (·.1)).Nodup->(∀x∈A,x.1<l.length)->∀x∈A,nth (dz f A l) x.1=f x
 |[],_,_,_,x,hx=>by simp at hx
 |y::A,l,hn,h,x,hx=>by
  simp only[I4,Kl,zR]at hn;have hl:∀z∈A,z.1<(l.set y.1 (f y)).length:=fun z hz=>by simpa using h z (by simp[hz])
  rcases DZ.1 hx with rfl|hx
  ·have:=pV f x.1 A (l.set x.1 (f x)) hl (fun z hz e=>hn.1 ⟨z,hz,e⟩);simp only[dz,rf]at this ⊢;rw[this,aT (h x (by simp)),if_pos rfl]
  have:=ko f A (l.set y.1 (f y)) hn.2 hl x hx;simpa only[dz,rf]using this
theorem B8{A:List Ent}(hn:(A.map (·.1)).Nodup){s r:Nat}(h:nth (eZ A) s=r)(hs:s<iz A):∃x∈A,x.1=s/\x.2.1=r:=by
 have h1:=pW A s (ps (iz A) (-1)) (by simpa using hs) (fun y hy=>by simpa using eI hy);have h2:nth (ps (iz A) (-1:Int)) s = -1:=by rw[aB (by simpa using hs)];simp
 rw[h2]at h1;have h3:=h1.1 (by rw[eZ]at h;rw[h];omega);simp only[ne_eq,not_true,or_false,List.any_eq_true]at h3;obtain⟨x,hx,he⟩:=h3;have he:x.1=s:=by simpa using he
 refine⟨x,hx,he,?_⟩;have h4:=ko kS A (ps (iz A) (-1)) hn (fun y hy=>by simpa using eI hy) x hx;rw[he]at h4;rw[eZ,h4]at h;unfold kS at h;omega
structure BInv(width:Int)(L:List (List Int))(k:Nat)(A:List Ent)(q:PSt):Prop where
 chk:q.check=eZ A
 nxt:q.next=kF A
 bl:q.base.length=k
 b0:∀b∈q.base,0<=b
 us:q.usual=(L.take k).map bO
 nd:(A.map (·.1)).Nodup
 mem:∀x:Ent,x∈A↔x.2.1<k/\∃c,c<(nth L x.2.1).length/\nth (nth L x.2.1) c≠bO (nth L x.2.1)/\x.1=(nth q.base x.2.1).toNat+c/\x.2.2=nth (nth L x.2.1) c
theorem qf{row:List Int}{u:Int}{c:Nat}:c∈bM row u↔c<row.length/\nth row c≠u:=by simp[bM,fX]
theorem Jl(a0:Int)(L:List (List Int)):∀k,k<=L.length->∃A,BInv a0 L k A ((L.take k).foldl PSt.lay ⟨a0,[],[],[],[]⟩):=by
 intro k
 induction k with
 |zero=>intro _;exact⟨[],⟨rfl,rfl,rfl,by simp,rfl,by simp,fun x=>by simp⟩⟩
 |succ k ih=>
  intro hk;obtain⟨A,h⟩:=ih zo;rw[aR zo,ug];generalize (L.take k).foldl PSt.lay ⟨a0,[],[],[],[]⟩=q at *;simp only[rf,Jn];obtain⟨e1,e2⟩:=yh q A (nth L k) h.chk h.nxt;obtain⟨m1,m2,m3⟩:=yi q (nth L k);have a3:=(gF q.check (bM (nth L k) (bO (nth L k)))).1;rw[eQ,vg,h.chk]at a3;rw[h.chk]at e1 e2 m1;generalize hb:fZ (eZ A) (bM (nth L k) (bO (nth L k)))=b at *;rw[h.bl]at e1 e2;have a1:∀r,r<k->nth (q.base++[(b:Int)]) r=nth q.base r:=fun r hr=>by rw[aA,if_pos (by rw[h.bl];exact hr)]
  have a4:nth (q.base++[(b:Int)]) k=b:=by rw[aA,h.bl,if_neg (Nat.lt_irrefl _),Gc,ar]
  refine⟨_,⟨e1,e2,by rw[m1];simp[h.bl],fun n hn=>?_,by rw[m2,h.us,aR zo];simp,?_,fun x=>?_⟩⟩
  ·rw[m1]at hn
   rcases Gi.1 hn with h1|h1
   ·exact h.b0 n h1
   simp only[pZ]at h1;subst h1;omega
  ·rw[C9,Kb];refine⟨h.nd,?_,fun s hs s' a2 e=>?_⟩
   ·simp only[jG,KF];rw[List.nodup_iff_pairwise_ne,List.pairwise_map];exact(mB (nth L k) (bO (nth L k))).imp (fun {a c} a6 e=>a6 (by simpa using e))
   subst e;simp only[jG,KF,zR,Ld]at a2;obtain⟨c,hc,rfl⟩:=a2;obtain⟨y,hy,a5⟩:=zR.1 hs;have h2:=a3 c hc;rw[zG,DN]at h2;have h3:=DH.1 h2 y hy;exact h3 (by simp[a5])
  rw[Gi,h.mem,m1]
  constructor
  ·rintro(⟨h1,c,h2,h3,h4,h5⟩|h1)
   ·exact⟨zo,c,h2,h3,by rw[a1 _ h1];exact h4,h5⟩
   simp only[jG,zR]at h1;obtain⟨c,hc,rfl⟩:=h1;obtain⟨c1,c2⟩:=qf.1 hc;exact⟨by dsimp only;omega,c,c1,c2,by dsimp only;rw[a4];simp,rfl⟩
  rintro⟨h1,c,h2,h3,h4,h5⟩
  by_cases hr:x.2.1<k
  ·exact .inl ⟨hr,c,h2,h3,by rw[a1 _ hr]at h4;exact h4,h5⟩
  obtain⟨x1,x2,x3⟩:=x;dsimp only at h1 h2 h3 h4 h5 hr;obtain rfl:x2=k:=zo;right;rw[a4]at h4;simp only[jG,zR];exact⟨c,qf.2 ⟨h2,h3⟩,by rw[h4,h5];simp⟩
theorem BK(a0:Int)(L:List (List Int))(r c:Nat)(hr:r<L.length)(hc:c<(nth L r).length):getM (lI a0 L) r c=nth (nth L r) c:=by
 obtain⟨A,h⟩:=Jl a0 L L.length (sN _);rw[sQ]at h;have hq:L.foldl PSt.lay ⟨a0,[],[],[],[]⟩=lI a0 L:=rfl;rw[hq]at h;generalize lI a0 L=q at *;have a1:nth q.usual r=bO (nth L r):=by rw[h.us,sQ,dI hr]
 unfold getM;rw[h.chk,h.nxt,fY,a1]
 by_cases hu:nth (nth L r) c=bO (nth L r)
 ·rw[if_neg,hu];rintro⟨h1,h2⟩;obtain⟨x,hx,e1,e2⟩:=B8 h.nd h2 h1;obtain⟨g1,c',g2,g3,g4,g5⟩:=(h.mem x).1 hx;rw[e2]at g2 g3 g4;have:c'=c:=zo;subst this;exact g3 hu
 have hx:(((nth q.base r).toNat+c,r,nth (nth L r) c):Ent)∈A:=(h.mem _).2 ⟨by simpa using hr,c,hc,hu,rfl,rfl⟩;have h1:=eI hx;have h2:=ko kS A (ps (iz A) (-1)) h.nd (fun y hy=>by simpa using eI hy) _ hx;have h3:=ko I5 A (ps (iz A) 0) h.nd (fun y hy=>by simpa using eI hy) _ hx;dsimp only at h1;rw[if_pos ⟨h1,h2⟩];exact h3
end Go.Proofs.YtlehnbkknlpkbaaGreatDoor
section
namespace Go.VL
structure LS where
 l:List UInt8
 pos:Int
 to:Int
 bg:Int
 bad:Int
 e:Int
 ig:ox
 kp:ox
 ru:ox
 mc:ox
 i:Bool
 k:Bool
def LS.cells(s:LS):Array ox:=#[.string (bs s.l),nI s.pos,nI s.to,nI s.bg,nI s.bad,nI s.e,s.ig,s.kp,s.ru,s.mc,.bool s.i,.bool s.k]
theorem BlkO.q0{O:Nat->Nat}{w:ow}{j rb:Nat}{s:LS}{E:uw}(h:yJ O w j rb s.cells E):w.cell? ⟨rb,0,none⟩=some (.string (bs s.l)):=h.cell 0 rfl
theorem BlkO.q1{O:Nat->Nat}{w:ow}{j rb:Nat}{s:LS}{E:uw}(h:yJ O w j rb s.cells E):w.cell? ⟨rb,1,none⟩=some (nI s.pos):=h.cell 1 rfl
theorem BlkO.q2{O:Nat->Nat}{w:ow}{j rb:Nat}{s:LS}{E:uw}(h:yJ O w j rb s.cells E):w.cell? ⟨rb,2,none⟩=some (nI s.to):=h.cell 2 rfl
theorem BlkO.q3{O:Nat->Nat}{w:ow}{j rb:Nat}{s:LS}{E:uw}(h:yJ O w j rb s.cells E):w.cell? ⟨rb,3,none⟩=some (nI s.bg):=h.cell 3 rfl
theorem BlkO.q4{O:Nat->Nat}{w:ow}{j rb:Nat}{s:LS}{E:uw}(h:yJ O w j rb s.cells E):w.cell? ⟨rb,4,none⟩=some (nI s.bad):=h.cell 4 rfl
theorem BlkO.q5{O:Nat->Nat}{w:ow}{j rb:Nat}{s:LS}{E:uw}(h:yJ O w j rb s.cells E):w.cell? ⟨rb,5,none⟩=some (nI s.e):=h.cell 5 rfl
theorem BlkO.q6{O:Nat->Nat}{w:ow}{j rb:Nat}{s:LS}{E:uw}(h:yJ O w j rb s.cells E):w.cell? ⟨rb,6,none⟩=some (s.ig):=h.cell 6 rfl
theorem BlkO.q7{O:Nat->Nat}{w:ow}{j rb:Nat}{s:LS}{E:uw}(h:yJ O w j rb s.cells E):w.cell? ⟨rb,7,none⟩=some (s.kp):=h.cell 7 rfl
theorem BlkO.q8{O:Nat->Nat}{w:ow}{j rb:Nat}{s:LS}{E:uw}(h:yJ O w j rb s.cells E):w.cell? ⟨rb,8,none⟩=some (s.ru):=h.cell 8 rfl
theorem BlkO.q9{O:Nat->Nat}{w:ow}{j rb:Nat}{s:LS}{E:uw}(h:yJ O w j rb s.cells E):w.cell? ⟨rb,9,none⟩=some (s.mc):=h.cell 9 rfl
theorem BlkO.q10{O:Nat->Nat}{w:ow}{j rb:Nat}{s:LS}{E:uw}(h:yJ O w j rb s.cells E):w.cell? ⟨rb,10,none⟩=some (.bool s.i):=h.cell 10 rfl
theorem BlkO.q11{O:Nat->Nat}{w:ow}{j rb:Nat}{s:LS}{E:uw}(h:yJ O w j rb s.cells E):w.cell? ⟨rb,11,none⟩=some (.bool s.k):=h.cell 11 rfl
theorem BlkO.s_pos{O:Nat->Nat}{w:ow}{j rb:Nat}{s:LS}{E:uw}(h:yJ O w j rb s.cells E)(a':Int):yJ O (w.setCell ⟨rb,1,none⟩ (nI a')) j rb ({s with pos:=a'}:LS).cells E:=h.set 1 _
theorem BlkO.s_to{O:Nat->Nat}{w:ow}{j rb:Nat}{s:LS}{E:uw}(h:yJ O w j rb s.cells E)(a':Int):yJ O (w.setCell ⟨rb,2,none⟩ (nI a')) j rb ({s with to:=a'}:LS).cells E:=h.set 2 _
theorem BlkO.s_bg{O:Nat->Nat}{w:ow}{j rb:Nat}{s:LS}{E:uw}(h:yJ O w j rb s.cells E)(a':Int):yJ O (w.setCell ⟨rb,3,none⟩ (nI a')) j rb ({s with bg:=a'}:LS).cells E:=h.set 3 _
theorem BlkO.s_bad{O:Nat->Nat}{w:ow}{j rb:Nat}{s:LS}{E:uw}(h:yJ O w j rb s.cells E)(a':Int):yJ O (w.setCell ⟨rb,4,none⟩ (nI a')) j rb ({s with bad:=a'}:LS).cells E:=h.set 4 _
theorem BlkO.s_e{O:Nat->Nat}{w:ow}{j rb:Nat}{s:LS}{E:uw}(h:yJ O w j rb s.cells E)(a':Int):yJ O (w.setCell ⟨rb,5,none⟩ (nI a')) j rb ({s with e:=a'}:LS).cells E:=h.set 5 _
theorem BlkO.s_ru{O:Nat->Nat}{w:ow}{j rb:Nat}{s:LS}{E:uw}(h:yJ O w j rb s.cells E)(a':ox):yJ O (w.setCell ⟨rb,8,none⟩ a') j rb ({s with ru:=a'}:LS).cells E:=h.set 8 _
end Go.VL
namespace Go.Proofs.YtlehnbkknlpkbaaGreatDoor
open Go.VL Go.Proofs
set_option maxRecDepth 10000
abbrev Rd6(O:Nat->Nat)(w:ow)(j rb:Nat)(s:LS):Prop:=yJ O w j rb s.cells 170
theorem mY{l:List UInt8}{m i:Nat}{c:UInt8}(h:(l.take m)[i]? = some c):l[i]? = some c:=by
 rw[List.getElem?_take]at h
 split at h
 ·exact h
 cases h
theorem dX(O:Nat->Nat)(w:ow)(j rb:Nat)(s:LS)(m:Nat)(r:List UInt8)(hj:j≠0)(hm:m<=s.l.length)(hl:s.l.length<=100000)(a3:s.to=(m:Int))(hr:r <:+ s.l.take m)(hp:s.pos=(m:Int)-(r.length:Int))(h:Rd6 O w j rb s):
  BG rm 129 [nP rb] w fun v w'=>v=.bool (decide (0<(aw r).length))/\Rd6 O w' j rb {s with pos:=(m:Int)-((aw r).length:Int)}/\uu (fun k=>k=j) O w O w':=by
 have hz:¬(fun k:Nat=>k=j) 0:=fun e=>hj e.symm
 have a9:(s.l.take m).length=m:=by simp;omega
 have h0:Rd6 O w j rb {s with pos:=(m:Int)-(r.length:Int)}:=by rw[<-hp];exact h
 refine oD func129 ntmps129 rfl rfl ?_;refine zh ?_
 refine zlp (fun x:List UInt8×ow=>[(0,nP rb)]) (fun x=>x.2) (fun x=>x.1 <:+ s.l.take m/\aw x.1=aw r/\Rd6 O x.2 j rb {s with pos:=(m:Int)-(x.1.length:Int)}/\uu (fun k=>k=j) O w O x.2) (fun x=>x.1.length) (r,w) (⟨hr,rfl,h0,FX hz _ _⟩) ?_;rintro⟨r1,w1⟩ ⟨a4,a2,a7,a5⟩;dsimp only at a4 a2 a7 a5 ⊢;have a0:=a7.drew;have a8:=a4.length_le;refine zh ?_
 refine BW zk zk ?_;refine zh ?_
 refine zwH (RV.ld a0.q1 rfl) ?_;refine zw (RV.ld a0.q2 rfl) ?_
 refine zwH (FJ rfl rfl) ?_
 cases r1 with
 |nil=>
  refine bP (d:=12) rfl (b':=false) (decide_eq_false (by simp[a3])) ?_;have a1:=a0.drew;refine zh ?_
  refine zw (aW rfl rfl) ?_;refine BJ ?_
  refine zh ?_;refine zFH rfl rfl ?_
  refine BW zk zk ?_;refine zh ?_
  refine zwH (RV.ld a1.q1 rfl) ?_;refine zw (RV.ld a1.q2 rfl) ?_
  refine zwH (FJ rfl rfl) ?_;refine BJ ?_
  refine zh ?_;refine ae rfl rfl (⟨by rw[<-a2];simp[a3,aw],by rw[<-a2];exact a1,a5.drew.drew⟩)
 |cons b r2=>
  simp only[tq]at a8 a0;refine bP (d:=12) rfl (b':=true) (decide_eq_true (by simp only[tq,a3];omega)) ?_;refine zh ?_;refine zwH (RV.ld a0.q0 rfl) ?_;refine zwH (RV.ld a0.q1 rfl) ?_;refine zwH (bt (c:=b) pN rfl rfl (m-(r2.length+1)) (by dsimp only;omega) (mY (by have:=nD a4;rwa[a9]at this))) ?_;refine zw (GZ rfl rfl) ?_;refine zw (aQ rfl rfl) ?_;refine BJ ?_;refine zh ?_;refine zC ?_ ?_
  ·intro hb;replace hb:b=32:=by rw[show(32:Int)=((32:Nat):Int)from rfl,oK b 32 zd]at hb;simpa using hb
   subst hb;refine zh ?_;refine zv (RV.ld a0.q1 rfl) ?_;refine zvH (AK rfl rfl (uM (by dsimp only;omega))) ?_;refine ak (j:=1) a0 rfl (tG _) rfl rfl rfl rfl ?_;rw[show((m:Int)-((r2.length+1:Nat):Int))+1=(m:Int)-(r2.length:Int)from by omega];have a1:=a0.s_pos ((m:Int)-(r2.length:Int));have a':uu (fun k=>k=j) O w1.drew O (w1.drew.setCell ⟨rb,1,none⟩ (nI ((m:Int)-(r2.length:Int)))):=xK hz a0.tag rfl;refine zh ?_;refine zx (r2,w1.drew.setCell ⟨rb,1,none⟩ (nI ((m:Int)-(r2.length:Int)))) (⟨(J1 _ _).trans a4,by rw[<-a2];simp[aw],a1,a5.drew.trans a'⟩) (by dsimp only;simp)
  intro hb;replace hb:b≠32:=by rw[show(32:Int)=((32:Nat):Int)from rfl,oK b 32 zd]at hb;simpa using hb
  have a6:aw (b::r2)=b::r2:=by simp[aw,hb]
  have a1:=a0.drew;refine zh ?_;refine BW zk zk ?_;refine zh ?_;refine zwH (RV.ld a1.q1 rfl) ?_;refine zw (RV.ld a1.q2 rfl) ?_;refine zwH (FJ rfl rfl) ?_;refine BJ ?_;refine zh ?_;refine ae rfl rfl (⟨by rw[<-a2,a6];simp[a3];omega,by rw[<-a2,a6];exact a1,a5.drew.drew⟩)
theorem bI(O:Nat->Nat)(w:ow)(j rb:Nat)(s:LS)(p e:Int)(hj:j≠0)(he:s.e=0)(h:Rd6 O w j rb s):
  BG rm 156 [nP rb,nI p,nI e] w fun _ w'=>Rd6 O w' j rb {s with bad:=p,e:=e}/\uu (fun k=>k=j) O w O w':=by
 refine oD func156 ntmps156 rfl rfl ?_;refine zh ?_
 refine zvH (RV.ld h.q5 rfl) ?_;refine zTH rfl ((by rw[he];rfl)) ?_
 refine ak (j:=4) h rfl (tG _) rfl rfl rfl rfl ?_;have a0:=h.s_bad p;have a3:uu (fun k=>k=j) O w O (w.setCell ⟨rb,4,none⟩ (nI p)):=xK (fun e=>hj e.symm) h.tag rfl;refine zh ?_
 refine ak (j:=5) a0 rfl (sizeOf36 _) rfl rfl rfl rfl ?_;have a1:=a0.s_e e;have a2:uu (fun k=>k=j) O (w.setCell ⟨rb,4,none⟩ (nI p)) O ((w.setCell ⟨rb,4,none⟩ (nI p)).setCell ⟨rb,5,none⟩ (nI e)):=xK (fun e=>hj e.symm) a0.tag rfl;refine zh ?_
 refine aH rfl (⟨a1,a3.trans a2⟩)
theorem gV(O:Nat->Nat)(w:ow)(j rb:Nat)(s:LS)(m:Nat)(r:List UInt8)(hj:j≠0)(hm:m<=s.l.length)(hl:s.l.length<=100000)(b2:s.to=(m:Int))(hr:r <:+ s.l.take m)(hp:s.pos=(m:Int)-(r.length:Int))(h:Rd6 O w j rb s):
  BG rm 130 [nP rb] w fun v w'=>v=.string (bs (r.takeWhile aj))/\Rd6 O w' j rb {s with pos:=(m:Int)-((r.dropWhile aj).length:Int)}/\uu (fun k=>k=j) O w O w':=by
 have hz:¬(fun k:Nat=>k=j) 0:=fun e=>hj e.symm
 have a9:(s.l.take m).length=m:=by simp;omega
 have h0:Rd6 O w j rb {s with pos:=(m:Int)-(r.length:Int)}:=by rw[<-hp];exact h
 have a':=hr.length_le;rw[a9]at a';refine oD func130 ntmps130 rfl rfl ?_;refine zh ?_;refine zvH (RV.ld h0.q1 rfl) ?_;refine zlp (fun x:List UInt8×ow=>[(0,nP rb),(3,nI ((m:Int)-(r.length:Int)))]) (fun x=>x.2) (fun x=>x.1 <:+ s.l.take m/\x.1.dropWhile aj=r.dropWhile aj/\Rd6 O x.2 j rb {s with pos:=(m:Int)-(x.1.length:Int)}/\uu (fun k=>k=j) O w O x.2) (fun x=>x.1.length) (r,w) (⟨hr,rfl,h0,FX hz _ _⟩) ?_;rintro⟨r1,w1⟩ ⟨a8,a5,b4,a6⟩;dsimp only at a8 a5 b4 a6 ⊢;have a0:=b4.drew;have b3:=a8.length_le;rw[a9]at b3;have a3:r1=r.dropWhile aj->(s.l.take (m-r1.length)).drop (m-r.length)=r.takeWhile aj:=fun e=>by
  have:=AH (l:=s.l.take m) (a:=r.takeWhile aj) (b:=r.dropWhile aj) (by rw[IP];exact hr);rw[IP,<-e,a9,Kq,Kp zo]at this;exact this
 have b0:r1.length<=r.length\/r1≠r.dropWhile aj:=by
  by_cases e:r1=r.dropWhile aj
  ·left;rw[e];exact(JS _).length_le
  right;exact e
 refine zh ?_;refine BW zk zk ?_
 refine zh ?_;refine zwH (RV.ld a0.q1 rfl) ?_
 refine zw (RV.ld a0.q2 rfl) ?_;refine zwH (FJ rfl rfl) ?_
 cases r1 with
 |nil=>
  refine bP (d:=17) rfl (b':=false) (decide_eq_false (by simp[b2])) ?_;have a1:=a0.drew;have hd:[]=r.dropWhile aj:=by rw[<-a5];rfl
  have h1:=a3 hd;refine zh ?_;refine zw (aW rfl rfl) ?_;refine BJ ?_;refine zh ?_;refine zFH rfl rfl ?_;refine BW zk zk ?_;refine zh ?_;refine zwH (RV.ld a1.q0 rfl) ?_;refine zw (RV.ld a1.q1 rfl) ?_;refine zwH (dc pN rfl rfl rfl (m-r.length) (m-0) zo (by simp) zo zo) ?_;refine BJ ?_;refine zh ?_;simp only[List.length_nil]at h1;refine ae rfl rfl (⟨by rw[h1],by rw[<-hd];exact a1,a6.drew.drew⟩)
 |cons b r2=>
  simp only[tq]at b3 a0;refine bP (d:=17) rfl (b':=true) (decide_eq_true (by simp only[tq,b2];omega)) ?_;have a2:s.l[m-(r2.length+1)]? = some b:=mY (by have:=nD a8;rwa[a9]at this);refine zh ?_;refine zwH (RV.ld a0.q0 rfl) ?_;refine zwH (RV.ld a0.q1 rfl) ?_;refine zwH (bt (c:=b) pN rfl rfl (m-(r2.length+1)) (by dsimp only;omega) a2) ?_;refine zwH (KE rfl rfl) ?_
  by_cases k1:65<=b.toNat
  ·refine bP (d:=28) rfl (b':=true) (decide_eq_true zo) ?_;refine zh ?_
   refine zwH (RV.ld a0.q0 rfl) ?_;refine zwH (RV.ld a0.q1 rfl) ?_
   refine zwH (bt (c:=b) pN rfl rfl (m-(r2.length+1)) (by dsimp only;omega) a2) ?_;refine zwH (KZ rfl rfl) ?_
   refine zwH (aQ rfl rfl) ?_
   by_cases k2:b.toNat<=90
   ·refine bP (d:=40) rfl (b':=true) (decide_eq_true zo) ?_;have a4:aj b=true:=by simp[aj,k1,k2]
    refine zh ?_;refine zw (aQ rfl rfl) ?_
    refine zw (aQ rfl rfl) ?_;refine BJ ?_
    refine zh ?_;refine zTH rfl rfl ?_
    refine zv (RV.ld a0.q1 rfl) ?_;refine zvH (AK rfl rfl (uM (by dsimp only;omega))) ?_
    refine ak (j:=1) a0 rfl (tG _) rfl rfl rfl rfl ?_;rw[show((m:Int)-((r2.length+1:Nat):Int))+1=(m:Int)-(r2.length:Int)from by omega];have a1:=a0.s_pos ((m:Int)-(r2.length:Int));have b1:uu (fun k=>k=j) O w1.drew O (w1.drew.setCell ⟨rb,1,none⟩ (nI ((m:Int)-(r2.length:Int)))):=xK hz a0.tag rfl;refine zh ?_
    refine zx (r2,w1.drew.setCell ⟨rb,1,none⟩ (nI ((m:Int)-(r2.length:Int)))) (⟨(J1 _ _).trans a8,by rw[<-a5,Jo a4],a1,a6.drew.trans b1⟩) (by dsimp only;simp)
   refine bP (d:=40) rfl (b':=false) (decide_eq_false zo) ?_;refine zh ?_
   refine zwH (RV.ld a0.q0 rfl) ?_;refine zwH (RV.ld a0.q1 rfl) ?_
   refine zwH (bt (c:=b) pN rfl rfl (m-(r2.length+1)) (by dsimp only;omega) a2) ?_;refine zwH (KE rfl rfl) ?_
   by_cases k3:97<=b.toNat
   ·refine bP (d:=51) rfl (b':=true) (decide_eq_true zo) ?_;refine zh ?_
    refine zwH (RV.ld a0.q0 rfl) ?_;refine zwH (RV.ld a0.q1 rfl) ?_
    refine zwH (bt (c:=b) pN rfl rfl (m-(r2.length+1)) (by dsimp only;omega) a2) ?_;refine zwH (KZ rfl rfl) ?_
    refine zwH (aQ rfl rfl) ?_;refine zw (aW rfl rfl) ?_
    refine zw (aQ rfl rfl) ?_;refine BJ ?_
    refine zh ?_
    by_cases k4:b.toNat<=122
    ·refine aZ rfl (decide_eq_true zo) ?_;have a4:aj b=true:=by simp[aj,k3,k4]
     refine zh ?_;refine zv (RV.ld a0.q1 rfl) ?_
     refine zvH (AK rfl rfl (uM (by dsimp only;omega))) ?_;refine ak (j:=1) a0 rfl (tG _) rfl rfl rfl rfl ?_
     rw[show((m:Int)-((r2.length+1:Nat):Int))+1=(m:Int)-(r2.length:Int)from by omega];have a1:=a0.s_pos ((m:Int)-(r2.length:Int));have b1:uu (fun k=>k=j) O w1.drew O (w1.drew.setCell ⟨rb,1,none⟩ (nI ((m:Int)-(r2.length:Int)))):=xK hz a0.tag rfl;refine zh ?_;refine zx (r2,w1.drew.setCell ⟨rb,1,none⟩ (nI ((m:Int)-(r2.length:Int)))) (⟨(J1 _ _).trans a8,by rw[<-a5,Jo a4],a1,a6.drew.trans b1⟩) (by dsimp only;simp)
    refine aS rfl (decide_eq_false zo) ?_;have a4:aj b=false:=by simp[aj,k2,k4]
    have a7:(b::r2).dropWhile aj=b::r2:=De (by rw[a4];decide);have hd:b::r2=r.dropWhile aj:=by rw[<-a5,a7]
    have h1:=a3 hd;have h2:=b0.resolve_right (fun e=>e hd);simp only[tq]at h1 h2;have a1:=a0.drew;refine zh ?_;refine BW zk zk ?_;refine zh ?_;refine zwH (RV.ld a1.q0 rfl) ?_;refine zw (RV.ld a1.q1 rfl) ?_;refine zwH (dc pN rfl rfl rfl (m-r.length) (m-(r2.length+1)) zo (by dsimp only;omega) zo (by dsimp only;omega)) ?_;refine BJ ?_;refine zh ?_;refine ae rfl rfl (⟨by rw[h1],by rw[<-hd];exact a1,a6.drew.drew⟩)
   refine bP (d:=51) rfl (b':=false) (decide_eq_false zo) ?_;have a4:aj b=false:=by simp[aj,k2,k3]
   have a7:(b::r2).dropWhile aj=b::r2:=De (by rw[a4];decide);have hd:b::r2=r.dropWhile aj:=by rw[<-a5,a7]
   have h1:=a3 hd;have h2:=b0.resolve_right (fun e=>e hd);simp only[tq]at h1 h2;have a1:=a0.drew;refine zh ?_;refine zwH (aW rfl rfl) ?_;refine zw (aW rfl rfl) ?_;refine zw (aQ rfl rfl) ?_;refine BJ ?_;refine zh ?_;refine zFH rfl rfl ?_;refine BW zk zk ?_;refine zh ?_;refine zwH (RV.ld a1.q0 rfl) ?_;refine zw (RV.ld a1.q1 rfl) ?_;refine zwH (dc pN rfl rfl rfl (m-r.length) (m-(r2.length+1)) zo (by dsimp only;omega) zo (by dsimp only;omega)) ?_;refine BJ ?_;refine zh ?_;refine ae rfl rfl (⟨by rw[h1],by rw[<-hd];exact a1,a6.drew.drew⟩)
  have k3:¬97<=b.toNat:=zo;refine bP (d:=28) rfl (b':=false) (decide_eq_false zo) ?_;refine zh ?_;refine zwH (aW rfl rfl) ?_;refine zwH (RV.ld a0.q0 rfl) ?_;refine zwH (RV.ld a0.q1 rfl) ?_;refine zwH (bt (c:=b) pN rfl rfl (m-(r2.length+1)) (by dsimp only;omega) a2) ?_;refine zwH (KE rfl rfl) ?_;refine bP (d:=51) rfl (b':=false) (decide_eq_false zo) ?_;have a4:aj b=false:=by simp[aj,k1,k3]
  have a7:(b::r2).dropWhile aj=b::r2:=De (by rw[a4];decide);have hd:b::r2=r.dropWhile aj:=by rw[<-a5,a7]
  have h1:=a3 hd;have h2:=b0.resolve_right (fun e=>e hd);simp only[tq]at h1 h2;have a1:=a0.drew;refine zh ?_;refine zwH (aW rfl rfl) ?_;refine zw (aW rfl rfl) ?_;refine zw (aQ rfl rfl) ?_;refine BJ ?_;refine zh ?_;refine zFH rfl rfl ?_;refine BW zk zk ?_;refine zh ?_;refine zwH (RV.ld a1.q0 rfl) ?_;refine zw (RV.ld a1.q1 rfl) ?_;refine zwH (dc pN rfl rfl rfl (m-r.length) (m-(r2.length+1)) zo (by dsimp only;omega) zo (by dsimp only;omega)) ?_;refine BJ ?_;refine zh ?_;refine ae rfl rfl (⟨by rw[h1],by rw[<-hd];exact a1,a6.drew.drew⟩)
end Go.Proofs.YtlehnbkknlpkbaaGreatDoor
end
section
namespace Go.VL
section
variable{P:L7}{N:Nat}{ops:Array Oper}{Q:Exit→Act→ow→Prop}{rest:List Oper}{st:St}{w:ow}
variable{t:uw}{p:String}{e:Array Edge}{d:Nat}{x y z:Operand}
theorem WC.scope{c:Code}(h:WC P N c (KK Q) st w):WC P N (.scope c) Q st w:=fun a ha=>wp_scope_straight (h a ha)
theorem jX(h:QF N Q .ret st w):QF N (KK Q) .ret st w:=h
theorem run_next_at(w:ow)(b:Nat)(s:ByteArray)(a0:Nat)(ty:uw){c n:Nat}(hb:w.heap[b]? = some (.stringIter s a0))(h:a0<s.size)(hd:GY s a0=(c,n)):
  (J8 (nP b) true ty).run P w=.ok (.tuple #[.bool true,nI a0,.int .i32 c]) (w.putObj b (.stringIter s (a0+n))):=by
 simp only[J8,getObj,setObj,JO,Ke,hb,Result.andThen,h,if_true,hd];simp[goInt,World.putObj]
theorem qY(w:ow)(b:Nat)(s:ByteArray)(a0:Nat)(ty:uw)(hb:w.heap[b]? = some (.stringIter s a0))(h:¬a0<s.size):
  (J8 (nP b) true ty).run P w=.ok (.tuple #[.bool false]) w:=by
 simp[J8,getObj,Ke,hb,h]
theorem uO{l:List UInt8}{a0 c n b:Nat}(hx:ev st x=some (nP b))(hb:w.heap[b]? = some (.stringIter (bs l) a0))(hp:a0<l.length)(a2:GY (bs l) a0=(c,n))(hd:KH d N=true) 
  (h:WL P N ops Q rest ((d,.tuple #[.bool true,nI (a0:Nat),.int .i32 (c:Int)])::st) (w.putObj b (.stringIter (bs l) (a0+n)))):WL P N ops Q (⟨some d,.next x true,t,p,e,none⟩::rest) st w:=by
 have a1:=run_next_at (P:=P) w b (bs l) a0 t hb (by rw[di];exact hp) a2
 exact KX hd (fun a ha=>by
  simp only[execOp,ha.ev hx,JO,a1,K0]
  rfl) h
theorem xq{l:List UInt8}{a0 b:Nat}(hx:ev st x=some (nP b))(hb:w.heap[b]? = some (.stringIter (bs l) a0))(hp:l.length<=a0)(hd:KH d N=true) 
  (h:WL P N ops Q rest ((d,.tuple #[.bool false])::st) w):WL P N ops Q (⟨some d,.next x true,t,p,e,none⟩::rest) st w:=by
 have a1:=qY (P:=P) w b (bs l) a0 t hb (by rw[di];omega)
 exact KX hd (fun a ha=>by
  simp only[execOp,ha.ev hx,JO,a1,K0]
  rfl) h
theorem xC{xt yt:uw}{k k':IntKind}{m:Int}(hs:P.underlying xt=some (.int k'))(a0:P.underlying yt=some .string)(hx:ev st x=some (.int k m)):RV P N (.convert xt yt x) t st w (.string (JU m)):=
 fun a ha a1 p e g=>by
  simp only[execOp,ha.ev hx];simp[convert,run_underlying hs,run_underlying a0,Conv.intToString]
end
theorem B6{l:List UInt8}{a0:Nat}(h:a0<l.length)(hb:(nth l a0).toNat<128):GY (bs l) a0=((nth l a0).toNat,1):=by
 have hs:a0<(bs l).size:=by rw[di];exact h
 have he:(bs l)[a0]'hs=nth l a0:=by rw[aB h];exact List.getElem_toArray (xs:=l) (i:=a0) h
 have:=decode_ascii (bs l) a0 hs (by rw[he];exact hb);rw[he]at this;exact this
theorem D8{l:List UInt8}{i:Nat}(h:i<l.length):(bs l).get! i=nth l i:=by
 rw[aB h];show(bs l).data[i]! = _;rw[getElem!_pos (bs l).data i (by simpa[bs]using h)];simp[bs]
theorem B7{l:List UInt8}{a0:Nat}(h:a0<l.length)(hb:128<=(nth l a0).toNat):
  ∃c n,GY (bs l) a0=(c,n)/\128<=c/\zl (c:Int)=true/\1<=n/\a0+n<=l.length/\∀i,a0<=i->i<a0+n->128<=(nth l i).toNat:=by
 have h0:(bs l).get! (a0+0)=nth l a0:=D8 h;have hc:∀k,(a0+k<(bs l).size&&((bs l).get! (a0+k)).toNat / 64==2)=true->a0+k<l.length/\128<=(nth l (a0+k)).toNat:=fun k hk=>by
  simp only[ri,decide_eq_true_eq,beq_iff_eq,di]at hk;rw[D8 hk.1]at hk;exact⟨hk.1,zo⟩
 have one:∀i,a0<=i->i<a0+1->128<=(nth l i).toNat:=fun i h1 h2=>by
  obtain rfl:i=a0:=zo;exact hb
 have a1:∃c n,(Utf8.runeError,1)=(c,n)/\128<=c/\zl (c:Int)=true/\1<=n/\a0+n<=l.length/\∀i,a0<=i->i<a0+n->128<=(nth l i).toNat:=⟨_,_,rfl,zd,zd,zd,zo,one⟩
 unfold GY;simp only[h0];rw[if_neg zo];have a2:=(nth l a0).toNat_lt
 split
 ·rename_i h1;simp only[ri]at h1;obtain⟨g1,g2⟩:=hc 1 (by simpa using h1.2)
  split
  ·rename_i h2;refine⟨_,_,rfl,h2,?_,zd,zo,fun i k1 k2=>?_⟩
   ·unfold zl;simp only[J5,ri,decide_eq_true_eq];left;constructor<;>omega
   by_cases e:i=a0
   ·rw[e];exact hb
   obtain rfl:i=a0+1:=zo;exact g2
  exact a1
 split
 ·rename_i h1;simp only[ri]at h1;obtain⟨g1,g2⟩:=hc 1 (by simpa using h1.1.2);obtain⟨g3,g4⟩:=hc 2 (by simpa using h1.2)
  split
  ·rename_i h2;simp only[ri,decide_eq_true_eq]at h2;refine⟨_,_,rfl,zo,h2.2,zd,zo,fun i k1 k2=>?_⟩
   by_cases e:i=a0
   ·rw[e];exact hb
   by_cases e1:i=a0+1
   ·rw[e1];exact g2
   obtain rfl:i=a0+2:=zo;exact g4
  exact a1
 split
 ·rename_i h1;simp only[ri]at h1;obtain⟨g1,g2⟩:=hc 1 (by simpa using h1.1.1.2);obtain⟨g3,g4⟩:=hc 2 (by simpa using h1.1.2);obtain⟨g5,g6⟩:=hc 3 (by simpa using h1.2)
  split
  ·rename_i h2;simp only[ri,decide_eq_true_eq]at h2;refine⟨_,_,rfl,zo,h2.2,zd,zo,fun i k1 k2=>?_⟩
   by_cases e:i=a0
   ·rw[e];exact hb
   by_cases e1:i=a0+1
   ·rw[e1];exact g2
   by_cases e2:i=a0+2
   ·rw[e2];exact g4
   obtain rfl:i=a0+3:=zo;exact g6
  exact a1
 exact a1
theorem B2{c:Nat}(hc:128<=c)(hv:zl (c:Int)=true):∃L:List UInt8,JU (c:Int)=bs L/\2<=L.length/\L.length<=4/\128<=(nth L 1).toNat:=by
 unfold JU;simp only[hv,if_true,Kg];rw[if_neg zo];have hm:c % 64<64:=Ka _ zd
 split
 ·refine⟨[sx (0xC0+c / 64),sx (0x80+c % 64)],rfl,by simp,by simp,?_⟩;rw[bd,ar];simp;omega
 split
 ·refine⟨[sx (0xE0+c / 4096),sx (0x80+c / 64 % 64),sx (0x80+c % 64)],rfl,by simp,by simp,?_⟩;rw[bd,ar];have:c / 64 % 64<64:=Ka _ zd;simp;omega
 refine⟨[sx (0xF0+c / 262144),sx (0x80+c / 4096 % 64),sx (0x80+c / 64 % 64),sx (0x80+c % 64)],rfl,by simp,by simp,?_⟩;rw[bd,ar];have:c / 4096 % 64<64:=Ka _ zd;simp;omega
end Go.VL
namespace Go.Proofs.YtlehnbkknlpkbaaGreatDoor
open Go.VL Go.Proofs
set_option maxRecDepth 10000
theorem qQ(c:Int)(w:ow)(hv:zl c=true):BG rm 206 [.int .i32 c] w fun v w'=>v=.bool true/\w'=w:=by
 unfold zl at hv;simp only[J5,ri,decide_eq_true_eq]at hv;refine oD func206 ntmps206 rfl rfl ?_;refine zh ?_;refine ay (d:=6) rfl (b':=true) ((decide_eq_true zo)) ?_;refine zh ?_
 by_cases h:c<55296
 ·refine zTH rfl ((decide_eq_true zo)) ?_;refine ae rfl rfl (⟨rfl,rfl⟩)
 refine zFH rfl ((decide_eq_false zo)) ?_;refine ay (d:=13) rfl (b':=true) ((decide_eq_true zo)) ?_
 refine zh ?_;refine zTH rfl ((decide_eq_true zo)) ?_
 refine ae rfl rfl (⟨rfl,rfl⟩)
theorem ou(c:Nat)(w:ow)(hc:128 ≤ c)(hv:zl (c:Int) = true): BG rm 187 [.string (bs [33, 47]), .int .i32 (c:Int)] w fun v w' => v = nI (-1) ∧ ze w w' := by
 refine oD func187 ntmps187 rfl rfl ?_
 refine pc ?_
 refine oz ?_
 refine zv (qy rfl) ?_
 refine ln ?_
 refine az ?_
 refine yr ?_
 refine pc ?_
 refine oz ?_
 refine zv (ix rfl) ?_
 refine zv (KZ rfl rfl) ?_
 refine zv (ix rfl) ?_
 refine ay (d := 163) rfl (b' := true) ((decide_eq_true (by omega))) ?_
 refine Cl rfl ?_
 refine zv (ix rfl) ?_
 refine Cl rfl ?_
 refine zv (FJ rfl rfl) ?_
 refine zv (aQ rfl rfl) ?_
 refine zv (qy rfl) ?_
 refine ln ?_
 refine az ?_
 refine aS rfl ((decide_eq_false (by omega))) ?_
 refine pc ?_
 refine oz ?_
 refine zv (ix rfl) ?_
 refine zv (GZ rfl rfl) ?_
 refine zv (qy rfl) ?_
 refine ln ?_
 refine az ?_
 by_cases h3:(c:Int) = 65533
 ·skip
  refine aZ rfl ((by simpa using h3)) ?_
  refine pc ?_
  refine pc ?_
  refine oz ?_
  refine zv (ix rfl) ?_
  refine uN pN rfl rfl ?_
  refine ln ?_
  refine az ?_
  refine yr ?_
  refine zlp (fun x:Nat => [(175, .pointer (some ⟨w.heap.size, 0, none⟩))]) (fun x => w.iter (bs [33, 47]) x) (fun x => x ≤ 2) (fun x => 2 - x) 0 (pR _) ?_
  rintro k hk
  refine pc ?_
  refine oz ?_
  by_cases hlt:k < 2
  ·have hget:([33, 47]:List UInt8)[k]? = some (nth [33, 47] k) := by rw[aB (by simpa using hlt)]; exact Fm (by simpa using hlt)
   have hck:(nth ([33, 47]:List UInt8) k).toNat < 128 := by
    have:k = 0 ∨ k = 1 := by omega
    rcases this with rfl | rfl
    ·rw[ar]; decide
    ·rw[bd, ar]; decide
   refine DQ rfl hget hck rfl ?_
   refine zv (JB rfl rfl) ?_
   refine ln ?_
   refine az ?_
   refine pc ?_
   refine aZ rfl rfl ?_
   refine yY ?_
   refine az ?_
   refine yr ?_
   refine pc ?_
   refine oz ?_
   refine zv (JB rfl rfl) ?_
   refine zv (JB rfl rfl) ?_
   refine zv (qy rfl) ?_
   refine zv (qy rfl) ?_
   refine ln ?_
   refine az ?_
   refine pc ?_
   refine oz ?_
   refine zv (ix rfl) ?_
   refine zv (GZ rfl rfl) ?_
   refine ln ?_
   refine az ?_
   refine aS rfl ((beq_eq_false_iff_ne.2 (by omega))) ?_
   refine yY ?_
   refine eh ?_
   refine zxd (k + 1) (hlt)
  ·skip
   refine DP rfl (by simp; omega) rfl ?_
   refine zv (JB rfl rfl) ?_
   refine ln ?_
   refine az ?_
   refine pc ?_
   refine aS rfl rfl ?_
   refine J0 ?_
   refine cT ?_
   refine cT ?_
   refine eY ?_
   refine az ?_
   refine pc ?_
   refine oz ?_
   refine zv (qy rfl) ?_
   refine ln ?_
   refine az ?_
   refine JT ?_
   refine cB ?_
   refine ae rfl rfl (⟨rfl, Ext.iter _ _ _⟩)
 ·skip
  refine aS rfl ((by simpa using h3)) ?_
  refine pc ?_
  refine oz ?_
  refine zv (ix rfl) ?_
  refine zc call206 (qQ c w hv) ?_
  rintro v w9 ⟨rfl, hw9⟩
  rw[hw9]
  clear hw9 w9
  obtain⟨L, hL, hL2, hL4, hL1⟩ := B2 hc hv
  refine zv (RV.not rfl) ?_
  refine zv (qy rfl) ?_
  refine ln ?_
  refine az ?_
  refine aS rfl rfl ?_
  refine WC.scope ?_
  refine pc ?_
  refine oz ?_
  refine zv (ix rfl) ?_
  refine zv (xC L4 pN rfl) ?_
  rw[hL]
  refine zv (qy rfl) ?_
  refine ln ?_
  refine az ?_
  refine pc ?_
  refine oz ?_
  refine zv (ix rfl) ?_
  refine zv (cx pN rfl) ?_
  refine zv (JW rfl rfl (uM (by omega))) ?_
  refine zv (qy rfl) ?_
  refine ln ?_
  refine az ?_
  refine pc ?_
  refine oz ?_
  refine zv (ix rfl) ?_
  refine zv (qy rfl) ?_
  refine ln ?_
  refine az ?_
  refine pc ?_
  refine oz ?_
  refine zv (qy rfl) ?_
  refine ln ?_
  refine az ?_
  refine pc ?_
  refine yr ?_
  refine zlp (fun x:Unit => [(0, .string (bs [33, 47])), (7, .string (bs L)), (8, nI ((L.length:Int) - 1)), (9, nI ((L.length:Int) - 1)), (10, nI 0)]) (fun x => w) (fun x => True) (fun x => 0) () (trivial) ?_
  rintro _ _
  refine pc ?_
  refine pc ?_
  refine oz ?_
  refine zv (ix rfl) ?_
  refine zv (ix rfl) ?_
  refine zv (cx pN rfl) ?_
  refine zv (FJ rfl rfl) ?_
  refine ln ?_
  refine az ?_
  by_cases h2:L.length = 2
  ·skip
   refine aZ rfl ((decide_eq_true (by simp; omega))) ?_
   have hget1:L[1]? = some (nth L 1) := by rw[aB (by omega)]; exact Fm (by omega)
   refine yY ?_
   refine az ?_
   refine yr ?_
   refine WC.scope ?_
   refine pc ?_
   refine pc ?_
   refine BW (by kernel_rfl) (by kernel_rfl) ?_
   refine zw (ix rfl) ?_
   refine zw (ix rfl) ?_
   refine zw (bt (c := 47) pN rfl rfl 1 (by omega) rfl) ?_
   refine zw (ix rfl) ?_
   refine zw (ix rfl) ?_
   refine zw (bt (c := nth L 1) pN rfl rfl 1 (by omega) hget1) ?_
   refine zw (KD rfl rfl) ?_
   refine BJ ?_
   refine az ?_
   refine aZ rfl ((by rw[bne_iff_ne]; show(47:Int) ≠ _; omega)) ?_
   refine pc ?_
   refine Jq 7 rfl rfl (by kernel_rfl) (by kernel_rfl) ?_
   refine zw (ix rfl) ?_
   refine zw (ix rfl) ?_
   refine zw (AK rfl rfl (uM (by omega))) ?_
   refine zw (jV pN rfl rfl 2 (by omega) (by simp)) ?_
   refine zw (ix rfl) ?_
   refine zw (ix rfl) ?_
   refine zw (bt (c := nth L 1) pN rfl rfl 1 (by omega) hget1) ?_
   refine Kj ?_
   refine zc call91 (dK [] (nth L 1) w.drew.drew) ?_
   rintro v w9 ⟨rfl, hw9⟩
   rw[hw9]
   clear hw9 w9
   refine zv (qy rfl) ?_
   refine ln ?_
   refine az ?_
   refine pc ?_
   refine pc ?_
   refine oz ?_
   refine zv (ix rfl) ?_
   refine zv (FJ rfl rfl) ?_
   refine ln ?_
   refine az ?_
   refine aZ rfl rfl ?_
   refine pc ?_
   refine oz ?_
   refine zv (qy rfl) ?_
   refine ln ?_
   refine az ?_
   refine JT ?_
   refine bT ?_
   refine bT ?_
   refine jX ?_
   refine cB ?_
   refine bT ?_
   refine cB ?_
   refine bT ?_
   refine jX ?_
   refine cB ?_
   refine ae rfl rfl (⟨rfl, (tJ w).drew.drew⟩)
  ·skip
   refine aS rfl ((decide_eq_false (by simp; omega))) ?_
   refine J0 ?_
   refine cT ?_
   refine cT ?_
   refine eY ?_
   refine az ?_
   refine pc ?_
   refine pc ?_
   refine oz ?_
   refine zv (qy rfl) ?_
   refine ln ?_
   refine az ?_
   refine JT ?_
   refine bT ?_
   refine jX ?_
   refine cB ?_
   refine ae rfl rfl (⟨rfl, tJ _⟩)
theorem kV(c:Nat)(w:ow)(hc:128<=c)(hv:zl (c:Int)=true):BG rm 164 [.string (bs [33,47]),.int .i32 (c:Int)] w fun v w'=>v=.bool false/\ze w w':=by
 refine oD func164 ntmps164 rfl rfl ?_;refine zh ?_
 refine zc call187 (ou c w hc hv) ?_;rintro v w9 ⟨rfl,hE⟩;refine zh ?_
 refine ae rfl rfl (⟨rfl,hE⟩)
theorem vt(c:Nat)(w:ow)(hc:128<=c)(hv:zl (c:Int)=true):BG rm 163 [.int .i32 (c:Int)] w fun v w'=>v=.bool false/\ze w w':=by
 refine oD func163 ntmps163 rfl rfl ?_;refine zh ?_
 refine zc call164 (kV c w hc hv) ?_;rintro v w9 ⟨rfl,hE⟩;refine zh ?_
 refine ae rfl rfl (⟨rfl,hE⟩)
end Go.Proofs.YtlehnbkknlpkbaaGreatDoor
end
section
namespace Go.VL
def forget(i:Nat)(O:Nat->Nat)(b:Nat):Nat:=if O b=i then 0 else O b
theorem Rng.forget{B i:Nat}{O:Nat->Nat}{w:ow}(h:J9 B O w):J9 B (forget i O) w:=⟨h.le,fun b hb=>by
 unfold VL.forget at hb
 split at hb
 ·exact absurd rfl hb
 exact h.rng b hb⟩
end Go.VL
namespace Go.Proofs.YtlehnbkknlpkbaaGreatDoor
open Go.VL Go.Proofs
set_option maxRecDepth 10000
def gJ(l:List UInt8):List UInt8:=(l.reverse.dropWhile (· == 32)).reverse
def CM(l:List UInt8):List UInt8:=aw (gJ l)
theorem ve(l:List UInt8):gJ (l++[32])=gJ l:=by simp[gJ]
theorem vf(l:List UInt8){c:UInt8}(h:c≠32):gJ (l++[c])=l++[c]:=by simp[gJ,h]
theorem mN(l:List UInt8)(w:ow)(hl:l.length<=1000000):BG rm 209 [.string (bs l),.int .u8 32] w fun v w'=>v=.string (bs (aw l))/\w'=w:=by
 refine oD func209 ntmps209 rfl rfl ?_;refine zh ?_
 refine zlp (fun x:List UInt8=>[(0,.string (bs x)),(1,.int .u8 32)]) (fun x=>w) (fun x=>aw x=aw l/\x.length<=1000000) (fun x=>x.length) l (⟨rfl,hl⟩) ?_;rintro r ⟨hr,a0⟩;refine zh ?_
 refine zvH (cx pN rfl) ?_
 cases r with
 |nil=>
  refine ay (d:=8) rfl (b':=false) (rfl) ?_;refine zh ?_
  refine zFH rfl rfl ?_;refine ae rfl rfl (⟨by rw[<-hr];rfl,rfl⟩)
 |cons b r2=>
  simp only[tq]at a0;refine ay (d:=8) rfl (b':=true) ((decide_eq_true (by simp only[tq];omega))) ?_;refine zh ?_;refine zvH (bt (c:=b) pN rfl rfl 0 rfl rfl) ?_;refine zC ?_ ?_
  ·intro hb;replace hb:b=32:=by
    by_cases e:b=32
    ·exact e
    have:=iD b 32 zd e;exact absurd (this.symm.trans hb) zd
   subst hb;refine zh ?_;refine zvH (jV pN rfl rfl 1 rfl (by simp)) ?_;refine zx (r2) (⟨by rw[<-hr];simp[aw],zo⟩) (by simp)
  intro hb;replace hb:b≠32:=fun e=>by subst e;cases hb
  refine zh ?_;refine ae rfl rfl (⟨by rw[<-hr];simp[aw,hb],rfl⟩)
theorem lA(l:List UInt8)(w:ow)(hl:l.length≤1000000):BG rm 210 [.string (bs l),.int .u8 32] w fun v w'=>v=.string (bs (gJ l))∧w'=w:=by
 refine oD func210 ntmps210 rfl rfl ?_
 refine zg ?_
 refine zlp (fun x:List UInt8=>[(0,.string (bs x)),(1,.int .u8 32)]) (fun x=>w) (fun x=>gJ x=gJ l∧x.length≤1000000) (fun x=>x.length) l (⟨rfl,hl⟩) ?_
 rintro r ⟨hr,hrl⟩
 refine zg ?_
 refine zvG (cx pN rfl) ?_
 rcases List.eq_nil_or_concat r with rfl|⟨r2,b,rfl⟩
 ·skip
  refine ay (d:=8) rfl (b':=false) (rfl) ?_
  refine zg ?_
  refine zFG rfl rfl ?_
  refine ae rfl rfl (⟨by rw[← hr];rfl,rfl⟩)
 ·rw[List.concat_eq_append]at *
  have hlen:(r2++[b]).length=r2.length+1:=by simp
  rw[hlen]at hrl
  refine ay (d:=8) rfl (b':=true) ((decide_eq_true (by rw[hlen];omega))) ?_
  refine zg ?_
  refine zvG (cx pN rfl) ?_
  refine zvG (JW rfl rfl (uM (by rw[hlen];omega))) ?_
  refine zvG (bt (c:=b) pN rfl rfl r2.length (by rw[hlen];omega) (by simp)) ?_
  refine zC ?_ ?_
  ·intro hb
   replace hb:b=32:=by
    by_cases e:b=32
    ·exact e
    ·have:=iD b 32 (by decide) e
     exact absurd (this.symm.trans hb) (by decide)
   subst hb
   refine zg ?_
   refine zv (cx pN rfl) ?_
   refine zv (JW rfl rfl (uM (by rw[hlen];omega))) ?_
   refine zvG (xz pN rfl rfl r2.length (by rw[hlen];omega) (by simp)) ?_
   rw[List.take_left]
   refine zx (r2) (⟨by rw[← hr,ve],by omega⟩) (by simp)
  ·intro hb
   replace hb:b≠32:=fun e=>by subst e;cases hb
   refine zg ?_
   refine ae rfl rfl (⟨by rw[← hr,vf _ hb],rfl⟩)
theorem Aq(l:List UInt8):(gJ l).length<=l.length:=by
 have:=(JS (l:=l.reverse) (· == (32:UInt8))).length_le;simpa[gJ]using this
theorem CL(l:List UInt8)(w:ow)(hl:l.length<=1000000):BG rm 188 [.string (bs l),.string (bs [32])] w fun v w'=>v=.string (bs (CM l))/\ze w w':=by
 have a0:=Aq l;refine oD func188 ntmps188 rfl rfl ?_;refine zh ?_;refine zvH (cX rfl rfl) ?_
 by_cases h0:l=[]
 ·subst h0;refine ay (d:=9) rfl (b':=true) (rfl) ?_;refine zh ?_;refine zTH rfl rfl ?_;refine ae rfl rfl (⟨rfl,tJ _⟩)
 refine ay (d:=9) rfl (b':=false) ((by simpa using h0)) ?_;refine zh ?_
 refine zvH (cX rfl rfl) ?_;refine zFH rfl rfl ?_
 refine zvH (cx pN rfl) ?_;refine ay (d:=17) rfl (b':=true) (rfl) ?_
 refine zh ?_;refine zvH (bt (c:=32) pN rfl rfl 0 rfl rfl) ?_
 refine zTH rfl rfl ?_;refine BW zk zk ?_
 refine zh ?_;refine zw (bt (c:=32) pN rfl rfl 0 rfl rfl) ?_
 refine Le call210 rfl (lA l w.drew hl) rfl ?_;refine zh ?_
 refine zw (bt (c:=32) pN rfl rfl 0 rfl rfl) ?_;refine Le call209 rfl (mN (gJ l) w.drew zo) rfl ?_
 refine zh ?_;refine BJ ?_
 refine zh ?_;refine ae rfl rfl (⟨rfl,(tJ w).drew⟩)
def yV(c:UInt8):Bool:=decide (c=33)||decide (c=47)
theorem F7(c:UInt8):decide (0<=sH [33,47] c)=yV c:=by
 unfold sH yV
 by_cases h1:c=33
 ·subst h1;rfl
 by_cases h2:c=47
 ·subst h2;rfl
 have:[(33:UInt8),47].findIdx? (· == c)=none:=by
  rw[uh];intro x hx;simp at hx
  rcases hx with rfl|rfl<;>simp<;>intro e<;>first|exact h1 e.symm|exact h2 e.symm
 rw[this];simp[h1,h2]
theorem rS(c:UInt8)(w:ow)(hc:c.toNat<128):BG rm 187 [.string (bs [33,47]),.int .i32 (c.toNat:Int)] w fun v w'=>v=nI (sH [33,47] c)/\w'=w:=by
 refine oD func187 ntmps187 rfl rfl ?_;refine zh ?_
 refine ay (d:=163) rfl (b':=true) ((decide_eq_true zo)) ?_;refine zh ?_
 refine zTH rfl ((decide_eq_true zo)) ?_;refine zv (Cx L4 Jz rfl (Fit.u8 zo)) ?_
 refine zc call91 (dK [33,47] c w) ?_;rintro v w9 ⟨rfl,a0⟩;rw[a0];clear a0 w9;refine zh ?_
 refine ae rfl rfl (⟨rfl,rfl⟩)
theorem mT(c:UInt8)(w:ow)(hc:c.toNat<128):BG rm 164 [.string (bs [33,47]),.int .i32 (c.toNat:Int)] w fun v w'=>v=.bool (yV c)/\w'=w:=by
 refine oD func164 ntmps164 rfl rfl ?_;refine zh ?_
 refine zc call187 (rS c w hc) ?_;rintro v w9 ⟨rfl,a0⟩;rw[a0];clear a0 w9;refine zh ?_
 refine ae rfl rfl (⟨congrArg B1 (F7 c),rfl⟩)
theorem AT(c:UInt8)(w:ow)(hc:c.toNat<128):BG rm 163 [.int .i32 (c.toNat:Int)] w fun v w'=>v=.bool (yV c)/\w'=w:=by
 refine oD func163 ntmps163 rfl rfl ?_;refine zh ?_
 refine zc call164 (mT c w hc) ?_;rintro v w9 ⟨rfl,a0⟩;rw[a0];clear a0 w9;refine zh ?_
 refine ae rfl rfl (⟨rfl,rfl⟩)
def mm(l:List UInt8):Int:=match l.findIdx? yV with|some i=>(i:Nat)|none=>-1
theorem rT(l:List UInt8)(w:ow):BG rm 186 [.string (bs l),.func (.func 163) #[] #[],.bool true] w fun v w'=>v=nI (mm l)/\ze w w':=by
 have b2:uu (fun k=>k=1) (fun _=>0) w (lJ (fun _=>0) w.heap.size 1) (w.iter (bs l) 0):=Kk zd (au w) _ 1;have hO:lJ (fun _=>0) w.heap.size 1 w.heap.size=1:=eB _ _ _;refine oD func186 ntmps186 rfl rfl ?_;refine zh ?_;refine uN pN rfl rfl ?_;refine zh ?_;refine zlp (fun x:Nat×ow=>[(1,.func (.func 163) #[] #[]),(2,.bool true),(10,.pointer (some ⟨w.heap.size,0,none⟩))]) (fun x=>x.2) (fun x=>(∀i,i<x.1->i<l.length->yV (nth l i)=false)/\x.2.heap[w.heap.size]? = some (.stringIter (bs l) x.1)/\uu (fun k=>k=1) (fun _=>0) w (lJ (fun _=>0) w.heap.size 1) x.2) (fun x=>l.length-x.1) (0,w.iter (bs l) 0) (⟨fun i hi=>absurd hi (rI i),World.iter_heap w (bs l) 0,b2⟩) ?_;rintro⟨k,w1⟩ ⟨a3,a2,a5⟩;dsimp only at a3 a2 a5 ⊢;refine zh ?_
 by_cases a1:k<l.length
 ·by_cases a7:(nth l k).toNat<128
  ·refine uO rfl a2 a1 (B6 a1 a7) rfl ?_;have a4:=a5.trans (KS zd hO (w:=w1) (.stringIter (bs l) (k+1)));have a0:(w1.putObj w.heap.size (.stringIter (bs l) (k+1))).heap[w.heap.size]? = some (.stringIter (bs l) (k+1)):=JF (bB a2);generalize w1.putObj w.heap.size (.stringIter (bs l) (k+1))=w2 at *;refine zh ?_
   refine zTH rfl rfl ?_;refine dN rfl call163 rfl (AT (nth l k) w2 a7) rfl ?_
   rintro v w9 ⟨rfl,a6⟩;rw[a6];clear a6 w9;refine zh ?_;refine zvH (Cw La rfl rfl) ?_
   cases hs:yV (nth l k)with
   |true=>
    refine zTH rfl rfl ?_;have hf:l.findIdx? yV=some k:=rU.2 ⟨a1,by rw[<-aB a1,hs],fun j hj=>by rw[<-aB zo,a3 j hj zo];decide⟩
    refine ae rfl rfl (⟨by unfold mm;rw[hf];rfl,a4.ext⟩)
   |false=>
    refine zFH rfl rfl ?_;refine zxd (k+1,w2) (⟨fun i hi hl=>(rk.1 hi).elim (fun h=>a3 i h hl) (fun e=>by rw[e];exact hs),a0,a4⟩)
  obtain⟨c,n,a',b1,b0,b4,b3,a9⟩:=B7 a1 zo;refine uO rfl a2 a1 a' rfl ?_;have a4:=a5.trans (KS zd hO (w:=w1) (.stringIter (bs l) (k+n)));have a0:(w1.putObj w.heap.size (.stringIter (bs l) (k+n))).heap[w.heap.size]? = some (.stringIter (bs l) (k+n)):=JF (bB a2);generalize w1.putObj w.heap.size (.stringIter (bs l) (k+n))=w2 at *;refine zh ?_;refine zTH rfl rfl ?_;refine dN rfl call163 rfl (vt c w2 b1 b0) rfl ?_;rintro v w3 ⟨rfl,a8⟩;refine zh ?_;refine zvH (Cw La rfl rfl) ?_;refine zFH rfl rfl ?_;refine zxd (k+n,w3) (⟨fun i hi hl=>?_,(a8.block _ (bB a0)).trans a0,a4.trans (aa zd _ a8)⟩)
  by_cases e:i<k
  ·exact a3 i e hl
  have:=a9 i zo hi;unfold yV;rw[decide_eq_false (fun e=>by rw[e]at this;exact absurd this zd),decide_eq_false (fun e=>by rw[e]at this;exact absurd this zd)];rfl
 refine xq rfl a2 zo rfl ?_;refine zh ?_
 refine zFH rfl rfl ?_;have hf:l.findIdx? yV=none:=uh.2 fun x hx=>by
  obtain⟨j,hj,rfl⟩:=cI hx;exact a3 j zo hj
 refine ae rfl rfl (⟨by unfold mm;rw[hf],a5.ext⟩)
theorem mQ(l:List UInt8)(w:ow):BG rm 162 [.string (bs l),.func (.func 163) #[] #[]] w fun v w'=>v=nI (mm l)/\ze w w':=by
 refine oD func162 ntmps162 rfl rfl ?_;refine zh ?_
 refine zc call186 (rT l w) ?_;rintro v w1 ⟨rfl,hE⟩;refine zh ?_
 refine ae rfl rfl (⟨rfl,hE⟩)
def GK(seg:List UInt8):XR:=if CM seg=[]then .ok (.mk 9 0 [])else IK seg
def pf(kn:Kn)(seg:List UInt8):XR:=if CM seg=[]then .ok (.mk 9 0 [])else fz kn seg
variable{kn:Kn}
def PostS(O:Nat->Nat)(w:ow)(j rb:Nat)(s:LS)(fr:Nat)(x:N3):XR->Prop
 |.ok t=>Nt O w t x/\Rd6 O w j rb s
 |.bad p e=>x=(0,0,nS)/\e≠0/\Rd6 O w j rb {s with bad:=(fr:Int)+(p:Int),e:=e}
theorem yw(l:List UInt8)(p:Nat)(e:Int)(h:fz kn l=.bad p e):e≠0/\p<=l.length:=by
 have hg:=jd (kn:=kn) 20 l;unfold fz at h
 split at h
 ·cases h;exact⟨zd,pR _⟩
 cases hf:xn kn 20 l with
 |bad q f=>
  rw[hf]at h hg
  cases h
  exact⟨hg.2,zo⟩
 |ok t r=>
  rw[hf]at h;dsimp only at h
  split at h
  ·cases h;exact⟨zd,zo⟩
  split at h
  ·cases h;exact⟨zd,pR _⟩
  cases h
theorem xy{α:Type}{enc:α->List ox}{E:uw}{sz:Nat}{B:Nat}{O:Nat->Nat}{w:ow}{i:Nat}{v:ox}{l:List α}(h:Jr enc E sz O w i v l)(hi:i≠0)(r:J9 B O w):KJ (forget i O) w v:=fun a n c e _=>by
 have h1:=h.1.tag a.block (by subst e;rfl);have h2:=r.rng a.block (by rw[h1];exact hi);exact⟨by unfold forget;rw[if_pos h1],h2.2⟩
def Mac(O:Nat->Nat)(w:ow)(i:Nat)(v:ox)(kn:Kn):Prop:=
 ∃ms:List M3,Jr lz 243 4 O w i v ms/\kn.length=ms.length/\∀q,q<ms.length->(nth kn q).1=(nth ms q).1/\Nt O w (nth kn q).2 (nth ms q).2
theorem Mac.upd{S:Nat->Prop}{O O':Nat->Nat}{w w':ow}{i:Nat}{v:ox}(h:Mac O w i v kn)(u:uu S O w O' w')(hi:i≠0)(hS:¬S i):Mac O' w' i v kn:=by
 obtain⟨ms,h1,h2,h3⟩:=h;exact⟨ms,h1.upd u hi hS,h2,fun q hq=>⟨(h3 q hq).1,(h3 q hq).2.upd u⟩⟩
theorem Mac.known{B:Nat}{O:Nat->Nat}{w:ow}{i:Nat}{v:ox}(h:Mac O w i v kn)(hi:i≠0)(r:J9 B O w):Known (forget i O) w v kn:=by
 obtain⟨ms,h1,h2,h3⟩:=h;exact⟨ms,h1.sl,xy h1 hi r,h2,fun q hq=>⟨(h3 q hq).1,(h3 q hq).2.weak fun b hb=>by unfold forget;rw[hb];split<;>rfl⟩⟩
theorem Mac.nil(O:Nat->Nat)(w:ow)(i:Nat):Mac O w i (nS) []:=⟨[],uV _ _ _ _ _ _,rfl,fun q hq=>absurd hq (by simp)⟩
theorem qW(B:Nat)(O:Nat->Nat)(w:ow)(j rb:Nat)(s:LS)(fr to:Nat)(hR:J9 B O w)(hj:j≠0)(he:s.e=0){jm:Nat}(d6:jm≠0)(e7:j≠jm)(e5:Mac O w jm s.mc kn)(e8:fr<=to)(e3:to<=s.l.length)(hl:s.l.length<=100000)(h:Rd6 O w j rb s):
  BG rm 165 [nP rb,nI fr,nI to] w fun v w'=>∃x,v=nv x/\uu (fun k=>k=j) O w O w'/\PostS O w' j rb s fr x (pf kn ((s.l.take to).drop fr)):=by
 obtain⟨T0,d2,b1⟩:=hR.bound;obtain⟨T,a2,e6,hT⟩:∃T,0<T/\jm<T/\∀b,O b<T:=⟨T0+jm+1,zo,zo,fun b=>by have:=b1 b;omega⟩
 clear d2 b1 T0;have f7:j<T:=by rw[<-h.tag];exact hT rb
 have f5:((s.l.take to).drop fr).length=to-fr:=by simp;omega
 refine oD func165 ntmps165 rfl rfl ?_;refine zh ?_
 refine ax hR T zo (Jy _) rfl ?_;intro xb w1 O1 e2 d9 f3 f8;have d8:=h.upd d9 hj zo;have c9:=d9.pT hj a2 (sN _);refine zh ?_
 refine zvH (RV.ld d8.q0 rfl) ?_;refine zvH (dc pN rfl rfl rfl fr to rfl rfl e8 e3) ?_
 refine zc call188 (CL ((s.l.take to).drop fr) w1 zo) ?_;rintro v w2 ⟨rfl,e1⟩;have c7:uu (fun _=>False) O1 w1 O1 w2:=aa (fun h=>h) O1 e1;have b2:=e2.upd c7 zo (fun h=>h);have c5:=d8.upd c7 hj (fun h=>h);have b4:=f3.upd c7;have a5:=c9.trans (jz O1 e1 hj a2);refine zvH (cX rfl rfl) ?_
 by_cases b3:CM ((s.l.take to).drop fr)=[]
 ·have hM:pf kn ((s.l.take to).drop fr)=.ok (.mk 9 0 []):=by unfold pf;rw[if_pos b3]
  rw[hM];refine aZ rfl ((by rw[b3];rfl)) ?_;have a6:((9,0,nS):N3).2.2.oneCell'=true:=rfl;refine zh ?_;refine zv (aF xW (Jy _) rfl (by first|rfl|(simp only[qN,uY];rfl)) rfl rfl) ?_;refine zsb (us:=#[nI ((9,0,nS):N3).1,nI ((9,0,nS):N3).2.1,((9,0,nS):N3).2.2]) b2 (vO _) (cn a6) ?_;have a8:=JX (us:=#[nI ((9,0,nS):N3).1,nI ((9,0,nS):N3).2.1,((9,0,nS):N3).2.2]) b2;have a1:uu (fun k=>k=T) O1 w2 O1 (JE w2 xb #[nI ((9,0,nS):N3).1,nI ((9,0,nS):N3).2.1,((9,0,nS):N3).2.2]):=rj zo (Kv b2) rfl;have a':=c5.upd a1 hj zo;have a7:=a5.trans (a1.pT hj a2 (sN _));refine zh ?_;refine aN rfl rfl (a8.cellsAdd) (CZ _) (vO _) (⟨(9,0,nS),rfl,a7.priv hT hj,KQ _ _ _ _,a'.fgt h.tag⟩)
 have hM:pf kn ((s.l.take to).drop fr)=fz kn ((s.l.take to).drop fr):=by unfold pf;rw[if_neg b3]
 rw[hM];refine zFH rfl ((by simpa using b3)) ?_;refine zv (RV.ld c5.q9 rfl) ?_;have b9:=e5.upd a5 d6 zo;refine zc call158 (lH s.mc ((s.l.take to).drop fr) B O1 (forget jm O1) w2 b4 b4.forget (b9.known d6 b4)) ?_;rintro v w3 ⟨e0,b5⟩;have c6:uu (fun _=>False) O1 w2 O1 w3:=aa (fun h=>h) O1 e0;have d3:=b2.upd c6 zo (fun h=>h);have d7:=c5.upd c6 hj (fun h=>h);have d':=b4.upd c6;have b0:=a5.trans (jz O1 e0 hj a2)
 cases hf:fz kn ((s.l.take to).drop fr)with
 |ok t=>
  rw[hf]at b5;obtain⟨x,rfl,d4⟩:=b5;have a6:=d4.one;refine zh ?_;refine ax d' (T+1) zo (Jy _) rfl ?_;intro nb w4 O4 a3 d1 e' f4;refine zsb (us:=#[nI x.1,nI x.2.1,x.2.2]) a3 (vO _) (cn a6) ?_;have b8:=a3.setRow (us:=#[nI x.1,nI x.2.1,x.2.2]);have d0:uu (fun k=>k=T+1) O4 w4 O4 (w4.setRow nb #[nI x.1,nI x.2.1,x.2.2]):=rj zo a3.tag rfl;have a0:=d1.trans d0;have a9:=d3.upd a0 zo zo;have b':=d7.upd a0 hj zo;have a4:=b0.trans (a0.pT hj a2 (KR _));have b7:=d4.upd a0;generalize w4.setRow nb #[nI x.1,nI x.2.1,x.2.2]=w5 at *;refine zh ?_;refine zFH rfl rfl ?_;refine zv (ai (us:=aY x) b8.cellsAdd (CZ _) (vO _) rfl) ?_;refine zsb (us:=#[nI x.1,nI x.2.1,x.2.2]) a9 (vO _) (cn a6) ?_;have a8:=JX (us:=#[nI x.1,nI x.2.1,x.2.2]) a9;have a1:uu (fun k=>k=T) O4 w5 O4 (JE w5 xb #[nI x.1,nI x.2.1,x.2.2]):=rj zo (Kv a9) rfl;have a':=b'.upd a1 hj zo;have a7:=a4.trans (a1.pT hj a2 (sN _));refine zh ?_;refine aN rfl rfl (a8.cellsAdd) (CZ _) (vO _) (⟨x,rfl,a7.priv hT hj,(b7.upd a1).low a7,a'.fgt h.tag⟩)
 |bad p e=>
  rw[hf]at b5;obtain⟨rfl,d5⟩:=b5;obtain⟨_,f6⟩:=yw _ _ _ hf;refine zh ?_;refine ax d' (T+1) zo (Jy _) rfl ?_;intro nb w4 O4 a3 d1 e' f4;refine zsa (us:=#[nI 0,nI 0,nS]) a3 (vO _) ?_;have b8:=a3.setRow (us:=#[nI 0,nI 0,nS]);have d0:uu (fun k=>k=T+1) O4 w4 O4 (w4.setRow nb #[nI 0,nI 0,nS]):=rj zo a3.tag rfl;have a0:=d1.trans d0;have a9:=d3.upd a0 zo zo;have b':=d7.upd a0 hj zo;have a4:=b0.trans (a0.pT hj a2 (KR _));generalize w4.setRow nb #[nI 0,nI 0,nS]=w5 at *;refine zh ?_;refine zTH rfl ((by simpa using d5)) ?_;refine zc Kz (bI O4 w5 j rb s ((fr:Int)+(p:Int)) e hj he b') ?_;rintro v w6 ⟨e9,c'⟩;have b6:=a9.upd c' zo zo;have e4:=b8.upd c' zo zo;have c8:=a4.trans (c'.pj a2);refine zh ?_;refine zv (ai (us:=aY ((0,0,nS):N3)) e4.cellsAdd (CZ _) (vO _) rfl) ?_;have a6:((0,0,nS):N3).2.2.oneCell'=true:=rfl;refine zsb (us:=#[nI ((0,0,nS):N3).1,nI ((0,0,nS):N3).2.1,((0,0,nS):N3).2.2]) b6 (vO _) (cn a6) ?_;have a8:=JX (us:=#[nI ((0,0,nS):N3).1,nI ((0,0,nS):N3).2.1,((0,0,nS):N3).2.2]) b6;have a1:uu (fun k=>k=T) O4 w6 O4 (JE w6 xb #[nI ((0,0,nS):N3).1,nI ((0,0,nS):N3).2.1,((0,0,nS):N3).2.2]):=rj zo (Kv b6) rfl;have a':=e9.upd a1 hj zo;have a7:=c8.trans (a1.pT hj a2 (sN _));refine zh ?_;refine aN rfl rfl (a8.cellsAdd) (CZ _) (vO _) (⟨(0,0,nS),rfl,a7.priv hT hj,rfl,d5,a'.fgt h.tag⟩)
end Go.Proofs.YtlehnbkknlpkbaaGreatDoor
end
namespace Go.Proofs.YtlehnbkknlpkbaaGreatDoor
section
def da(t:Nd):Int:=if(bj t&&Aj 3 t)=true then 4 else if(!(tL t)||decide (4<tK t))=true then 8 else 0
theorem kH(t:Nd)(x:N3)(w:ow)(h:Nt (fun _=>0) w t x):BG rm 100 [nv x] w fun v w'=>v=nI (da t)/\ze w w':=by
 refine oD func100 ntmps100 rfl rfl ?_;refine zh ?_
 refine aE (au w) 1 zo rfl rfl ?_;intro xb w1 O1 a5 a7 a8 a3;have a4:∀W,ze w1 W->∀(j:Nat) (u:ox),(aY x)[j]? = some u->W.cell? (nA xb j)=some u:=fun W hE j u hu=>hE.cell (a5.cellsAdd j u hu)
 refine zh ?_;refine zv (ai (us:=aY x) (a4 w1 (tJ _)) (CZ _) (vO _) rfl) ?_
 refine zc call138 (py t x w1 (h.ext a3)) ?_;rintro v w2 ⟨rfl,a2⟩;refine zh ?_
 refine zv (ai (us:=aY x) (a4 w2 a2) (CZ _) (vO _) rfl) ?_;refine zc call139 (zD t 3 x w2 (h.ext (a3.trans a2))) ?_
 rintro v w3 ⟨rfl,a6⟩;have a0:=(a3.trans a2).trans a6;refine zh ?_
 cases h1:(bj t&&Aj 3 t)with
 |true=>
  refine zTH rfl rfl ?_;refine ae rfl rfl (⟨by unfold da;rw[if_pos h1],a0⟩)
 |false=>
  refine zFH rfl rfl ?_;refine bK (fun w1=>_=w1) (decide (4<tK t)) 2 (rfl) rfl rfl rfl rfl rfl ?_ ?_
  ·intro a1;refine zh ?_;refine nE 16 3 (rfl) a1
  rintro _ rfl;refine zh ?_
  cases h2:(!(tL t)||decide (4<tK t))with
  |true=>
   refine zTH rfl rfl ?_;refine ae rfl rfl (⟨by unfold da;rw[if_neg (by rw[h1];decide),if_pos h2],a0⟩)
  |false=>
   refine zFH rfl rfl ?_;refine ae rfl rfl (⟨by unfold da;rw[if_neg (by rw[h1];decide),if_neg (by rw[h2];decide)],a0⟩)
abbrev R3:=Nd×Nd×Bool
abbrev X3:=N3×N3×Bool
def cj(x:X3):List ox:=[nI x.1.1,nI x.1.2.1,x.1.2.2,nI x.2.1.1,nI x.2.1.2.1,x.2.1.2.2,.bool x.2.2]
def Rt(O:Nat->Nat)(w:ow)(t:R3)(x:X3):Prop:=Nt O w t.1 x.1/\Nt O w t.2.1 x.2.1/\x.2.2=t.2.2
theorem Rt.upd{S:Nat->Prop}{O O':Nat->Nat}{w w':ow}{t:R3}{x:X3}(h:Rt O w t x)(u:uu S O w O' w'):Rt O' w' t x:=⟨h.1.upd u,h.2.1.upd u,h.2.2⟩
theorem Rt.weak{O O':Nat->Nat}{w:ow}{t:R3}{x:X3}(h:Rt O' w t x)(k:∀b,O' b=0->O b=0):Rt O w t x:=⟨h.1.weak k,h.2.1.weak k,h.2.2⟩
theorem elR:L9 rm 39 85 7 88:=⟨L3,by kernel_rfl,zd⟩
theorem GN:cV rm 85 #[(0,3),(3,3),(6,1)]:=⟨_,underlying85,fun w=>by kernel_rfl⟩
inductive LR where
 |ok (x:R3)
 |bad (p:Nat) (e:Int)
def Jg(r:List UInt8):LR:=
 match r.findIdx? yV with
 |none=>.bad r.length 4
 |some k=>
  match GK (r.take k)with
  |.bad p e=>.bad p e
  |.ok a=>
   match GK (r.drop (k+1))with
   |.bad p e=>.bad (k+1+p) e
   |.ok b=>if da b≠0 then .bad (k+1) (da b)else .ok (a,b,(((nth r k).toNat:Int)==47))
def jl(kn:Kn)(r:List UInt8):LR:=
 match r.findIdx? yV with
 |none=>.bad r.length 4
 |some k=>
  match pf kn (r.take k)with
  |.bad p e=>.bad p e
  |.ok a=>
   match pf kn (r.drop (k+1))with
   |.bad p e=>.bad (k+1+p) e
   |.ok b=>if da b≠0 then .bad (k+1) (da b)else .ok (a,b,(((nth r k).toNat:Int)==47))
variable{kn:Kn}
def AQ(s:LS)(fr:Nat):XR->LS
 |.ok _=>s
 |.bad p e=>{s with bad:=(fr:Int)+(p:Int),e:=e}
theorem PostS.rd{O:Nat->Nat}{w:ow}{j rb:Nat}{s:LS}{fr:Nat}{x:N3}{M:XR}(h:PostS O w j rb s fr x M):Rd6 O w j rb (AQ s fr M):=by
 cases M with
 |ok t=>exact h.2
 |bad p e=>exact h.2.2
theorem PostS.one{O:Nat->Nat}{w:ow}{j rb:Nat}{s:LS}{fr:Nat}{x:N3}{M:XR}(h:PostS O w j rb s fr x M):x.2.2.oneCell'=true:=by
 cases M with
 |ok t=>exact h.1.one
 |bad p e=>rw[h.1];rfl
theorem PostS.upd{S:Nat->Prop}{O O':Nat->Nat}{w w':ow}{j rb:Nat}{s:LS}{fr:Nat}{x:N3}{M:XR}(h:PostS O w j rb s fr x M)(u:uu S O w O' w')(hj:j≠0)(hS:¬S j):PostS O' w' j rb s fr x M:=by
 cases M with
 |ok t=>exact⟨h.1.upd u,tp h.2 u hj hS⟩
 |bad p e=>exact⟨h.1,h.2.1,tp h.2.2 u hj hS⟩
theorem CV(s:LS)(fr:Nat)(M:XR):(AQ s fr M).l=s.l:=by cases M<;>rfl
theorem AP(s:LS)(fr:Nat)(M:XR):(AQ s fr M).bg=s.bg:=by cases M<;>rfl
def IY(B:Nat)(O:Nat->Nat)(w w':ow)(j jr rb:Nat)(s:LS)(xs:List X3)(M:LR):Prop:=
 ∃O' rv,uu (fun k=>k=j\/k=jr) O w O' w'/\J9 B O' w'/\
  match M with
  |.ok t=>∃x,Jr cj 85 7 O' w' jr rv (xs++[x])/\Rt O' w' t x/\Rd6 O' w' j rb {s with ru:=rv}
  |.bad p e=>e≠0/\Rd6 O' w' j rb {s with ru:=rv,bad:=s.bg+(p:Int),e:=e}
theorem kz{x y:N3}{b:Bool}(h1:x.2.2.oneCell'=true)(h2:y.2.2.oneCell'=true):(cj (x,y,b)).toArray.toList.all th=true:=by
 simp only[cj,qN,h1,h2];rfl
theorem bU{x y:N3}{b:Bool}(h1:x.2.2.oneCell'=true)(h2:y.2.2.oneCell'=true):∀c∈cj (x,y,b),c.oneCell'=true:=by
 have:=kz (b:=b) h1 h2;exact vg.1 this
theorem DY{L r:List UInt8}(h:r <:+ L):L.drop (L.length-r.length)=r:=(List.suffix_iff_eq_drop.1 h).symm
theorem jI{O:Nat->Nat}{w:ow}{i b:Nat}{x1 x2:N3}{brk:Bool}{E:uw}(h:yJ O w i b (cj (x1,x2,brk)).toArray E):∀(q:Nat) (u:ox),(aY x2)[q]? = some u->w.cell? ((nA b 3).add q)=some u:=fun q u hu=>by
 have e:((nA b 3).add q)=⟨b,3+q,none⟩:=by
  simp only[L1];(repeat' split)<;>simp_all
 rw[e];refine h.cell (3+q) ?_;simp only[aY]at hu
 match q,hu with
 |0,hu=>exact hu
 |1,hu=>exact hu
 |2,hu=>exact hu
theorem vl{O:Nat->Nat}{w:ow}{j rb m n:Nat}{s:LS}{fr:Nat}{x:N3}{M:XR}{hbg:s.bg=((m-n:Nat):Int)}(h:PostS O w j rb s fr x M):w.cell? ⟨rb,0,none⟩=some (.string (bs s.l))/\w.cell? ⟨rb,3,none⟩=some (nI ((m-n:Nat):Int)):=by
 have h0:=h.rd.q0;have h3:=h.rd.q3;rw[CV]at h0;rw[AP,hbg]at h3;exact⟨h0,h3⟩
theorem tk(B:Nat)(O:Nat → Nat)(w:ow)(j jr rb:Nat)(s:LS)(m:Nat)(r:List UInt8)(xs:List X3)(hR:J9 B O w)(hj:j ≠ 0)(hjr:jr ≠ 0)(hne:j ≠ jr)(hm:m ≤ s.l.length)(hl:s.l.length ≤ 100000)(hto:s.to = (m:Int))(hbg:s.bg = ((m - r.length:Nat):Int))(he:s.e = 0){jm:Nat}(hjm:jm ≠ 0)(hjjm:j ≠ jm)(hrm:jr ≠ jm)(hkn:Mac O w jm s.mc kn)
  (hr:r <:+ s.l.take m) (hrow:Jr cj 85 7 O w jr s.ru xs) (hxl:xs.length ≤ 40) (h:Rd6 O w j rb s) :
  BG rm 133 [nP rb] w fun _ w' => IY B O w w' j jr rb s xs (if xs.length = 40 then .bad 0 3 else jl kn r) := by
 obtain⟨T0, hT00, hT01⟩ := hR.bound
 obtain⟨T, hT0, hjrT, hjmT, hT⟩:∃T, 0 < T ∧ jr < T ∧ jm < T ∧ ∀b, O b < T := ⟨T0 + jr + jm + 1, by omega, by omega, by omega, fun b => by have := hT01 b; omega⟩
 clear hT00 hT01 T0
 have hjT:j < T := by rw[← h.tag]; exact hT rb
 have hz3:¬(fun q:Nat => q = j ∨ q = jr ∨ T ≤ q) 0 := fun e => by rcases e with e | e | e; exact hj e.symm; exact hjr e.symm; omega
 have hz2:¬(fun q:Nat => q = j ∨ q = jr) 0 := fun e => by rcases e with e | e; exact hj e.symm; exact hjr e.symm
 have hLl:(s.l.take m).length = m := by simp; omega
 have hrl := hr.length_le
 rw[hLl]at hrl
 have hreq := DY hr
 rw[hLl]at hreq
 have q0 := h.q0
 have q2 := h.q2
 rw[hto]at q2
 have q3 := h.q3
 rw[hbg]at q3
 have q8 := h.q8
 have hsl := hrow.sl
 refine oD func133 ntmps133 rfl rfl ?_
 refine pc ?_
 refine pc ?_
 refine oz ?_
 refine zv (ix rfl) ?_
 refine zv (aq rfl) ?_
 refine zv (RV.fa rfl) ?_
 refine zv (RV.fa rfl) ?_
 refine zv (RV.ld q8 rfl) ?_
 refine zv (As (by first | exact hsl) L3 rfl) ?_
 refine zv (GZ rfl rfl) ?_
 refine ln ?_
 refine az ?_
 by_cases h40:xs.length = 40
 ·rw[if_pos h40]
  refine aZ rfl ((by rw[h40]; rfl)) ?_
  have qd3:w.drew.cell? ⟨rb, 3, none⟩ = some (nI ((m - r.length:Nat):Int)) := q3
  refine pc ?_
  refine Jq 8 rfl rfl (by kernel_rfl) (by kernel_rfl) ?_
  refine zw (ix rfl) ?_
  refine zw (aq rfl) ?_
  refine zw (RV.fa rfl) ?_
  refine zw (ix rfl) ?_
  refine zw (aq rfl) ?_
  refine zw (RV.fa rfl) ?_
  refine zw (RV.fa rfl) ?_
  refine zw (RV.ld qd3 rfl) ?_
  refine Kj ?_
  refine zc Kz (bI O w.drew j rb s ((m - r.length:Nat):Int) 3 hj he h.drew) ?_
  rintro v w1 ⟨hb1, hU1⟩
  refine ln ?_
  refine az ?_
  refine JT ?_
  refine bT ?_
  refine cA rfl ⟨O, s.ru, (K8 hU1).mono (fun _ h => .inl h) hz2, hR.drew.upd hU1, by decide, ?_⟩
  rw[show s.bg + ((0:Nat):Int) = ((m - r.length:Nat):Int)from by rw[hbg]; simp]
  exact hb1
 ·rw[if_neg h40]
  refine aS rfl ((beq_eq_false_iff_ne.2 (by omega))) ?_
  have hd := h.drew
  have d0 := hd.q0
  have d2 := hd.q2
  rw[hto]at d2
  have d3 := hd.q3
  rw[hbg]at d3
  refine yY ?_
  refine az ?_
  refine pc ?_
  refine Jq 16 rfl rfl (by kernel_rfl) (by kernel_rfl) ?_
  refine zw (ix rfl) ?_
  refine zw (aq rfl) ?_
  refine zw (RV.fa rfl) ?_
  refine zw (RV.fa rfl) ?_
  refine zw (RV.ld d0 rfl) ?_
  refine zw (ix rfl) ?_
  refine zw (aq rfl) ?_
  refine zw (RV.fa rfl) ?_
  refine zw (RV.fa rfl) ?_
  refine zw (RV.ld d3 rfl) ?_
  refine zw (ix rfl) ?_
  refine zw (aq rfl) ?_
  refine zw (RV.fa rfl) ?_
  refine zw (RV.fa rfl) ?_
  refine zw (RV.ld d2 rfl) ?_
  refine zw (dc pN rfl rfl rfl (m - r.length) m rfl rfl (by omega) hm) ?_
  refine Kj ?_
  rw[hreq]
  refine zc call162 (mQ r w.drew) ?_
  rintro v w1 ⟨rfl, hE1⟩
  have hX1:uu (fun _ => False) O w.drew O w1 := aa (fun h => h) O hE1
  have hb1 := hd.upd hX1 hj (fun h => h)
  have hrow1 := hrow.drew.upd hX1 hjr (fun h => h)
  have hR1 := hR.drew.upd hX1
  have hUt1:uu (fun q => q = j ∨ T ≤ q) O w O w1 := K8 (hX1.mono (fun _ h => h.elim) (fun e => by rcases e with e | e; exact hj e.symm; omega))
  have e2 := hb1.q2
  rw[hto]at e2
  have e3 := hb1.q3
  rw[hbg]at e3
  cases hf:r.findIdx? yV with
  |none =>
   have hi:mm r = -1 := by unfold mm; rw[hf]
   have hM:jl kn r = .bad r.length 4 := by unfold jl; rw[hf]
   rw[hi, hM]
   refine zv (qy rfl) ?_
   refine ln ?_
   refine az ?_
   refine pc ?_
   refine pc ?_
   refine oz ?_
   refine zv (ix rfl) ?_
   refine zv (FJ rfl rfl) ?_
   refine ln ?_
   refine az ?_
   refine aZ rfl rfl ?_
   have ed2:w1.drew.cell? ⟨rb, 2, none⟩ = some (nI (m:Int)) := e2
   refine pc ?_
   refine Jq 8 rfl rfl (by kernel_rfl) (by kernel_rfl) ?_
   refine zw (ix rfl) ?_
   refine zw (aq rfl) ?_
   refine zw (RV.fa rfl) ?_
   refine zw (ix rfl) ?_
   refine zw (aq rfl) ?_
   refine zw (RV.fa rfl) ?_
   refine zw (RV.fa rfl) ?_
   refine zw (RV.ld ed2 rfl) ?_
   refine Kj ?_
   refine zc Kz (bI O w1.drew j rb s (m:Int) 4 hj he hb1.drew) ?_
   rintro v w2 ⟨hb2, hU2⟩
   refine ln ?_
   refine az ?_
   refine JT ?_
   refine bT ?_
   refine cA rfl ⟨O, s.ru, (hUt1.fgt (S' := fun k => k = j ∨ k = jr) (fun b hb => .inl (hb.resolve_right (by have := hT b; omega))) hz2).trans ((K8 hU2).mono (fun _ h => .inl h) hz2), hR1.drew.upd hU2, by decide, ?_⟩
   rw[show s.bg + (r.length:Int) = (m:Int)from by rw[hbg]; omega]
   exact hb2
  |some k =>
   obtain⟨hk, hk1, hk2⟩ := rU.1 hf
   have hi:mm r = (k:Nat) := by unfold mm; rw[hf]
   rw[hi]
   have hget:s.l[k + (m - r.length)]? = some (nth r k) := by
    have h1:(s.l.take m)[m - r.length + k]? = r[k]? := by rw[← hreq, List.getElem?_drop, hreq]
    rw[aB hk]
    exact mY (m := m) (by rw[KI, h1]; exact Fm hk)
   have hseg1:(s.l.take (k + (m - r.length))).drop (m - r.length) = r.take k := by
    rw[← hreq, Kr, Kq, Kp (by omega), hreq, KI]
   have hseg2:(s.l.take m).drop (k + (m - r.length) + 1) = r.drop (k + 1) := by
    rw[← hreq, List.drop_drop, hreq]; congr 1; omega
   generalize hbrk:(((nth r k).toNat:Int) == 47) = brk
   refine zv (qy rfl) ?_
   refine ln ?_
   refine az ?_
   refine pc ?_
   refine pc ?_
   refine oz ?_
   refine zv (ix rfl) ?_
   refine zv (FJ rfl rfl) ?_
   refine ln ?_
   refine az ?_
   refine aS rfl ((decide_eq_false (by omega))) ?_
   refine yY ?_
   refine az ?_
   refine pc ?_
   refine oz ?_
   refine zv (ix rfl) ?_
   refine zv (ix rfl) ?_
   refine zv (aq rfl) ?_
   refine zv (RV.fa rfl) ?_
   refine zv (RV.fa rfl) ?_
   refine zv (RV.ld e3 rfl) ?_
   refine zv (AK rfl rfl (uM (by omega))) ?_
   refine zv (qy rfl) ?_
   refine ln ?_
   refine az ?_
   refine pc ?_
   rw[show(k:Int) + ((m - r.length:Nat):Int) = ((k + (m - r.length):Nat):Int)from by omega]
   refine iK (fun z:(Nat → Nat)×World×Nat×N3 => [(0, nP rb), (2, nI ((k + (m - r.length):Nat):Int)), (3, .pointer (some ⟨z.2.2.1, 0, none⟩))]) (fun z:(Nat → Nat)×World×Nat×N3 => z.2.1) (fun z:(Nat → Nat)×World×Nat×N3 => yJ z.1 z.2.1 T z.2.2.1 (cj (z.2.2.2, (0, 0, nS), brk)).toArray 85 ∧ uu (fun q => q = j ∨ T ≤ q) O w z.1 z.2.1 ∧ J9 B z.1 z.2.1 ∧ PostS z.1 z.2.1 j rb s (m - r.length) z.2.2.2 (pf kn (r.take k))) ?_ ?_
   ·intro hN
    refine aI (fun V => V.cell? ⟨rb, 0, none⟩ = some (.string (bs s.l)) ∧ V.cell? ⟨rb, 3, none⟩ = some (nI ((m - r.length:Nat):Int))) 19 rfl (by kernel_rfl) ?_
    refine zin ⟨hb1.drew.q0, e3⟩ fun zS => ?_
    refine zrm 0 rfl zS rfl ?_
    refine zrm 1 rfl zS rfl ?_
    refine zr 2 rfl zS (fun _ => aq rfl) ?_
    refine zrf 3 rfl zS rfl ?_
    refine zrf 4 rfl zS rfl ?_
    refine zt 5 rfl zS (fun w1 hw1 => RV.ld hw1.2 rfl) ?_
    refine zrm 6 rfl zS rfl ?_
    refine zrm 8 rfl zS rfl ?_
    refine zr 9 rfl zS (fun _ => aq rfl) ?_
    refine zrf 10 rfl zS rfl ?_
    refine zrf 11 rfl zS rfl ?_
    refine zt 12 rfl zS (fun w1 hw1 => RV.ld hw1.1 rfl) ?_
    refine zrm 13 rfl zS rfl ?_
    refine zr 14 rfl zS (fun _ => bt (c := nth r k) pN rfl rfl (k + (m - r.length)) rfl hget) ?_
    refine zr 15 rfl zS (fun _ => GZ rfl rfl) ?_
    rw[hbrk]
    refine bV 7 17 (by kernel_rfl) rfl rfl ?_ ?_
    ·skip
     refine zc L5 (qW B O w1.drew j rb s (m - r.length) (k + (m - r.length)) hR1.drew hj he hjm hjjm (hkn.upd (JY hUt1) hjm (by omega)) (by omega) (by omega) hl hb1.drew) ?_
     rintro v w3 ⟨x1, rfl, hU3, hP3⟩
     rw[hseg1]at hP3
     refine ln ?_
     refine af (vl (hbg := hbg) hP3) ?_
     refine zr 16 rfl (vl (hbg := hbg) hP3) (fun _ => Lc (cells := (cj (x1, (0, 0, nS), brk)).toArray) GN (Jw _) rfl rfl) ?_
     refine sP 17 (by kernel_rfl) rfl ?_
     refine ax (hR1.drew.upd hU3) T (by omega) (Jw _) rfl ?_
     intro xb w4 O4 hx4 hU4 hR4 hE4
     have hP4 := hP3.upd hU4 hj (by omega)
     refine ln ?_
     refine af (vl (hbg := hbg) hP4) ?_
     refine sP 18 (by kernel_rfl) rfl ?_
     refine zsb (us := (cj (x1, (0, 0, nS), brk)).toArray) hx4 (Gv _) (kz hP3.one rfl) ?_
     have hx5 := hx4.setRow (us := (cj (x1, (0, 0, nS), brk)).toArray)
     have hU5:uu (fun q => q = T) O4 w4 O4 (w4.setRow xb (cj (x1, (0, 0, nS), brk)).toArray) := rj (by omega) hx4.tag rfl
     have hP5 := hP4.upd hU5 hj (by omega)
     refine ln ?_
     refine af (vl (hbg := hbg) hP5) ?_
     refine Ae (by kernel_rfl) ?_
     exact eD (hN ((O4, _, xb, x1)) (⟨hx5, (((JY hUt1).trans (hU3.pj hT0)).trans (hU4.pT hj hT0 (sN _))).trans (hU5.pT hj hT0 (sN _)), hR4.upd hU5, hP5⟩)) ⟨rfl, rfl, rfl, trivial⟩ rfl
    ·skip
     refine ax hR1.drew T (by omega) (Jw _) rfl ?_
     intro xb w3 O3 hx3 hU3 hR3 hE3
     have hb3 := hb1.drew.upd hU3 hj (by omega)
     have f3 := hb3.q3
     rw[hbg]at f3
     refine ln ?_
     refine af ⟨hb3.q0, f3⟩ ?_
     refine sP 7 (by kernel_rfl) rfl ?_
     refine zc L5 (qW B O3 w3 j rb s (m - r.length) (k + (m - r.length)) hR3 hj he hjm hjjm (hkn.upd ((JY hUt1).trans (hU3.pT hj hT0 (sN _))) hjm (by omega)) (by omega) (by omega) hl hb3) ?_
     rintro v w4 ⟨x1, rfl, hU4, hP4⟩
     rw[hseg1]at hP4
     have hx4 := hx3.upd hU4 (by omega) (by omega)
     refine ln ?_
     refine af (vl (hbg := hbg) hP4) ?_
     refine zr 16 rfl (vl (hbg := hbg) hP4) (fun _ => Lc (cells := (cj (x1, (0, 0, nS), brk)).toArray) GN (Jw _) rfl rfl) ?_
     refine sP 18 (by kernel_rfl) rfl ?_
     refine zsb (us := (cj (x1, (0, 0, nS), brk)).toArray) hx4 (Gv _) (kz hP4.one rfl) ?_
     have hx5 := hx4.setRow (us := (cj (x1, (0, 0, nS), brk)).toArray)
     have hU5:uu (fun q => q = T) O3 w4 O3 (w4.setRow xb (cj (x1, (0, 0, nS), brk)).toArray) := rj (by omega) hx4.tag rfl
     have hP5 := hP4.upd hU5 hj (by omega)
     refine ln ?_
     refine af (vl (hbg := hbg) hP5) ?_
     refine Ae (by kernel_rfl) ?_
     exact eD (hN ((O3, _, xb, x1)) (⟨hx5, (((JY hUt1).trans (hU3.pT hj hT0 (sN _))).trans (hU4.pj hT0)).trans (hU5.pT hj hT0 (sN _)), (hR3.upd hU4).upd hU5, hP5⟩)) ⟨rfl, rfl, rfl, trivial⟩ rfl
   ·rintro⟨O3, w3, xb, x1⟩ ⟨hx3, hUt3, hR3, hP3⟩
    dsimp only at hx3 hUt3 hR3 hP3 ⊢
    have hrow3 := hrow.upd hUt3 hjr (fun e => by rcases e with e | e; exact hne e.symm; omega)
    have hx1o := hP3.one
    have hU3':uu (fun q => q = j ∨ q = jr ∨ T ≤ q) O w O3 w3 := hUt3.mono (fun _ h => h.elim .inl (fun h => .inr (.inr h))) hz3
    refine az ?_
    cases hs1:pf kn (r.take k)with
    |bad p e =>
     have hM:jl kn r = .bad p e := by unfold jl; rw[hf]; dsimp only; rw[hs1]
     rw[hM]
     rw[hs1]at hP3
     obtain⟨rfl, hne1, hb3⟩ := hP3
     replace hb3:yJ O3 w3 j rb ({s with bad := ((m - r.length:Nat):Int) + (p:Int), e := e}:LS).cells 170 := hb3
     refine pc ?_
     refine pc ?_
     refine oz ?_
     refine zv (ix rfl) ?_
     refine zv (aq rfl) ?_
     refine zv (RV.fa rfl) ?_
     refine zv (RV.fa rfl) ?_
     refine zv (RV.ld hb3.q5 rfl) ?_
     refine zv (GZ rfl rfl) ?_
     refine ln ?_
     refine az ?_
     refine aS rfl ((by simpa using hne1)) ?_
     refine yY ?_
     refine az ?_
     refine pc ?_
     refine pc ?_
     refine oz ?_
     refine zv (RV.fa rfl) ?_
     refine zv (ai (us := aY ((0, 0, nS):N3)) (jI hx3) (CZ _) (vO _) rfl) ?_
     refine zc KA (kH (.mk 0 0 []) (0, 0, nS) w3 (KQ _ _ _ _)) ?_
     rintro v w4 ⟨rfl, hE4⟩
     have hX4:uu (fun _ => False) O3 w3 O3 w4 := aa (fun h => h) O3 hE4
     have hb4 := hb3.upd hX4 hj (fun h => h)
     have hx4 := hx3.upd hX4 (by omega) (fun h => h)
     have hrow4 := hrow3.upd hX4 hjr (fun h => h)
     have hR4 := hR3.upd hX4
     have hUt8 := hU3'.trans (hX4.mono (fun _ h => h.elim) hz3)
     refine zv (qy rfl) ?_
     refine ln ?_
     refine az ?_
     refine pc ?_
     refine oz ?_
     refine zv (ix rfl) ?_
     refine zv (aq rfl) ?_
     refine zv (RV.fa rfl) ?_
     refine zv (RV.fa rfl) ?_
     refine zv (RV.ld hb4.q5 rfl) ?_
     refine zv (GZ rfl rfl) ?_
     refine zv (ix rfl) ?_
     refine ay (d := 98) rfl (b' := false) ((by simpa using hne1)) ?_
     obtain⟨x1, hx1e⟩:∃x1:N3, x1 = (0, 0, nS) := ⟨_, rfl⟩
     obtain⟨x2, hx2e⟩:∃x2:N3, x2 = (0, 0, nS) := ⟨_, rfl⟩
     have hx2o:x2.2.2.oneCell' = true := by rw[hx2e]; rfl
     have hx1o:x1.2.2.oneCell' = true := by rw[hx1e]; rfl
     have hx4':yJ O3 w4 T xb (cj (x1, x2, brk)).toArray 85 := by rw[hx1e, hx2e]; exact hx4
     have hbd := (Db hb4)
     have hxd := (Db hx4')
     have hrowd := (JG hrow4)
     have hRd := (JZ hR4)
     refine KB rfl rfl rfl ?_
     refine KB rfl rfl rfl ?_
     refine zv (aW rfl rfl) ?_
     refine ln ?_
     refine az ?_
     refine aS rfl rfl ?_
     refine yY ?_
     refine az ?_
     refine aI (fun V => ∀(q:Nat) (u:ox), (cj (x1, x2, brk))[q]? = some u → V.cell? (nA xb q) = some u) 13 rfl (by kernel_rfl) ?_
     refine zin hxd.cellsAdd fun zS => ?_
     refine zrm 0 rfl zS rfl ?_
     refine zrm 1 rfl zS rfl ?_
     refine zr 2 rfl zS (fun _ => aq rfl) ?_
     refine zrf 3 rfl zS rfl ?_
     refine zrf 4 rfl zS rfl ?_
     refine zt 6 rfl zS (fun w1 hw1 => ai (us := cj (x1, x2, brk)) hw1 (JH _) (Gv _) rfl) ?_
     refine bV 5 7 (by kernel_rfl) rfl rfl ?_ ?_
     ·skip
      refine zv (RV.ld hbd.q8 rfl) ?_
      refine ln ?_
      refine af hxd.cellsAdd ?_
      refine sP 7 (by kernel_rfl) rfl ?_
      refine aL elR (enc := cj) (x1, x2, brk) rfl rfl rfl (by decide) rfl ?_
      intro w9 h9 hE9
      have hX9:uu (fun _ => False) O3 (AW w4) O3 w9 := aa (fun h => h) O3 hE9
      have hb9 := hbd.upd hX9 hj (fun h => h)
      have hx9 := hxd.upd hX9 (by omega) (fun h => h)
      have hrow9 := hrowd.upd hX9 hjr (fun h => h)
      have hR9 := hRd.upd hX9
      have hUt9 := (hUt8.drew).trans (hX9.mono (fun _ h => h.elim) hz3)
      refine ln ?_
      refine af hx9.cellsAdd ?_
      have hone9:∀u ∈ [(x1, x2, brk)], ∀c ∈ cj u, c.oneCell' = true := fun u hu => by
       rw[pZ.1 hu]; exact bU hx1o hx2o
      refine sP 8 (by kernel_rfl) rfl ?_
      refine aC elR hrow9 hR9 h9 (by simp) rfl rfl (fun _ _ => rfl) hone9 (by simp; omega) (by simp; omega) (by omega) rfl ?_
      intro lv10 w10 O10 hrow10 hU10 hR10
      have hb10 := tp hb9 hU10 hj (by omega)
      have hx10 := tp hx9 hU10 (by omega) (by omega)
      have hl10 := hrow10.one
      refine ln ?_
      refine zaf hx10.cellsAdd fun zS => ?_
      refine zr 9 rfl zS (fun _ => aq rfl) ?_
      refine zrf 10 rfl zS rfl ?_
      refine zrf 11 rfl zS rfl ?_
      refine sP 12 (by kernel_rfl) rfl ?_
      refine ak (j := 8) hb10 rfl (GT _) hl10 rfl rfl rfl ?_
      have hb11 := hb10.s_ru lv10
      have hU11:uu (fun q => q = j) O10 w10 O10 (w10.setCell ⟨rb, 8, none⟩ lv10) := xK (fun e => hj e.symm) hb10.tag rfl
      have hx11 := hx10.upd hU11 (by omega) (by omega)
      have hrow11 := hrow10.upd hU11 hjr (fun e => hne e.symm)
      have hR11 := hR10.upd hU11
      refine ln ?_
      refine af hx11.cellsAdd ?_
      refine Ae (by kernel_rfl) ?_
      have hUz:uu (fun q => q = j ∨ q = jr ∨ T ≤ q) O w O10 (w10.setCell ⟨rb, 8, none⟩ lv10) := (hUt9.trans (hU10.mono (fun _ h => .inr (.inl h)) hz3)).trans (hU11.mono (fun _ h => .inl h) hz3)
      refine aH rfl ⟨lowT O10 T, lv10, hUz.lowT hT (fun b hb => by have := hT b; rcases hb with h | h | h; exact .inl h; exact .inr h; omega) (fun e => by rcases e with e | e; exact hj e.symm; exact hjr e.symm), hR11.lowT T, ?_⟩
      exact⟨hne1, by rw[show s.bg + (p:Int) = ((m - r.length:Nat):Int) + (p:Int)from by rw[hbg]]; exact hb11.lowT hjT⟩
     ·skip
      refine aL elR (enc := cj) (x1, x2, brk) rfl rfl rfl (by decide) rfl ?_
      intro w9 h9 hE9
      have hX9:uu (fun _ => False) O3 (AW w4) O3 w9 := aa (fun h => h) O3 hE9
      have hb9 := hbd.upd hX9 hj (fun h => h)
      have hx9 := hxd.upd hX9 (by omega) (fun h => h)
      have hrow9 := hrowd.upd hX9 hjr (fun h => h)
      have hR9 := hRd.upd hX9
      have hUt9 := (hUt8.drew).trans (hX9.mono (fun _ h => h.elim) hz3)
      refine ln ?_
      refine af hx9.cellsAdd ?_
      refine sP 5 (by kernel_rfl) rfl ?_
      refine zv (RV.ld hb9.q8 rfl) ?_
      refine ln ?_
      refine af hx9.cellsAdd ?_
      have hone9:∀u ∈ [(x1, x2, brk)], ∀c ∈ cj u, c.oneCell' = true := fun u hu => by
       rw[pZ.1 hu]; exact bU hx1o hx2o
      refine sP 8 (by kernel_rfl) rfl ?_
      refine aC elR hrow9 hR9 h9 (by simp) rfl rfl (fun _ _ => rfl) hone9 (by simp; omega) (by simp; omega) (by omega) rfl ?_
      intro lv10 w10 O10 hrow10 hU10 hR10
      have hb10 := tp hb9 hU10 hj (by omega)
      have hx10 := tp hx9 hU10 (by omega) (by omega)
      have hl10 := hrow10.one
      refine ln ?_
      refine zaf hx10.cellsAdd fun zS => ?_
      refine zr 9 rfl zS (fun _ => aq rfl) ?_
      refine zrf 10 rfl zS rfl ?_
      refine zrf 11 rfl zS rfl ?_
      refine sP 12 (by kernel_rfl) rfl ?_
      refine ak (j := 8) hb10 rfl (GT _) hl10 rfl rfl rfl ?_
      have hb11 := hb10.s_ru lv10
      have hU11:uu (fun q => q = j) O10 w10 O10 (w10.setCell ⟨rb, 8, none⟩ lv10) := xK (fun e => hj e.symm) hb10.tag rfl
      have hx11 := hx10.upd hU11 (by omega) (by omega)
      have hrow11 := hrow10.upd hU11 hjr (fun e => hne e.symm)
      have hR11 := hR10.upd hU11
      refine ln ?_
      refine af hx11.cellsAdd ?_
      refine Ae (by kernel_rfl) ?_
      have hUz:uu (fun q => q = j ∨ q = jr ∨ T ≤ q) O w O10 (w10.setCell ⟨rb, 8, none⟩ lv10) := (hUt9.trans (hU10.mono (fun _ h => .inr (.inl h)) hz3)).trans (hU11.mono (fun _ h => .inl h) hz3)
      refine aH rfl ⟨lowT O10 T, lv10, hUz.lowT hT (fun b hb => by have := hT b; rcases hb with h | h | h; exact .inl h; exact .inr h; omega) (fun e => by rcases e with e | e; exact hj e.symm; exact hjr e.symm), hR11.lowT T, ?_⟩
      exact⟨hne1, by rw[show s.bg + (p:Int) = ((m - r.length:Nat):Int) + (p:Int)from by rw[hbg]]; exact hb11.lowT hjT⟩
    |ok a =>
     rw[hs1]at hP3
     obtain⟨hn3, hb3⟩ := hP3
     replace hb3:yJ O3 w3 j rb s.cells 170 := hb3
     have g2 := hb3.q2
     rw[hto]at g2
     have g5 := hb3.q5
     rw[he]at g5
     refine pc ?_
     refine pc ?_
     refine oz ?_
     refine zv (ix rfl) ?_
     refine zv (aq rfl) ?_
     refine zv (RV.fa rfl) ?_
     refine zv (RV.fa rfl) ?_
     refine zv (RV.ld g5 rfl) ?_
     refine zv (GZ rfl rfl) ?_
     refine ln ?_
     refine az ?_
     refine aZ rfl rfl ?_
     refine oz ?_
     refine zv (ix rfl) ?_
     refine zv (ix rfl) ?_
     refine zv (AK rfl rfl (uM (by omega))) ?_
     refine zv (ix rfl) ?_
     refine zv (aq rfl) ?_
     refine zv (RV.fa rfl) ?_
     refine zv (RV.fa rfl) ?_
     refine zv (RV.ld g2 rfl) ?_
     rw[show((k + (m - r.length):Nat):Int) + 1 = ((k + (m - r.length) + 1:Nat):Int)from by omega]
     refine zc L5 (qW B O3 w3 j rb s (k + (m - r.length) + 1) m hR3 hj he hjm hjjm (hkn.upd hU3' hjm (by omega)) (by omega) hm hl hb3) ?_
     rintro v w4 ⟨x2, rfl, hU4, hP4⟩
     rw[hseg2]at hP4
     have hx2o := hP4.one
     have hx4 := hx3.upd hU4 (by omega) (by omega)
     have hrow4 := hrow3.upd hU4 hjr (fun e => hne e.symm)
     have hR4 := hR3.upd hU4
     have hUt4 := hU3'.trans (hU4.mono (fun _ h => .inl h) hz3)
     have hn4 := hn3.upd hU4
     refine zv (RV.fa rfl) ?_
     refine lq 3 (us := #[nI x2.1, nI x2.2.1, x2.2.2]) hx4 (Nat.le_of_ble_eq_true rfl) (vO _) (cn hx2o) rfl rfl rfl ?_
     rw[show((cj (x1, (0, 0, nS), brk)).toArray.toList.take 3 ++ (#[nI x2.1, nI x2.2.1, x2.2.2]:Array ox).toList ++ (cj (x1, (0, 0, nS), brk)).toArray.toList.drop (3 + (#[nI x2.1, nI x2.2.1, x2.2.2]:Array ox).size)).toArray = (cj (x1, x2, brk)).toArray from rfl]
     have hx5 := hx4.setRow (us := (cj (x1, x2, brk)).toArray)
     have hU5:uu (fun q => q = T) O3 w4 O3 (w4.setRow xb (cj (x1, x2, brk)).toArray) := rj (by omega) hx4.tag rfl
     have hP5 := hP4.upd hU5 hj (by omega)
     have hrow5 := hrow4.upd hU5 hjr (by omega)
     have hR5 := hR4.upd hU5
     have hUt5 := hUt4.trans (hU5.mono (fun _ h => .inr (.inr (Nat.le_of_eq h.symm))) hz3)
     have hn5 := hn4.upd hU5
     generalize w4.setRow xb (cj (x1, x2, brk)).toArray = w5 at *
     refine ln ?_
     refine az ?_
     refine pc ?_
     refine pc ?_
     refine oz ?_
     refine zv (RV.fa rfl) ?_
     refine zv (ai (us := aY x2) (jI hx5) (CZ _) (vO _) rfl) ?_
     cases hs2:pf kn (r.drop (k + 1))with
     |bad p e =>
      have hM:jl kn r = .bad (k + 1 + p) e := by unfold jl; rw[hf]; dsimp only; rw[hs1]; dsimp only; rw[hs2]
      rw[hM]
      rw[hs2]at hP5
      obtain⟨hx2e, hne1, hb5⟩ := hP5
      replace hb5:yJ O3 w5 j rb ({s with bad := ((k + (m - r.length) + 1:Nat):Int) + (p:Int), e := e}:LS).cells 170 := hb5
      refine zc KA (kH (.mk 0 0 []) x2 w5 (by rw[hx2e]; exact KQ _ _ _ _)) ?_
      rintro v w6 ⟨rfl, hE6⟩
      have hX6:uu (fun _ => False) O3 w5 O3 w6 := aa (fun h => h) O3 hE6
      have hb6 := hb5.upd hX6 hj (fun h => h)
      have hx6 := hx5.upd hX6 (by omega) (fun h => h)
      have hrow6 := hrow5.upd hX6 hjr (fun h => h)
      have hR6 := hR5.upd hX6
      have hUt8 := hUt5.trans (hX6.mono (fun _ h => h.elim) hz3)
      refine zv (qy rfl) ?_
      refine ln ?_
      refine az ?_
      refine pc ?_
      refine oz ?_
      refine zv (ix rfl) ?_
      refine zv (aq rfl) ?_
      refine zv (RV.fa rfl) ?_
      refine zv (RV.fa rfl) ?_
      refine zv (RV.ld hb6.q5 rfl) ?_
      refine zv (GZ rfl rfl) ?_
      refine zv (ix rfl) ?_
      refine ay (d := 98) rfl (b' := false) ((by simpa using hne1)) ?_
      have hbd := (Db hb6)
      have hxd := (Db hx6)
      have hrowd := (JG hrow6)
      have hRd := (JZ hR6)
      refine KB rfl rfl rfl ?_
      refine KB rfl rfl rfl ?_
      refine zv (aW rfl rfl) ?_
      refine ln ?_
      refine az ?_
      refine aS rfl rfl ?_
      refine yY ?_
      refine az ?_
      refine aI (fun V => ∀(q:Nat) (u:ox), (cj (x1, x2, brk))[q]? = some u → V.cell? (nA xb q) = some u) 13 rfl (by kernel_rfl) ?_
      refine zin hxd.cellsAdd fun zS => ?_
      refine zrm 0 rfl zS rfl ?_
      refine zrm 1 rfl zS rfl ?_
      refine zr 2 rfl zS (fun _ => aq rfl) ?_
      refine zrf 3 rfl zS rfl ?_
      refine zrf 4 rfl zS rfl ?_
      refine zt 6 rfl zS (fun w1 hw1 => ai (us := cj (x1, x2, brk)) hw1 (JH _) (Gv _) rfl) ?_
      refine bV 5 7 (by kernel_rfl) rfl rfl ?_ ?_
      ·skip
       refine zv (RV.ld hbd.q8 rfl) ?_
       refine ln ?_
       refine af hxd.cellsAdd ?_
       refine sP 7 (by kernel_rfl) rfl ?_
       refine aL elR (enc := cj) (x1, x2, brk) rfl rfl rfl (by decide) rfl ?_
       intro w9 h9 hE9
       have hX9:uu (fun _ => False) O3 (AW w6) O3 w9 := aa (fun h => h) O3 hE9
       have hb9 := hbd.upd hX9 hj (fun h => h)
       have hx9 := hxd.upd hX9 (by omega) (fun h => h)
       have hrow9 := hrowd.upd hX9 hjr (fun h => h)
       have hR9 := hRd.upd hX9
       have hUt9 := (hUt8.drew).trans (hX9.mono (fun _ h => h.elim) hz3)
       refine ln ?_
       refine af hx9.cellsAdd ?_
       have hone9:∀u ∈ [(x1, x2, brk)], ∀c ∈ cj u, c.oneCell' = true := fun u hu => by
        rw[pZ.1 hu]; exact bU hx1o hx2o
       refine sP 8 (by kernel_rfl) rfl ?_
       refine aC elR hrow9 hR9 h9 (by simp) rfl rfl (fun _ _ => rfl) hone9 (by simp; omega) (by simp; omega) (by omega) rfl ?_
       intro lv10 w10 O10 hrow10 hU10 hR10
       have hb10 := tp hb9 hU10 hj (by omega)
       have hx10 := tp hx9 hU10 (by omega) (by omega)
       have hl10 := hrow10.one
       refine ln ?_
       refine zaf hx10.cellsAdd fun zS => ?_
       refine zr 9 rfl zS (fun _ => aq rfl) ?_
       refine zrf 10 rfl zS rfl ?_
       refine zrf 11 rfl zS rfl ?_
       refine sP 12 (by kernel_rfl) rfl ?_
       refine ak (j := 8) hb10 rfl (GT _) hl10 rfl rfl rfl ?_
       have hb11 := hb10.s_ru lv10
       have hU11:uu (fun q => q = j) O10 w10 O10 (w10.setCell ⟨rb, 8, none⟩ lv10) := xK (fun e => hj e.symm) hb10.tag rfl
       have hx11 := hx10.upd hU11 (by omega) (by omega)
       have hrow11 := hrow10.upd hU11 hjr (fun e => hne e.symm)
       have hR11 := hR10.upd hU11
       refine ln ?_
       refine af hx11.cellsAdd ?_
       refine Ae (by kernel_rfl) ?_
       have hUz:uu (fun q => q = j ∨ q = jr ∨ T ≤ q) O w O10 (w10.setCell ⟨rb, 8, none⟩ lv10) := (hUt9.trans (hU10.mono (fun _ h => .inr (.inl h)) hz3)).trans (hU11.mono (fun _ h => .inl h) hz3)
       refine aH rfl ⟨lowT O10 T, lv10, hUz.lowT hT (fun b hb => by have := hT b; rcases hb with h | h | h; exact .inl h; exact .inr h; omega) (fun e => by rcases e with e | e; exact hj e.symm; exact hjr e.symm), hR11.lowT T, ?_⟩
       exact⟨hne1, by rw[show s.bg + ((k + 1 + p:Nat):Int) = ((k + (m - r.length) + 1:Nat):Int) + (p:Int)from by rw[hbg]; omega]; exact hb11.lowT hjT⟩
      ·skip
       refine aL elR (enc := cj) (x1, x2, brk) rfl rfl rfl (by decide) rfl ?_
       intro w9 h9 hE9
       have hX9:uu (fun _ => False) O3 (AW w6) O3 w9 := aa (fun h => h) O3 hE9
       have hb9 := hbd.upd hX9 hj (fun h => h)
       have hx9 := hxd.upd hX9 (by omega) (fun h => h)
       have hrow9 := hrowd.upd hX9 hjr (fun h => h)
       have hR9 := hRd.upd hX9
       have hUt9 := (hUt8.drew).trans (hX9.mono (fun _ h => h.elim) hz3)
       refine ln ?_
       refine af hx9.cellsAdd ?_
       refine sP 5 (by kernel_rfl) rfl ?_
       refine zv (RV.ld hb9.q8 rfl) ?_
       refine ln ?_
       refine af hx9.cellsAdd ?_
       have hone9:∀u ∈ [(x1, x2, brk)], ∀c ∈ cj u, c.oneCell' = true := fun u hu => by
        rw[pZ.1 hu]; exact bU hx1o hx2o
       refine sP 8 (by kernel_rfl) rfl ?_
       refine aC elR hrow9 hR9 h9 (by simp) rfl rfl (fun _ _ => rfl) hone9 (by simp; omega) (by simp; omega) (by omega) rfl ?_
       intro lv10 w10 O10 hrow10 hU10 hR10
       have hb10 := tp hb9 hU10 hj (by omega)
       have hx10 := tp hx9 hU10 (by omega) (by omega)
       have hl10 := hrow10.one
       refine ln ?_
       refine zaf hx10.cellsAdd fun zS => ?_
       refine zr 9 rfl zS (fun _ => aq rfl) ?_
       refine zrf 10 rfl zS rfl ?_
       refine zrf 11 rfl zS rfl ?_
       refine sP 12 (by kernel_rfl) rfl ?_
       refine ak (j := 8) hb10 rfl (GT _) hl10 rfl rfl rfl ?_
       have hb11 := hb10.s_ru lv10
       have hU11:uu (fun q => q = j) O10 w10 O10 (w10.setCell ⟨rb, 8, none⟩ lv10) := xK (fun e => hj e.symm) hb10.tag rfl
       have hx11 := hx10.upd hU11 (by omega) (by omega)
       have hrow11 := hrow10.upd hU11 hjr (fun e => hne e.symm)
       have hR11 := hR10.upd hU11
       refine ln ?_
       refine af hx11.cellsAdd ?_
       refine Ae (by kernel_rfl) ?_
       have hUz:uu (fun q => q = j ∨ q = jr ∨ T ≤ q) O w O10 (w10.setCell ⟨rb, 8, none⟩ lv10) := (hUt9.trans (hU10.mono (fun _ h => .inr (.inl h)) hz3)).trans (hU11.mono (fun _ h => .inl h) hz3)
       refine aH rfl ⟨lowT O10 T, lv10, hUz.lowT hT (fun b hb => by have := hT b; rcases hb with h | h | h; exact .inl h; exact .inr h; omega) (fun e => by rcases e with e | e; exact hj e.symm; exact hjr e.symm), hR11.lowT T, ?_⟩
       exact⟨hne1, by rw[show s.bg + ((k + 1 + p:Nat):Int) = ((k + (m - r.length) + 1:Nat):Int) + (p:Int)from by rw[hbg]; omega]; exact hb11.lowT hjT⟩
     |ok b =>
      rw[hs2]at hP5
      obtain⟨hnb5, hb5⟩ := hP5
      replace hb5:yJ O3 w5 j rb s.cells 170 := hb5
      refine zc KA (kH b x2 w5 hnb5.zero) ?_
      rintro v w6 ⟨rfl, hE6⟩
      have hX6:uu (fun _ => False) O3 w5 O3 w6 := aa (fun h => h) O3 hE6
      have hb6 := hb5.upd hX6 hj (fun h => h)
      have hx6 := hx5.upd hX6 (by omega) (fun h => h)
      have hrow6 := hrow5.upd hX6 hjr (fun h => h)
      have hR6 := hR5.upd hX6
      have hUt6 := hUt5.trans (hX6.mono (fun _ h => h.elim) hz3)
      have hnA := hn5.upd hX6
      have hnB := hnb5.upd hX6
      have g6 := hb6.q5
      rw[he]at g6
      refine zv (qy rfl) ?_
      refine ln ?_
      refine az ?_
      refine pc ?_
      refine oz ?_
      refine zv (ix rfl) ?_
      refine zv (aq rfl) ?_
      refine zv (RV.fa rfl) ?_
      refine zv (RV.fa rfl) ?_
      refine zv (RV.ld g6 rfl) ?_
      refine zv (GZ rfl rfl) ?_
      refine zv (ix rfl) ?_
      refine ay (d := 98) rfl (b' := true) (rfl) ?_
      refine Cl rfl ?_
      refine zv (ix rfl) ?_
      refine Cl rfl ?_
      refine zv (KD rfl rfl) ?_
      refine zv (aQ rfl rfl) ?_
      refine ln ?_
      refine az ?_
      by_cases hlk:da b = 0
      ·have hM:jl kn r = .ok (a, b, brk) := by unfold jl; rw[hf]; dsimp only; rw[hs1]; dsimp only; rw[hs2]; dsimp only; rw[if_neg (by simpa using hlk), hbrk]
       rw[hM]
       have hUt8 := hUt6
       refine aS rfl ((by rw[hlk]; rfl)) ?_
       have hbd := (Db hb6)
       have hxd := (Db hx6)
       have hrowd := (JG hrow6)
       have hRd := (JZ hR6)
       refine yY ?_
       refine az ?_
       refine aI (fun V => ∀(q:Nat) (u:ox), (cj (x1, x2, brk))[q]? = some u → V.cell? (nA xb q) = some u) 13 rfl (by kernel_rfl) ?_
       refine zin hxd.cellsAdd fun zS => ?_
       refine zrm 0 rfl zS rfl ?_
       refine zrm 1 rfl zS rfl ?_
       refine zr 2 rfl zS (fun _ => aq rfl) ?_
       refine zrf 3 rfl zS rfl ?_
       refine zrf 4 rfl zS rfl ?_
       refine zt 6 rfl zS (fun w1 hw1 => ai (us := cj (x1, x2, brk)) hw1 (JH _) (Gv _) rfl) ?_
       refine bV 5 7 (by kernel_rfl) rfl rfl ?_ ?_
       ·skip
        refine zv (RV.ld hbd.q8 rfl) ?_
        refine ln ?_
        refine af hxd.cellsAdd ?_
        refine sP 7 (by kernel_rfl) rfl ?_
        refine aL elR (enc := cj) (x1, x2, brk) rfl rfl rfl (by decide) rfl ?_
        intro w9 h9 hE9
        have hX9:uu (fun _ => False) O3 (AW w6) O3 w9 := aa (fun h => h) O3 hE9
        have hb9 := hbd.upd hX9 hj (fun h => h)
        have hx9 := hxd.upd hX9 (by omega) (fun h => h)
        have hrow9 := hrowd.upd hX9 hjr (fun h => h)
        have hR9 := hRd.upd hX9
        have hUt9 := (hUt8.drew).trans (hX9.mono (fun _ h => h.elim) hz3)
        refine ln ?_
        refine af hx9.cellsAdd ?_
        have hone9:∀u ∈ [(x1, x2, brk)], ∀c ∈ cj u, c.oneCell' = true := fun u hu => by
         rw[pZ.1 hu]; exact bU hx1o hx2o
        refine sP 8 (by kernel_rfl) rfl ?_
        refine aC elR hrow9 hR9 h9 (by simp) rfl rfl (fun _ _ => rfl) hone9 (by simp; omega) (by simp; omega) (by omega) rfl ?_
        intro lv10 w10 O10 hrow10 hU10 hR10
        have hb10 := tp hb9 hU10 hj (by omega)
        have hx10 := tp hx9 hU10 (by omega) (by omega)
        have hl10 := hrow10.one
        refine ln ?_
        refine zaf hx10.cellsAdd fun zS => ?_
        refine zr 9 rfl zS (fun _ => aq rfl) ?_
        refine zrf 10 rfl zS rfl ?_
        refine zrf 11 rfl zS rfl ?_
        refine sP 12 (by kernel_rfl) rfl ?_
        refine ak (j := 8) hb10 rfl (GT _) hl10 rfl rfl rfl ?_
        have hb11 := hb10.s_ru lv10
        have hU11:uu (fun q => q = j) O10 w10 O10 (w10.setCell ⟨rb, 8, none⟩ lv10) := xK (fun e => hj e.symm) hb10.tag rfl
        have hx11 := hx10.upd hU11 (by omega) (by omega)
        have hrow11 := hrow10.upd hU11 hjr (fun e => hne e.symm)
        have hR11 := hR10.upd hU11
        refine ln ?_
        refine af hx11.cellsAdd ?_
        refine Ae (by kernel_rfl) ?_
        have hUz:uu (fun q => q = j ∨ q = jr ∨ T ≤ q) O w O10 (w10.setCell ⟨rb, 8, none⟩ lv10) := (hUt9.trans (hU10.mono (fun _ h => .inr (.inl h)) hz3)).trans (hU11.mono (fun _ h => .inl h) hz3)
        refine aH rfl ⟨lowT O10 T, lv10, hUz.lowT hT (fun b hb => by have := hT b; rcases hb with h | h | h; exact .inl h; exact .inr h; omega) (fun e => by rcases e with e | e; exact hj e.symm; exact hjr e.symm), hR11.lowT T, ?_⟩
        exact⟨(x1, x2, brk), hrow11.lowT hjrT, ⟨((((hnA.drew).upd hX9).upd hU10).upd hU11).weak (fun b e => kG e), ((((hnB.drew).upd hX9).upd hU10).upd hU11).weak (fun b e => kG e), rfl⟩, hb11.lowT hjT⟩
       ·skip
        refine aL elR (enc := cj) (x1, x2, brk) rfl rfl rfl (by decide) rfl ?_
        intro w9 h9 hE9
        have hX9:uu (fun _ => False) O3 (AW w6) O3 w9 := aa (fun h => h) O3 hE9
        have hb9 := hbd.upd hX9 hj (fun h => h)
        have hx9 := hxd.upd hX9 (by omega) (fun h => h)
        have hrow9 := hrowd.upd hX9 hjr (fun h => h)
        have hR9 := hRd.upd hX9
        have hUt9 := (hUt8.drew).trans (hX9.mono (fun _ h => h.elim) hz3)
        refine ln ?_
        refine af hx9.cellsAdd ?_
        refine sP 5 (by kernel_rfl) rfl ?_
        refine zv (RV.ld hb9.q8 rfl) ?_
        refine ln ?_
        refine af hx9.cellsAdd ?_
        have hone9:∀u ∈ [(x1, x2, brk)], ∀c ∈ cj u, c.oneCell' = true := fun u hu => by
         rw[pZ.1 hu]; exact bU hx1o hx2o
        refine sP 8 (by kernel_rfl) rfl ?_
        refine aC elR hrow9 hR9 h9 (by simp) rfl rfl (fun _ _ => rfl) hone9 (by simp; omega) (by simp; omega) (by omega) rfl ?_
        intro lv10 w10 O10 hrow10 hU10 hR10
        have hb10 := tp hb9 hU10 hj (by omega)
        have hx10 := tp hx9 hU10 (by omega) (by omega)
        have hl10 := hrow10.one
        refine ln ?_
        refine zaf hx10.cellsAdd fun zS => ?_
        refine zr 9 rfl zS (fun _ => aq rfl) ?_
        refine zrf 10 rfl zS rfl ?_
        refine zrf 11 rfl zS rfl ?_
        refine sP 12 (by kernel_rfl) rfl ?_
        refine ak (j := 8) hb10 rfl (GT _) hl10 rfl rfl rfl ?_
        have hb11 := hb10.s_ru lv10
        have hU11:uu (fun q => q = j) O10 w10 O10 (w10.setCell ⟨rb, 8, none⟩ lv10) := xK (fun e => hj e.symm) hb10.tag rfl
        have hx11 := hx10.upd hU11 (by omega) (by omega)
        have hrow11 := hrow10.upd hU11 hjr (fun e => hne e.symm)
        have hR11 := hR10.upd hU11
        refine ln ?_
        refine af hx11.cellsAdd ?_
        refine Ae (by kernel_rfl) ?_
        have hUz:uu (fun q => q = j ∨ q = jr ∨ T ≤ q) O w O10 (w10.setCell ⟨rb, 8, none⟩ lv10) := (hUt9.trans (hU10.mono (fun _ h => .inr (.inl h)) hz3)).trans (hU11.mono (fun _ h => .inl h) hz3)
        refine aH rfl ⟨lowT O10 T, lv10, hUz.lowT hT (fun b hb => by have := hT b; rcases hb with h | h | h; exact .inl h; exact .inr h; omega) (fun e => by rcases e with e | e; exact hj e.symm; exact hjr e.symm), hR11.lowT T, ?_⟩
        exact⟨(x1, x2, brk), hrow11.lowT hjrT, ⟨((((hnA.drew).upd hX9).upd hU10).upd hU11).weak (fun b e => kG e), ((((hnB.drew).upd hX9).upd hU10).upd hU11).weak (fun b e => kG e), rfl⟩, hb11.lowT hjT⟩
      ·have hM:jl kn r = .bad (k + 1) (da b) := by unfold jl; rw[hf]; dsimp only; rw[hs1]; dsimp only; rw[hs2]; dsimp only; rw[if_pos (by simpa using hlk)]
       rw[hM]
       refine aZ rfl ((by simpa using hlk)) ?_
       refine oz ?_
       refine zv (ix rfl) ?_
       refine zv (aq rfl) ?_
       refine zv (RV.fa rfl) ?_
       refine zv (ix rfl) ?_
       refine zv (AK rfl rfl (uM (by omega))) ?_
       refine zv (ix rfl) ?_
       refine zc Kz (bI O3 w6 j rb s (((k + (m - r.length):Nat):Int) + 1) (da b) hj he hb6) ?_
       rintro v w7 ⟨hb7, hU7⟩
       have hx7 := hx6.upd hU7 (by omega) (by omega)
       have hrow7 := hrow6.upd hU7 hjr (fun e => hne e.symm)
       have hR7 := hR6.upd hU7
       have hUt8 := hUt6.trans (hU7.mono (fun _ h => .inl h) hz3)
       have hbd := (Db hb7)
       have hxd := (Db hx7)
       have hrowd := (JG hrow7)
       have hRd := (JZ hR7)
       refine ln ?_
       refine az ?_
       refine aI (fun V => ∀(q:Nat) (u:ox), (cj (x1, x2, brk))[q]? = some u → V.cell? (nA xb q) = some u) 13 rfl (by kernel_rfl) ?_
       refine zin hxd.cellsAdd fun zS => ?_
       refine zrm 0 rfl zS rfl ?_
       refine zrm 1 rfl zS rfl ?_
       refine zr 2 rfl zS (fun _ => aq rfl) ?_
       refine zrf 3 rfl zS rfl ?_
       refine zrf 4 rfl zS rfl ?_
       refine zt 6 rfl zS (fun w1 hw1 => ai (us := cj (x1, x2, brk)) hw1 (JH _) (Gv _) rfl) ?_
       refine bV 5 7 (by kernel_rfl) rfl rfl ?_ ?_
       ·skip
        refine zv (RV.ld hbd.q8 rfl) ?_
        refine ln ?_
        refine af hxd.cellsAdd ?_
        refine sP 7 (by kernel_rfl) rfl ?_
        refine aL elR (enc := cj) (x1, x2, brk) rfl rfl rfl (by decide) rfl ?_
        intro w9 h9 hE9
        have hX9:uu (fun _ => False) O3 (AW w7) O3 w9 := aa (fun h => h) O3 hE9
        have hb9 := hbd.upd hX9 hj (fun h => h)
        have hx9 := hxd.upd hX9 (by omega) (fun h => h)
        have hrow9 := hrowd.upd hX9 hjr (fun h => h)
        have hR9 := hRd.upd hX9
        have hUt9 := (hUt8.drew).trans (hX9.mono (fun _ h => h.elim) hz3)
        refine ln ?_
        refine af hx9.cellsAdd ?_
        have hone9:∀u ∈ [(x1, x2, brk)], ∀c ∈ cj u, c.oneCell' = true := fun u hu => by
         rw[pZ.1 hu]; exact bU hx1o hx2o
        refine sP 8 (by kernel_rfl) rfl ?_
        refine aC elR hrow9 hR9 h9 (by simp) rfl rfl (fun _ _ => rfl) hone9 (by simp; omega) (by simp; omega) (by omega) rfl ?_
        intro lv10 w10 O10 hrow10 hU10 hR10
        have hb10 := tp hb9 hU10 hj (by omega)
        have hx10 := tp hx9 hU10 (by omega) (by omega)
        have hl10 := hrow10.one
        refine ln ?_
        refine zaf hx10.cellsAdd fun zS => ?_
        refine zr 9 rfl zS (fun _ => aq rfl) ?_
        refine zrf 10 rfl zS rfl ?_
        refine zrf 11 rfl zS rfl ?_
        refine sP 12 (by kernel_rfl) rfl ?_
        refine ak (j := 8) hb10 rfl (GT _) hl10 rfl rfl rfl ?_
        have hb11 := hb10.s_ru lv10
        have hU11:uu (fun q => q = j) O10 w10 O10 (w10.setCell ⟨rb, 8, none⟩ lv10) := xK (fun e => hj e.symm) hb10.tag rfl
        have hx11 := hx10.upd hU11 (by omega) (by omega)
        have hrow11 := hrow10.upd hU11 hjr (fun e => hne e.symm)
        have hR11 := hR10.upd hU11
        refine ln ?_
        refine af hx11.cellsAdd ?_
        refine Ae (by kernel_rfl) ?_
        have hUz:uu (fun q => q = j ∨ q = jr ∨ T ≤ q) O w O10 (w10.setCell ⟨rb, 8, none⟩ lv10) := (hUt9.trans (hU10.mono (fun _ h => .inr (.inl h)) hz3)).trans (hU11.mono (fun _ h => .inl h) hz3)
        refine aH rfl ⟨lowT O10 T, lv10, hUz.lowT hT (fun b hb => by have := hT b; rcases hb with h | h | h; exact .inl h; exact .inr h; omega) (fun e => by rcases e with e | e; exact hj e.symm; exact hjr e.symm), hR11.lowT T, ?_⟩
        exact⟨hlk, by rw[show s.bg + ((k + 1:Nat):Int) = ((k + (m - r.length):Nat):Int) + 1 from by rw[hbg]; omega]; exact hb11.lowT hjT⟩
       ·skip
        refine aL elR (enc := cj) (x1, x2, brk) rfl rfl rfl (by decide) rfl ?_
        intro w9 h9 hE9
        have hX9:uu (fun _ => False) O3 (AW w7) O3 w9 := aa (fun h => h) O3 hE9
        have hb9 := hbd.upd hX9 hj (fun h => h)
        have hx9 := hxd.upd hX9 (by omega) (fun h => h)
        have hrow9 := hrowd.upd hX9 hjr (fun h => h)
        have hR9 := hRd.upd hX9
        have hUt9 := (hUt8.drew).trans (hX9.mono (fun _ h => h.elim) hz3)
        refine ln ?_
        refine af hx9.cellsAdd ?_
        refine sP 5 (by kernel_rfl) rfl ?_
        refine zv (RV.ld hb9.q8 rfl) ?_
        refine ln ?_
        refine af hx9.cellsAdd ?_
        have hone9:∀u ∈ [(x1, x2, brk)], ∀c ∈ cj u, c.oneCell' = true := fun u hu => by
         rw[pZ.1 hu]; exact bU hx1o hx2o
        refine sP 8 (by kernel_rfl) rfl ?_
        refine aC elR hrow9 hR9 h9 (by simp) rfl rfl (fun _ _ => rfl) hone9 (by simp; omega) (by simp; omega) (by omega) rfl ?_
        intro lv10 w10 O10 hrow10 hU10 hR10
        have hb10 := tp hb9 hU10 hj (by omega)
        have hx10 := tp hx9 hU10 (by omega) (by omega)
        have hl10 := hrow10.one
        refine ln ?_
        refine zaf hx10.cellsAdd fun zS => ?_
        refine zr 9 rfl zS (fun _ => aq rfl) ?_
        refine zrf 10 rfl zS rfl ?_
        refine zrf 11 rfl zS rfl ?_
        refine sP 12 (by kernel_rfl) rfl ?_
        refine ak (j := 8) hb10 rfl (GT _) hl10 rfl rfl rfl ?_
        have hb11 := hb10.s_ru lv10
        have hU11:uu (fun q => q = j) O10 w10 O10 (w10.setCell ⟨rb, 8, none⟩ lv10) := xK (fun e => hj e.symm) hb10.tag rfl
        have hx11 := hx10.upd hU11 (by omega) (by omega)
        have hrow11 := hrow10.upd hU11 hjr (fun e => hne e.symm)
        have hR11 := hR10.upd hU11
        refine ln ?_
        refine af hx11.cellsAdd ?_
        refine Ae (by kernel_rfl) ?_
        have hUz:uu (fun q => q = j ∨ q = jr ∨ T ≤ q) O w O10 (w10.setCell ⟨rb, 8, none⟩ lv10) := (hUt9.trans (hU10.mono (fun _ h => .inr (.inl h)) hz3)).trans (hU11.mono (fun _ h => .inl h) hz3)
        refine aH rfl ⟨lowT O10 T, lv10, hUz.lowT hT (fun b hb => by have := hT b; rcases hb with h | h | h; exact .inl h; exact .inr h; omega) (fun e => by rcases e with e | e; exact hj e.symm; exact hjr e.symm), hR11.lowT T, ?_⟩
        exact⟨hlk, by rw[show s.bg + ((k + 1:Nat):Int) = ((k + (m - r.length):Nat):Int) + 1 from by rw[hbg]; omega]; exact hb11.lowT hjT⟩
end
def bC(seg:List UInt8):List UInt8:=seg.takeWhile (fun b=>!(b==35))
def bp(seg:List UInt8):List UInt8:=aw (bC seg)
theorem zX{seg:List UInt8}{k:Nat}(h:seg.findIdx? (· == 35)=some k):bC seg=seg.take k/\k<=seg.length:=by
 obtain⟨hk,h1,h2⟩:=rU.1 h;refine⟨?_,zo⟩;unfold bC;have e:seg=seg.take k++seg.drop k:=(JQ k seg).symm
 conv=>lhs;rw[e]
 rw[List.takeWhile_append_of_pos]
 ·rw[DA hk,Ji (by simpa using h1),Ko]
 intro x hx;obtain⟨i,hi,rfl⟩:=K1 hx;simp only[Kf]at hi;have:=h2 i zo;simp only[Kd];simpa using this
theorem eG{p:UInt8->Bool}:∀ {l:List UInt8},(∀x∈l,p x=true)->l.takeWhile p=l
 |[],_=>rfl
 |a::l,h=>by rw[List.takeWhile_cons_of_pos (h a (by simp)),eG fun x hx=>h x (by simp[hx])]
theorem zY{seg:List UInt8}(h:seg.findIdx? (· == 35)=none):bC seg=seg:=by
 have h1:=uh.1 h;exact eG fun x hx=>by simpa using h1 x hx
def eu(r:List UInt8):List UInt8:=r.takeWhile (fun b=>!(b==10))
def RowsT(O:Nat->Nat)(w:ow)(jr:Nat)(rv:ox)(ts:List R3)(xs:List X3):Prop:=
 Jr cj 85 7 O w jr rv xs/\ts.length=xs.length/\xs.length<=40/\∀i,i<xs.length->Rt O w (nth ts i) (nth xs i)
theorem RowsT.push{O:Nat->Nat}{w:ow}{jr:Nat}{rv:ox}{ts:List R3}{xs:List X3}{t:R3}{x:X3}(hr:Jr cj 85 7 O w jr rv (xs++[x]))(h1:ts.length=xs.length)(h2:xs.length<40)(h3:∀i,i<xs.length->Rt O w (nth ts i) (nth xs i))(h4:Rt O w t x):RowsT O w jr rv (ts++[t]) (xs++[x]):=by
 refine⟨hr,by simp[h1],by simp;omega,fun i hi=>?_⟩;simp only[zI,JR]at hi
 by_cases e:i<xs.length
 ·rw[aB (by simp;omega),aB (by simp;omega),JC zo,JC e,<-aB zo,<-aB e];exact h3 i e
 obtain rfl:i=xs.length:=zo;rw[aB (by simp;omega),aB (by simp),Ju zo,Ju zo];simp[h1];exact h4
theorem zu{r:List UInt8}{k:Nat}(h:r.findIdx? (· == 10)=some k):(eu r).length=k:=by
 obtain⟨hk,h1,h2⟩:=rU.1 h;unfold eu;have e:r=r.take k++r.drop k:=(JQ k r).symm;have e2:(r.take k).takeWhile (fun b=>!(b==10))=r.take k:=eG fun x hx=>by
  obtain⟨i,hi,rfl⟩:=K1 hx;simp only[Kf]at hi;have:=h2 i zo;simp only[Kd];simpa using this
 conv=>lhs;rw[e]
 rw[List.takeWhile_append,e2,if_pos rfl,DA hk,Ji (by simpa using h1),Ko];simp;omega
theorem zy{r:List UInt8}(h:r.findIdx? (· == 10)=none):eu r=r:=
 eG fun x hx=>by simpa using uh.1 h x hx
theorem tO(l:List UInt8)(fr:Nat):(l.take (fr+(eu (l.drop fr)).length)).drop fr=eu (l.drop fr):=by
 have h1:eu (l.drop fr)=(l.drop fr).take (eu (l.drop fr)).length:=List.prefix_iff_eq_take.1 (List.takeWhile_prefix _)
 conv=>rhs;rw[h1]
 rw[Kr]
abbrev sF(ig kp ru:ox):ox:=.agg #[ig,kp,ru]
abbrev sG:ox:=nS
theorem Im:cV rm 41 #[(0,1),(1,1),(2,1)]:=⟨_,underlying41,fun w=>by kernel_rfl⟩
theorem IC:cV rm 167 #[(0,1),(1,1),(2,1),(3,1),(4,1),(5,1)]:=⟨_,underlying167,fun w=>by kernel_rfl⟩
theorem IB:cV rm 170 #[(0,6),(6,3),(9,1),(10,1),(11,1)]:=⟨_,underlying170,fun w=>by kernel_rfl⟩
theorem Ap{w:ow}{rb:Nat}{a b c:ox}(h6:w.cell? ⟨rb,6,none⟩=some a)(h7:w.cell? ⟨rb,7,none⟩=some b)(h8:w.cell? ⟨rb,8,none⟩=some c):∀(q:Nat) (u:ox),[a,b,c][q]? = some u->w.cell? ((nA rb 6).add q)=some u:=fun q u hu=>by
 have e:((nA rb 6).add q)=⟨rb,6+q,none⟩:=by
  simp only[L1];(repeat' split)<;>simp_all
 rw[e]
 match q,hu with
 |0,hu=>obtain rfl:=tR hu;exact h6
 |1,hu=>obtain rfl:=tR hu;exact h7
 |2,hu=>obtain rfl:=tR hu;exact h8
def jU(l:List Int)(i:Nat):Bool:=(decide (nth l i<0)||decide (36<=nth l i))||(decide ((0:Int)<(i:Int))&&decide (nth l i<=nth l (i-1)))
def dj(l:List Int):Bool:=!(anyN (jU l) l.length)
def mP(t:R3):Bool:=(bj t.1&&bj t.2.1)&&(da t.2.1==0)
def G9(ts:List R3):Bool:=!(anyN (fun i=>!(mP (nth ts i))) ts.length)
def dE(li lk:List Int)(ts:List R3):Bool:=((decide ((ts.length:Int)<=40)&&dj li)&&dj lk)&&G9 ts
theorem tn(l:List Int)(sv:ox)(w:ow)(h:Sl (fun c:Int=>[nI c]) 1 w sv l):BG rm 58 [sv] w fun v w'=>v=.bool (dj l)/\w'=w:=by
 have a5:=h.len_le;refine oD func58 ntmps58 rfl rfl ?_;refine zh ?_;refine zlp (fun x:Nat=>[(0,sv),(5,sv),(6,nI l.length),(7,nI x)]) (fun x=>w) (fun x=>x<=l.length/\∀i,i<x->jU l i=false) (fun x=>l.length-x) 0 (⟨pR _,fun i hi=>absurd hi (rI i)⟩) ?_;rintro k ⟨hk,a3⟩;refine zh ?_;refine zC ?_ ?_
 ·intro a0;replace a0:k<l.length:=dT a0;refine zh ?_;refine zvH (RV.ld (h.ld a0) rfl) ?_;refine bK (fun w1=>_=w1) (decide (36<=nth l k)) 2 (rfl) rfl rfl rfl rfl rfl ?_ ?_
  ·intro a1;refine zh ?_;refine nE 14 3 (rfl) a1
  rintro _ rfl;refine zh ?_;refine bK (fun w1=>_=w1) ((decide ((0:Int)<(k:Int))&&decide (nth l k<=nth l (k-1)))) 11 (rfl) rfl rfl rfl rfl rfl ?_ ?_
  ·intro a2;refine zh ?_
   cases a6:decide ((0:Int)<(k:Int))with
   |true=>
    have a7:=of_decide_eq_true a6;refine ay (d:=21) rfl (b':=true) (rfl) ?_;refine zh ?_;rw[show(k:Int)-1=((k-1:Nat):Int)from by omega];refine zh ?_;refine zvH (RV.ld (h.ld (i:=k-1) zo) rfl) ?_;refine nE 18 13 (rfl) a2
   |false=>
    refine ay (d:=21) rfl (b':=false) (rfl) ?_;refine zh ?_
    refine nE 18 13 (rfl) a2
  rintro _ rfl;refine zh ?_;refine zC ?_ ?_
  ·intro hy;refine zh ?_;refine ae rfl rfl (⟨by unfold dj;rw[cQ.2 ⟨k,a0,hy⟩];rfl,rfl⟩)
  intro hy;refine zh ?_;refine zxd (k+1) (⟨a0,fun i hi=>(rk.1 hi).elim (a3 i) (fun e=>by rw[e];exact hy)⟩)
 intro a4;replace a4:l.length<=k:=dF a4;refine zh ?_;refine ae rfl rfl (⟨by unfold dj;rw[bz.2 fun i hi=>a3 i zo];rfl,rfl⟩)
abbrev nr(x:X3):ox:=.agg (cj x).toArray
theorem iT{O:Nat->Nat}{w:ow}{i b:Nat}{x:X3}{E:uw}(h:yJ O w i b (cj x).toArray E):(∀W,ze w W->∀(q:Nat) (u:ox),(aY x.1)[q]? = some u->W.cell? (nA b q)=some u)/\(∀W,ze w W->∀(q:Nat) (u:ox),(aY x.2.1)[q]? = some u->W.cell? ((nA b 3).add q)=some u)/\(∀W,ze w W->W.cell? (nA b 6)=some (.bool x.2.2))/\(∀W,ze w W->∀(q:Nat) (u:ox),(cj x)[q]? = some u->W.cell? (nA b q)=some u):=by
 obtain⟨x1,x2,brk⟩:=x;refine⟨fun W hE q u hu=>hE.cell (h.cellsAdd q u ?_),fun W hE q u hu=>hE.cell (jI h q u hu),fun W hE=>hE.cell (h.cellsAdd 6 _ rfl),fun W hE q u hu=>hE.cell (h.cellsAdd q u hu)⟩;simp only[aY]at hu
 match q,hu with
 |0,hu=>exact hu
 |1,hu=>exact hu
 |2,hu=>exact hu
theorem Rt.ext{O:Nat->Nat}{w w':ow}{t:R3}{x:X3}(h:Rt O w t x)(e:ze w w'):Rt O w' t x:=⟨h.1.ext e,h.2.1.ext e,h.2.2⟩
theorem yX(t:R3)(x:X3)(w:ow)(h:Rt (fun _=>0) w t x):BG rm 61 [nr x] w fun v w'=>v=.bool (mP t)/\ze w w':=by
 have hx1o:=h.1.one;have hx2o:=h.2.1.one;have a7:=bU (b:=x.2.2) hx1o hx2o;refine oD func61 ntmps61 rfl rfl ?_;refine zh ?_;refine aE (au w) 1 zo rfl rfl ?_;intro xb w1 O1 a6 a8 a9 a4;obtain⟨lc,rc,bc,_⟩:=iT a6;refine zh ?_;refine zv (ai (us:=aY x.1) (lc w1 (tJ _)) (CZ _) (vO _) rfl) ?_;refine zc call99 (fN t.1 x.1 w1 (h.1.ext a4)) ?_;rintro v w2 ⟨rfl,a3⟩;refine zh ?_;refine aP (ze w1) (bj t.2.1) 3 (a3) rfl rfl rfl rfl rfl ?_ ?_
 ·intro a1;refine zh ?_;refine zvH (ai (us:=aY x.2.1) (rc _ a3) (CZ _) (vO _) rfl) ?_;refine zc call99 (fN t.2.1 x.2.1 _ (h.2.1.ext (a4.trans a3))) ?_;rintro v w3 ⟨rfl,a0⟩;refine zh ?_;refine nE 6 4 (a3.trans a0) a1
 intro w3 a0;refine zh ?_;refine aP (ze w1) ((da t.2.1==0)) 4 (a0) rfl rfl rfl rfl rfl ?_ ?_
 ·intro a2;refine zh ?_;refine zvH (ai (us:=aY x.2.1) (rc _ a0) (CZ _) (vO _) rfl) ?_;refine zc KA (kH t.2.1 x.2.1 _ (h.2.1.ext (a4.trans a0))) ?_;rintro v w4 ⟨rfl,a5⟩;refine zh ?_;refine nE 11 5 (a0.trans a5) a2
 intro w4 a5;refine zh ?_;refine ae rfl rfl (⟨rfl,a4.trans a5⟩)
theorem zb(t:R3)(x:X3)(w:ow)(h:Rt (fun _=>0) w t x):BG rm 60 [nr x] w fun v w'=>v=.bool (!(mP t))/\ze w w':=by
 have hx1o:=h.1.one;have hx2o:=h.2.1.one;have a2:=bU (b:=x.2.2) hx1o hx2o;refine oD func60 ntmps60 rfl rfl ?_;refine zh ?_;refine aE (au w) 1 zo rfl rfl ?_;intro xb w1 O1 a1 a4 a5 a0;obtain⟨_,_,_,ac⟩:=iT a1;refine zh ?_;refine zv (ai (us:=cj x) (ac w1 (tJ _)) (JH _) (Gv _) rfl) ?_;refine zc call61 (yX t x w1 (h.ext a0)) ?_;rintro v w2 ⟨rfl,a3⟩;refine zh ?_;refine ae rfl rfl (⟨rfl,a0.trans a3⟩)
theorem lT{F:Jv}(hF:∀(args:Array ox) (w:ow),(callFunc F args).run rm w=.ok (.enter F args) w)(cs:Array ox)(l:List (X3))(sv:ox)(q:Nat->Bool)(w:ow)(h:Sl cj 7 w sv l) 
  (hq:∀i,i<l.length->∀w',ze w w'->BG rm F ([nr (nth l i)]++cs.toList) w' fun v w''=>v=.bool (q i)/\ze w' w'') :
  BG rm 98 [sv,.func (.func F) #[] cs] w fun v w'=>v=nI (dQ q l.length)/\ze w w':=by
 have hl:=h.len_le;refine oD func98 ntmps98 rfl rfl ?_;refine zh ?_;refine zlp (fun x:Nat×ow=>[(0,sv),(1,.func (.func F) #[] cs),(7,nI l.length),(8,nI x.1)]) (fun x=>x.2) (fun x=>x.1<=l.length/\ze w x.2/\∀i,i<x.1->q i=false) (fun x=>l.length-x.1) (0,w) (⟨pR _,tJ _,fun i hi=>absurd hi (rI i)⟩) ?_;rintro⟨k,w1⟩ ⟨hk,hE,a1⟩;dsimp only at hk hE a1 ⊢;have h1:=h.ext hE;refine zh ?_;refine zC ?_ ?_
 ·intro a0;replace a0:k<l.length:=dT a0;refine zh ?_;refine zv (ai (us:=cj (nth l k)) (fun j u hu=>h1.cell a0 hu) (JH _) (Gv _) rfl) ?_;refine dN rfl hF rfl (hq k a0 w1 hE) rfl ?_;rintro v w2 ⟨rfl,a3⟩;refine zh ?_;refine zC ?_ ?_
  ·intro hy;refine zh ?_;refine ae rfl rfl (⟨by rw[cG a0 hy a1],hE.trans a3⟩)
  intro hy;refine zh ?_;refine zxd (k+1,w2) (⟨a0,hE.trans a3,fun i hi=>(rk.1 hi).elim (a1 i) (fun e=>by rw[e];exact hy)⟩)
 intro a2;replace a2:l.length<=k:=dF a2;refine zh ?_;refine ae rfl rfl (⟨by rw[cE fun i hi=>a1 i zo],hE⟩)
theorem jn{F:Jv}(hF:∀(args:Array ox) (w:ow),(callFunc F args).run rm w=.ok (.enter F args) w)(cs:Array ox)(l:List (X3))(sv:ox)(q:Nat->Bool)(w:ow)(h:Sl cj 7 w sv l) 
  (hq:∀i,i<l.length->∀w',ze w w'->BG rm F ([nr (nth l i)]++cs.toList) w' fun v w''=>v=.bool (q i)/\ze w' w'') :
  BG rm 59 [sv,.func (.func F) #[] cs] w fun v w'=>v=.bool (anyN q l.length)/\ze w w':=by
 refine oD func59 ntmps59 rfl rfl ?_;refine zh ?_
 refine zc call98 (lT hF cs l sv q w h hq) ?_;rintro v w1 ⟨rfl,hE⟩;refine zh ?_
 refine ae rfl rfl (⟨by rw[firstN_any],hE⟩)
theorem za(li lk:List Int)(ts:List R3)(xs:List X3)(ig kp ru:ox)(w:ow)(hi:Sl (fun c:Int=>[nI c]) 1 w ig li)(hk:Sl (fun c:Int=>[nI c]) 1 w kp lk)(hr:Sl cj 7 w ru xs)(hl:ts.length=xs.length)(hx:∀i,i<xs.length->Rt (fun _=>0) w (nth ts i) (nth xs i)):
  BG rm 31 [sF ig kp ru] w fun v w'=>v=.bool (dE li lk ts)/\ze w w':=by
 have b0:=hi.one;have a':=hk.one;have a9:=hr.one;refine oD func31 ntmps31 rfl rfl ?_;refine zh ?_;refine aE (au w) 1 zo rfl rfl ?_;intro xb w1 O1 a5 b1 b2 a4;have c0:w1.cell? (nA xb 0)=some ig:=a5.cell 0 rfl;have c1:w1.cell? (nA xb 1)=some kp:=a5.cell 1 rfl;have c2:w1.cell? (nA xb 2)=some ru:=a5.cell 2 rfl;have a7:=hr.ext a4;refine zh ?_;refine aP (fun w1=>_=w1) (dj li) 3 (rfl) rfl rfl rfl rfl rfl ?_ ?_
 ·intro a1;refine zh ?_;refine zc call58 (tn li ig w1 (hi.ext a4)) ?_;rintro v w9 ⟨rfl,a0⟩;rw[a0];clear a0 w9;refine zh ?_;refine nE 7 4 (rfl) a1
 rintro _ rfl;refine zh ?_;refine aP (fun w1=>_=w1) (dj lk) 3 (rfl) rfl rfl rfl rfl rfl ?_ ?_
 ·intro a2;refine zh ?_;refine zc call58 (tn lk kp w1 (hk.ext a4)) ?_;rintro v w9 ⟨rfl,a0⟩;rw[a0];clear a0 w9;refine zh ?_;refine nE 12 4 (rfl) a2
 rintro _ rfl;refine zh ?_;have a8:G9 ts = !(anyN (fun i=>!(mP (nth ts i))) xs.length):=by unfold G9;rw[hl]
 refine aP (ze w1) ((!(anyN (fun i=>!(mP (nth ts i))) xs.length))) 4 (tJ w1) rfl rfl rfl rfl rfl ?_ ?_
 ·intro a3;refine zh ?_;refine zc call59 (jn call60 #[] xs ru (fun i=>!(mP (nth ts i))) w1 a7 (fun i hi w' hE=>zb (nth ts i) (nth xs i) w' ((hx i hi).ext (a4.trans hE)))) ?_;rintro v w2 ⟨rfl,a6⟩;refine zh ?_;refine nE 17 5 (a6) a3
 intro w2 a6;refine zh ?_;refine ae rfl rfl (⟨by unfold dE;rw[hl,a8],a4.trans a6⟩)
abbrev Fc:List UInt8:=[67,82,32,33,32,76,70]
structure Tx(w:ow)(v:ox)(li lk:List Int)(ts:List R3):Prop where
 ex:∃ig kp ru xs,v=sF ig kp ru/\Sl encI 1 w ig li/\Sl encI 1 w kp lk/\Sl cj 7 w ru xs/\ts.length=xs.length/\∀i,i<xs.length->Rt (fun _=>0) w (nth ts i) (nth xs i)
theorem Tx.ext{w w':ow}{v:ox}{li lk:List Int}{ts:List R3}(h:Tx w v li lk ts)(e:ze w w'):Tx w' v li lk ts:=by
 obtain⟨ig,kp,ru,xs,hv,h1,h2,h3,h4,h5⟩:=h;exact⟨ig,kp,ru,xs,hv,h1.ext e,h2.ext e,h3.ext e,h4,fun i hi=>(h5 i hi).ext e⟩
theorem _root_.Go.VL.BlkO.ext{O:Nat->Nat}{w w':ow}{i b:Nat}{cs:Array ox}{E:uw}(h:yJ O w i b cs E)(e:ze w w'):yJ O w' i b cs E:=⟨by rw[e.block b (bB h.blk)];exact h.blk,h.tag⟩
theorem RowsG.upd{S:Nat->Prop}{B:Nat}{O O':Nat->Nat}{w0 w w':ow}{v:ox}{rows:List (List Nat)}(h:Lb w0.heap.size w v rows)(r:J9 B O w0)(u:uu S O w O' w'):Lb w0.heap.size w' v rows:=by
 obtain⟨vs,h1,h2,h3,h4⟩:=h;exact⟨vs,h1.upd (h2.free h1 (fun x _=>by simp) r) u,h2,h3,fun i hi=>⟨(h4 i hi).1.upd ((h4 i hi).2.free (h4 i hi).1 (fun x _=>by simp) r) u,(h4 i hi).2⟩⟩
theorem _root_.Go.VL.NewV.slU{S:Nat->Prop}{B:Nat}{O O':Nat->Nat}{w0 w w':ow}{v:ox}{l:List Nat}(h:K9 w0.heap.size v)(hs:Sl jb 1 w v l)(r:J9 B O w0)(u:uu S O w O' w'):Sl jb 1 w' v l:=hs.upd (h.free hs (fun x _=>by simp) r) u
def cY(l:List Int):Nat:=l.foldl (fun b c=>b ||| 2^c.toNat) 0
theorem nK{l:List Int}(h:∀c∈l,0<=c/\c<=35):cY l<2^36:=by
 have a0:∀(l:List Int) (b:Nat),(∀c∈l,0<=c/\c<=35)->b<2^36->l.foldl (fun b c=>b ||| 2^c.toNat) b<2^36:=fun l=>by
  induction l with
  |nil=>exact fun b _ hb=>hb
  |cons c l ih=>exact fun b h hb=>ih _ (fun x hx=>h x (by simp[hx])) (Nat.or_lt_two_pow hb (Nat.pow_lt_pow_right zd (by have:=h c (by simp);omega)))
 exact a0 l 0 h zd
theorem AL{l:List Int}{i:Nat}(h:i<l.length):cY (l.take (i+1))=cY (l.take i) ||| 2^(nth l i).toNat:=by
 unfold cY;rw[aR h,ug];rfl
theorem nJ(l:List Int)(sv:ox)(w:ow)(h:Sl encI 1 w sv l)(hr:∀c∈l,0<=c/\c<=35):BG rm 32 [sv] w fun v w'=>v=.int .u64 ((cY l:Nat):Int)/\w'=w:=by
 have hl:=h.len_le;have a1:Lh.max=18446744073709551615:=rfl;refine oD func32 ntmps32 rfl rfl ?_;refine zh ?_;refine zlp (fun z:Nat=>[(3,.int .u64 ((cY (l.take z):Nat):Int)),(6,sv),(7,nI l.length),(8,nI z)]) (fun z=>w) (fun z=>z<=l.length) (fun z=>l.length-z) 0 (pR _) ?_;intro i hi;refine zh ?_;refine zC ?_ ?_
 ·intro a0;replace a0:i<l.length:=dT a0;have hc:=hr _ (aO a0);have m1:w.cell? (adr sv 1 i)=some (nI (nth l i)):=by have:=h.cell (i:=i) (j:=0) a0 rfl;rwa[ao]at this
  obtain⟨c,a3⟩:∃c:Nat,nth l i=(c:Int):=⟨(nth l i).toNat,zo⟩
  have hs:=AL a0;rw[a3]at m1 hs;simp only[Kg]at hs;have a7:cY (l.take i)<2^36:=nK fun x hx=>hr x (List.mem_of_mem_take hx)
  have a6:2^c<=2^35:=Nat.pow_le_pow_right zd zo;have a5:(2^35:Nat)=34359738368:=zd;have a4:(2^36:Nat)=68719476736:=zd;refine zh ?_;refine zv (xB (a:=1) (b:=c) rfl rfl rfl rfl (by show _<=64;omega) (by show _<=(18446744073709551615:Int);omega)) ?_;rw[Nat.one_mul];refine zvH (uS (a:=cY (l.take i)) (b:=2^c) rfl rfl rfl rfl (by show _<=(18446744073709551615:Int);omega) (by show _<=(18446744073709551615:Int);omega)) ?_;rw[<-hs];refine zxd (i+1) (a0)
 intro a2;obtain rfl:i=l.length:=dF a2;rw[sQ];refine zh ?_;refine ae rfl rfl (⟨rfl,rfl⟩)
def stM(se:Bool)(ts:List Nd):Option (List (List Nat)×List Nat):=if dP ts=0 then DC (cM se (jZ ts)) (dp (jZ ts))else none
def Cls(cl:Nat->Nat)(d:List (List Nat)×List Nat):Prop:=∀p q,p<d.1.length->q<d.1.length->(cl p=cl q↔Alike (nxD d.1) (nth d.2) p q)
def PostSt(B:Nat)(w:ow)(v:ox):Option (List (List Nat)×List Nat)->Prop
 |some d=>∃cl nv tv,v=.tuple #[.agg #[nv,tv],nI 0]/\nv.oneCell'=true/\tv.oneCell'=true/\KU d.1 d.2/\Cls cl d/\Lb B w nv (aU cl d.1 d.2).1/\Sl jb 1 w tv (aU cl d.1 d.2).2/\K9 B tv
 |none=>∃e:Int,e≠0/\v=.tuple #[.agg #[nS,nS],nI e]
theorem Bc{ts:List Nd}(h:dP ts=0):ts.length<=40/\(∀t∈ts,bj t=true)/\1+bh ts<=1000:=by
 unfold dP at h
 split at h
 ·cases h
 split at h
 ·cases h
 rename_i h1 h2
 split at h
 ·cases h
 rename_i h3;refine⟨zo,fun t ht=>?_,zo⟩;have:ts.any (fun t=>!bj t)=false:=by simpa using h2
 have:=DH.1 this t ht;simpa using this
theorem pU(se:Bool)(ts:List Nd)(xs:List N3)(sv:ox)(w:ow)(hs:Sl aY 3 w sv xs)(hl:ts.length=xs.length)(hk:∀i,i<xs.length->Nt (fun _=>0) w (nth ts i) (nth xs i)):
  BG rm 33 [.bool se,sv] w fun v w'=>ze w w'/\PostSt w.heap.size w' v (stM se ts):=by
 refine oD func33 ntmps33 rfl rfl ?_;refine zh ?_
 refine ax (au w) 1 zo (G6 _) rfl ?_;intro cb w1 O1 c6 e2 e5 d4;refine zh ?_
 refine zc call62 (FV se ts xs sv w1 (hs.ext d4) hl (fun i hi=>(hk i hi).ext d4)) ?_;rintro _ w2 ⟨nb,rfl,e',e6⟩;have c8:uu (fun _=>False) O1 w1 O1 w2:=aa (fun h=>h) O1 e';have a2:=c6.upd c8 zd (fun h=>h);have e4:=e5.upd c8;have b2:=e2.trans (c8.mono (fun _ h=>h.elim) zd);refine zh ?_
 by_cases he:dP ts=0
 ·have hD:=e6 he;obtain⟨f5,a4,f4⟩:=Bc he;obtain⟨a',a3⟩:=jH a4;obtain⟨d5,h0⟩:=Ba ts;have d9:=qe a' a3;have d':∀q,(jZ ts).en q<=40:=fun q=>by have:=A9 ts q;omega
  have b9:stM se ts=DC (cM se (jZ ts)) (dp (jZ ts)):=by unfold stM;rw[if_pos he]
  have d8:Bb nb (dP ts)=nP nb:=by unfold Bb;rw[if_pos he]
  rw[d8,he,b9];refine zFH rfl rfl ?_;have hC:=B5 nb se (jZ ts) w2 hD d5 h0 (FU ts) zo d';generalize hd:DC (cM se (jZ ts)) (dp (jZ ts))=D at hC b9 ⊢;refine zc call63 hC ?_;rintro v w3 ⟨e9,hP⟩;have c7:uu (fun _=>False) O1 w2 O1 w3:=aa (fun h=>h) O1 e9;have b1:=a2.upd c7 zd (fun h=>h);have d3:=e4.upd c7;have a8:=b2.trans (c7.mono (fun _ h=>h.elim) zd)
  cases D with
  |none=>
   obtain rfl:=hP;refine zh ?_;refine ax d3 2 zo (G6 _) rfl ?_;intro db w4 O4 a0 b7 e3 e8;refine zsa (us:=#[nS,nS]) a0 (yP _) ?_;have b6:uu (fun j=>j=2) O4 w4 O4 (w4.setRow db #[nS,nS]):=rj zd a0.tag rfl;have a6:=(b1.upd b7 zd zd).upd b6 zd zd;have c':=(a8.mono (S':=fun q=>q=1\/q=2) (fun _ h=>.inl h) zd).trans ((b7.trans b6).mono (fun _ h=>.inr h) zd);generalize w4.setRow db #[nS,nS]=w5 at *;refine zh ?_;refine zTH rfl rfl ?_;refine zvH (aF Gu (G6 _) rfl (by first|rfl|(simp only[qN,uY];rfl)) rfl rfl) ?_;refine zsa (us:=#[nS,nS]) a6 (yP _) ?_;have b0:=a6.setRow (us:=#[nS,nS]);have a7:uu (fun j=>j=1) O4 w5 O4 (w5.setRow cb #[nS,nS]):=rj zd a6.tag rfl;refine zh ?_;refine bA rfl rfl rfl (b0.cellsAdd) (Ib _) (yP _) (⟨(c'.trans (a7.mono (fun _ h=>.inl h) zd)).ext,7,zd,rfl⟩)
  |some d=>
   obtain⟨nv,tv,rfl,o1,o2,d7,d6⟩:=hP;obtain⟨S,f3⟩:=oE hd;have d1:=f3.right;refine zh ?_;refine ax (au w3) 2 zo (G6 _) rfl ?_;intro db w4 O4 a0 b7 e3 e8;refine zsb (us:=#[nv,tv]) a0 (yP _) (by simp only[qN,o1,o2];rfl) ?_;have c5:=a0.setRow (us:=#[nv,tv]);have b6:uu (fun j=>j=2) O4 w4 O4 (w4.setRow db #[nv,tv]):=rj zd a0.tag rfl;have a1:ze w3 (w4.setRow db #[nv,tv]):=(b7.trans b6).ext;generalize w4.setRow db #[nv,tv]=w5 at *;refine zh ?_;refine zFH rfl rfl ?_;refine zv (ai (us:=[nv,tv]) c5.cellsAdd (Ib _) (yP _) rfl) ?_;refine zc call64 (vR nv tv d.1 d.2 w5 (d7.ext a1) (d6.ext a1) d1) ?_;rintro _ w6 ⟨cl,b5,b4,rfl,p1,p2,e7,e0,b',b8,a9⟩;have b3:=a1.trans e7;have a5:=b1.ext b3;have e1:uu (fun q=>q=1) O1 w3 O1 w6:=aa zd O1 b3;have c9:=a8.trans e1;have d2:=d3.ext a1;refine zsb (us:=#[b5,b4]) a5 (yP _) (by simp only[qN,p1,p2];rfl) ?_;have b0:=a5.setRow (us:=#[b5,b4]);have a7:uu (fun j=>j=1) O1 w6 O1 (w6.setRow cb #[b5,b4]):=rj zd a5.tag rfl;have d0:w.heap.size<=w5.heap.size:=KG a8.size a1.size;refine zh ?_;refine bA rfl rfl rfl (b0.cellsAdd) (Ib _) (yP _) (⟨(c9.trans a7).ext,cl,b5,b4,rfl,p1,p2,d1,e0,(b'.upd d2 a7).mono d0,a9.slU b8 d2 a7,a9.mono d0⟩)
 have b9:stM se ts=none:=by unfold stM;rw[if_neg he]
 rw[b9];refine zTH rfl ((by simpa using he)) ?_;refine zvH (aF Gu (G6 _) rfl (by first|rfl|(simp only[qN,uY];rfl)) rfl rfl) ?_;refine zsa (us:=#[nS,nS]) a2 (yP _) ?_;have b0:=a2.setRow (us:=#[nS,nS]);have a7:uu (fun j=>j=1) O1 w2 O1 (w2.setRow cb #[nS,nS]):=rj zd a2.tag rfl;refine zh ?_;refine bA rfl rfl rfl (b0.cellsAdd) (Ib _) (yP _) (⟨(b2.trans a7).ext,dP ts,he,rfl⟩)
end Go.Proofs.YtlehnbkknlpkbaaGreatDoor
