/- Texts that the proof of this statement needs, merged and shortened. -/
import Derived.Test.YtpfpmhhigheccaaGreatDoorQWireDecodes3
open Go renaming Value->ix,World->ln,TypeId->GH,FuncId->J5,Program->Ky
open Go.VL.Ret renaming enter->G0
open List renaming replicate->G1,mem_singleton->G6,all_cons->G7,findIdx?_eq_some_iff_getElem->Gn,foldl_cons->Gp,range->Gx,take_length->GA,length_cons->GD,foldl_append->GF,findIdx?_eq_none_iff->GG,mem_map->GK,all_nil->GL,all_eq_true->GM,mem_cons->GV,length_append->I2,take_of_length_le->I4,any_eq_false->I5,eq_nil_of_length_eq_zero->Ic,nil_append->Ie,map_append->If,length_map->Ig,mem_range->Ip,dropWhile_cons_of_neg->Iq,drop_eq_getElem_cons->Ir,getElem?_eq_getElem->Iu,eq_of_mem_replicate->Iv,range_succ->IC,mem_append->ID,map_cons->IK,flatMap_cons->IM,takeWhile_append_dropWhile->IN,suffix_cons->IP,cons_append->IQ,takeWhile_cons_of_neg->IV,foldl_nil->IW,dropWhile_cons_of_pos->IX,pairwise_iff_getElem->J3,getElem_append_right->J4,getElem_append_left->Ja,find?_range_eq_some->Jb,map_nil->Jg,take_append_drop->Jm,length_singleton->Jn,dropWhile_suffix->Jo,getElem_of_mem->Jv,flatMap_append->Jw,findIdx?_cons->Jz,countP_append->JA,nodup_append->JF,length_range->JG,getElem_take->JH,not_mem_nil->JJ,length_take->JK,nodup_cons->JR,length_set->JS,append_nil->JT,take_take->JV,take_drop->JW,findIdx?->K1,map_map->K7
open Go.Proofs.Tryz renaming underlying9->G2,underlying25->G5,prog->Gt,sizeOf3->GI,sizeOf86->GN,sizeOf91->GS,sizeOf27->GT,zeroValue27->GX,zeroValue127->I0,zeroValue3->I6,underlying177->Ii,underlying172->Ij,isAgg86->Ik,zeroValue91->Iz,sizeOf88->IF,sizeOf47->IG,isAgg91->II,isAgg27->IL,sizeOf127->IY,zeroValue88->J6,zeroValue86->J7,underlying5->J8,isAgg88->Jf,underlying3->JM,sizeOf25->JN,call99->JZ,call130->K4,call80->Ki,call39->Kj,underlying119->Kl,underlying89->Kr,underlying47->Ku,underlying22->Kv,underlying21->Kw,call139->Kx,zeroValue30->KB,underlying4->KC,call96->KF,call66->KG,call29->KH
open Nat renaming zero_le->G4,lt_succ_iff_lt_or_eq->Gs,not_lt_zero->Gv,le_refl->Gw,sub_self->IB,mod_lt->JE,min_eq_left->JU,le_trans->K8,blt->K9,add_comm->Ka,le_succ->Kh
open Go.VL.Upd renaming setRow->G8,trans->GP,set->GQ,refl->Iy,drew->Js,ofDrew->JC,alloc->JP,putObj->Kk
open Go.VL.Ext renaming refl->G9,alloc->Ji
open Bool renaming and_eq_true->Gq,not_eq_true'->It,or_eq_true->IT,false_and->JX,true_and->K2,not_or->Kc
open Go.VL.WH renaming one->Gu,done->I3,leaf->IZ
open Go.VL.BlkO renaming upd->Gy,drew->Io,setRow->Jr,tag->JY
open UInt8 renaming ofNat->Gz
open Go.Value renaming oneCell'->GB,bool->Ib,int->JB,string->K0,slice->K5,agg->Ke
open Go.VL renaming Upd->GC,Ext->GR,BlkO->GW,Ret->I9,Ints->Is,Rng->IR,NewV->IS,RowT->J1,Free->Jy,Elem->KA
open Option.some renaming inj->GE
open Go.VL.RowT renaming nil->GJ,drew->Je
open Go.VL.Free renaming upd->GO
open Go.VL.RV renaming indexAddr->GU,len->Il,add->Im,lookup->IA,extract->IE,build->K6
open Go.VL.Sl renaming ext->GY,one->Jq,upd->Ko
open Go.VL.Fit renaming i64->GZ
open Go.Utf8 renaming valid->I1,decode->IH,encode->Jp
open Go.VL.WS renaming nil->I7,go->JO,call->KI
open Go.VL.WC renaming still->I8,tail->J0
open Go.World renaming drew->Ia,setRow->Jc,putObj_heap_same->Jd,cell?_alloc_at->Jk
open Classical renaming byContradiction->Ih
open Go.VL.WL renaming push->Iw,storeAt->J9,mapUpdate->Kd,val->Km
open Go.VL.Rng renaming upd->IJ,drew->Jt
open Go.Instr renaming next->IU
open Go.RowKit.Below renaming refl->J2,trans->Kf
open Int renaming eq_ofNat_of_zero_le->Jh,toNat_natCast->JL
open Decidable renaming not_not->Jj
open Go.Sem renaming run_bind->Jl,run->JI
open Go.Result renaming andThen_ok->Ju
open Go.Proofs.YtpfpmhhigheccaaGreatDoor renaming RightD->JD,RowsN->JQ,RowsG->KD
open Go.Exit renaming noGoto->Kb
open Go.Proofs.YtpfpmhhigheccaaGreatDoor.Nt renaming leaf->Kg
open List.Nodup renaming sublist->Kp
open Go.Addr renaming add->Kq
open List.cons renaming injEq->Kz
open Function renaming comp_apply->KE
open Go.IntKind renaming u64->KJ
open Go.Builtin renaming len_->KK
set_option maxRecDepth 10000
open Go.VL Go.Proofs Go.Proofs.Tryz
section
namespace Go.VL
section
variable{P:Ky}{N:Nat}{st:St}{w:ln}{t:GH}{x:Operand}
theorem Au{κ ν:Type}{kv:κ->ix}{vv:ν->ix}{T K E:GH}{O:Nat->Nat}{i r:Nat}{l:List (κ×ν)}(hm:MapO kv vv O w i r l)(hu:P.underlying T=some (.map K E))(hx:ev st x=some (.map (some r))):RV P N (.call ⟨.builtin .len,#[x],#[T]⟩) t st w (nI (l.length:Int)):=
 fun a ha a0 p e g=>by
  obtain⟨es,c,h1,h2⟩:=hm.blk;have h3:es.size=l.length:=by have:=congrArg List.length h2;simpa using this
  simp only[execOp,resolve,List.map_toArray,IK,Jg,ha.ev hx];simp[invoke,Go.builtin,KK,run_underlying hu,goInt,getObj,JI,h1,h3]
end
section
variable{P:Ky}{N:Nat}{ops:Array Oper}{Q:Exit→Act→ln→Prop}{rest:List Oper}{st:St}{w:ln}
variable{t:GH}{p:String}{e:Array Edge}{d:Nat}
theorem gQ{T E:GH}{sz a0:Nat}(he:KA P T E sz a0){α:Type}(enc:α->List ix){B:Nat}{O:Nat->Nat}(r:IR B O w)(i:Nat)(a1:i≠0)(hd:K9 d N=true) 
  (h:∀v w' O',J1 enc E sz O' w' i v []->GC (fun k=>k=i) O w O' w'->IR B O' w'->WL P N ops Q rest ((d,v)::st) w'):WL P N ops Q (⟨some d,.buildSlice T 0 #[],t,p,e,none⟩::rest) st w:=by
 obtain⟨a2,z,hi,hz,a4,a5,a3⟩:=he.parts;have u1:=JP (S:=fun k=>k=i) (fun e=>a1 e.symm) r (.cells #[] E) i;refine Km (v:=.slice (some ⟨w.heap.size,0,none⟩) 0 0) (w':=w.alloc (.cells #[] E)) hd (fun a ha=>?_) (h _ _ (kW O w.heap.size i) ⟨⟨?_,fun g hg=>?_⟩,fun c hc=>absurd hc (by simp)⟩ u1 (r.upd u1))
 ·simp[execOp,Instr.buildSlice,run_underlying he.ht,sizeOf,typeInfo,hi,Instr.fill,newRow,newObj,show Array.range 0 = #[]from rfl];rfl
 ·have:=World.ownsRow_lit (base:=0) (size:=sz) (e:=E) w #[] 0 (G4 _) (by simp[maxLen]) (by simp);simpa using this
 simp[Value.ownBlock]at hg;subst hg;exact dr _ _ _
end
end Go.VL
namespace Go.Proofs.YtpfpmhhigheccaaGreatDoor
open Go.VL Go.Proofs
set_option maxRecDepth 10000
def ec:List Int->Nat->Nat
 |[],n=>n
 |g::r,n=>if g<0\/(n:Int)<g then 0 else ec r (max n (g.toNat+1))
def fy(l:List Int):Nat:=if l.length=37 then ec l 0 else 0
theorem gX(l:List Int)(sv:ix)(w:ln)(h:Sl encI 1 w sv l): I9 Gt 29 [sv] w fun v w' => v = .int .i64 ((fy l:Nat):Int) ∧ w' = w := by
  have hl := h.len_le
  refine G0 func29 ntmps29 rfl rfl ?_
  refine zh ?_
  refine zC ?_ ?_
  · intro hne
    refine zh ?_
    refine ae rfl rfl (⟨by unfold fy; rw[if_neg (fun e => by rw[e]at hne; simp at hne)]; rfl, rfl⟩)
  · intro he
    replace he : l.length = 37 := by have : (l.length : Int) = 37 := by simpa using he
                                     omega
    have hm:fy l = ec l 0 := by unfold fy; rw[if_pos he]
    rw[hm]
    refine zh ?_
    refine zlp (fun z:Nat×Nat => [(3, .int .i64 z.2), (9, sv), (10, .int .i64 l.length), (11, .int .i64 z.1)]) (fun z => w) (fun z => z.1 ≤ l.length ∧ z.2 ≤ z.1 ∧ ec (l.drop z.1) z.2 = ec l 0) (fun z => l.length - z.1) (0, 0) (⟨G4 _, Gw _, rfl⟩) ?_
    rintro⟨i, n⟩ ⟨hi, hn, heq⟩
    dsimp only at hi hn heq ⊢
    refine zh ?_
    refine zC ?_ ?_
    · intro hlt
      replace hlt:i < l.length := by have := of_decide_eq_true hlt; omega
      have m1:w.cell? (adr sv 1 i) = some (.int .i64 (nth l i)) := by have := h.cell (i := i) (j := 0) hlt rfl; rwa[az]at this
      rw[Ir hlt, ← aB hlt, ec]at heq
      refine zh ?_
      by_cases h0:nth l i < 0
      · rw[if_pos (.inl h0)]at heq
        rw[← heq]
        refine ao (d := 17) rfl (b' := true) ((decide_eq_true h0)) ?_
        refine zh ?_
        refine zTH rfl rfl ?_
        refine ae rfl rfl (⟨rfl, rfl⟩)
      · skip
        refine ao (d := 17) rfl (b' := false) ((decide_eq_false h0)) ?_
        refine zh ?_
        refine zC ?_ ?_
        · intro h1
          replace h1:(n:Int) < nth l i := of_decide_eq_true h1
          rw[if_pos (.inr h1)]at heq
          rw[← heq]
          refine zh ?_
          refine ae rfl rfl (⟨rfl, rfl⟩)
        · intro h1
          replace h1:¬(n:Int) < nth l i := of_decide_eq_false h1
          rw[if_neg (fun h => h.elim h0 h1)]at heq
          refine zh ?_
          refine zvH (jg rfl rfl) ?_
          rw[show max (n:Int) (nth l i + 1) = ((max n ((nth l i).toNat + 1):Nat):Int)from by omega]
          refine zxd (i + 1, max n ((nth l i).toNat + 1)) (⟨hlt, by dsimp only; omega, heq⟩)
    · intro hge
      obtain rfl:i = l.length := by have := of_decide_eq_false hge; omega
      rw[List.drop_length, ec]at heq
      rw[← heq]
      refine zh ?_
      refine ae rfl rfl (⟨rfl, rfl⟩)
abbrev xc(d:ix×ix):List ix:=[d.1,d.2]
def oK(rows:List (List Nat))(m:Nat):List UInt8:=rows.flatMap fun r=>[Gz (nth r m / 256),Gz (nth r m % 256)]
def mI(tabs:List (List (List Nat)))(m:Nat):List UInt8:=tabs.flatMap fun rows=>oK rows m
theorem jS(rows:List (List Nat))(m:Nat):(oK rows m).length=2*rows.length:=by
 unfold oK
 induction rows with
 |nil=>rfl
 |cons r l ih=>rw[IM,I2,ih];simp;omega
structure TabsD(w:ln)(sv:ix)(ds:List (ix×ix))(tabs:List (List (List Nat)))(tlss:List (List Nat)):Prop where
 sl:Sl xc 2 w sv ds
 l1:tabs.length=ds.length
 l2:tlss.length=ds.length
 at_:∀i,i<ds.length->JQ w (nth ds i).1 (nth tabs i)/\Sl ff 1 w (nth ds i).2 (nth tlss i)/\JD (nth tabs i) (nth tlss i)
theorem TabsD.ext{w w':ln}{sv:ix}{ds:List (ix×ix)}{tabs:List (List (List Nat))}{a0:List (List Nat)}(h:TabsD w sv ds tabs a0)(e:GR w w'):TabsD w' sv ds tabs a0:=
 ⟨h.sl.ext e,h.l1,h.l2,fun i hi=>⟨(h.at_ i hi).1.ext e,(h.at_ i hi).2.1.ext e,(h.at_ i hi).2.2⟩⟩
theorem RowsN.one{w:ln}{v:ix}{rows:List (List Nat)}(h:JQ w v rows):v.oneCell'=true:=by
 obtain⟨vs,h1,_⟩:=h;exact h1.one
theorem xh(ds:List (ix×ix))(tabs:List (List (List Nat)))(b3:List (List Nat))(sv:ix)(m:Nat)(w:ln)(h:TabsD w sv ds tabs b3)(hm:m<37)(e7:ds.length<=1000):
  I9 Gt 63 [sv,nI (m:Nat)] w fun v w'=>v=.string (bs (mI tabs m))/\GR w w':=by
 have d2:=h.l1;have e4:=h.sl;refine G0 func63 ntmps63 rfl rfl ?_;refine zh ?_;refine zlp (fun z:Nat×ix×(Nat->Nat)×World=>[(1,nI (m:Nat)),(5,z.2.1),(10,sv),(11,nI ds.length),(12,nI z.1)]) (fun z=>z.2.2.2) (fun z=>z.1<=ds.length/\J1 zT 5 1 z.2.2.1 z.2.2.2 1 z.2.1 (mI (tabs.take z.1) m)/\(mI (tabs.take z.1) m).length<=2000*z.1/\GC (fun q=>1<=q) (fun _=>0) w z.2.2.1 z.2.2.2/\IR w.heap.size z.2.2.1 z.2.2.2) (fun z=>ds.length-z.1) (0,nS,fun _=>0,w) (⟨G4 _,GJ _ _ _ _ _ _,G4 _,Iy zd _ _,aw w⟩) ?_;rintro⟨i,v1,O1,w1⟩ ⟨hi,a2,d3,hU,hR⟩;dsimp only at hi a2 d3 hU hR ⊢;have h1:=h.ext hU.ext;have d1:=h1.sl;refine zh ?_;refine zC ?_ ?_
 ·intro a5;replace a5:i<ds.length:=dT a5;obtain⟨c9,c7,b8⟩:=h1.at_ i a5;have o1:=c9.one;have o2:=c7.one;obtain⟨rows,a1⟩:∃rows,rows=nth tabs i:=⟨_,rfl⟩
  rw[<-a1]at c9 b8;have e5:=b8.le;have c8:mI (tabs.take (i+1)) m=mI (tabs.take i) m++oK rows m:=by
   unfold mI;rw[aF zo,Jw,<-a1];simp
  refine zh ?_;refine zv (ah (us:=xc (nth ds i)) (fun j u hu=>d1.cell a5 hu) (II _) (GS _) rfl) ?_
  refine ar hR 2 zo (Iz _) rfl ?_;intro db w2 O2 a4 d9 e1 e8;refine zsb (us:=#[(nth ds i).1,(nth ds i).2]) a4 (GS _) (by simp only[G7,o1,o2];rfl) ?_
  have b':=a4.setRow (us:=#[(nth ds i).1,(nth ds i).2]);have c':GC (fun j=>j=2) O2 w2 O2 (w2.setRow db #[(nth ds i).1,(nth ds i).2]):=G8 zd a4.tag rfl;have b0:=d9.trans c';have a9:=a2.upd b0 zd zd;have e0:=e1.upd c';have b2:=hU.trans (b0.mono (fun _ h=>zo) zd);generalize w2.setRow db #[(nth ds i).1,(nth ds i).2]=w3 at *;have c0:w3.cell? (nA db 0)=some (nth ds i).1:=b'.cell 0 rfl;have b7:JQ w (nth ds i).1 rows:=by rw[a1];exact(h.at_ i a5).1
  obtain⟨vs,a6,e3,a7⟩:=b7;have e2:=a6.ext b2.ext;refine zh ?_;refine zlp (fun y:Nat×ix×(Nat->Nat)×World=>[(1,nI (m:Nat)),(5,y.2.1),(10,sv),(11,nI ds.length),(12,nI i),(17,(nth ds i).1),(18,nI vs.length),(19,nI y.1)]) (fun y=>y.2.2.2) (fun y=>y.1<=rows.length/\J1 zT 5 1 y.2.2.1 y.2.2.2 1 y.2.1 (mI (tabs.take i) m++oK (rows.take y.1) m)/\GC (fun q=>1<=q) (fun _=>0) w y.2.2.1 y.2.2.2/\IR w.heap.size y.2.2.1 y.2.2.2) (fun y=>rows.length-y.1) (0,v1,O2,w3) (⟨G4 _,by dsimp only;rw[List.take_zero];exact(by simpa[oK]using a9),b2,e0⟩) ?_;rintro⟨j,v4,O4,w4⟩ ⟨hj,a0,a',c6⟩;dsimp only at hj a0 a' c6 ⊢;have b5:=a6.ext a'.ext;have d6:=jS (rows.take j) m;have c7:(rows.take j).length<=j:=by simp;omega
  refine zh ?_;refine zC ?_ ?_
  ·intro a3;replace a3:j<rows.length:=dT a3;have b9:=(a7 j a3).ext a'.ext;obtain⟨r1,r2⟩:=b8.row j a3;obtain⟨p,hp⟩:∃p,p=nth (nth rows j) m:=⟨_,rfl⟩
   have e6:p<=999:=by have:=r2 m hm;rw[<-hp]at this;omega
   have m1:w4.cell? (adr (nth ds i).1 1 j)=some (nth vs j):=by have:=b5.cell (i:=j) (j:=0) zo rfl;rwa[az]at this
   have b6:oK (rows.take (j+1)) m=oK (rows.take j) m++[Gz (p / 256),Gz (p % 256)]:=by
    unfold oK;rw[aF a3,Jw,hp];simp
   refine zh ?_;have k1:w4.drew.cell? (adr (nth vs j) 1 m)=some (nI (p:Int)):=by have:=b9.cell (i:=m) (j:=0) zo rfl;rw[az]at this;rw[hp];exact this
   refine aK (fun W=>W.cell? (adr (nth vs j) 1 m)=some (nI (p:Int))) 15 rfl zk ?_;refine zrm 0 rfl k1 rfl ?_
   refine zrm 1 rfl k1 rfl ?_;refine zrm 2 rfl k1 rfl ?_
   refine zr 3 rfl k1 (fun _=>aA b9.sh G5 (GI _) rfl rfl m rfl zo) ?_;refine zt 4 rfl k1 (fun w1 b4=>RV.ld b4 rfl) ?_
   refine zr 5 rfl k1 (fun _=>gS (a:=p) (b:=8) rfl rfl rfl rfl zd) ?_;refine zr 6 rfl k1 (fun _=>jZ JM J8 rfl) ?_
   refine zrm 7 rfl k1 rfl ?_;refine zrm 8 rfl k1 rfl ?_
   refine zr 9 rfl k1 (fun _=>aA b9.sh G5 (GI _) rfl rfl m rfl zo) ?_;refine zt 10 rfl k1 (fun w1 b4=>RV.ld b4 rfl) ?_
   refine zr 11 rfl k1 (fun _=>jZ JM J8 rfl) ?_;rw[oW p,oW (p / 2^8),show p / 2^8 % 256=p / 256 from by omega];refine Gu 12 zk rfl ?_
   refine iB Kv (sizeOf5 _) (zeroValue5 _) zT [Gz (p / 256),Gz (p % 256)] rfl rfl rfl rfl zk (by simp) rfl ?_;intro bv w5 d7 d0;have c5:GC (fun _=>False) O4 w4 O4 w5:=(aa (fun h=>h) O4 (G9 w4).drew).trans (aa (fun h=>h) O4 d0);refine zh ?_
   refine af (d0.cell k1) ?_;refine Gu 13 zk rfl ?_
   refine aC F4 (a0.upd c5 zd fun h=>h) (c6.upd c5) d7 (by simp) rfl rfl (by simp) (by simp[GB]) (by simp;omega) (by simp;omega) zd rfl ?_;intro v6 w6 O6 a8 d8 d';have b1:GC (fun q=>1<=q) (fun _=>0) w O6 w6:=(a'.trans (c5.mono (fun _ h=>h.elim) zd)).trans (d8.mono (fun _ h=>zo) zd);have k6:w6.cell? (adr (nth vs j) 1 m)=some (nI (p:Int)):=by have:=((a7 j a3).ext b1.ext).cell (i:=m) (j:=0) zo rfl;rw[az]at this;rw[hp];exact this
   refine zh ?_;refine af (k6) ?_
   refine zra 14 rfl (k6) rfl ?_;refine I3 zk ?_
   refine zh ?_;refine zxd (j+1,v6,O6,w6) (⟨a3,by dsimp only;rw[b6,<-List.append_assoc];exact a8,b1,d'⟩)
  intro d4;obtain rfl:j=rows.length:=dF d4;rw[GA]at a0 d6;refine zh ?_;refine zxd (i+1,v4,O4,w4) (⟨a5,by dsimp only;rw[c8];exact a0,by dsimp only;rw[c8,I2];omega,a',c6⟩)
 intro d5;obtain rfl:i=ds.length:=dF d5;rw[<-d2,GA]at a2;refine zh ?_;refine zvH (dx a2.sl Kv J8 G2 rfl) ?_;refine ae rfl rfl (⟨rfl,hU.ext⟩)
end Go.Proofs.YtpfpmhhigheccaaGreatDoor
end
namespace Go.Proofs.YtpfpmhhigheccaaGreatDoor
def xG(S:List (List UInt8))(k:List UInt8):Option Nat:=S.findIdx? (· == k)
def Ae(S:List (List UInt8))(k:List UInt8):List (List UInt8):=if(xG S k).isSome=true then S else S++[k]
def AD(S:List (List UInt8))(k:List UInt8):Nat:=(xG S k).getD S.length
def cN(ks:List (List UInt8)):Nat->List (List UInt8)×List Nat
 |0=>([],[])
 |i+1=>(Ae (cN ks i).1 (nth ks i),(cN ks i).2++[AD (cN ks i).1 (nth ks i)])
theorem zz{S:List (List UInt8)}{s t:List UInt8}(h:xG S s=none):xG (S++[s]) t=if s=t then some S.length else xG S t:=by
 unfold xG at h ⊢;rw[List.findIdx?_append]
 by_cases e:s=t
 ·rw[if_pos e];have:K1 (fun o=>o==t) S=none:=by rw[<-e];exact h
  rw[this];simp[Jz,e]
 rw[if_neg e]
 cases K1 (fun o=>o==t) S with
 |some k=>simp
 |none=>simp[Jz,e]
theorem ml(ks:List (List UInt8)):∀i,(cN ks i).2.length=i/\(cN ks i).1.length<=i
 |0=>⟨rfl,Gw _⟩
 |i+1=>by
  obtain⟨h1,h2⟩:=ml ks i;unfold cN;refine⟨by simp[h1],?_⟩;dsimp only;unfold Ae
  split
  ·omega
  simp;omega
structure NumK(D:List (ByteArray×Int))(S:List (List UInt8)):Prop where
 at_:∀k,bf D (bs k)=(xG S k).map fun n:Nat=>(n:Int)
 len:D.length=S.length
theorem BC{κ ν:Type}[DecidableEq κ]{l:List (κ×ν)}{k:κ}(h:bf l k=none)(x:ν):bZ l k x=l++[(k,x)]:=by
 induction l with
 |nil=>rfl
 |cons p r ih=>
  obtain⟨a,y⟩:=p;simp only[bf]at h
  split at h
  ·cases h
  rename_i hn;simp only[bZ,if_neg hn,ih h,IQ]
theorem NumK.add{D:List (ByteArray×Int)}{S:List (List UInt8)}(h:NumK D S){s:List UInt8}(hs:xG S s=none):NumK (bZ D (bs s) (D.length:Int)) (S++[s]):=by
 refine⟨fun k=>?_,?_⟩
 ·rw[aL,zz hs]
  by_cases e:s=k
  ·rw[if_pos (by rw[e]),if_pos e,h.len];rfl
  rw[if_neg (fun e2=>e (BZ e2)),if_neg e];exact h.at_ k
 rw[BC (by rw[h.at_,hs];rfl)];simp[h.len]
theorem qY(ks:List (List UInt8))(sv:ix)(w:ln)(h:Sl encS 1 w sv ks)(c5:ks.length<=1000):I9 Gt 64 [sv] w fun v w'=>Sl aJ 1 w' v (cN ks ks.length).2/\GR w w'/\IS w.heap.size v:=by
 refine G0 func64 ntmps64 rfl rfl ?_;refine zh ?_
 refine aV K0 (fun v:Int=>nI v) (aw w) 2 zd rfl ?_;intro r w1 O1 b8 b1 b5;have h1:=h.ext b1.ext;refine zh ?_
 refine zlp (fun z:Nat×ix×(Nat->Nat)×World×List (ByteArray×Int)=>[(3,.map (some r)),(4,z.2.1),(10,sv),(11,nI ks.length),(12,nI z.1)]) (fun z=>z.2.2.2.1) (fun z=>z.1<=ks.length/\J1 aJ 3 1 z.2.2.1 z.2.2.2.1 1 z.2.1 (cN ks z.1).2/\MapO K0 (fun v:Int=>nI v) z.2.2.1 z.2.2.2.1 2 r z.2.2.2.2/\NumK z.2.2.2.2 (cN ks z.1).1/\GC (fun q=>1<=q) (fun _=>0) w z.2.2.1 z.2.2.2.1/\IR w.heap.size z.2.2.1 z.2.2.2.1) (fun z=>ks.length-z.1) (0,nS,O1,w1,[]) (⟨G4 _,GJ _ _ _ _ _ _,b8,⟨fun k=>rfl,rfl⟩,b1.mono (fun _ h=>zo) zd,b5⟩) ?_;rintro⟨i,v2,O2,w2,D⟩ ⟨hi,a0,a3,hN,a8,a9⟩;dsimp only at hi a0 a3 hN a8 a9 ⊢;have h2:=h.ext a8.ext;obtain⟨b',b9⟩:=ml ks i;refine zh ?_
 refine zC ?_ ?_
 ·intro a6;replace a6:i<ks.length:=dT a6;obtain⟨k,hk⟩:∃k,k=nth ks i:=⟨_,rfl⟩
  have m1:w2.cell? (adr sv 1 i)=some (.string (bs k)):=by have:=h2.cell (i:=i) (j:=0) a6 rfl;rw[az]at this;rw[hk];exact this
  have a7:=hN.at_ k;have e1:cN ks (i+1)=(Ae (cN ks i).1 k,(cN ks i).2++[AD (cN ks i).1 k]):=by rw[hk];rfl
  refine zh ?_
  cases a2:xG (cN ks i).1 k with
  |some q=>
   rw[a2]at a7;have f1:Ae (cN ks i).1 k=(cN ks i).1:=by unfold Ae;rw[a2];rfl
   have f2:AD (cN ks i).1 k=q:=by unfold AD;rw[a2];rfl
   rw[f1,f2]at e1;refine zvH (cy (u:=.tuple #[nI (q:Int),.bool true]) a3 Ij rI (I6 _) (bs k) rfl rfl rfl (by rw[a7];rfl)) ?_;refine zFH rfl rfl ?_;refine zv (IA (u:=nI (q:Int)) a3 Ij rI (I6 _) (bs k) rfl rfl rfl (by rw[a7];rfl)) ?_;refine Iw jj a0 a9 ((q:Nat)) (fun _=>rfl) rfl rfl rfl (by simp[GB]) zo zo zo zd rfl rfl ?_;intro v3 w3 O3 a1 a4 a';refine zh ?_;refine zxd (i+1,v3,O3,w3,D) (⟨a6,by dsimp only;rw[e1];exact a1,a3.upd a4 zd zd,by dsimp only;rw[e1];exact hN,a8.trans (a4.mono (fun _ h=>zo) zd),a'⟩)
  |none=>
   rw[a2]at a7;have f1:Ae (cN ks i).1 k=(cN ks i).1++[k]:=by unfold Ae;rw[a2];rfl
   have f2:AD (cN ks i).1 k=(cN ks i).1.length:=by unfold AD;rw[a2];rfl
   rw[f1,f2]at e1;have b6:=hN.add a2;have b7:=hN.len;refine zvH (cy (u:=.tuple #[nI 0,.bool false]) a3 Ij rI (I6 _) (bs k) rfl rfl rfl (by rw[a7];rfl)) ?_;refine zTH rfl rfl ?_;refine zv (Au a3 Ij rfl) ?_;refine Kd a3 Ij rI zd (bs k) (D.length:Int) rfl rfl rfl rfl rfl ?_;intro w3 b2 a4;have a1:=a0.upd a4 zd zd;have a':=a9.upd a4;refine zh ?_;refine zv (IA (u:=nI (((cN ks i).1.length:Nat):Int)) b2 Ij rI (I6 _) (bs k) rfl rfl rfl (by rw[aL,if_pos rfl,b7];rfl)) ?_;refine Iw jj a1 a' (((cN ks i).1.length:Nat)) (fun _=>rfl) rfl rfl rfl (by simp[GB]) zo zo zo zd rfl rfl ?_;intro v4 w4 O4 a5 b0 b4;refine zh ?_;refine zxd (i+1,v4,O4,w4,bZ D (bs k) (D.length:Int)) (⟨a6,by dsimp only;rw[e1];exact a5,b2.upd b0 zd zd,by dsimp only;rw[e1];exact b6,(a8.trans (a4.mono (fun _ h=>zo) zd)).trans (b0.mono (fun _ h=>zo) zd),b4⟩)
 intro b3;obtain rfl:i=ks.length:=dF b3;refine zh ?_;refine ae rfl rfl (⟨a0.sl,a8.ext,a0.newV zd a9⟩)
theorem elD:KA Gt 119 91 2 48:=⟨Kl,by kernel_rfl,zd⟩
theorem xk(l:List (ix×ix))(sv:ix)(w:ln)(h:Sl xc 2 w sv l)(hz:∀u∈l,(xc u).length=2)(h1:∀u∈l,∀c∈xc u,c.oneCell'=true)(hl:l.length<=100000):
  I9 Gt 60 [sv] w fun v w'=>Sl xc 2 w' v l/\GR w w'/\∀(B:Nat) (O:Nat->Nat),IR B O w->Jy O w' v:=by
 obtain⟨a,c,rfl,_,_,ha⟩:=h.shape;refine G0 func60 ntmps60 rfl rfl ?_;refine zh ?_;refine zvH (fW Kl rfl rfl) ?_
 cases a with
 |none=>
  have a4:l=[]:=Ic (Ih fun a3=>by obtain⟨b,o,e⟩:=ha a3;cases e);subst a4;refine zTH rfl rfl ?_;refine ae rfl rfl (⟨(GJ xc 0 2 (fun _=>0) w 0).sl,G9 _,fun B O _ a n c e hn=>by cases e⟩)
 |some a=>
  refine zFH rfl rfl ?_;refine gQ elD xc (aw w) 1 zd rfl ?_
  intro v1 w1 O1 a1 a2 a7;have h2:=h.ext a2.ext;refine zh ?_;refine cx elD a1 a7 h2 rfl rfl hz h1 (by simp;omega) (by simp;omega) zd rfl ?_;intro v2 w2 O2 a0 a5 a6;refine zh ?_;refine ae rfl rfl (⟨by have:=a0.sl;rwa[Ie]at this,(a2.trans a5).ext,fun B O hO=>a0.free zd a6 hO⟩)
theorem oL(l:List (Nat))(sv:ix)(w:ln)(h:Sl aJ 1 w sv l)(hz:∀u∈l,(aJ u).length=1)(h1:∀u∈l,∀c∈aJ u,c.oneCell'=true)(hl:l.length<=100000):
  I9 Gt 95 [sv] w fun v w'=>Sl aJ 1 w' v l/\GR w w'/\∀(B:Nat) (O:Nat->Nat),IR B O w->Jy O w' v:=by
 obtain⟨a,c,rfl,_,_,ha⟩:=h.shape;refine G0 func95 ntmps95 rfl rfl ?_;refine zh ?_;refine zvH (fW G5 rfl rfl) ?_
 cases a with
 |none=>
  have a4:l=[]:=Ic (Ih fun a3=>by obtain⟨b,o,e⟩:=ha a3;cases e);subst a4;refine zTH rfl rfl ?_;refine ae rfl rfl (⟨(GJ aJ 0 1 (fun _=>0) w 0).sl,G9 _,fun B O _ a n c e hn=>by cases e⟩)
 |some a=>
  refine zFH rfl rfl ?_;refine gQ jj aJ (aw w) 1 zd rfl ?_
  intro v1 w1 O1 a1 a2 a7;have h2:=h.ext a2.ext;refine zh ?_;refine cx jj a1 a7 h2 rfl rfl hz h1 (by simp;omega) (by simp;omega) zd rfl ?_;intro v2 w2 O2 a0 a5 a6;refine zh ?_;refine ae rfl rfl (⟨by have:=a0.sl;rwa[Ie]at this,(a2.trans a5).ext,fun B O hO=>a0.free zd a6 hO⟩)
theorem kL(l:List (Nat))(sv:ix)(w:ln)(h:Sl ff 1 w sv l)(hz:∀u∈l,(ff u).length=1)(h1:∀u∈l,∀c∈ff u,c.oneCell'=true)(hl:l.length<=100000):
  I9 Gt 96 [sv] w fun v w'=>Sl ff 1 w' v l/\GR w w'/\∀(B:Nat) (O:Nat->Nat),IR B O w->Jy O w' v:=by
 obtain⟨a,c,rfl,_,_,ha⟩:=h.shape;refine G0 func96 ntmps96 rfl rfl ?_;refine zh ?_;refine zvH (fW underlying28 rfl rfl) ?_
 cases a with
 |none=>
  have a4:l=[]:=Ic (Ih fun a3=>by obtain⟨b,o,e⟩:=ha a3;cases e);subst a4;refine zTH rfl rfl ?_;refine ae rfl rfl (⟨(GJ ff 0 1 (fun _=>0) w 0).sl,G9 _,fun B O _ a n c e hn=>by cases e⟩)
 |some a=>
  refine zFH rfl rfl ?_;refine gQ iE ff (aw w) 1 zd rfl ?_
  intro v1 w1 O1 a1 a2 a7;have h2:=h.ext a2.ext;refine zh ?_;refine cx iE a1 a7 h2 rfl rfl hz h1 (by simp;omega) (by simp;omega) zd rfl ?_;intro v2 w2 O2 a0 a5 a6;refine zh ?_;refine ae rfl rfl (⟨by have:=a0.sl;rwa[Ie]at this,(a2.trans a5).ext,fun B O hO=>a0.free zd a6 hO⟩)
theorem nF{F:J5}(hF:∀(args:Array ix) (w:ln),(callFunc F args).run Gt w=.ok (.enter F args) w)(cs:Array ix)(l:List (ix×ix))(sv:ix)(q:Nat->Bool)(w:ln)(h:Sl xc 2 w sv l) 
  (hq:∀i,i<l.length->∀w',GR w w'->I9 Gt F ([(fun d:ix×ix=>Ke #[d.1,d.2]) (nth l i)]++cs.toList) w' fun v w''=>v=.bool (q i)/\GR w' w'') :
  I9 Gt 93 [sv,.func (.func F) #[] cs] w fun v w'=>v=nI (dh q l.length)/\GR w w':=by
 have hl:=h.len_le;refine G0 func93 ntmps93 rfl rfl ?_;refine zh ?_;refine zlp (fun x:Nat×ln=>[(0,sv),(1,.func (.func F) #[] cs),(7,nI l.length),(8,nI x.1)]) (fun x=>x.2) (fun x=>x.1<=l.length/\GR w x.2/\∀i,i<x.1->q i=false) (fun x=>l.length-x.1) (0,w) (⟨G4 _,G9 _,fun i hi=>absurd hi (Gv i)⟩) ?_;rintro⟨k,w1⟩ ⟨hk,hE,a1⟩;dsimp only at hk hE a1 ⊢;have h1:=h.ext hE;refine zh ?_;refine zC ?_ ?_
 ·intro a0;replace a0:k<l.length:=dT a0;refine zh ?_;refine zv (ah (us:=xc (nth l k)) (fun j u hu=>h1.cell a0 hu) (II _) (GS _) rfl) ?_;refine df rfl hF rfl (hq k a0 w1 hE) rfl ?_;rintro v w2 ⟨rfl,a3⟩;refine zh ?_;refine zC ?_ ?_
  ·intro hy;refine zh ?_;refine ae rfl rfl (⟨by rw[bY a0 hy a1],hE.trans a3⟩)
  intro hy;refine zh ?_;refine zxd (k+1,w2) (⟨a0,hE.trans a3,fun i hi=>(Gs.1 hi).elim (a1 i) (fun e=>by rw[e];exact hy)⟩)
 intro a2;replace a2:l.length<=k:=dF a2;refine zh ?_;refine ae rfl rfl (⟨by rw[bW fun i hi=>a1 i zo],hE⟩)
theorem tG(nv tv:ix)(rows:List (List Nat))(a0:List Nat)(w:ln)(hn:JQ w nv rows)(a2:Sl ff 1 w tv a0)(hr:JD rows a0):I9 Gt 61 [.agg #[nv,tv]] w fun v w'=>v=.bool false/\GR w w':=by
 refine G0 func61 ntmps61 rfl rfl ?_;refine zh ?_
 refine aG (aw w) 1 zo rfl rfl ?_;intro db w1 O1 a3 a5 a6 a1;refine zh ?_
 refine zv (ah (us:=[nv,tv]) a3.cellsAdd (II _) (GS _) rfl) ?_;refine zc call62 (jc nv tv rows a0 w1 (hn.ext a1) (a2.ext a1) hr) ?_
 rintro _ w2 ⟨rfl,a4⟩;refine zh ?_;refine ae rfl rfl (⟨rfl,a1.trans a4⟩)
theorem tL{F:J5}(hF:∀(args:Array ix) (w:ln),(callFunc F args).run Gt w=.ok (.enter F args) w)(cs:Array ix)(l:List (ix×ix))(sv:ix)(w:ln)(h:Sl xc 2 w sv l) 
  (hq:∀i,i<l.length->∀w',GR w w'->I9 Gt F ([(fun d:ix×ix=>Ke #[d.1,d.2]) (nth l i)]++cs.toList) w' fun v w''=>v=.bool false/\GR w' w'') :
  I9 Gt 59 [sv,.func (.func F) #[] cs] w fun v w'=>v=sv/\GR w w':=by
 refine G0 func59 ntmps59 rfl rfl ?_;refine zh ?_
 refine zc call93 (nF hF cs l sv (fun _=>false) w h hq) ?_;rintro _ w1 ⟨rfl,a0⟩;rw[bW (q:=fun _=>false) fun i hi=>rfl];refine zh ?_
 refine zTH rfl rfl ?_;refine ae rfl rfl (⟨rfl,a0⟩)
def bt(tabs:List (List (List Nat))):List Nat:=(cN ((Gx 37).map (mI tabs)) 37).2
theorem FE:KA Gt 123 9 1 16:=⟨underlying123,by kernel_rfl,zd⟩
theorem vW(ds:List (ix×ix))(tabs:List (List (List Nat)))(a2:List (List Nat))(sv:ix)(w:ln)(h:TabsD w sv ds tabs a2)(b8:ds.length<=1000):
  I9 Gt 36 [sv] w fun v w'=>Sl aJ 1 w' v (bt tabs)/\GR w w'/\IS w.heap.size v:=by
 have b5:=h.sl;have a8:∀u∈ds,∀c∈xc u,c.oneCell'=true:=fun u hu c hc=>by
  obtain⟨j,hj,rfl⟩:=Gm hu
  rcases GV.1 hc with rfl|hc
  ·exact(h.at_ j hj).1.one
  rw[G6.1 hc];exact(h.at_ j hj).2.1.one
 refine G0 func36 ntmps36 rfl rfl ?_;refine zh ?_
 refine zc call60 (xk ds sv w b5 (fun _ _=>rfl) a8 zo) ?_;rintro a6 w1 ⟨b2,a',_⟩;refine zc call59 (tL call61 #[] ds a6 w1 b2 (fun i hi w' b0=>tG _ _ _ _ w' ((h.at_ i hi).1.ext (a'.trans b0)) ((h.at_ i hi).2.1.ext (a'.trans b0)) (h.at_ i hi).2.2)) ?_
 rintro v2 w2 ⟨b1,b4⟩;rw[b1];clear b1 v2;have a1:=a'.trans b4;have c5:TabsD w2 a6 ds tabs a2:=⟨b2.ext b4,h.l1,h.l2,fun i hi=>⟨(h.at_ i hi).1.ext a1,(h.at_ i hi).2.1.ext a1,(h.at_ i hi).2.2⟩⟩
 refine zh ?_;refine zlp (fun z:Nat×ix×(Nat->Nat)×World=>[(0,a6),(3,z.2.1),(8,nI z.1)]) (fun z=>z.2.2.2) (fun z=>z.1<=37/\J1 encS 9 1 z.2.2.1 z.2.2.2 1 z.2.1 ((Gx z.1).map (mI tabs))/\GC (fun q=>q=1) (fun _=>0) w2 z.2.2.1 z.2.2.2/\IR w2.heap.size z.2.2.1 z.2.2.2) (fun z=>37-z.1) (0,nS,fun _=>0,w2) (⟨G4 _,GJ _ _ _ _ _ _,Iy zd _ _,aw w2⟩) ?_
 rintro⟨m,v3,O3,w3⟩ ⟨hm,a0,a5,b3⟩;dsimp only at hm a0 a5 b3 ⊢;have b':=c5.ext a5.ext;refine zh ?_;refine zC ?_ ?_
 ·intro a7;replace a7:m<37:=dT a7;refine zh ?_;refine zc call63 (xh ds tabs a2 a6 m w3 b' a7 b8) ?_;rintro _ w4 ⟨rfl,c8⟩;have a9:GC (fun _=>False) O3 w3 O3 w4:=aa (fun h=>h) O3 c8;have a4:=a0.upd a9 zd (fun h=>h);have c9:((Gx m).map (mI tabs)).length=m:=by simp
  refine Iw FE a4 (b3.upd a9) ((mI tabs m)) (fun _=>rfl) rfl rfl rfl (by simp[GB]) zo zo zo zd rfl rfl ?_;intro v5 w5 O5 a3 b9 c6;refine zh ?_
  refine zxd (m+1,v5,O5,w5) (⟨a7,by dsimp only;rw[IC,If];exact a3,(a5.trans (a9.mono (fun _ h=>h.elim) zd)).trans b9,c6⟩)
 intro b7;obtain rfl:m=37:=dF b7;refine zh ?_;refine zc call64 (qY _ v3 w3 a0.sl (by simp)) ?_;rintro v6 w6 ⟨h6,c7,b6⟩;refine zh ?_;refine ae rfl rfl (⟨by rw[Ig,JG]at h6;exact h6,(a1.trans a5.ext).trans c7,b6.mono (K8 a1.size a5.size)⟩)
attribute [irreducible] bt
def jz:List Int->Nat->Prop
 |[],_=>True
 |g::r,n=>0<=g/\g<=n/\jz r (max n (g.toNat+1))
theorem kD{g:Int}:∀(l:List Int) (n:Nat),jz l n->0<=g->g<=(ec l n:Nat)->jz (l++[g]) n/\ec (l++[g]) n=max (ec l n) (g.toNat+1)
 |[],n,_,h0,h1=>by
  simp only[ec]at h1;simp only[Ie,jz,ec];rw[if_neg zo];exact⟨⟨h0,h1,trivial⟩,rfl⟩
 |a::l,n,h,h0,h1=>by
  obtain⟨a1,a2,a3⟩:=h;simp only[ec]at h1;rw[if_neg zo]at h1;have ih:=kD l _ a3 h0 h1;simp only[IQ,jz,ec];rw[if_neg zo,if_neg zo];exact⟨⟨a1,a2,ih.1⟩,ih.2⟩
theorem uK:∀(l:List Int) (n:Nat),jz l n->n<=ec l n/\∀g∈l,0<=g/\g.toNat<ec l n
 |[],n,_=>⟨Gw _,fun g hg=>absurd hg (by simp)⟩
 |a::l,n,h=>by
  obtain⟨a1,a2,a3⟩:=h;have ih:=uK l _ a3;simp only[ec];rw[if_neg zo];refine⟨zo,fun g hg=>?_⟩
  rcases GV.1 hg with rfl|hg
  ·exact⟨a1,zo⟩
  exact ih.2 g hg
abbrev ints(l:List Nat):List Int:=l.map fun n:Nat=>(n:Int)
structure NuI(ks:List (List UInt8))(i:Nat)(S:List (List UInt8))(r:List Nat):Prop where
 len:r.length=i
 lt:∀j,j<i->nth r j<S.length/\nth S (nth r j)=nth ks j
 nd:S.Nodup
 hit:∀k,k<S.length->∃j,j<i/\nth r j=k
 right:jz (ints r) 0
 many:ec (ints r) 0=S.length
theorem zy{S:List (List UInt8)}{s:List UInt8}{k:Nat}(h:xG S s=some k):k<S.length/\nth S k=s:=by
 obtain⟨h1,h2,_⟩:=Gn.1 h;exact⟨h1,by rw[aB h1];simpa using h2⟩
theorem zA{S:List (List UInt8)}{s:List UInt8}(h:xG S s=none):s∉S:=fun hs=>by
 have:=GG.1 h s hs;simp at this
theorem rf(ks:List (List UInt8)):∀i,NuI ks i (cN ks i).1 (cN ks i).2
 |0=>⟨rfl,fun j hj=>absurd hj (Gv j),List.nodup_nil,fun k hk=>absurd hk (Gv k),trivial,rfl⟩
 |i+1=>by
  have ih:=rf ks i;unfold cN;generalize cN ks i=R at *;obtain⟨S,r⟩:=R;dsimp only at ih ⊢;have hl:=ih.len;have a0:∀(g:Nat),ints (r++[g])=ints r++[(g:Int)]:=fun g=>by simp[ints]
  cases h:xG S (nth ks i)with
  |some k=>
   obtain⟨h1,h2⟩:=zy h;have e1:Ae S (nth ks i)=S:=by unfold Ae;rw[h];rfl
   have e2:AD S (nth ks i)=k:=by unfold AD;rw[h];rfl
   rw[e1,e2];have hs:=kD (g:=(k:Int)) (ints r) 0 ih.right zo (by rw[ih.many];omega);refine⟨by simp[hl],fun j hj=>?_,ih.nd,fun q hq=>?_,by rw[a0];exact hs.1,by rw[a0,hs.2,ih.many];simp;omega⟩
   ·rw[ay]
    by_cases e:j<r.length
    ·rw[if_pos e];exact ih.lt j zo
    rw[if_neg e,show j-r.length=0 from by omega,au];obtain rfl:j=i:=zo;exact⟨h1,h2⟩
   obtain⟨j,hj,e⟩:=ih.hit q hq;exact⟨j,zo,by rw[ay,if_pos zo];exact e⟩
  |none=>
   have hn:=zA h;have e1:Ae S (nth ks i)=S++[nth ks i]:=by unfold Ae;rw[h];rfl
   have e2:AD S (nth ks i)=S.length:=by unfold AD;rw[h];rfl
   rw[e1,e2];have hs:=kD (g:=(S.length:Int)) (ints r) 0 ih.right zo (by rw[ih.many];omega);refine⟨by simp[hl],fun j hj=>?_,JF.2 ⟨ih.nd,by simp,fun a ha b hb e=>?_⟩,fun q hq=>?_,by rw[a0];exact hs.1,by rw[a0,hs.2,ih.many];simp⟩
   ·rw[ay]
    by_cases e:j<r.length
    ·obtain⟨a1,a2⟩:=ih.lt j zo;rw[if_pos e];exact⟨by simp;omega,by rw[ay,if_pos a1];exact a2⟩
    rw[if_neg e,show j-r.length=0 from by omega,au];obtain rfl:j=i:=zo;exact⟨by simp,by rw[ay,if_neg zo,IB,au]⟩
   ·rw[G6]at hb;subst hb;subst e;exact hn ha
   rw[I2,Jn]at hq
   by_cases e:q<S.length
   ·obtain⟨j,hj,e⟩:=ih.hit q e;exact⟨j,zo,by rw[ay,if_pos zo];exact e⟩
   exact⟨i,zo,by rw[ay,if_neg zo,show i-r.length=0 from by omega,au];omega⟩
theorem BM{a b:Nat}(ha:a<256)(hb:b<256)(h:Gz a=Gz b):a=b:=by
 have:=congrArg UInt8.toNat h;simp at this;omega
theorem uZ:∀ {rows:List (List Nat)} {i j:Nat},(∀r∈rows,nth r i<=999/\nth r j<=999)->oK rows i=oK rows j->∀r∈rows,nth r i=nth r j
 |[],_,_,_,_=>fun r hr=>absurd hr (by simp)
 |r::rows,i,j,h,e=>by
  obtain⟨h1,h2⟩:=h r (by simp);unfold oK at e;simp only[IM,IQ,Ie,Kz]at e;obtain⟨e1,e2,e3⟩:=e;have a1:=BM zo zo e1;have a2:=BM zo zo e2;intro q hq
  rcases GV.1 hq with rfl|hq
  ·omega
  exact uZ (fun q hq=>h q (by simp[hq])) e3 q hq
theorem vd:∀ {tabs:List (List (List Nat))} {i j:Nat},(∀rows∈tabs,∀r∈rows,nth r i<=999/\nth r j<=999)->mI tabs i=mI tabs j->∀rows∈tabs,∀r∈rows,nth r i=nth r j
 |[],_,_,_,_=>fun r hr=>absurd hr (by simp)
 |t::tabs,i,j,h,e=>by
  unfold mI at e;simp only[IM]at e;obtain⟨e1,e2⟩:=List.append_inj e (by rw[jS,jS]);intro q hq
  rcases GV.1 hq with rfl|hq
  ·exact uZ (h q (by simp)) e1
  exact vd (fun q hq=>h q (by simp[hq])) e2 q hq
structure GrpI(g:List Nat)(many:Nat):Prop where
 len:g.length=37
 lt:∀i,i<37->nth g i<many
 hit:∀k,k<many->∃i,i<37/\nth g i=k
 cnt:fy (ints g)=many
 pos:1<=many
 le:many<=37
theorem yJ{α:Type}{l:List α}(h:l.Nodup){i j:Nat}(hi:i<l.length)(hj:j<l.length)(e:l[i]=l[j]):i=j:=by
 rcases Nat.lt_trichotomy i j with h1|h1|h1
 ·exact absurd e (J3.1 h i j hi hj h1)
 ·exact h1
 exact absurd e.symm (J3.1 h j i hj hi h1)
theorem oz(tabs:List (List (List Nat))):∃many,GrpI (bt tabs) many/\∀i j,i<37->j<37->(nth (bt tabs) i=nth (bt tabs) j↔mI tabs i=mI tabs j):=by
 have h:=rf ((Gx 37).map (mI tabs)) 37;have a4:=(ml ((Gx 37).map (mI tabs)) 37).2;have hk:∀j,j<37->nth ((Gx 37).map (mI tabs)) j=mI tabs j:=fun j hj=>by rw[dV (by simpa using hj),aB (by simpa using hj)];simp
 unfold bt;have a0:=h.len;refine⟨(cN ((Gx 37).map (mI tabs)) 37).1.length,⟨a0,fun i hi=>(h.lt i hi).1,h.hit,?_,?_,a4⟩,fun i j hi hj=>⟨fun e=>?_,fun e=>?_⟩⟩
 ·unfold fy;rw[if_pos (by rw[Ig];exact a0)];exact h.many
 ·have:=(h.lt 0 zd).1;omega
 ·have h1:=(h.lt i hi).2;have h2:=(h.lt j hj).2;rw[hk i hi]at h1;rw[hk j hj]at h2;rw[<-h1,<-h2,e]
 obtain⟨a1,a2⟩:=h.lt i hi;obtain⟨b1,b2⟩:=h.lt j hj;rw[hk i hi]at a2;rw[hk j hj]at b2;have a3:=h.nd;show nth (cN _ 37).2 i=nth (cN _ 37).2 j;rw[aB a1]at a2;rw[aB b1]at b2;exact yJ a3 a1 b1 (by rw[a2,b2,e])
def nt(g:List Nat)(many:Nat)(a0:List Nat):List Nat:=(Gx many).map fun k=>nth a0 ((g.findIdx? (· == k)).getD 0)
theorem lH(g:List Nat)(many:Nat)(a0:List Nat):(nt g many a0).length=many:=by simp[nt]
theorem tn{g:List Nat}{many:Nat}(hg:GrpI g many){a0:List Nat}(hc:∀i j,i<37->j<37->nth g i=nth g j->nth a0 i=nth a0 j){i:Nat}(hi:i<37):nth (nt g many a0) (nth g i)=nth a0 i:=by
 have a1:=hg.len;have hk:=hg.lt i hi;unfold nt;rw[aB (xs:=List.map _ (Gx many)) (by simpa using hk),List.getElem_map,List.getElem_range]
 cases hf:g.findIdx? (· == nth g i)with
 |none=>
  have:=GG.1 hf (nth g i) (aN zo);simp at this
 |some q=>
  obtain⟨h1,h2,_⟩:=Gn.1 hf;rw[<-aB h1]at h2;exact hc q i zo hi (by simpa using h2)
theorem yN{g:List Nat}{many:Nat}(hg:GrpI g many){a0 a1:List Nat}(hc:∀i j,i<37->j<37->nth g i=nth g j->nth a0 i=nth a0 j)(ho:a1.length=many)(h:∀i,i<37->nth a1 (nth g i)=nth a0 i):a1=nt g many a0:=by
 refine List.ext_getElem (by rw[ho,lH]) fun k h1 h2=>?_
 obtain⟨i,hi,e⟩:=hg.hit k zo;rw[<-aB h1,<-aB h2,<-e,h i hi,tn hg hc hi]
theorem vN(g a1:List Nat)(many:Nat)(gv rv:ix)(w:ln)(hg:GrpI g many)(b1:Sl aJ 1 w gv g)(a':Sl aJ 1 w rv a1)(b6:a1.length=37)(hc:∀i j,i<37->j<37->nth g i=nth g j->nth a1 i=nth a1 j):
  I9 Gt 97 [gv,rv,nI (many:Nat)] w fun v w'=>∃ov,v=.tuple #[ov,.bool true]/\Sl aJ 1 w' ov (nt g many a1)/\GR w w'/\∀(B:Nat) (O:Nat->Nat),IR B O w->Jy O w' ov:=by
 have c':=hg.len;have c8:=hg.le;refine G0 func97 ntmps97 rfl rfl ?_;refine zh ?_;refine cR jj (val:=fun n:Nat=>nI (n:Int)) (0:Nat) zk (fun _=>rfl) (aw w) 1 zd many rfl rfl rfl rfl zo zo rfl ?_;intro w1 O1 ov b7 a6 c5 c6 b4;clear b7;have d1:=b1.ext b4;have c7:=a'.ext b4;refine zh ?_;rw[show((a1.length:Int)-1)=((37:Nat):Int)-1 from by rw[b6]];refine zlp (fun z:Nat×ln×List Nat=>[(0,gv),(1,rv),(8,ov),(9,nI ((z.1:Int)-1))]) (fun z=>z.2.1) (fun z=>z.1<=37/\J1 aJ 3 1 O1 z.2.1 1 ov z.2.2/\GC (fun q=>q=1) O1 w1 O1 z.2.1/\z.2.2.length=many/\∀i,z.1<=i->i<37->nth z.2.2 (nth g i)=nth a1 i) (fun z=>z.1) (37,w1,G1 many 0) (⟨Gw _,a6,Iy zd _ _,by simp,fun i h1 h2=>by dsimp only at h1;omega⟩) ?_;rintro⟨j,w2,b5⟩ ⟨hj,a0,a7,a8,a2⟩;dsimp only at hj a0 a7 a8 a2 ⊢;have a4:GR w w2:=(c5.trans a7).ext;have b3:=b1.ext a4;have b0:=a'.ext a4;refine zh ?_;refine zC ?_ ?_
 ·intro b2;replace b2:1<=j:=dT b2;obtain⟨m,rfl⟩:∃m,j=m+1:=⟨j-1,zo⟩
  rw[show(((m+1:Nat):Int)-1)=(m:Int)from by omega];have c9:=hg.lt m zo;have k1:w2.cell? (adr gv 1 m)=some (nI ((nth g m:Nat):Int)):=by have:=b3.cell (i:=m) (j:=0) zo rfl;rwa[az]at this
  have k2:w2.cell? (adr rv 1 m)=some (nI ((nth a1 m:Nat):Int)):=by have:=b0.cell (i:=m) (j:=0) zo rfl;rwa[az]at this
  refine zh ?_;refine J0 10 rfl rfl zk zk ?_
  refine zh ?_;refine zw (aA a0.sl.sh G5 (GI _) rfl rfl (nth g m) rfl zo) ?_
  refine JO ?_;refine J9 a0.drew (nth g m) zo (nth a1 m) (GI _) rfl zd rfl rfl rfl rfl ?_
  intro w3 a5 b';refine zh ?_;refine zxd (m,w3,b5.set (nth g m) (nth a1 m)) (⟨by dsimp only;omega,a5,a7.drew.trans b',by dsimp only;rw[JS];exact a8,fun i h1 h2=>?_⟩);dsimp only at h1 ⊢;rw[aP zo]
  split
  ·rename_i e;exact hc m i zo h2 e.symm
  rename_i e;refine a2 i ?_ h2;have:i≠m:=fun e2=>e (by rw[e2])
  omega
 intro b8;obtain rfl:j=0:=dF b8;have a9:=yN hg hc a8 fun i hi=>a2 i (G4 _) hi
 refine zh ?_;refine zlp (fun z:Nat=>[(0,gv),(8,ov),(31,rv),(32,nI a1.length),(33,nI z)]) (fun z=>w2) (fun z=>z<=a1.length) (fun z=>a1.length-z) 0 (G4 _) ?_
 intro i hi;refine zh ?_;refine zC ?_ ?_
 ·intro a3;replace a3:i<a1.length:=dT a3;have d0:=hg.lt i zo;have k1:w2.cell? (adr gv 1 i)=some (nI ((nth g i:Nat):Int)):=by have:=b3.cell (i:=i) (j:=0) zo rfl;rwa[az]at this
  have k2:w2.cell? (adr rv 1 i)=some (nI ((nth a1 i:Nat):Int)):=by have:=b0.cell (i:=i) (j:=0) zo rfl;rwa[az]at this
  have k3:w2.cell? (adr ov 1 (nth g i))=some (nI ((nth a1 i:Nat):Int)):=by have:=a0.sl.cell (i:=nth g i) (j:=0) zo rfl;rw[az,a2 i (G4 _) zo]at this;exact this
  refine zh ?_;refine zvH (aA a0.sl.sh G5 (GI _) rfl rfl (nth g i) rfl zo) ?_
  refine zFH rfl ((by simp)) ?_;refine zxd (i+1) (a3)
 intro b9;refine zh ?_;refine bC rfl rfl rfl (⟨ov,rfl,by rw[<-a9];exact a0.sl,a4,fun B O hO=>a0.free zd (c6.upd a7) hO⟩)
theorem _root_.Go.VL.Sl.natIv{w:ln}{v:ix}{l:List Nat}(h:Sl aJ 1 w v l):Sl encI 1 w v (l.map fun(n:Nat)=>(n:Int)):=
 ⟨by simpa using h.shape,fun i hi j u hu=>h.cells i (by simpa using hi) j u (by simpa using hu)⟩
theorem Cz:cD Gt 127 #[(0,1),(1,1),(2,1)]:=⟨_,underlying127,fun w=>by kernel_rfl⟩
theorem A9(g:List Nat)(many:Nat)(gv nv tv:ix)(rows:List (List Nat))(a':List Nat)(w:ln)(hg:GrpI g many)(g1:Sl aJ 1 w gv g)(hn:JQ w nv rows)(h5:Sl ff 1 w tv a')(hr:JD rows a') 
  (hc:∀p,p<rows.length->∀i j,i<37->j<37->nth g i=nth g j->nth (nth rows p) i=nth (nth rows p) j) :
  I9 Gt 65 [gv,.agg #[nv,tv]] w fun v w'=>∃gv' nv' tv',v=.tuple #[.agg #[gv',nv',tv'],nI 0]/\gv'.oneCell'=true/\nv'.oneCell'=true/\tv'.oneCell'=true/\KD w.heap.size w' nv' (rows.map (nt g many))/\Sl ff 1 w' tv' a'/\IS w.heap.size tv'/\GR w w':=by
 have j6:=hr.le;have i1:=hr.tl;have j7:=hg.len;have j4:=hg.pos;have j5:=hg.le;refine G0 func65 ntmps65 rfl rfl ?_;refine zh ?_;refine aG (aw w) 1 zo rfl rfl ?_;intro db w1 O1 g4 i8 j1 j9;refine ar j1 2 zo (I0 _) rfl ?_;intro cb w2 O2 g8 h8 j0 j8;have e7:=g4.upd h8 zd zd;have e9:GC (fun q=>1<=q) (fun _=>0) w O2 w2:=(i8.mono (fun _ h=>zo) zd).trans (h8.mono (fun _ h=>zo) zd);have d4:=e9.ext;refine zh ?_;refine zc KH (gX (ints g) gv w2 (g1.ext d4).natIv) ?_;rintro _ w3 ⟨rfl,h4⟩;rw[h4,hg.cnt];clear h4 w3;refine zh ?_;refine ao (d:=16) rfl (b':=false) ((by rw[beq_eq_false_iff_ne];omega)) ?_;refine zh ?_;refine zvH (ah (us:=[nv,tv]) e7.cellsAdd (II _) (GS _) rfl) ?_;refine zc call62 (jc nv tv rows a' w2 (hn.ext d4) (h5.ext d4) hr) ?_;rintro _ w3 ⟨rfl,j2⟩;have f5:GC (fun _=>False) O2 w2 O2 w3:=aa (fun h=>h) O2 j2;have c':=e7.upd f5 zd (fun h=>h);have g7:=g8.upd f5 zd (fun h=>h);have b6:=e9.trans (f5.mono (fun _ h=>h.elim) zd);have i':=j0.upd f5;refine zh ?_;refine zFH rfl rfl ?_;have d1:w3.drew.cell? (nA db 1)=some tv:=c'.cell 1 rfl;refine aK (fun W=>W.cell? (nA db 1)=some tv) 8 rfl zk ?_;refine zrm 0 rfl d1 rfl ?_;refine zrf 2 rfl d1 rfl ?_;refine zt 3 rfl d1 (fun w1 h'=>RV.ld h' rfl) ?_
 refine sq (fun x:ix×ix×Nat×(Nat->Nat)×World=>[(0,gv),(3,nP db),(4,nP cb),(6,nI (many:Nat)),(23,x.1),(26,x.2.1),(7,.pointer (some ⟨x.2.2.1,0,none⟩)),(27,.agg #[x.1,nS,x.2.1])]) (fun x=>x.2.2.2.2) (fun x=>Sl aJ 1 x.2.2.2.2 x.1 g/\Sl ff 1 x.2.2.2.2 x.2.1 a'/\Jy x.2.2.2.1 x.2.2.2.2 x.2.1/\GW x.2.2.2.1 x.2.2.2.2 3 x.2.2.1 #[nS,nS,nS] 127/\GC (fun q=>q=3) O2 w3 x.2.2.2.1 x.2.2.2.2/\IR w.heap.size x.2.2.2.1 x.2.2.2.2/\IS w3.heap.size x.2.1) #[true,true,true,true,true,true,true,false] 1 ?_ ?_
 ·intro hN;have hR:=i'.drew;have hU:GC (fun q=>q=3) O2 w3 O2 w3.drew:=aa zd O2 (G9 w3).drew;have k0:∀O W,GC (fun q=>q=3) O2 w3 O W->W.cell? (nA db 1)=some tv:=fun O W u=>(c'.upd u zd zd).cell 1 rfl
  have kg:∀O W,GC (fun q=>q=3) O2 w3 O W->Sl aJ 1 W gv g:=fun O W u=>g1.ext (b6.trans (u.mono (fun _ h=>zo) zd)).ext
  have kt:∀O W,GC (fun q=>q=3) O2 w3 O W->Sl ff 1 W tv a':=fun O W u=>h5.ext (b6.trans (u.mono (fun _ h=>zo) zd)).ext
  refine bL 1 6 zk rfl rfl ?_ ?_ 
  ·refine zc call95 (oL g gv _ (kg _ _ hU) (fun _ _=>rfl) (fun u hu c hc=>by rw[G6.1 hc];rfl) zo) ?_;rintro a1 wa ⟨fA,f4,_⟩;have b2:=fun O=>aa (S:=fun _=>False) (fun h=>h) O f4
   have hU:=GP hU ((b2 _).mono (fun _ h=>h.elim) zd);have hR:=IJ hR (b2 _)
   try have fB:=GY fB f4
   try have gB:=GO gB (b2 _)
   try have fC:=Gy fC (b2 _) zd (fun h=>h)
   refine zh ?_;refine af (k0 _ _ hU) ?_
   refine bL 4 6 zk rfl rfl ?_ ?_ 
   ·refine zc KF (kL a' tv _ (kt _ _ hU) (fun _ _=>rfl) (fun u hu c hc=>by rw[G6.1 hc];rfl) zo) ?_;rintro a0 wb ⟨fB,b8,b9⟩;have nB:=(pG b9).mono hU.size;have gB:=b9 _ _ hR;have a9:=fun O=>aa (S:=fun _=>False) (fun h=>h) O b8
    have hU:=GP hU ((a9 _).mono (fun _ h=>h.elim) zd);have hR:=IJ hR (a9 _)
    try have fA:=GY fA b8
    try have fC:=Gy fC (a9 _) zd (fun h=>h)
    refine zh ?_;refine af (k0 _ _ hU) ?_
    have oA:=Jq fA;have oB:=Jq fB;refine zr 5 rfl (k0 _ _ hU) (fun _=>aD Cz (I0 _) rfl (by simp only[G7,oA,oB,GL];rfl) rfl rfl) ?_;refine Gu 6 zk rfl ?_;refine ar hR 3 zd (I0 _) rfl ?_;intro ob wc Oc fC a8 e' f3;have hU:=GP hU a8;have hR:=e'
    try have fA:=GY fA f3
    try have fB:=Ko fB gB a8
    try have gB:=GO gB a8
    refine zh ?_;refine af (k0 _ _ hU) ?_
    exact IZ (hN (a1,a0,ob,_,_) ⟨fA,fB,gB,fC,hU,hR,nB⟩) zk ⟨rfl,rfl,rfl,rfl,rfl,rfl,rfl,rfl,trivial⟩ rfl
   refine ar hR 3 zd (I0 _) rfl ?_;intro ob wc Oc fC a8 e' f3;have hU:=GP hU a8;have hR:=e'
   try have fA:=GY fA f3
   try have fB:=Ko fB gB a8
   try have gB:=GO gB a8
   refine zh ?_;refine af (k0 _ _ hU) ?_
   refine Gu 4 zk rfl ?_;refine zc KF (kL a' tv _ (kt _ _ hU) (fun _ _=>rfl) (fun u hu c hc=>by rw[G6.1 hc];rfl) zo) ?_
   rintro a0 wb ⟨fB,b8,b9⟩;have nB:=(pG b9).mono hU.size;have gB:=b9 _ _ hR;have a9:=fun O=>aa (S:=fun _=>False) (fun h=>h) O b8
   have hU:=GP hU ((a9 _).mono (fun _ h=>h.elim) zd);have hR:=IJ hR (a9 _)
   try have fA:=GY fA b8
   try have fC:=Gy fC (a9 _) zd (fun h=>h)
   refine zh ?_;refine af (k0 _ _ hU) ?_
   have oA:=Jq fA;have oB:=Jq fB;refine zr 5 rfl (k0 _ _ hU) (fun _=>aD Cz (I0 _) rfl (by simp only[G7,oA,oB,GL];rfl) rfl rfl) ?_;exact IZ (hN (a1,a0,ob,_,_) ⟨fA,fB,gB,fC,hU,hR,nB⟩) zk ⟨rfl,rfl,rfl,rfl,rfl,rfl,rfl,rfl,trivial⟩ rfl
  refine ar hR 3 zd (I0 _) rfl ?_;intro ob wc Oc fC a8 e' f3;have hU:=GP hU a8;have hR:=e'
  try have fA:=GY fA f3
  try have fB:=Ko fB gB a8
  try have gB:=GO gB a8
  refine zh ?_;refine af (k0 _ _ hU) ?_
  refine Gu 1 zk rfl ?_;refine zc call95 (oL g gv _ (kg _ _ hU) (fun _ _=>rfl) (fun u hu c hc=>by rw[G6.1 hc];rfl) zo) ?_
  rintro a1 wa ⟨fA,f4,_⟩;have b2:=fun O=>aa (S:=fun _=>False) (fun h=>h) O f4
  have hU:=GP hU ((b2 _).mono (fun _ h=>h.elim) zd);have hR:=IJ hR (b2 _)
  try have fB:=GY fB f4
  try have gB:=GO gB (b2 _)
  try have fC:=Gy fC (b2 _) zd (fun h=>h)
  refine zh ?_;refine af (k0 _ _ hU) ?_
  refine Gu 4 zk rfl ?_;refine zc KF (kL a' tv _ (kt _ _ hU) (fun _ _=>rfl) (fun u hu c hc=>by rw[G6.1 hc];rfl) zo) ?_
  rintro a0 wb ⟨fB,b8,b9⟩;have nB:=(pG b9).mono hU.size;have gB:=b9 _ _ hR;have a9:=fun O=>aa (S:=fun _=>False) (fun h=>h) O b8
  have hU:=GP hU ((a9 _).mono (fun _ h=>h.elim) zd);have hR:=IJ hR (a9 _)
  try have fA:=GY fA b8
  try have fC:=Gy fC (a9 _) zd (fun h=>h)
  refine zh ?_;refine af (k0 _ _ hU) ?_
  have oA:=Jq fA;have oB:=Jq fB;refine zr 5 rfl (k0 _ _ hU) (fun _=>aD Cz (I0 _) rfl (by simp only[G7,oA,oB,GL];rfl) rfl rfl) ?_;exact IZ (hN (a1,a0,ob,_,_) ⟨fA,fB,gB,fC,hU,hR,nB⟩) zk ⟨rfl,rfl,rfl,rfl,rfl,rfl,rfl,rfl,trivial⟩ rfl
 rintro⟨a1,a0,ob,O7,w7⟩ ⟨e5,c5,c9,b1,b4,h9,e4⟩;dsimp only at e5 c5 c9 b1 b4 h9 e4 ⊢;have o1:=e5.one;have o2:=c5.one;have g3:=c'.upd b4 zd zd;have g6:=g7.upd b4 zd zd;refine Gu 7 zk rfl ?_;refine zsb (us:=#[a1,nS,a0]) b1 (IY _) (by simp only[G7,o1,o2];rfl) ?_;have g0:=b1.setRow (us:=#[a1,nS,a0]);have d7:GC (fun j=>j=3) O7 w7 O7 (w7.setRow ob #[a1,nS,a0]):=G8 zd b1.tag rfl;have f9:=c5.upd c9 d7;have g2:=c9.upd d7;have e6:=g3.upd d7 zd zd;have g5:=g6.upd d7 zd zd;have d3:=(b6.trans (b4.mono (fun _ h=>zo) zd)).trans (d7.mono (fun _ h=>zo) zd);have i9:=h9.upd d7;generalize w7.setRow ob #[a1,nS,a0]=w8 at *;refine zh ?_;refine af (e6.cell 1 rfl) ?_;have e0:w8.cell? (nA db 0)=some nv:=e6.cell 0 rfl;obtain⟨vs,d9,j3,f8⟩:=hn;have i0:=d9.ext d3.ext;refine I3 zk ?_;refine zh ?_;refine zlp (fun z:Nat×(Nat->Nat)×World×ix×List ix=>[(0,gv),(3,nP db),(4,nP cb),(6,nI (many:Nat)),(7,nP ob),(29,nv),(30,nI vs.length),(31,nI z.1)]) (fun z=>z.2.2.1) (fun z=>z.1<=rows.length/\GC (fun q=>3<=q) O7 w8 z.2.1 z.2.2.1/\IR w.heap.size z.2.1 z.2.2.1/\GW z.2.1 z.2.2.1 3 ob #[a1,z.2.2.2.1,a0] 127/\RwO z.2.1 z.2.2.1 4 z.2.2.2.1 z.2.2.2.2 ((rows.take z.1).map (nt g many))/\∀k,k<z.1->IS w.heap.size (nth z.2.2.2.2 k)) (fun z=>rows.length-z.1) (0,O7,w8,nS,[]) (⟨G4 _,Iy zd _ _,i9,g0,⟨GJ _ _ _ _ _ _,rfl,fun k hk=>absurd hk (Gv k)⟩,fun k hk=>absurd hk (Gv k)⟩) ?_
 rintro⟨i,O9,w9,d6,d5⟩ ⟨hi,e8,f6,c6,a4,c7⟩;dsimp only at hi e8 f6 c6 a4 c7 ⊢;have b5:=d3.trans (e8.mono (fun _ h=>zo) zd);have f7:=d9.ext b5.ext;have i2:=a4.len;have f':((rows.take i).map (nt g many)).length=i:=by simp;omega
 refine zh ?_;refine zC ?_ ?_
 ·intro c8;replace c8:i<rows.length:=dT c8;have m1:w9.cell? (adr nv 1 i)=some (nth vs i):=by have:=f7.cell (i:=i) (j:=0) zo rfl;rwa[az]at this
  obtain⟨r1,r2⟩:=hr.row i c8;refine zh ?_;refine zc call97 (vN g (nth rows i) many gv (nth vs i) w9 hg (g1.ext b5.ext) ((f8 i c8).ext b5.ext) r1 (hc i c8)) ?_;rintro _ h3 ⟨ov,rfl,h6,h2,h7⟩;have b3:GC (fun _=>False) O9 w9 O9 h3:=aa (fun h=>h) O9 h2;have e2:=h7 _ _ f6;have i3:=(pG h7).mono b5.size;have h1:=f6.upd b3;have b7:=c6.upd b3 zd (fun h=>h);have a2:=a4.upd b3 zd (fun h=>h);obtain⟨oa,oc,i4,_⟩:=h6.shape;subst i4;refine zh ?_;refine aX rfl rfl ?_;have f0:h3.cell? (nA ob 1)=some d6:=b7.cell 1 rfl;refine zh ?_;refine Iw xI a2.row h1 ((.slice oa (nt g many (nth rows i)).length oc:ix)) (fun _=>rfl) rfl rfl rfl (by simp[GB]) zo zo zo zd rfl rfl ?_;intro a3 d8 O11 a6 a5 h0;have a7:=b7.upd a5 zd zd;have e1:RwO O11 d8 4 a3 (d5++[.slice oa (nt g many (nth rows i)).length oc]) ((rows.take (i+1)).map (nt g many)):=by
   rw[aF c8,If];refine⟨a6,by simp;omega,fun k hk=>?_⟩;rw[ay,ay]
   by_cases e:k<((rows.take i).map (nt g many)).length
   ·rw[if_pos zo,if_pos e];exact⟨(a2.at_ k e).1.upd (a2.at_ k e).2 a5,(a2.at_ k e).2.upd a5⟩
   have i5:k=i:=by simp at hk;omega
   subst i5;rw[if_neg zo,if_neg e,f',show k-d5.length=0 from by omega,IB,au,IK,Jg,au];exact⟨h6.upd e2 a5,e2.upd a5⟩
  refine zh ?_;refine aj (j:=1) a7 rfl (sizeOf89 _) a6.one rfl rfl rfl ?_
  have d2:GC (fun j=>j=3) O11 d8 O11 (d8.setCell ⟨ob,1,none⟩ a3):=GQ zd a7.tag rfl;have e3:GW O11 (d8.setCell ⟨ob,1,none⟩ a3) 3 ob #[a1,a3,a0] 127:=a7.set 1 _;have d':=e1.upd d2 zd zd;have g':=h0.upd d2;generalize d8.setCell ⟨ob,1,none⟩ a3=w12 at *;refine zh ?_;refine zxd (i+1,O11,w12,a3,d5++[.slice oa (nt g many (nth rows i)).length oc]) (⟨c8,((e8.trans (b3.mono (fun _ h=>h.elim) zd)).trans (a5.mono (fun _ h=>zo) zd)).trans (d2.mono (fun _ h=>zo) zd),g',e3,d',fun k hk=>?_⟩);dsimp only at hk ⊢;rw[ay]
  by_cases e:k<d5.length
  ·rw[if_pos e];exact c7 k zo
  rw[if_neg e,show k-d5.length=0 from by omega,au];exact i3
 intro i6;obtain rfl:i=rows.length:=dF i6;rw[GA]at a4;have o3:=a4.row.one;have d0:=g5.upd e8 zd zd;refine zh ?_;refine zv (ah (us:=[a1,d6,a0]) c6.cellsAdd (isAgg127 _) (IY _) rfl) ?_;refine zsb (us:=#[a1,d6,a0]) d0 (IY _) (by simp only[G7,o1,o2,o3];rfl) ?_;have i7:=d0.setRow (us:=#[a1,d6,a0]);have g9:GC (fun j=>j=2) O9 w9 O9 (w9.setRow cb #[a1,d6,a0]):=G8 zd d0.tag rfl;have b0:=a4.upd g9 zd zd;have hU9z:=(e8.mono (S':=fun q=>2<=q) (fun _ h=>zo) zd).trans (g9.mono (fun _ h=>zo) zd);refine zh ?_;refine aO rfl rfl rfl (i7.cellsAdd) (isAgg127 _) (IY _) (⟨a1,d6,a0,rfl,o1,o3,o2,⟨d5,b0.row.sl,b0.row.newV zd (f6.upd g9),b0.len,fun k hk=>⟨(b0.at_ k hk).1,c7 k (by simpa using hk)⟩⟩,f9.upd g2 hU9z,e4.mono b6.size,(d3.trans (hU9z.mono (fun _ h=>zo) zd)).ext⟩)
def nH(a0:List Int)(base c:Nat):Bool:=!(decide (base+c<a0.length)&&nth a0 (base+c) != -1)
theorem vI(pb:Nat)(cv kv:ix)(a0:List Nat)(a2:List Int)(base:Nat)(w:ln) 
  (hp:w.cell? ⟨pb,3,none⟩=some kv) (hk:Is w kv a2) (hc:Gk w cv a0) (a6:∀c∈a0,c<=64) (hb:base<=200000) :
  I9 Gt 125 [nP pb,cv,nI base] w fun v w'=>v=.bool (a0.all (nH a2 base))/\w=w':=by
 have a8:=hk.len_le;have a':=hc.len_le;refine G0 func125 ntmps125 rfl rfl ?_;refine zh ?_;refine zlp (fun k:Nat=>[(0,nP pb),(1,cv),(2,nI base),(9,cv),(10,nI a0.length),(11,nI k)]) (fun k=>w) (fun k=>k<=a0.length/\∀j,j<k->nH a2 base (nth a0 j)=true) (fun k=>a0.length-k) 0 (⟨G4 _,fun j hj=>absurd hj (Gv j)⟩) ?_;intro k ⟨a9,a4⟩;refine zh ?_;refine zC ?_ ?_
 ·intro a1;replace a1:k<a0.length:=by simpa using a1
  have b0:=a6 _ (aN a1);refine zh ?_;refine zvH (RV.ld (hc.ld zo) rfl) ?_;refine zvH (RV.ld hp rfl) ?_
  by_cases a5:base+nth a0 k<a2.length
  ·refine ao (d:=24) rfl (b':=true) (by simpa using(by omega:(base:Int)+((nth a0 k:Nat):Int)<(a2.length:Int))) ?_;refine zh ?_
   refine zvH (RV.ld hp rfl) ?_;refine zvH (RV.ld (hk.ld zo) rfl) ?_
   refine zC ?_ ?_
   ·intro a3;refine zh ?_;refine ae rfl rfl (⟨?_,rfl⟩);rw[tk a1];simp only[nH,a5,a3];rfl
   intro a3;refine zh ?_;refine zxd (k+1) (⟨a1,fun j hj=>?_⟩)
   rcases Gs.1 hj with h|rfl
   ·exact a4 j h
   simp only[nH,a5,a3];rfl
  refine ao (d:=24) rfl (b':=false) (by simpa using(by omega:¬(base:Int)+((nth a0 k:Nat):Int)<(a2.length:Int))) ?_;refine zh ?_
  refine zFH rfl rfl ?_;refine zxd (k+1) (⟨a1,fun j hj=>?_⟩)
  rcases Gs.1 hj with h|rfl
  ·exact a4 j h
  simp only[nH,a5];rfl
 intro a7;replace a7:a0.length<=k:=by simpa using a7
 refine zh ?_;refine ae rfl rfl (⟨?_,rfl⟩)
 rw[C6 fun j hj=>a4 j zo]
def cnt(a0:List Int)(n:Int):Int:=(a0.count n:Int)
def ly(a0:List Int)(b n:Int):Int:=if cnt a0 b<cnt a0 n\/(cnt a0 n=cnt a0 b/\n<b)then n else b
def bz(a0:List Int):Int:=a0.foldl (ly a0) (nth a0 0)
abbrev iv:Int->ix:=JB .i64
theorem ox:KeyL Gt 3 iv:=KeyL.int JM
theorem xJ(a0:List Int)(rv:ix)(w:ln)(h:Is w rv a0)(a':0<a0.length):
  I9 Gt 124 [rv] w fun u w'=>u=nI (bz a0)/\GR w w':=by
 have hl:=h.len_le;have a7:∀r z,0<=cnt r z:=fun r z=>by simp only[cnt];omega
 have a6:∀k z,cnt (a0.take k) z<=k:=fun k z=>by
  have h1:=List.count_le_length (a:=z) (l:=a0.take k);have h2:=List.length_take_le k a0;simp only[cnt];omega
 refine G0 func124 ntmps124 rfl rfl ?_;refine zh ?_
 refine WL.makeMap rfl ?_;refine zh ?_
 refine zvH (Il (by first|exact h.ext (Ji _ _)) G5 rfl) ?_;refine zlp (fun x:Nat×ln×List (Int×Int)=>[(0,rv),(3,.map (some w.heap.size)),(10,rv),(11,nI a0.length),(12,nI x.1)]) (fun x=>x.2.1) (fun x=>x.1<=a0.length/\MapO iv iv (kW (fun _=>0) w.heap.size 1) x.2.1 1 w.heap.size x.2.2/\GC (fun j=>j=1) (fun _=>0) w (kW (fun _=>0) w.heap.size 1) x.2.1/\∀z,(bf x.2.2 z).getD 0=cnt (a0.take x.1) z) (fun x=>a0.length-x.1) (0,_,[]) (⟨G4 _,MapO.new _ _ _,JP zd (aw _) _ _,fun z=>by simp[bf,cnt]⟩) ?_
 rintro⟨k,w1,m⟩ ⟨hk,hm,hU,a3⟩;dsimp only at hk hm hU a3 ⊢;have h1:=h.ext hU.ext;refine zh ?_;refine zC ?_ ?_
 ·intro a2;replace a2:k<a0.length:=by simpa using a2
  have hc:=a6 k (nth a0 k);have b0:=a7 (a0.take k) (nth a0 k);refine zh ?_;refine zvH (RV.ld (h1.ld zo) rfl) ?_;refine zvH (IA hm Ii ox (I6 _) (nth a0 k) rfl rfl rfl (u:=iv (cnt (a0.take k) (nth a0 k))) (by rw[<-a3];cases bf m (nth a0 k)<;>rfl)) ?_;refine Kd hm Ii ox zd (nth a0 k) (cnt (a0.take k) (nth a0 k)+1) rfl rfl rfl rfl rfl ?_;intro w2 a8 a9;refine zh ?_;refine zxd (k+1,w2,_) (⟨a2,a8,hU.trans a9,fun z=>?_⟩);dsimp only;rw[aL,aF a2]
  by_cases hz:nth a0 k=z
  ·subst hz;simp[cnt]
  rw[if_neg hz,a3];simp[cnt,List.count_append,hz]
 intro a4;replace a4:a0.length<=k:=by simpa using a4
 have a5:∀z,(bf m z).getD 0=cnt a0 z:=fun z=>by rw[a3,I4 a4]
 refine zh ?_;refine zvH (RV.ld (h1.ld zo) rfl) ?_
 refine zlp (fun x:Nat×Int=>[(3,.map (some w.heap.size)),(24,rv),(25,nI a0.length),(26,nI x.1),(6,nI x.2)]) (fun x=>w1) (fun x=>x.1<=a0.length/\(a0.take x.1).foldl (ly a0) (nth a0 0)=x.2) (fun x=>a0.length-x.1) (0,nth a0 0) (⟨G4 _,rfl⟩) ?_;rintro⟨k,b⟩ ⟨hk,hb⟩;dsimp only at hk hb ⊢;refine zh ?_
 refine zC ?_ ?_
 ·intro a2;replace a2:k<a0.length:=by simpa using a2
  have a1:(a0.take (k+1)).foldl (ly a0) (nth a0 0)=ly a0 b (nth a0 k):=by rw[aF a2,GF,hb];rfl
  have L:∀z,C8 iv (nI 0) (bf m z)=iv (cnt a0 z):=fun z=>by rw[<-a5];cases bf m z<;>rfl
  refine zh ?_;refine zvH (RV.ld (h1.ld zo) rfl) ?_
  refine zvH (IA hm Ii ox (I6 _) (nth a0 k) rfl rfl rfl (L _)) ?_;refine zvH (IA hm Ii ox (I6 _) b rfl rfl rfl (L _)) ?_
  by_cases h1:cnt a0 b<cnt a0 (nth a0 k)
  ·refine ao (d:=37) rfl (b':=true) (decide_eq_true h1) ?_;refine zh ?_
   refine zTH rfl rfl ?_;refine zxd (k+1,_) (⟨a2,by rw[a1,ly,if_pos (.inl h1)]⟩)
  refine ao (d:=37) rfl (b':=false) (decide_eq_false h1) ?_;refine zh ?_
  refine zvH (IA hm Ii ox (I6 _) (nth a0 k) rfl rfl rfl (L _)) ?_;refine zvH (IA hm Ii ox (I6 _) b rfl rfl rfl (L _)) ?_
  by_cases h2:cnt a0 (nth a0 k)=cnt a0 b
  ·refine ao (d:=45) rfl (b':=true) (by simpa using h2) ?_;refine zh ?_
   refine zC ?_ ?_
   ·intro h3;replace h3:nth a0 k<b:=by simpa using h3
    refine zh ?_;refine zxd (k+1,_) (⟨a2,by rw[a1,ly,if_pos (.inr ⟨h2,h3⟩)]⟩)
   intro h3;replace h3:¬nth a0 k<b:=by simpa using h3
   refine zh ?_;refine zxd (k+1,_) (⟨a2,by rw[a1,ly,if_neg (fun h=>h.elim h1 fun h=>h3 h.2)]⟩)
  refine ao (d:=45) rfl (b':=false) (by simpa using h2) ?_;refine zh ?_
  refine zFH rfl rfl ?_;refine zxd (k+1,_) (⟨a2,by rw[a1,ly,if_neg (fun h=>h.elim h1 fun h=>h2 h.1)]⟩)
 intro a4;replace a4:a0.length<=k:=by simpa using a4
 refine zh ?_;refine ae rfl rfl (⟨?_,hU.ext⟩)
 rw[bz,<-hb,I4 a4]
theorem xd:KA Gt 25 3 1 8:=⟨G5,by kernel_rfl,zd⟩
abbrev lD(O:Nat->Nat)(w:ln)(i:Nat)(v:ix)(l:List Int):Prop:=J1 (fun x=>[nI x]) 3 1 O w i v l
structure PSt where
 width:Int
 usual:List Int
 base:List Int
 check:List Int
 next:List Int
structure PkR(T:Nat)(O:Nat->Nat)(w:ln)(pb:Nat)(p:PSt)(uv bv kv nv:ix):Prop where
 blk:GW O w (T+1) pb #[nI p.width,uv,bv,kv,nv] 27
 u:lD O w (T+2) uv p.usual
 b:lD O w (T+3) bv p.base
 k:lD O w (T+4) kv p.check
 n:lD O w (T+5) nv p.next
def PkO(T:Nat)(O:Nat->Nat)(w:ln)(pb:Nat)(p:PSt):Prop:=∃uv bv kv nv,PkR T O w pb p uv bv kv nv
def iQ(T:Nat)(i:Nat):Prop:=T+1<=i/\i<=T+5
theorem gy(T:Nat):¬iQ T 0:=by unfold iQ;omega
theorem PkR.upd{T:Nat}{S:Nat->Prop}{O O':Nat->Nat}{w w':ln}{pb:Nat}{p:PSt}{uv bv kv nv:ix}(h:PkR T O w pb p uv bv kv nv)(u:GC S O w O' w')(hS:∀i,iQ T i->¬S i):PkR T O' w' pb p uv bv kv nv:=
 ⟨h.blk.upd u zo (hS _ (by unfold iQ;omega)),h.u.upd u zo (hS _ (by unfold iQ;omega)),h.b.upd u zo (hS _ (by unfold iQ;omega)),h.k.upd u zo (hS _ (by unfold iQ;omega)),h.n.upd u zo (hS _ (by unfold iQ;omega))⟩
theorem PkO.upd{T:Nat}{S:Nat->Prop}{O O':Nat->Nat}{w w':ln}{pb:Nat}{p:PSt}(h:PkO T O w pb p)(u:GC S O w O' w')(hS:∀i,iQ T i->¬S i):PkO T O' w' pb p:=by
 obtain⟨uv,bv,kv,nv,h⟩:=h;exact⟨uv,bv,kv,nv,h.upd u hS⟩
section
variable{T:Nat}{O O':Nat→Nat}{w w':ln}{pb:Nat}{p:PSt}{uv bv kv nv v:ix}{l:List Int}
theorem PkR.setK(h:PkR T O w pb p uv bv kv nv)(u:GC (fun j=>j=T+4) O w O' w')(r:lD O' w' (T+4) v l):
  PkR T O' (w'.setCell ⟨pb,3,none⟩ v) pb { p with check:=l } uv bv v nv/\GC (iQ T) O w O' (w'.setCell ⟨pb,3,none⟩ v):=by
 have hb:=h.blk.upd u zo zo;have us:GC (fun j=>j=T+1) O' w' O' (w'.setCell ⟨pb,3,none⟩ v):=GQ zo hb.tag rfl
 exact⟨⟨hb.set 3 v,(h.u.upd u zo zo).upd us zo zo,(h.b.upd u zo zo).upd us zo zo,r.upd us zo zo,(h.n.upd u zo zo).upd us zo zo⟩,
  (u.mono (by unfold iQ;omega) (gy T)).trans (us.mono (by unfold iQ;omega) (gy T))⟩
theorem PkR.setN(h:PkR T O w pb p uv bv kv nv)(u:GC (fun j=>j=T+5) O w O' w')(r:lD O' w' (T+5) v l):
  PkR T O' (w'.setCell ⟨pb,4,none⟩ v) pb { p with next:=l } uv bv kv v/\GC (iQ T) O w O' (w'.setCell ⟨pb,4,none⟩ v):=by
 have hb:=h.blk.upd u zo zo;have us:GC (fun j=>j=T+1) O' w' O' (w'.setCell ⟨pb,4,none⟩ v):=GQ zo hb.tag rfl
 exact⟨⟨hb.set 4 v,(h.u.upd u zo zo).upd us zo zo,(h.b.upd u zo zo).upd us zo zo,(h.k.upd u zo zo).upd us zo zo,r.upd us zo zo⟩,
  (u.mono (by unfold iQ;omega) (gy T)).trans (us.mono (by unfold iQ;omega) (gy T))⟩
theorem PkR.setU(h:PkR T O w pb p uv bv kv nv)(u:GC (fun j=>j=T+2) O w O' w')(r:lD O' w' (T+2) v l):
  PkR T O' (w'.setCell ⟨pb,1,none⟩ v) pb { p with usual:=l } v bv kv nv/\GC (iQ T) O w O' (w'.setCell ⟨pb,1,none⟩ v):=by
 have hb:=h.blk.upd u zo zo;have us:GC (fun j=>j=T+1) O' w' O' (w'.setCell ⟨pb,1,none⟩ v):=GQ zo hb.tag rfl
 exact⟨⟨hb.set 1 v,r.upd us zo zo,(h.b.upd u zo zo).upd us zo zo,(h.k.upd u zo zo).upd us zo zo,(h.n.upd u zo zo).upd us zo zo⟩,
  (u.mono (by unfold iQ;omega) (gy T)).trans (us.mono (by unfold iQ;omega) (gy T))⟩
theorem PkR.setB(h:PkR T O w pb p uv bv kv nv)(u:GC (fun j=>j=T+3) O w O' w')(r:lD O' w' (T+3) v l):
  PkR T O' (w'.setCell ⟨pb,2,none⟩ v) pb { p with base:=l } uv v kv nv/\GC (iQ T) O w O' (w'.setCell ⟨pb,2,none⟩ v):=by
 have hb:=h.blk.upd u zo zo;have us:GC (fun j=>j=T+1) O' w' O' (w'.setCell ⟨pb,2,none⟩ v):=GQ zo hb.tag rfl
 exact⟨⟨hb.set 2 v,(h.u.upd u zo zo).upd us zo zo,r.upd us zo zo,(h.k.upd u zo zo).upd us zo zo,(h.n.upd u zo zo).upd us zo zo⟩,
  (u.mono (by unfold iQ;omega) (gy T)).trans (us.mono (by unfold iQ;omega) (gy T))⟩
theorem PkR.c1(h:PkR T O w pb p uv bv kv nv):w.cell? ⟨pb,1,none⟩=some uv:=h.blk.cell 1 rfl
theorem PkR.c2(h:PkR T O w pb p uv bv kv nv):w.cell? ⟨pb,2,none⟩=some bv:=h.blk.cell 2 rfl
theorem PkR.c3(h:PkR T O w pb p uv bv kv nv):w.cell? ⟨pb,3,none⟩=some kv:=h.blk.cell 3 rfl
theorem PkR.c4(h:PkR T O w pb p uv bv kv nv):w.cell? ⟨pb,4,none⟩=some nv:=h.blk.cell 4 rfl
end
def PSt.long(p:PSt)(j:Nat):PSt:={ p with check:=p.check++G1 j (-1),next:=p.next++G1 j 0 }
def PSt.take(p:PSt)(slot:Nat)(a0 entry:Int):PSt:=
 let q:=p.long (slot+1-p.check.length)
 { q with check:=q.check.set slot a0,next:=q.next.set slot entry }
theorem AM(T:Nat)(pb:Nat)(p:PSt)(slot:Nat)(a4 entry:Int)(B:Nat)(O:Nat->Nat)(w:ln)(hp:PkO T O w pb p)(hR:IR B O w)(hs:slot<=1000000)(hl:p.next.length=p.check.length):
  I9 Gt 126 [nP pb,nI slot,nI a4,nI entry] w fun _ w'=>∃O',PkO T O' w' pb (p.take slot a4 entry)/\GC (iQ T) O w O' w'/\IR B O' w':=by
 refine G0 func126 ntmps126 rfl rfl ?_;refine zh ?_
 refine zlp (fun x:Nat×(Nat->Nat)×World=>[(0,nP pb),(1,nI slot),(2,nI a4),(3,nI entry)]) (fun x=>x.2.2) (fun x=>PkO T x.2.1 x.2.2 pb (p.long x.1)/\GC (iQ T) O w x.2.1 x.2.2/\IR B x.2.1 x.2.2/\x.1<=slot+1-p.check.length) (fun x=>slot+1-p.check.length-x.1) (0,O,w) (⟨by simpa[PSt.long]using hp,Iy (gy T) _ _,hR,G4 _⟩) ?_;rintro⟨j,O1,w1⟩ ⟨⟨uv,bv,kv,nv,h⟩,hU,a6,hj⟩;dsimp only at h hU a6 hj ⊢;have hk:=h.k.sl;have b9:(p.long j).check.length=p.check.length+j:=by simp[PSt.long]
 have b7:(p.long j).next.length=p.check.length+j:=by simp[PSt.long,hl]
 have b8:=hk.len_le;refine zh ?_;refine zvH (RV.ld h.c3 rfl) ?_;refine zC ?_ ?_
 ·intro b1;replace b1:p.check.length+j<=slot:=dT b1;refine zh ?_;refine zv (RV.ld h.c3 rfl) ?_;refine Iw xd h.k a6 (-1) (fun _=>rfl) rfl rfl rfl (by simp[GB]) zo zo zo zd rfl rfl ?_;intro a' w2 O2 a5 a1 c5;obtain⟨h3,a0⟩:=h.setK a1 a5;have a2:=h.blk.upd a1 zo zo;have b4:IR B O2 (w2.setCell ⟨pb,3,none⟩ a'):=a6.upd a0;refine zh ?_;refine aj (j:=3) a2 rfl (JN _) a5.one rfl rfl rfl ?_;refine zh ?_;refine zv (RV.ld h3.c4 rfl) ?_;have h3n:lD O2 (w2.setCell ⟨pb,3,none⟩ a') (T+5) nv (p.long j).next:=h3.n;refine Iw xd h3n b4 (0) (fun _=>rfl) rfl rfl rfl (by simp[GB]) zo zo zo zd rfl rfl ?_;intro a9 w4 O4 b0 a3 b';obtain⟨h5,b3⟩:=h3.setN a3 b0;have b6:=h3.blk.upd a3 zo zo;refine zh ?_;refine aj (j:=4) b6 rfl (JN _) b0.one rfl rfl rfl ?_;refine zh ?_;have e:(p.long (j+1)) = { p.long j with check:=(p.long j).check++[-1],next:=(p.long j).next++[0] }:=by
   simp[PSt.long,List.replicate_succ']
  have hP:PkO T O4 (w4.setCell ⟨pb,4,none⟩ a9) pb (p.long (j+1)):=by rw[e];exact⟨_,_,_,_,h5⟩
  refine zxd (j+1,O4,w4.setCell ⟨pb,4,none⟩ a9) (⟨hP,(hU.trans a0).trans b3,b4.upd b3,zo⟩)
 intro b2;replace b2:¬p.check.length+j<=slot:=dF b2;obtain rfl:j=slot+1-p.check.length:=zo;have hN:=h.n.sl;refine zh ?_;refine aK (fun w1=>w1.cell? ⟨pb,3,none⟩=some kv/\w1.cell? ⟨pb,4,none⟩=some nv) 16 rfl zk ?_;refine zin ⟨h.c3,h.c4⟩ fun zS=>?_
 refine zrm 0 rfl zS rfl ?_;refine zr 1 rfl zS (fun _=>aq rfl) ?_
 refine zrf 2 rfl zS rfl ?_;refine zt 3 rfl zS (fun w1 a7=>RV.ld a7.1 rfl) ?_
 refine zrm 4 rfl zS rfl ?_;refine zrm 5 rfl zS rfl ?_
 refine zr 6 rfl zS (fun _=>aq rfl) ?_;refine zrf 7 rfl zS rfl ?_
 refine zt 8 rfl zS (fun w1 a7=>RV.ld a7.2 rfl) ?_;refine zrm 9 rfl zS rfl ?_
 refine zrm 10 rfl zS rfl ?_;refine zrm 11 rfl zS rfl ?_
 refine zr 12 rfl zS (fun _=>aA hk.sh G5 (GI _) rfl rfl slot rfl zo) ?_;have h2:PkR T O1 w1.drew pb (p.long (slot+1-p.check.length)) uv bv kv nv:=⟨h.blk.drew,h.u.drew,h.b.drew,h.k.drew,h.n.drew⟩
 refine Gu 13 zk rfl ?_;refine J9 h2.k slot zo a4 (GI _) rfl zo rfl rfl rfl rfl ?_
 intro w2 a5 a1;have a2:=h2.blk.upd a1 zo zo;refine zh ?_;refine af (⟨a2.cell 3 rfl,a2.cell 4 rfl⟩) ?_;refine zr 14 rfl (⟨a2.cell 3 rfl,a2.cell 4 rfl⟩) (fun _=>aA hN.sh G5 (GI _) rfl rfl slot rfl zo) ?_;refine Gu 15 zk rfl ?_;refine J9 (h2.n.upd a1 zo zo) slot zo entry (GI _) rfl zo rfl rfl rfl rfl ?_;intro w3 b5 a0;have a8:=a2.upd a0 zo zo;refine zh ?_;refine af (⟨a8.cell 3 rfl,a8.cell 4 rfl⟩) ?_;refine I3 zk ?_;have a3:GC (iQ T) O1 w1 O1 w3:=((a1.mono (by unfold iQ;omega) (gy T)).trans (a0.mono (by unfold iQ;omega) (gy T))).ofDrew;refine aE rfl (⟨O1,⟨uv,bv,kv,nv,⟨a8,(h2.u.upd a1 zo zo).upd a0 zo zo,(h2.b.upd a1 zo zo).upd a0 zo zo,a5.upd a0 zo zo,b5⟩⟩,hU.trans a3,a6.upd a3⟩)
theorem nD{F:J5}(hF:∀(args:Array ix) (w:ln),(callFunc F args).run Gt w=.ok (.enter F args) w)(cs:Array ix)(l:List (Int))(sv:ix)(q:Nat->Bool)(w:ln)(h:Sl (fun x=>[nI x]) 1 w sv l) 
  (hq:∀i,i<l.length->∀w',GR w w'->I9 Gt F ([nI (nth l i)]++cs.toList) w' fun v w''=>v=.bool (q i)/\GR w' w'') :
  I9 Gt 148 [sv,.func (.func F) #[] cs] w fun v w'=>v=nI (dh q l.length)/\GR w w':=by
 have hl:=h.len_le;refine G0 func148 ntmps148 rfl rfl ?_;refine zh ?_;refine zlp (fun x:Nat×ln=>[(0,sv),(1,.func (.func F) #[] cs),(7,nI l.length),(8,nI x.1)]) (fun x=>x.2) (fun x=>x.1<=l.length/\GR w x.2/\∀i,i<x.1->q i=false) (fun x=>l.length-x.1) (0,w) (⟨G4 _,G9 _,fun i hi=>absurd hi (Gv i)⟩) ?_;rintro⟨k,w1⟩ ⟨hk,hE,a1⟩;dsimp only at hk hE a1 ⊢;have h1:=h.ext hE;refine zh ?_;refine zC ?_ ?_
 ·intro a0;replace a0:k<l.length:=dT a0;refine zh ?_;refine zv (RV.ld (h1.ld a0) rfl) ?_;refine df rfl hF rfl (hq k a0 w1 hE) rfl ?_;rintro v w2 ⟨rfl,a3⟩;refine zh ?_;refine zC ?_ ?_
  ·intro hy;refine zh ?_;refine ae rfl rfl (⟨by rw[bY a0 hy a1],hE.trans a3⟩)
  intro hy;refine zh ?_;refine zxd (k+1,w2) (⟨a0,hE.trans a3,fun i hi=>(Gs.1 hi).elim (a1 i) (fun e=>by rw[e];exact hy)⟩)
 intro a2;replace a2:l.length<=k:=dF a2;refine zh ?_;refine ae rfl rfl (⟨by rw[bW fun i hi=>a1 i zo],hE⟩)
theorem kK{F:J5}(hF:∀(args:Array ix) (w:ln),(callFunc F args).run Gt w=.ok (.enter F args) w)(cs:Array ix)(l:List (Int))(sv:ix)(q:Nat->Bool)(w:ln)(h:Sl (fun x=>[nI x]) 1 w sv l) 
  (hq:∀i,i<l.length->∀w',GR w w'->I9 Gt F ([nI (nth l i)]++cs.toList) w' fun v w''=>v=.bool (q i)/\GR w' w'') :
  I9 Gt 122 [sv,.func (.func F) #[] cs] w fun v w'=>v=.bool (iH q l.length)/\GR w w':=by
 refine G0 func122 ntmps122 rfl rfl ?_;refine zh ?_
 refine zc call148 (nD hF cs l sv q w h hq) ?_;rintro v w1 ⟨rfl,hE⟩;refine zh ?_
 refine ae rfl rfl (⟨by rw[firstN_any],hE⟩)
theorem nz{F:J5}(hF:∀(args:Array ix) (w:ln),(callFunc F args).run Gt w=.ok (.enter F args) w)(cs:Array ix)(l:List (ix))(sv:ix)(q:Nat->Bool)(w:ln)(h:Sl (fun x=>[x]) 1 w sv l) 
  (hq:∀i,i<l.length->∀w',GR w w'->I9 Gt F ([id (nth l i)]++cs.toList) w' fun v w''=>v=.bool (q i)/\GR w' w'') :
  I9 Gt 77 [sv,.func (.func F) #[] cs] w fun v w'=>v=nI (dh q l.length)/\GR w w':=by
 have hl:=h.len_le;refine G0 func77 ntmps77 rfl rfl ?_;refine zh ?_;refine zlp (fun x:Nat×ln=>[(0,sv),(1,.func (.func F) #[] cs),(7,nI l.length),(8,nI x.1)]) (fun x=>x.2) (fun x=>x.1<=l.length/\GR w x.2/\∀i,i<x.1->q i=false) (fun x=>l.length-x.1) (0,w) (⟨G4 _,G9 _,fun i hi=>absurd hi (Gv i)⟩) ?_;rintro⟨k,w1⟩ ⟨hk,hE,a1⟩;dsimp only at hk hE a1 ⊢;have h1:=h.ext hE;refine zh ?_;refine zC ?_ ?_
 ·intro a0;replace a0:k<l.length:=dT a0;refine zh ?_;refine zv (RV.ld (h1.ld a0) rfl) ?_;refine df rfl hF rfl (hq k a0 w1 hE) rfl ?_;rintro v w2 ⟨rfl,a3⟩;refine zh ?_;refine zC ?_ ?_
  ·intro hy;refine zh ?_;refine ae rfl rfl (⟨by rw[bY a0 hy a1],hE.trans a3⟩)
  intro hy;refine zh ?_;refine zxd (k+1,w2) (⟨a0,hE.trans a3,fun i hi=>(Gs.1 hi).elim (a1 i) (fun e=>by rw[e];exact hy)⟩)
 intro a2;replace a2:l.length<=k:=dF a2;refine zh ?_;refine ae rfl rfl (⟨by rw[bW fun i hi=>a1 i zo],hE⟩)
theorem eT{F:J5}(hF:∀(args:Array ix) (w:ln),(callFunc F args).run Gt w=.ok (.enter F args) w)(cs:Array ix)(l:List (ix))(sv:ix)(q:Nat->Bool)(w:ln)(h:Sl (fun x=>[x]) 1 w sv l) 
  (hq:∀i,i<l.length->∀w',GR w w'->I9 Gt F ([id (nth l i)]++cs.toList) w' fun v w''=>v=.bool (q i)/\GR w' w'') :
  I9 Gt 49 [sv,.func (.func F) #[] cs] w fun v w'=>v=.bool (iH q l.length)/\GR w w':=by
 refine G0 func49 ntmps49 rfl rfl ?_;refine zh ?_
 refine zc call77 (nz hF cs l sv q w h hq) ?_;rintro v w1 ⟨rfl,hE⟩;refine zh ?_
 refine ae rfl rfl (⟨by rw[firstN_any],hE⟩)
theorem sF(a:Int)(b1 b2:Addr)(lo hi:Int)(w:ln)(h1:w.cell? b1=some (nI lo))(h2:w.cell? b2=some (nI hi)):
  I9 Gt 123 [nI a,.pointer (some b1),.pointer (some b2)] w fun v w'=>v=.bool (decide (a<lo)||decide (hi<a))/\w=w':=by
 refine G0 func123 ntmps123 rfl rfl ?_;refine zh ?_
 by_cases a0:a<lo
 ·refine ao (d:=8) rfl (b':=true) (decide_eq_true a0) ?_;refine zh ?_
  refine ae rfl rfl (⟨by simp[a0],rfl⟩)
 refine ao (d:=8) rfl (b':=false) (decide_eq_false a0) ?_;refine zh ?_
 refine ae rfl rfl (⟨by simp[a0],rfl⟩)
def inB(lo hi:Int)(l:List Int):Bool:=l.all fun n=>decide (lo<=n)&&decide (n<=hi)
theorem eD(lo hi:Int)(l:List Int)(lv:ix)(w:ln)(h:Is w lv l):
  I9 Gt 99 [lv,nI lo,nI hi] w fun v w'=>v=.bool (inB lo hi l)/\GR w w':=by
 refine G0 func99 ntmps99 rfl rfl ?_;refine zh ?_
 refine WL.box rfl rfl ?_;refine WL.box rfl rfl ?_
 refine zh ?_;refine zv (dH rfl rfl) ?_
 have hE:GR w ((w.alloc (.cells #[nI lo] 3)).alloc (.cells #[nI hi] 3)):=(Ji _ _).trans (Ji _ _);have c2:((w.alloc (.cells #[nI lo] 3)).alloc (.cells #[nI hi] 3)).cell? ⟨w.heap.size,0,none⟩=some (nI lo):=(Ji _ _).cell (by rw[Jk _ _ _ _ rfl];rfl);have c3:((w.alloc (.cells #[nI lo] 3)).alloc (.cells #[nI hi] 3)).cell? ⟨(w.alloc (.cells #[nI lo] 3)).heap.size,0,none⟩=some (nI hi):=by rw[Jk _ _ _ _ rfl];rfl
 refine zc call122 (kK call123 _ l lv (fun i=>decide (nth l i<lo)||decide (hi<nth l i)) _ (h.ext hE) (fun i hi w' a0=>(sF _ _ _ _ _ w' (a0.cell c2) (a0.cell c3)).mono fun v w'' ⟨e1,e2⟩=>⟨e1,e2▸G9 _⟩)) ?_;rintro v w1 ⟨rfl,a1⟩;refine zh ?_
 refine ae rfl rfl (⟨?_,hE.trans a1⟩);rw[gL (l:=l) (p:=fun n=>decide (n<lo)||decide (hi<n)),inB,List.all_eq_not_any_not];congr 3;funext n;rw[Bool.eq_iff_iff];simp
def eU(a0:List Int)(u:Int)(k:Nat):List Nat:=(Gx k).filter fun c=>nth a0 c != u
def bu(a0:List Int)(u:Int):List Nat:=eU a0 u a0.length
theorem jd(a0:List Int)(u:Int)(k:Nat):eU a0 u (k+1)=if nth a0 k=u then eU a0 u k else eU a0 u k++[k]:=by
 unfold eU;rw[IC,List.filter_append]
 by_cases h:nth a0 k=u<;>simp[h]
theorem jR{a0:List Int}{u:Int}{k c:Nat}(h:c∈eU a0 u k):c<k:=by
 simp only[eU,List.mem_filter,Ip]at h;exact h.1
theorem xi(a0:List Int)(u:Int)(k:Nat):(eU a0 u k).length<=k:=by
 have:=List.length_filter_le (fun c=>nth a0 c != u) (Gx k);simpa[eU]using this
def dU(a1:List Int)(a0:List Nat)(b:Nat):Bool:=a0.all (nH a1 b)
def eX(a1:List Int)(a0:List Nat):Nat:=((Gx (a1.length+1)).find? (dU a1 a0)).getD 0
theorem kA(a1:List Int)(a0:List Nat):dU a1 a0 a1.length=true:=by
 rw[dU,GM];intro c _;simp[nH]
theorem Aa{a1:List Int}{a0:List Nat}{b:Nat}(hb:dU a1 a0 b=true)(a2:∀j,j<b->dU a1 a0 j=false):eX a1 a0=b:=by
 have a3:b<=a1.length:=by
  refine Nat.le_of_not_lt fun h=>?_
  have:=a2 _ h;rw[kA]at this;cases this
 have:(Gx (a1.length+1)).find? (dU a1 a0)=some b:=by
  rw[Jb];exact⟨hb,Ip.2 zo,fun j hj=>by simp[a2 j hj]⟩
 rw[eX,this];rfl
theorem fO(a1:List Int)(a0:List Nat):dU a1 a0 (eX a1 a0)=true/\eX a1 a0<=a1.length/\∀j,j<eX a1 a0->dU a1 a0 j=false:=by
 have:∃b,(Gx (a1.length+1)).find? (dU a1 a0)=some b:=by
  cases hf:(Gx (a1.length+1)).find? (dU a1 a0)with
  |some j=>exact⟨j,rfl⟩
  |none=>rw[List.find?_eq_none]at hf;exact absurd (kA a1 a0) (hf _ (Ip.2 zo))
 obtain⟨b,hb⟩:=this;have h2:=hb;rw[Jb]at h2;have h3:=Ip.1 h2.2.1;rw[eX,hb];exact⟨h2.1,by simpa using(by omega:b<=a1.length),fun j hj=>by simpa using h2.2.2 j hj⟩
def PSt.lay(p:PSt)(a1:List Int):PSt:=
 let u:=bz a1
 let a0:=bu a1 u
 let b:=eX p.check a0
 let q:=a0.foldl (fun q c=>q.take (b+c) p.base.length (nth a1 c)) p
 { q with usual:=q.usual++[u],base:=q.base++[(b:Int)] }
theorem lx{p:PSt}{s:Nat}{r e:Int}(h:p.next.length=p.check.length):(p.take s r e).next.length=(p.take s r e).check.length:=by simp[PSt.take,PSt.long,h]
def vu(T:Nat)(i:Nat):Prop:=T+1<=i/\i<=T+6
theorem qT(T:Nat):¬vu T 0:=by unfold vu;omega
abbrev FM(O:Nat->Nat)(w:ln)(i:Nat)(v:ix)(l:List Nat):Prop:=J1 (fun(x:Nat)=>[nI (x:Int)]) 3 1 O w i v l
theorem th(T pb:Nat)(p:PSt)(a0:List Int)(rv:ix)(B:Nat)(O:Nat->Nat)(w:ln)(hp:PkO T O w pb p)(hR:IR B O w)
  (a4:∀w',RowKit.Below B w w'->Is w' rv a0) (e4:0<a0.length) (hw:a0.length<=64) (hl:p.next.length=p.check.length) (g3:p.check.length<=100000)
  (e0:p.usual.length<=100000) (e8:p.base.length<=100000) :
  I9 Gt 100 [nP pb,rv] w fun _ w'=>∃O',PkO T O' w' pb (p.lay a0)/\GC (vu T) O w O' w'/\IR B O' w':=by
 have g0:=(a4 w (J2 _ _)).len_le;refine G0 func100 ntmps100 rfl rfl ?_;refine zg ?_;refine zc call124 (xJ a0 rv w (a4 w (J2 _ _)) e4) ?_;rintro v w1 ⟨rfl,d6⟩;have b9:GC (vu T) O w O w1:=aa (qT T) O d6;have g7:=hR.upd b9;have e3:PkO T O w1 pb p:=hp.upd (aa (S:=fun _=>False) (fun h=>h) O d6) (fun _ _ h=>h);generalize hu:bz a0=u;refine zg ?_;refine zvG (Il (by first|exact a4 _ (b9.below hR)) G5 rfl) ?_;refine zlp (fun x:Nat×(Nat->Nat)×World×ix=>[(0,nP pb),(1,rv),(4,nI u),(5,x.2.2.2),(13,rv),(14,nI a0.length),(15,nI x.1)]) (fun x=>x.2.2.1) (fun x=>x.1<=a0.length/\PkO T x.2.1 x.2.2.1 pb p/\FM x.2.1 x.2.2.1 (T+6) x.2.2.2 (eU a0 u x.1)/\GC (vu T) O w x.2.1 x.2.2.1) (fun x=>a0.length-x.1) (0,O,w1,nS) (⟨G4 _,e3,GJ _ _ _ _ _ _,b9⟩) ?_;rintro⟨k,O2,w2,cv⟩ ⟨hk,b3,a5,a'⟩;dsimp only at hk b3 a5 a' ⊢;have f7:=hR.upd a';have c8:=a4 w2 (a'.below hR);refine zg ?_;refine zC ?_ ?_
 ·intro a2;replace a2:k<a0.length:=by have:=of_decide_eq_true a2;omega
  have g2:=xi a0 u k;refine zg ?_;refine zv (GU (by first|exact c8) G5 (GI _) rfl rfl _ rfl zo) ?_;refine zvG (RV.ld (c8.ld zo) rfl) ?_;refine zC ?_ ?_
  ·intro a7;replace a7:nth a0 k≠u:=by simpa using a7
   refine zg ?_;refine Iw xd a5 f7 (k) (fun _=>rfl) rfl rfl rfl (by simp[GB]) zo zo zo zd rfl rfl ?_
   intro f8 w3 O3 b8 d5 g6;refine zg ?_;refine zvG (Im rfl rfl (GZ zo)) ?_;refine zxd (k+1,O3,w3,f8) (⟨a2,b3.upd d5 (by unfold iQ;omega),by dsimp only;rw[jd,if_neg a7];exact b8,a'.trans (d5.mono (by unfold vu;omega) (qT T))⟩)
  intro b7;replace b7:nth a0 k=u:=by simpa using b7
  refine zg ?_;refine zvG (Im rfl rfl (GZ zo)) ?_
  refine zxd (k+1,O2,w2,cv) (⟨a2,b3,by dsimp only;rw[jd,if_pos b7];exact a5,a'⟩)
 intro b6;obtain rfl:k=a0.length:=by have:=of_decide_eq_false b6;omega
 obtain⟨uv,bv,kv,nv,h⟩:=b3;have a6:∀c∈bu a0 u,c<=64:=fun c hc=>by have:=jR hc;omega
 replace a5:FM O2 w2 (T+6) cv (bu a0 u):=a5;refine zg ?_;refine zlp (fun b:Nat=>[(0,nP pb),(1,rv),(4,nI u),(5,cv),(8,nI b)]) (fun b=>w2) (fun b=>b<=p.check.length/\∀j,j<b->dU p.check (bu a0 u) j=false) (fun b=>p.check.length-b) 0 (⟨G4 _,fun j hj=>absurd hj (Gv j)⟩) ?_;intro b ⟨hb,d0⟩;refine zg ?_;refine zc call125 (vI pb cv kv (bu a0 u) p.check b w2 h.c3 h.k.sl a5.sl a6 zo) ?_;rintro v _ ⟨rfl,rfl⟩;refine zg ?_;refine zC ?_ ?_
 ·intro a3;replace a3:dU p.check (bu a0 u) b=false:=by rw[It]at a3;exact a3
  have a2:b<p.check.length:=by
   refine Nat.lt_of_le_of_ne hb fun e=>?_
   rw[e,kA]at a3;cases a3
  refine zg ?_;refine zvG (Im rfl rfl (GZ zo)) ?_
  refine zxd (b+1) (⟨a2,fun j hj=>(Gs.1 hj).elim (d0 j) (fun e=>by rw[e];exact a3)⟩)
 intro a1;replace a1:dU p.check (bu a0 u) b=true:=by rw[Bool.not_eq_false']at a1;exact a1
 have b0:=Aa a1 d0;have e6:=a5.sl;refine zg ?_;refine zvG (Il (by first|exact e6) G5 rfl) ?_;refine zlp (fun x:Nat×(Nat->Nat)×World=>[(0,nP pb),(1,rv),(4,nI u),(5,cv),(8,nI b),(35,cv),(36,nI (bu a0 u).length),(37,nI x.1)]) (fun x=>x.2.2) (fun x=>x.1<=(bu a0 u).length/\FM x.2.1 x.2.2 (T+6) cv (bu a0 u)/\GC (vu T) O w x.2.1 x.2.2/\(∃q:PSt,q=((bu a0 u).take x.1).foldl (fun q c=>q.take (b+c) p.base.length (nth a0 c)) p/\PkO T x.2.1 x.2.2 pb q/\q.base=p.base/\q.usual=p.usual/\q.next.length=q.check.length)) (fun x=>(bu a0 u).length-x.1) (0,O2,w2) (⟨G4 _,a5,a',p,rfl,⟨uv,bv,kv,nv,h⟩,rfl,rfl,hl⟩) ?_;rintro⟨k,O4,w4⟩ ⟨e5,a8,b2,q,hq,⟨d8,d7,d',d9,h4⟩,b5,c9,c'⟩;dsimp only at e5 a8 b2 hq h4 ⊢;have b':=hR.upd b2;have c7:=a4 w4 (b2.below hR);have a9:=a8.sl;have f3:=h4.b.sl;have g1:=a9.len_le;refine zg ?_;refine zC ?_ ?_
 ·intro a2;replace a2:k<(bu a0 u).length:=by have:=of_decide_eq_true a2;omega
  have e7:=a6 _ (aN a2);have d1:=jR (aN a2);refine zg ?_;refine zv (GU (by first|exact a9) G5 (GI _) rfl rfl _ rfl zo) ?_;refine zvG (RV.ld (a9.ld zo) rfl) ?_;refine J0 13 rfl rfl zk zk ?_;refine zg ?_;refine zwG (Im rfl rfl (GZ zo)) ?_;refine zw (RV.ld h4.c2 rfl) ?_;refine zwG (Il ((f3).drew) G5 rfl) ?_;refine zw (GU c7.drew G5 (GI _) rfl rfl (nth (bu a0 u) k) rfl d1) ?_;refine zw (RV.ld (c7.ld d1) rfl) ?_;refine JO ?_;have e2:PkO T O4 w4.drew pb q:=⟨d8,d7,d',d9,h4.blk.drew,h4.u.drew,h4.b.drew,h4.k.drew,h4.n.drew⟩
  rw[show(q.base.length:Int)=(p.base.length:Int)from by rw[b5]];refine zc call126 (AM T pb q (b+nth (bu a0 u) k) p.base.length (nth a0 (nth (bu a0 u) k)) B O4 w4.drew e2 b'.drew zo c') ?_;rintro v w5 ⟨O5,e1,b1,f6⟩;have b4:GC (vu T) O4 w4 O5 w5:=(b1.mono (fun i hi=>by unfold iQ at hi;unfold vu;omega) (qT T)).ofDrew;refine zg ?_;refine zvG (Im rfl rfl (GZ zo)) ?_;refine zxd (k+1,O5,w5) (⟨a2,a8.drew.upd b1 zo (by unfold iQ;omega),b2.trans b4,_,?_,e1,b5,c9,lx c'⟩);rw[aF a2,GF,<-hq];rfl
 intro b6;obtain rfl:k=(bu a0 u).length:=by have:=of_decide_eq_false b6;omega
 rw[GA]at hq;refine zg ?_;refine zvG (RV.ld h4.c1 rfl) ?_;have f':q.usual.length<=100000:=by rw[c9];exact e0
 refine Iw xd h4.u b' (u) (fun _=>rfl) rfl rfl rfl (by simp[GB]) zo zo zo zd rfl rfl ?_;intro c5 w5 O5 c6 b1 f6;obtain⟨h5,b4⟩:=h4.setU b1 c6;have e':=h4.blk.upd b1 zo zo;have f5:IR B O5 (w5.setCell ⟨pb,1,none⟩ c5):=b'.upd b4;refine zg ?_
 refine aj (j:=1) e' rfl (JN _) c6.one rfl rfl rfl ?_;refine zg ?_
 refine zvG (RV.ld h5.c2 rfl) ?_;have h5b:lD O5 (w5.setCell ⟨pb,1,none⟩ c5) (T+3) d7 q.base:=h5.b;have g4:q.base.length<=100000:=by rw[b5];exact e8
 refine Iw xd h5b f5 (b) (fun _=>rfl) rfl rfl rfl (by simp[GB]) zo zo zo zd rfl rfl ?_;intro f9 w6 O6 d2 d4 g5;obtain⟨h6,f4⟩:=h5.setB d4 d2;have e9:=h5.blk.upd d4 zo zo;refine zg ?_
 refine aj (j:=2) e9 rfl (JN _) d2.one rfl rfl rfl ?_;refine zg ?_
 have d3:GC (vu T) O w O6 (w6.setCell ⟨pb,2,none⟩ f9):=(b2.trans (b4.mono (fun i hi=>by unfold iQ at hi;unfold vu;omega) (qT T))).trans (f4.mono (fun i hi=>by unfold iQ at hi;unfold vu;omega) (qT T));refine aE rfl (⟨O6,?_,d3,hR.upd d3⟩);have e:p.lay a0 = { q with usual:=q.usual++[u],base:=q.base++[(b:Int)] }:=by simp only[PSt.lay,hu];rw[b0,<-hq]
 rw[e];exact⟨_,_,_,_,h6⟩
theorem Dg:cD Gt 27 #[(0,1),(1,1),(2,1),(3,1),(4,1)]:=⟨_,underlying27,fun w=>by kernel_rfl⟩
def Rows(w:ln)(v:ix)(L:List (List Int)):Prop:=
 ∃rvs:List ix,Sl (fun x=>[x]) 1 w v rvs/\rvs.length=L.length/\∀i,i<L.length->Is w (nth rvs i) (nth L i)
theorem Rows.ext{w w':ln}{v:ix}{L:List (List Int)}(h:Rows w v L)(e:GR w w'):Rows w' v L:=by
 obtain⟨a0,h1,h2,h3⟩:=h;exact⟨a0,h1.ext e,h2,fun i hi=>(h3 i hi).ext e⟩
def gK(a0:Int)(a1:List Int):Bool:=(a1.length:Int) != a0 || !(inB 0 65535 a1)
theorem C5(a0:Int)(a1:List Int)(rv:ix)(b:Addr)(w:ln)(h:Is w rv a1)(hb:w.cell? b=some (nI a0)):
  I9 Gt 98 [rv,.pointer (some b)] w fun v w'=>v=.bool (gK a0 a1)/\GR w w':=by
 refine G0 func98 ntmps98 rfl rfl ?_;refine zh ?_
 by_cases hl:(a1.length:Int)=a0
 ·refine ao (d:=8) rfl (b':=false) (by simpa using hl) ?_;refine zh ?_
  refine zc JZ (eD 0 65535 a1 rv w h) ?_;rintro v w1 ⟨rfl,hE⟩;refine zh ?_
  refine ae rfl rfl (⟨by simp[gK,hl],hE⟩)
 refine ao (d:=8) rfl (b':=true) (by simpa using hl) ?_;refine zh ?_
 refine ae rfl rfl (⟨by simp[gK,hl],G9 _⟩)
def bG(a0:Int)(L:List (List Int)):Bool:=decide (a0<1)||decide (64<a0)||decide (1000<L.length)||L.any (gK a0)
def ky(a0:Int)(L:List (List Int)):PSt:=L.foldl PSt.lay ⟨a0,[],[],[],[]⟩
def PkV(w:ln)(v:ix)(p:PSt):Prop:=
 ∃uv bv kv nv,v=.agg #[nI p.width,uv,bv,kv,nv]/\Is w uv p.usual/\Is w bv p.base/\Is w kv p.check/\Is w nv p.next
theorem PkV.ext{w w':ln}{v:ix}{p:PSt}(h:PkV w v p)(e:GR w w'):PkV w' v p:=by
 obtain⟨uv,bv,kv,nv,h0,h1,h2,h3,h4⟩:=h;exact⟨uv,bv,kv,nv,h0,h1.ext e,h2.ext e,h3.ext e,h4.ext e⟩
theorem qm(p:PSt)(s:Nat)(r e:Int):(p.take s r e).check.length=max p.check.length (s+1)/\(p.take s r e).usual=p.usual/\(p.take s r e).base=p.base/\(p.take s r e).width=p.width:=by
 simp[PSt.take,PSt.long];omega
theorem jL(f:Nat->Int)(b:Nat)(r:Int):∀(a0:List Nat) (p:PSt),(∀c∈a0,c<64)->p.next.length=p.check.length->
  let q:=a0.foldl (fun q c=>q.take (b+c) r (f c)) p
  q.check.length<=max p.check.length (b+64)/\q.usual=p.usual/\q.base=p.base/\q.width=p.width/\q.next.length=q.check.length
 |[],p,_,hl=>⟨by simp;omega,rfl,rfl,rfl,hl⟩
 |c::a0,p,hc,hl=>by
  have h:=jL f b r a0 (p.take (b+c) r (f c)) (fun x hx=>hc x (by simp[hx])) (lx hl);obtain⟨t1,t2,t3,t4⟩:=qm p (b+c) r (f c);have:=hc c (by simp);simp only[Gp]at h ⊢;rw[t1,t2,t3,t4]at h;exact⟨zo,h.2⟩
theorem gU(p:PSt)(a0:List Int)(hw:a0.length<=64)(hl:p.next.length=p.check.length):
  (p.lay a0).check.length<=p.check.length+64/\(p.lay a0).usual=p.usual++[bz a0]/\(p.lay a0).base.length=p.base.length+1/\(p.lay a0).width=p.width/\(p.lay a0).next.length=(p.lay a0).check.length:=by
 have hb:=(fO p.check (bu a0 (bz a0))).2.1;obtain⟨h1,h2,h3,h4,h5⟩:=jL (fun c=>nth a0 c) (eX p.check (bu a0 (bz a0))) p.base.length (bu a0 (bz a0)) p (fun c hc=>by have:=jR hc;omega) hl;refine⟨?_,?_,?_,h4,h5⟩
 ·simp only[PSt.lay];omega
 ·simp only[PSt.lay];rw[h2]
 simp only[PSt.lay];rw[h3];simp
def PkF(B:Nat)(v:ix):Prop:=∃wd uv bv kv nv,v=.agg #[wd,uv,bv,kv,nv]/\IS B uv/\IS B bv/\IS B kv/\IS B nv
theorem lZ(width:Int)(L:List (List Int))(rv:ix)(w:ln)(h:Rows w rv L):
  I9 Gt 66 [nI width,rv] w fun v w'=>∃pv e,v=.tuple #[pv,nI e]/\PkV w' pv (if bG width L then⟨0,[],[],[],[]⟩else ky width L)/\e=(if bG width L then 1 else 0)/\GR w w'/\(bG width L=false->PkF w.heap.size pv):=by
 obtain⟨a4,hr,b1,c5⟩:=h;have f4:=hr.len_le;refine G0 func66 ntmps66 rfl rfl ?_;refine zh ?_;refine aG (aw w) 1 zo rfl rfl ?_;intro bw w1 O1 d' e0 e6 e';refine ar e6 2 zo (GX _) rfl ?_;intro br w2 O2 a1 d2 e5 e9;have a':=d'.upd d2 zd zd;have cw:∀w',GR w2 w'->w'.cell? ⟨bw,0,none⟩=some (nI width):=fun w' e=>e.cell (a'.cell 0 rfl)
 have hE:=e'.trans e9;have hU:=(e0.mono (S':=fun j=>1<=j/\j<=16) zo zo).trans (d2.mono zo zo);have d4:=hr.ext hE;refine zh ?_;refine zvH (dH rfl rfl) ?_;refine zvH (RV.ld (cw _ (G9 _)) rfl) ?_;have fin:∀(w3:ln),GR w w3->bG width L=true->
   ∃pv e,Value.tuple #[.agg #[nI 0,nS,nS,nS,nS],nI 1]=.tuple #[pv,nI e]/\PkV w3 pv (if bG width L then⟨0,[],[],[],[]⟩else ky width L)/\e=(if bG width L then 1 else 0)/\GR w w3/\(bG width L=false->PkF w.heap.size pv):=by
  intro w3 he hb;rw[hb];exact⟨_,_,rfl,⟨_,_,_,_,rfl,(GJ _ 3 _ (fun _=>0) w3 1).sl,(GJ _ 3 _ (fun _=>0) w3 1).sl,(GJ _ 3 _ (fun _=>0) w3 1).sl,(GJ _ 3 _ (fun _=>0) w3 1).sl⟩,rfl,he,fun h=>absurd h zd⟩
 by_cases h1:width<1
 ·refine ao (d:=13) rfl (b':=true) (decide_eq_true h1) ?_;refine zh ?_
  refine zTH rfl rfl ?_;refine zv (aD Dg (GX _) rfl (by first|rfl|(simp only[G7,GL];rfl)) rfl rfl) ?_
  refine aZ a1 rfl (GT _) rfl rfl rfl rfl ?_;refine zh ?_
  refine aO rfl rfl rfl ((a1.setRow).cellsAdd) (IL _) (GT _) (fin _ (hU.trans (G8 zo a1.tag zo)).ext (by simp[bG,h1]))
 refine ao (d:=13) rfl (b':=false) (decide_eq_false h1) ?_;refine zh ?_
 refine zvH (RV.ld (cw _ (G9 _)) rfl) ?_
 by_cases h2:64<width
 ·refine ao (d:=17) rfl (b':=true) (decide_eq_true h2) ?_;refine zh ?_
  refine zTH rfl rfl ?_;refine zv (aD Dg (GX _) rfl (by first|rfl|(simp only[G7,GL];rfl)) rfl rfl) ?_
  refine aZ a1 rfl (GT _) rfl rfl rfl rfl ?_;refine zh ?_
  refine aO rfl rfl rfl ((a1.setRow).cellsAdd) (IL _) (GT _) (fin _ (hU.trans (G8 zo a1.tag zo)).ext (by simp[bG,h2]))
 refine ao (d:=17) rfl (b':=false) (decide_eq_false h2) ?_;refine zh ?_
 by_cases h3:1000<L.length
 ·refine ao (d:=22) rfl (b':=true) (by rw[b1];exact decide_eq_true zo) ?_;refine zh ?_
  refine zTH rfl rfl ?_;refine zv (aD Dg (GX _) rfl (by first|rfl|(simp only[G7,GL];rfl)) rfl rfl) ?_
  refine aZ a1 rfl (GT _) rfl rfl rfl rfl ?_;refine zh ?_
  refine aO rfl rfl rfl ((a1.setRow).cellsAdd) (IL _) (GT _) (fin _ (hU.trans (G8 zo a1.tag zo)).ext (by simp[bG,h3]))
 refine ao (d:=22) rfl (b':=false) (by rw[b1];exact decide_eq_false zo) ?_;refine zh ?_
 refine zc call49 (eT call98 _ a4 rv (fun i=>gK width (nth L i)) _ d4 (fun i hi w' b9=>C5 width (nth L i) (nth a4 i) _ w' (((c5 i zo).ext hE).ext b9) (cw w' b9))) ?_;rintro v w3 ⟨rfl,b3⟩;rw[b1,gL (p:=gK width)];have a2:=a1.upd (aa (S:=fun _=>False) (fun h=>h) O2 b3) zd (fun h=>h);have b5:=a'.upd (aa (S:=fun _=>False) (fun h=>h) O2 b3) zd (fun h=>h);have d1:=hU.trans (aa zo O2 b3);refine zh ?_
 refine zC ?_ ?_
 ·intro a3;refine zh ?_;refine zv (aD Dg (GX _) rfl (by first|rfl|(simp only[G7,GL];rfl)) rfl rfl) ?_;refine aZ a2 rfl (GT _) rfl rfl rfl rfl ?_;refine zh ?_;refine aO rfl rfl rfl ((a2.setRow).cellsAdd) (IL _) (GT _) (fin _ (d1.trans (G8 zo a2.tag zo)).ext (by simp only[bG,a3];simp))
 intro a5;have a3:bG width L=false:=by simp only[bG,a5];simp[h1,h2,h3]
 have e4:=e5.ext b3;refine zh ?_;refine zv (RV.ld (b5.cell 0 rfl) rfl) ?_;refine zv (aD Dg (GX _) rfl (by first|rfl|(simp only[G7,GL];rfl)) rfl rfl) ?_;refine ar e4 11 zo (GX _) rfl ?_;intro pb w4 O4 b2 d0 e3 f5;refine zsa (us:=#[nI width,nS,nS,nS,nS]) b2 (GT _) ?_;have c':GC (fun j=>1<=j/\j<=16) O4 w4 O4 (w4.setRow pb #[nI width,nS,nS,nS,nS]):=G8 zo b2.tag zo;have b7:GW O4 (w4.setRow pb #[nI width,nS,nS,nS,nS]) 2 br _ 27:=(a2.upd d0 zd zd).upd (G8 (S:=fun j=>j=11) zd b2.tag rfl) zd zd;have e8:PkO 10 O4 (w4.setRow pb #[nI width,nS,nS,nS,nS]) pb ⟨width,[],[],[],[]⟩:=⟨_,_,_,_,b2.setRow,GJ _ _ _ _ _ _,GJ _ _ _ _ _ _,GJ _ _ _ _ _ _,GJ _ _ _ _ _ _⟩
 have c9:=(d1.trans (d0.mono (S':=fun j=>1<=j/\j<=16) zo zo)).trans c';have e2:=e3.upd c';generalize w4.setRow pb #[nI width,nS,nS,nS,nS]=w5 at *;have f3:1<=width/\width<=64/\L.length<=1000:=zo;have a9:∀i,i<L.length->((nth L i).length:Int)=width:=fun i hi=>by
  have:=I5.1 a5 _ (aN hi);simp only[gK,IT,not_or,bne_iff_ne,ne_eq,Jj]at this;exact this.1
 refine zh ?_;refine zvH (Il (by first|exact hr.ext c9.ext) Kr rfl) ?_
 refine zlp (fun x:Nat×(Nat->Nat)×World=>[(1,rv),(4,nP br),(7,nP pb),(30,rv),(31,nI a4.length),(32,nI x.1)]) (fun x=>x.2.2) (fun x=>x.1<=a4.length/\GW x.2.1 x.2.2 2 br #[nI 0,nS,nS,nS,nS] 27/\IR w.heap.size x.2.1 x.2.2/\GC (fun j=>1<=j/\j<=16) (fun _=>0) w x.2.1 x.2.2/\(∃q,q=(L.take x.1).foldl PSt.lay ⟨width,[],[],[],[]⟩/\PkO 10 x.2.1 x.2.2 pb q/\q.check.length<=64*x.1/\q.usual.length=x.1/\q.base.length=x.1/\q.next.length=q.check.length)) (fun x=>a4.length-x.1) (0,O4,w5) (⟨G4 _,b7,e2,c9,_,rfl,e8,by simp,rfl,rfl,rfl⟩) ?_;rintro⟨k,O7,w7⟩ ⟨hk,a0,a8,b0,q,hq,b8,d6,c6,d7,c7⟩;dsimp only at hk a0 a8 b0 hq b8 d6 c6 d7 ⊢;have d3:=hr.ext b0.ext;refine zh ?_
 refine zC ?_ ?_
 ·intro b4;replace b4:k<a4.length:=dT b4;have a6:k<L.length:=zo;have d8:=a9 k a6;refine zh ?_;refine zvH (RV.ld (d3.ld zo) rfl) ?_;refine zc call100 (th 10 pb q (nth L k) (nth a4 k) w.heap.size O7 w7 b8 a8 (fun w' hB=>(c5 k a6).ext (Kf b0.ext hB)) zo zo c7 zo zo zo) ?_;rintro v w8 ⟨O8,e7,c8,e1⟩;have b6:=a0.upd c8 zd (by unfold vu;omega);obtain⟨l1,l2,l3,l4,l5⟩:=gU q (nth L k) zo c7;refine zh ?_;refine zxd (k+1,O8,w8) (⟨b4,b6,e1,b0.trans (c8.mono (by unfold vu;omega) zo),_,?_,e7,zo,by rw[l2];simp[c6],zo,l5⟩);rw[aF a6,GF,<-hq];rfl
 intro d9;obtain rfl:k=a4.length:=dF d9;rw[b1,GA]at hq;obtain⟨uv,bv,kv,nv,h7⟩:=b8;refine zh ?_;refine zv (ah h7.blk.cellsAdd (IL _) (GT _) rfl) ?_;refine zsb (us:=#[nI q.width,uv,bv,kv,nv]) a0 (GT _) (by simp only[G7,h7.u.one,h7.b.one,h7.k.one,h7.n.one];rfl) ?_;have a7:GC (fun j=>j=2) O7 w7 O7 (w7.setRow br #[nI q.width,uv,bv,kv,nv]):=G8 zd a0.tag rfl;have h9:=h7.upd a7 (by unfold iQ;omega);have d5:ky width L=q:=hq.symm;refine zh ?_;refine aO rfl rfl rfl ((a0.setRow).cellsAdd) (IL _) (GT _) (⟨_,_,rfl,⟨uv,bv,kv,nv,?_,?_,?_,?_,?_⟩,by rw[a3];rfl,(b0.trans (a7.mono zo zo)).ext,fun _=>⟨_,uv,bv,kv,nv,rfl,h9.u.newV zd (a8.upd a7),h9.b.newV zd (a8.upd a7),h9.k.newV zd (a8.upd a7),h9.n.newV zd (a8.upd a7)⟩⟩)
 all_goals rw[a3,if_neg Bool.false_ne_true,d5]
 ·exact h9.u.sl
 ·exact h9.b.sl
 ·exact h9.k.sl
 exact h9.n.sl
def tF(n:Int):Bool:=decide (0<=n)
def dQ(l:List Int):Nat:=l.countP tF
def uY(a0:List Int)(u:Int):Nat:=a0.countP fun n=>n != u
def kz(L:List (List Int))(us:List Int)(i:Nat):Nat:=((Gx i).map fun j=>uY (nth L j) (nth us j)).sum
theorem qU(L:List (List Int))(us:List Int)(i:Nat):kz L us (i+1)=kz L us i+uY (nth L i) (nth us i):=by
 simp[kz,IC]
theorem xj(a0:List Int)(u:Int):(bu a0 u).length=uY a0 u:=by
 have a1:∀k,k<=a0.length->(eU a0 u k).length=(a0.take k).countP (fun n=>n != u):=by
  intro k
  induction k with
  |zero=>intro _;rfl
  |succ k ih=>
   intro hk;rw[jd,aF zo,JA];have:=ih zo
   by_cases h:nth a0 k=u
   ·rw[if_pos h,this];simp[h]
   rw[if_neg h,I2,this];simp[h]
 have:=a1 a0.length (Gw _)
 rwa[GA]at this
def oC(a0:List Int)(s:Nat):Prop:=a0.length<=s\/nth a0 s = -1
theorem zF{a0:List Int}{b c:Nat}:nH a0 b c=true↔oC a0 (b+c):=by
 simp only[nH,oC,It,Bool.and_eq_false_iff,decide_eq_false_iff_not]
 constructor
 ·rintro(h|h)
  ·exact .inl zo
  exact .inr (by simpa using h)
 rintro(h|h)
 ·exact .inl zo
 exact .inr (by simpa using h)
theorem vz{l:List Int}{s:Nat}{r:Int}(hs:s<l.length)(hf:nth l s = -1)(hr:0<=r):dQ (l.set s r)=dQ l+1:=by
 induction l generalizing s with
 |nil=>simp at hs
 |cons a l ih=>
  cases s with
  |zero=>rw[au]at hf;subst hf;simp[dQ,tF,hr]
  |succ s=>
   rw[bp]at hf;have:=ih (by simpa using hs) hf;simp only[dQ,List.set_cons_succ,List.countP_cons]at this ⊢;omega
theorem sG(l:List Int)(j:Nat):dQ (l++G1 j (-1))=dQ l:=by
 simp only[dQ,JA];have:(G1 j (-1:Int)).countP tF=0:=by rw[List.countP_eq_zero];intro a ha;rw[Iv ha];decide
 omega
theorem xV(p:PSt)(s:Nat)(r e:Int)(hf:oC p.check s)(hr:0<=r):
  dQ (p.take s r e).check=dQ p.check+1/\(∀t,t≠s->oC p.check t->oC (p.take s r e).check t)/\
  ((p.check=[]\/0<=nth p.check (p.check.length-1))->(0<=nth (p.take s r e).check ((p.take s r e).check.length-1))):=by
 have a2:(p.check++G1 (s+1-p.check.length) (-1:Int)).length=max p.check.length (s+1):=by simp;omega
 have a0:s<(p.check++G1 (s+1-p.check.length) (-1:Int)).length:=zo;have a1:∀j i,nth (G1 j (-1:Int)) i = -1\/j<=i:=fun j i=>by
  by_cases h:i<j
  ·left;rw[aB (by simpa using h)];simp
  right;omega
 have hs:nth (p.check++G1 (s+1-p.check.length) (-1:Int)) s = -1:=by
  rw[ay]
  split
  ·rename_i h;rcases hf with h2|h2
   ·omega
   exact h2
  rename_i h;exact(a1 _ _).resolve_right zo
 have hc:(p.take s r e).check=(p.check++G1 (s+1-p.check.length) (-1)).set s r:=rfl;refine⟨?_,fun t ht a3=>?_,fun hl=>?_⟩
 ·rw[hc,vz a0 hs hr,sG]
 ·rw[hc]
  rcases a3 with h|h
  ·by_cases h2:(p.check++G1 (s+1-p.check.length) (-1:Int)).length<=t
   ·exact .inl (by simpa using h2)
   refine .inr ?_;rw[aP a0,if_neg ht,ay,if_neg zo];exact(a1 _ _).resolve_right zo
  by_cases h2:t<p.check.length
  ·refine .inr ?_;rw[aP a0,if_neg ht,ay,if_pos h2,h]
  by_cases h3:(p.check++G1 (s+1-p.check.length) (-1:Int)).length<=t
  ·exact .inl (by simpa using h3)
  refine .inr ?_;rw[aP a0,if_neg ht,ay,if_neg zo];exact(a1 _ _).resolve_right zo
 rw[hc,aP a0,JS,a2]
 split
 ·exact hr
 rename_i hne;have h3:s+1<=p.check.length:=zo;rw[ay,if_pos zo,show max p.check.length (s+1)-1=p.check.length-1 from by omega]
 rcases hl with h|h
 ·rw[h]at h3;simp at h3
 exact h
theorem rK(f:Nat->Int)(b:Nat)(r:Int)(hr:0<=r):∀(a0:List Nat) (p:PSt),a0.Nodup->(∀c∈a0,oC p.check (b+c))->
  let q:=a0.foldl (fun q c=>q.take (b+c) r (f c)) p
  dQ q.check=dQ p.check+a0.length/\((p.check=[]\/0<=nth p.check (p.check.length-1))->(q.check=[]\/0<=nth q.check (q.check.length-1)))
 |[],p,_,_=>⟨by simp,fun h=>h⟩
 |c::a0,p,hnd,hf=>by
  obtain⟨hc,a1⟩:=JR.1 hnd;obtain⟨h1,h2,h3⟩:=xV p (b+c) r (f c) (hf c (by simp)) hr;obtain⟨g1,g2⟩:=rK f b r hr a0 (p.take (b+c) r (f c)) a1 (fun x hx=>h2 (b+x) (fun e=>hc ((by omega:x=c)▸hx)) (hf x (by simp[hx])));refine⟨?_,fun h=>?_⟩
  ·simp only[Gp,GD];rw[g1,h1];omega
  simp only[Gp];exact g2 (.inr (h3 h))
theorem lg(a0:List Int)(u:Int):(bu a0 u).Nodup:=Kp List.filter_sublist List.nodup_range
theorem Bc(p:PSt)(a0:List Int):dQ (p.lay a0).check=dQ p.check+uY a0 (bz a0)/\
  ((p.check=[]\/0<=nth p.check (p.check.length-1))->((p.lay a0).check=[]\/0<=nth (p.lay a0).check ((p.lay a0).check.length-1))):=by
 have a1:=(fO p.check (bu a0 (bz a0))).1;rw[dU,GM]at a1;have:=rK (fun c=>nth a0 c) (eX p.check (bu a0 (bz a0))) p.base.length zo (bu a0 (bz a0)) p (lg _ _) (fun c hc=>zF.1 (a1 c hc));rw[xj]at this;exact this
theorem nZ(width:Int)(L:List (List Int))(hw:∀r∈L,r.length<=64):
  let q:=ky width L
  q.usual=L.map bz/\q.base.length=L.length/\q.next.length=q.check.length/\q.check.length<=64*L.length/\q.width=width/\dQ q.check=kz L q.usual L.length/\(q.check=[]\/0<=nth q.check (q.check.length-1)):=by
 have a1:∀k,k<=L.length->let q:=(L.take k).foldl PSt.lay ⟨width,[],[],[],[]⟩
   q.usual=(L.take k).map bz/\q.base.length=k/\q.next.length=q.check.length/\q.check.length<=64*k/\q.width=width/\dQ q.check=kz L ((L.take k).map bz) k/\(q.check=[]\/0<=nth q.check (q.check.length-1)):=by
  intro k
  induction k with
  |zero=>intro _;exact⟨rfl,rfl,rfl,by simp,rfl,rfl,.inl rfl⟩
  |succ k ih=>
   intro hk;obtain⟨h1,h2,h3,h4,h5,h6,h7⟩:=ih zo;generalize hq:(L.take k).foldl PSt.lay ⟨width,[],[],[],[]⟩=q at *;obtain⟨l1,l2,l3,l4,l5⟩:=gU q (nth L k) (hw _ (aN zo)) h3;obtain⟨u1,u2⟩:=Bc q (nth L k);rw[aF zo,GF,hq,If];simp only[Gp,IW,IK,Jg];refine⟨by rw[l2,h1],zo,l5,zo,by rw[l4,h5],?_,u2 h7⟩;rw[u1,h6,qU];have a0:((L.take k).map bz).length=k:=by simp;omega
   congr 1
   ·simp only[kz];congr 1;refine List.map_congr_left fun j hj=>?_
    have:=Ip.1 hj;rw[ay,if_pos zo]
   rw[ay,if_neg zo,a0,IB,au]
 have:=a1 L.length (Gw _);rw[GA]at this;obtain⟨h1,h2,h3,h4,h5,h6,h7⟩:=this;exact⟨h1,h2,h3,h4,h5,by rw[ky,h1];exact h6,h7⟩
abbrev Ent:=Nat×Nat×Int
def gH(A:List Ent):Nat:=A.foldl (fun m x=>max m (x.1+1)) 0
def cV(f:Ent->Int)(A:List Ent)(l:List Int):List Int:=A.foldl (fun l x=>l.set x.1 (f x)) l
def jO(x:Ent):Int:=x.2.1
def FZ(x:Ent):Int:=x.2.2
def ei(A:List Ent):List Int:=cV jO A (G1 (gH A) (-1))
def jB(A:List Ent):List Int:=cV FZ A (G1 (gH A) 0)
theorem oH(A:List Ent)(x:Ent):gH (A++[x])=max (gH A) (x.1+1):=by simp[gH,GF]
theorem vZ(A:List Ent):∀m,m<=A.foldl (fun m x=>max m (x.1+1)) m:=by
 induction A with
 |nil=>intro m;exact Gw m
 |cons y A ih=>intro m;simp only[Gp];have:=ih (max m (y.1+1));omega
theorem dM{A:List Ent}{x:Ent}(h:x∈A):x.1<gH A:=by
 have:∀(A:List Ent) m,x∈A->x.1<A.foldl (fun m x=>max m (x.1+1)) m:=by
  intro A
  induction A with
  |nil=>intro m h;simp at h
  |cons y A ih=>
   intro m h;simp only[Gp]
   rcases GV.1 h with rfl|h
   ·have:=vZ A (max m (x.1+1));omega
   exact ih _ h
 exact this A 0 h
theorem ko(f:Ent->Int):∀(A:List Ent) (l:List Int),(cV f A l).length=l.length
 |[],_=>rfl
 |x::A,l=>by simp only[cV,Gp];exact(ko f A _).trans (by simp)
theorem eV(A:List Ent):(ei A).length=gH A:=by rw[ei,ko];simp
theorem mh(A:List Ent):(jB A).length=gH A:=by rw[jB,ko];simp
theorem fm(f:Ent->Int):∀(A:List Ent) (l r:List Int),(∀x∈A,x.1<l.length)->cV f A (l++r)=cV f A l++r
 |[],_,_,_=>rfl
 |x::A,l,r,h=>by
  simp only[cV,Gp];rw[List.set_append_left _ _ (h x (by simp))];exact fm f A _ r (fun y hy=>by simpa using h y (by simp[hy]))
theorem lU(f:Ent->Int)(A:List Ent)(x:Ent)(l:List Int):cV f (A++[x]) l=(cV f A l).set x.1 (f x):=by simp[cV,GF]
theorem yv(n s:Nat)(z:Int):G1 (max n (s+1)) z=G1 n z++G1 (s+1-n) z:=by
 rw[List.replicate_append_replicate];congr 1;omega
theorem xl(A:List Ent)(x:Ent):ei (A++[x])=(ei A++G1 (x.1+1-(ei A).length) (-1)).set x.1 x.2.1:=by
 rw[ei,oH,lU,yv,fm _ _ _ _ (fun y hy=>by simpa using dM hy),eV];rfl
theorem vL(A:List Ent)(x:Ent):jB (A++[x])=(jB A++G1 (x.1+1-(jB A).length) 0).set x.1 x.2.2:=by
 rw[jB,oH,lU,yv,fm _ _ _ _ (fun y hy=>by simpa using dM hy),mh];rfl
theorem xW(p:PSt)(A:List Ent)(x:Ent)(h1:p.check=ei A)(h2:p.next=jB A):(p.take x.1 x.2.1 x.2.2).check=ei (A++[x])/\(p.take x.1 x.2.1 x.2.2).next=jB (A++[x]):=by
 refine⟨?_,?_⟩
 ·rw[xl,<-h1];rfl
 rw[vL,<-h2,h2,mh,<-eV,<-h2,<-h1];rfl
def iS(a0:List Int)(u:Int)(b i k:Nat):List Ent:=(eU a0 u k).map fun c=>(b+c,i,nth a0 c)
theorem rL(a1:List Int)(b i:Nat):∀(a0:List Nat) (p:PSt) (A:List Ent),p.check=ei A->p.next=jB A->
  let q:=a0.foldl (fun q c=>q.take (b+c) i (nth a1 c)) p
  q.check=ei (A++a0.map fun c=>(b+c,i,nth a1 c))/\q.next=jB (A++a0.map fun c=>(b+c,i,nth a1 c))
 |[],p,A,h1,h2=>by simpa using⟨h1,h2⟩
 |c::a0,p,A,h1,h2=>by
  obtain⟨g1,g2⟩:=xW p A (b+c,i,nth a1 c) h1 h2;have:=rL a1 b i a0 _ _ g1 g2;simpa using this
theorem uL(p:PSt)(A:List Ent)(a0:List Int)(h1:p.check=ei A)(h2:p.next=jB A):
  let b:=eX p.check (bu a0 (bz a0))
  (p.lay a0).check=ei (A++iS a0 (bz a0) b p.base.length a0.length)/\(p.lay a0).next=jB (A++iS a0 (bz a0) b p.base.length a0.length):=
 rL a0 _ _ _ p A h1 h2
theorem uM(p:PSt)(a0:List Int):(p.lay a0).base=p.base++[(eX p.check (bu a0 (bz a0)):Int)]/\(p.lay a0).usual=p.usual++[bz a0]/\(p.lay a0).width=p.width:=by
 have a2:∀(a1:List Nat) (f:Nat->Int) (b:Nat) (r:Int) (p:PSt),let q:=a1.foldl (fun q c=>q.take (b+c) r (f c)) p;q.base=p.base/\q.usual=p.usual/\q.width=p.width:=by
  intro a1 f b r
  induction a1 with
  |nil=>intro p;exact⟨rfl,rfl,rfl⟩
  |cons c a1 ih=>intro p;exact ih (p.take (b+c) r (f c))
 obtain⟨h1,h2,h3⟩:=a2 (bu a0 (bz a0)) (fun c=>nth a0 c) (eX p.check (bu a0 (bz a0))) p.base.length p;refine⟨?_,?_,h3⟩
 ·simp only[PSt.lay];rw[h1]
 simp only[PSt.lay];rw[h2]
theorem nV(A:List Ent)(s:Nat):∀(l:List Int),s<l.length->(∀x∈A,x.1<l.length)->(nth (cV jO A l) s≠-1↔(A.any (fun x=>x.1==s)=true\/nth l s≠-1)):=by
 induction A with
 |nil=>intro l _ _;simp[cV]
 |cons x A ih=>
  intro l hs h;have h1:=ih (l.set x.1 (jO x)) (by simpa using hs) (fun y hy=>by simpa using h y (by simp[hy]));simp only[cV,Gp]at h1 ⊢;rw[h1,aP (h x (by simp)),List.any_cons]
  by_cases e:x.1=s
  ·have:jO x≠-1:=by unfold jO;omega
   simp[e,this]
  have e2:¬s=x.1:=fun h=>e h.symm
  simp[e,e2]
theorem xU(A:List Ent)(s:Nat):(A.any fun x=>x.1==s)=(decide (s<(ei A).length)&&nth (ei A) s != -1):=by
 by_cases hs:s<gH A
 ·have h1:=nV A s (G1 (gH A) (-1)) (by simpa using hs) (fun y hy=>by simpa using dM hy);have h2:nth (G1 (gH A) (-1:Int)) s = -1:=by rw[aB (by simpa using hs)];simp
  rw[eV];simp only[h2,ne_eq,not_true,or_false]at h1;rw[decide_eq_true hs,K2]
  cases ha:A.any (fun x=>x.1==s)with
  |true=>have:=h1.2 ha;exact(bne_iff_ne.2 this).symm
  |false=>
   rw[ha]at h1;have:nth (ei A) s = -1:=Jj.1 (fun h=>by cases h1.1 h);rw[this];rfl
 rw[eV,decide_eq_false hs,JX,I5];intro x hx h;have:=dM hx;have:x.1=s:=by simpa using h
 omega
theorem vY(A:List Ent)(b c:Nat):nH (ei A) b c = !(A.any fun x=>x.1==b+c):=by rw[xU];rfl
def PSt.same(p q:PSt):Bool:=p.width==q.width&&p.usual==q.usual&&p.base==q.base&&p.check==q.check&&p.next==q.next
def wOk(a0:Int)(n:Nat):Bool:=decide (1<=a0)&&decide (a0<=64)&&decide ((n:Int)<=1000)
def inR(n:Int):Bool:=decide (0<=n)&&decide (n<=65535)
theorem si(a0:Int)(a1:List Int):(!gK a0 a1)=((a1.length:Int)==a0&&a1.all inR):=by
 simp only[gK,bne,Kc,Bool.not_not];rfl
theorem od(a0:Int)(L:List (List Int)):(!bG a0 L)=(wOk a0 L.length&&L.all (fun r=>!gK a0 r)):=by
 simp only[bG,wOk,Kc,List.not_any_eq_all_not];congr 2
 ·congr 1<;>rw[<-decide_not]<;>exact decide_eq_decide.2 zo
 rw[<-decide_not];exact decide_eq_decide.2 zo
theorem py{a0:Int}{L:List (List Int)}(h:bG a0 L=false):1<=a0/\a0<=64/\L.length<=1000/\(∀r∈L,(r.length:Int)=a0)/\∀r∈L,r.length<=64:=by
 have h2:(!bG a0 L)=true:=by rw[h];rfl
 rw[od,Gq]at h2;simp only[wOk,Gq,decide_eq_true_eq]at h2;have h3:∀r∈L,(r.length:Int)=a0:=fun r hr=>by
  have:=GM.1 h2.2 r hr;rw[si,Gq]at this;simpa using this.1
 exact⟨zo,zo,zo,h3,fun r hr=>by have:=h3 r hr;omega⟩
def cE(p:PSt):Bool:=
 !(decide (p.width<1)||decide (64<p.width)||decide ((1000:Int)<p.usual.length)||((p.base.length:Int) != p.usual.length)) &&
 !((p.check.length:Int) != p.next.length||decide ((65599:Int)<p.check.length)) &&
 (inB 0 65535 p.usual&&inB 0 65535 p.base&&inB 0 65535 p.next&&inB (-1) ((p.usual.length:Int)-1) p.check)
theorem vJ(p:PSt)(pv:ix)(w:ln)(hp:PkV w pv p):
  I9 Gt 74 [pv] w fun v w'=>v=.bool (cE p)/\GR w w':=by
 obtain⟨u1,b1,k1,n1,rfl,a4,a7,a5,a6⟩:=hp;have b0:=a4.len_le;refine G0 func74 ntmps74 rfl rfl ?_;refine zg ?_;refine aG (aw w) 1 zo rfl rfl ?_;intro x1 w1 O1 a0 b2 b3 a1;replace a4:=a4.ext a1;replace a7:=a7.ext a1;replace a5:=a5.ext a1;replace a6:=a6.ext a1;refine zg ?_;refine zv (RV.ld (a0.cell 1 rfl) rfl) ?_;refine zvG (Il a4 G5 rfl) ?_;refine zvG (RV.ld (a0.cell 0 rfl) rfl) ?_;refine cu (fun w1=>_=w1) (decide ((64:Int)<p.width)) 3 (rfl) rfl rfl rfl rfl rfl ?_ ?_
 ·intro h1;refine zg ?_;refine zvG (RV.ld (a0.cell 0 rfl) rfl) ?_;refine dI (tA:=11) 4 (rfl) rfl rfl rfl (fun v hv=>(GE hv).symm.trans (congrArg Ib h1)) rfl
 rintro _ rfl;refine zg ?_;refine cu (fun w1=>_=w1) (decide ((1000:Int)<p.usual.length)) 2 (rfl) rfl rfl rfl rfl rfl ?_ ?_
 ·intro h2;refine zg ?_;refine dI (tA:=16) 3 (rfl) rfl rfl rfl (fun v hv=>(GE hv).symm.trans (congrArg Ib h2)) rfl
 rintro _ rfl;refine zg ?_;refine cu (fun w1=>_=w1) ((p.base.length:Int) != p.usual.length) 5 (rfl) rfl rfl rfl rfl rfl ?_ ?_
 ·intro h3;refine zg ?_;refine zvG (RV.ld (a0.cell 2 rfl) rfl) ?_;refine zvG (Il a7 G5 rfl) ?_;refine dI (tA:=20) 6 (rfl) rfl rfl rfl (fun v hv=>(GE hv).symm.trans (congrArg Ib h3)) rfl
 rintro _ rfl;refine zg ?_;refine zC ?_ ?_
 ·intro hg;refine zg ?_;refine ae rfl rfl (⟨by simp only[cE,hg];rfl,a1⟩)
 intro hg;refine zg ?_;refine zv (RV.ld (a0.cell 3 rfl) rfl) ?_;refine zvG (Il a5 G5 rfl) ?_;refine zv (RV.ld (a0.cell 4 rfl) rfl) ?_;refine zvG (Il a6 G5 rfl) ?_;refine cu (fun w1=>_=w1) (decide ((65599:Int)<p.check.length)) 4 (rfl) rfl rfl rfl rfl rfl ?_ ?_
 ·intro h4;refine zg ?_;refine zvG (RV.ld (a0.cell 3 rfl) rfl) ?_;refine zvG (Il a5 G5 rfl) ?_;refine dI (tA:=35) 5 (rfl) rfl rfl rfl (fun v hv=>(GE hv).symm.trans (congrArg Ib h4)) rfl
 rintro _ rfl;refine zg ?_;refine zC ?_ ?_
 ·intro a9;refine zg ?_;refine ae rfl rfl (⟨by simp only[cE,a9,Bool.not_true,Bool.and_false,JX],a1⟩)
 intro a9;refine zg ?_;refine zv (RV.ld (a0.cell 1 rfl) rfl) ?_;refine zc JZ (eD 0 65535 p.usual u1 w1 a4) ?_;rintro v w2 ⟨rfl,a8⟩;refine zg ?_;refine bx (GR w1) (inB 0 65535 p.base) 3 (a8) rfl rfl rfl rfl rfl ?_ ?_
 ·intro h5;refine zg ?_;refine zvG (RV.ld (a8.cell (a0.cell 2 rfl)) rfl) ?_;refine zc JZ (eD 0 65535 p.base b1 w2 (a7.ext a8)) ?_;rintro v w3 ⟨rfl,a3⟩;refine zg ?_;refine dI (tA:=44) 4 (a8.trans a3) rfl rfl rfl (fun v hv=>(GE hv).symm.trans (congrArg Ib h5)) rfl
 intro w3 a3;refine zg ?_;refine bx (GR w1) (inB 0 65535 p.next) 3 (a3) rfl rfl rfl rfl rfl ?_ ?_
 ·intro h6;refine zg ?_;refine zvG (RV.ld (a3.cell (a0.cell 4 rfl)) rfl) ?_;refine zc JZ (eD 0 65535 p.next n1 w3 (a6.ext a3)) ?_;rintro v w4 ⟨rfl,a2⟩;refine zg ?_;refine dI (tA:=49) 4 (a3.trans a2) rfl rfl rfl (fun v hv=>(GE hv).symm.trans (congrArg Ib h6)) rfl
 intro w4 a2;refine zg ?_;refine bx (GR w1) (inB (-1) ((p.usual.length:Int)-1) p.check) 5 (a2) rfl rfl rfl rfl rfl ?_ ?_
 ·intro h7;refine zg ?_;refine zvG (RV.ld (a2.cell (a0.cell 3 rfl)) rfl) ?_;refine zvG (RV.sub rfl rfl (GZ zo)) ?_;refine zc JZ (eD (-1) ((p.usual.length:Int)-1) p.check k1 w4 (a5.ext a2)) ?_;rintro v w5 ⟨rfl,a'⟩;refine zg ?_;refine dI (tA:=54) 6 (a2.trans a') rfl rfl rfl (fun v hv=>(GE hv).symm.trans (congrArg Ib h7)) rfl
 intro w5 a';refine zg ?_;refine ae rfl rfl (⟨by simp only[cE,hg,a9,Bool.not_false,K2],a1.trans a'⟩)
theorem qB(row:List Int):∀(l:List Int) (b:Int),(l.foldl (ly row) b=b)\/l.foldl (ly row) b∈l
 |[],b=>.inl rfl
 |n::l,b=>by
  simp only[Gp]
  rcases qB row l (ly row b n)with h|h
  ·rw[h];unfold ly;split
   ·right;simp
   left;rfl
  right;simp[h]
theorem vy(a0:List Int)(h:0<a0.length):bz a0∈a0:=by
 rcases qB a0 a0 (nth a0 0)with e|e
 ·rw[bz,e];exact aN h
 exact e
theorem kj(f:Ent->Int):∀(A:List Ent) (l:List Int) (n:Int),n∈cV f A l->n∈l\/∃x∈A,n=f x
 |[],l,n,h=>.inl h
 |x::A,l,n,h=>by
  rcases kj f A (l.set x.1 (f x)) n h with h|⟨y,hy,he⟩
  ·rcases List.mem_or_eq_of_mem_set h with h|h
   ·exact .inl h
   exact .inr ⟨x,by simp,h⟩
  exact .inr ⟨y,by simp[hy],he⟩
theorem rJ{lo hi:Int}{l:List Int}(h:∀n∈l,lo<=n/\n<=hi):inB lo hi l=true:=by
 rw[inB,GM];intro n hn;have:=h n hn;simp[this]
theorem ma{lo hi:Int}{l:List Int}(h:inB lo hi l=true){n:Int}(hn:n∈l):lo<=n/\n<=hi:=by
 rw[inB,GM]at h;simpa using h n hn
theorem yD(a0:Int)(L:List (List Int))(hw:∀r∈L,r.length<=64)(a2:∀r∈L,inB 0 65535 r=true):∀k,k<=L.length->
  let q:=(L.take k).foldl PSt.lay ⟨a0,[],[],[],[]⟩
  ∃A:List Ent,q.check=ei A/\q.next=jB A/\q.base.length=k/\q.check.length<=64*k/\(∀b∈q.base,0<=b/\b<=64*(k:Int))/\∀x∈A,x.2.1<k/\0<=x.2.2/\x.2.2<=65535:=by
 intro k
 induction k with
 |zero=>intro _;exact⟨[],rfl,rfl,rfl,G4 _,by simp,by simp⟩
 |succ k ih=>
  intro hk;obtain⟨A,h1,h2,h3,h4,h5,h6⟩:=ih zo;have hm:=aN (l:=L) (j:=k) zo;have hr:=a2 _ hm;rw[aF zo,GF];generalize (L.take k).foldl PSt.lay ⟨a0,[],[],[],[]⟩=q at *;simp only[Gp,IW];generalize nth L k=row at *;obtain⟨e1,e2⟩:=uL q A row h1 h2;obtain⟨l1,l2,l3,l4,l5⟩:=gU q row (hw _ hm) (by rw[h1,h2,mh,eV]);obtain⟨m1,m2,m3⟩:=uM q row;have hb:=(fO q.check (bu row (bz row))).2.1;refine⟨_,e1,e2,zo,zo,fun b a1=>?_,fun x hx=>?_⟩
  ·rw[m1]at a1
   rcases ID.1 a1 with h|h
   ·have:=h5 b h;omega
   simp only[G6]at h;subst h;omega
  rcases ID.1 hx with h|h
  ·have:=h6 x h;omega
  simp only[iS,GK]at h;obtain⟨c,hc,rfl⟩:=h;have:=ma hr (aN (jR hc));exact⟨by dsimp only;omega,this⟩
theorem sV(width:Int)(L:List (List Int))(a1:bG width L=false):cE (ky width L)=true:=by
 obtain⟨a5,a4,hL,a0,a2⟩:=py a1;have a3:∀r∈L,inB 0 65535 r=true:=fun r hr=>by
  have h2:(!bG width L)=true:=by rw[a1];rfl
  rw[od,Gq]at h2;have:=GM.1 h2.2 r hr;rw[si,Gq]at this;exact this.2
 obtain⟨A,h1,h2,h3,h4,h5,h6⟩:=yD width L a2 a3 L.length (Gw _);rw[GA]at h1 h2 h3 h4 h5;obtain⟨s1,s2,s3,s4,s5,_,_⟩:=nZ width L a2;have hq:L.foldl PSt.lay ⟨width,[],[],[],[]⟩=ky width L:=rfl;rw[hq]at h1 h2 h3 h4 h5;generalize ky width L=q at *;have a6:q.usual.length=L.length:=by rw[s1];simp
 have b1:inB 0 65535 q.usual=true:=rJ fun n hn=>by
  rw[s1]at hn;obtain⟨r,hr,rfl⟩:=GK.1 hn;exact ma (a3 r hr) (vy r (by have:=a0 r hr;omega))
 have b2:inB 0 65535 q.base=true:=rJ fun n hn=>by have:=h5 n hn;omega
 have b3:inB 0 65535 q.next=true:=rJ fun n hn=>by
  rw[h2]at hn
  rcases kj _ _ _ _ hn with h|⟨x,hx,rfl⟩
  ·have:=Iv h;omega
  exact(h6 x hx).2
 have b4:inB (-1) ((q.usual.length:Int)-1) q.check=true:=rJ fun n hn=>by
  rw[h1]at hn
  rcases kj _ _ _ _ hn with h|⟨x,hx,rfl⟩
  ·have:=Iv h;omega
  have:=(h6 x hx).1;unfold jO;omega
 simp only[cE,b1,b2,b3,b4,Bool.and_true];have c1:¬q.width<1:=zo;have c2:¬64<q.width:=zo;have c3:¬(1000:Int)<q.usual.length:=zo;have c4:¬(65599:Int)<q.check.length:=zo;have c5:(q.base.length:Int)=q.usual.length:=zo;have c6:(q.check.length:Int)=q.next.length:=zo;simp[c1,c2,c3,c5,c6];omega
theorem eS(la lb:List Int)(av bv:ix)(w:ln)(ha:Sl (fun x:Int => [JB .i64 x]) 1 w av la)(hb:Sl (fun x:Int => [JB .i64 x]) 1 w bv lb):
    I9 Gt 39 [av, bv] w fun v w' => v = .bool (la == lb) ∧ GR w w' := by
  have hal := ha.len_le
  refine G0 func39 ntmps39 rfl rfl ?_
  refine zh ?_
  refine zC ?_ ?_
  · intro hne
    refine zh ?_
    refine ae rfl rfl (⟨?_, G9 _⟩)
    have:la ≠ lb := fun e => by subst e; simp at hne
    simpa using this.symm ∘ Eq.symm
  · intro heq
    replace heq : la.length = lb.length := by have : (la.length : Int) = lb.length := by simpa using heq
                                              omega
    refine zh ?_
    refine zlp (fun x:Nat×ln => [(0, av), (1, bv), (12, .int .i64 la.length), (13, .int .i64 x.1)]) (fun x => x.2) (fun x => x.1 ≤ la.length ∧ GR w x.2 ∧ la.take x.1 = lb.take x.1) (fun x => la.length - x.1) (0, w) (⟨G4 _, G9 _, rfl⟩) ?_
    rintro⟨k, w1⟩ ⟨hk, hE, htk⟩
    dsimp only at hk hE htk ⊢
    have ha1 := ha.ext hE
    have hb1 := hb.ext hE
    refine zh ?_
    refine zC ?_ ?_
    · intro hlt
      replace hlt:k < la.length := by have := of_decide_eq_true hlt; omega
      refine zh ?_
      refine I8 (by kernel_rfl) (by kernel_rfl) ?_
      refine zh ?_
      refine zwH (RV.ld (by first | exact ha1.ld (by omega) | exact hb1.ld (by omega)) rfl) ?_
      refine zwH (RV.ld (by first | exact ha1.ld (by omega) | exact hb1.ld (by omega)) rfl) ?_
      refine I7 ?_
      refine zh ?_
      refine zC ?_ ?_
      · intro hne
        refine zh ?_
        refine ae rfl rfl (⟨?_, hE.drew⟩)
        have:la ≠ lb := fun e => by subst e; simp at hne
        simpa using this
      · intro hee
        refine zh ?_
        refine zxd (k + 1, w1.drew) (⟨hlt, hE.drew, by rw[aF hlt, aF (by omega:k < lb.length), htk]; first | simpa using hee | (simp at hee; simp; omega)⟩)
    · intro hge
      replace hge:la.length ≤ k := by have := of_decide_eq_false hge; omega
      refine zh ?_
      refine ae rfl rfl (⟨?_, hE⟩)
      rw[I4 hge, I4 (by omega)]at htk
      simp[htk]
theorem yz(p q:PSt)(pv qv:ix)(w:ln)(hp:PkV w pv p)(hq:PkV w qv q):
  I9 Gt 67 [pv,qv] w fun v w'=>v=.bool (p.same q)/\GR w w':=by
 obtain⟨u1,b1,k1,n1,rfl,a8,b5,b3,a'⟩:=hp;obtain⟨u2,b2,k2,n2,rfl,a7,b4,b0,a9⟩:=hq;refine G0 func67 ntmps67 rfl rfl ?_;refine zh ?_;refine aG (aw w) 1 zo rfl rfl ?_;intro x1 w1 O1 a6 b' b7 b9;refine aG b7 2 zo rfl rfl ?_;intro x2 w2 O2 a5 b6 c5 b8;have a3:=a6.upd b6 zd zd;have hE:=b9.trans b8;have c:∀w',GR w2 w'->(∀j u,(#[nI p.width,u1,b1,k1,n1]:Array ix)[j]? = some u->w'.cell? ⟨x1,j,none⟩=some u)/\(∀j u,(#[nI q.width,u2,b2,k2,n2]:Array ix)[j]? = some u->w'.cell? ⟨x2,j,none⟩=some u):=
  fun w' e=>⟨fun j u hu=>e.cell (a3.cell j hu),fun j u hu=>e.cell (a5.cell j hu)⟩
 refine zh ?_;refine zvH (RV.ld (by first|exact(c _ (G9 _)).1 0 _ rfl|exact(c _ (G9 _)).2 0 _ rfl) rfl) ?_
 refine zvH (RV.ld (by first|exact(c _ (G9 _)).1 0 _ rfl|exact(c _ (G9 _)).2 0 _ rfl) rfl) ?_;refine bx (GR w2) (p.usual==q.usual) 5 (G9 _) rfl rfl rfl rfl rfl ?_ ?_
 ·intro h1;refine zh ?_;refine zvH (RV.ld (by first|exact(c _ (G9 _)).1 1 _ rfl|exact(c _ (G9 _)).2 1 _ rfl) rfl) ?_;refine zvH (RV.ld (by first|exact(c _ (G9 _)).1 1 _ rfl|exact(c _ (G9 _)).2 1 _ rfl) rfl) ?_;refine zc Kj (eS p.usual q.usual u1 u2 _ (a8.ext hE) (a7.ext hE)) ?_;rintro v w3 ⟨rfl,a2⟩;refine zh ?_;refine nE 10 6 (a2) h1
 intro w3 a2;refine zh ?_;refine bx (GR w2) (p.base==q.base) 5 (a2) rfl rfl rfl rfl rfl ?_ ?_
 ·intro h2;refine zh ?_;refine zvH (RV.ld (by first|exact(c _ a2).1 2 _ rfl|exact(c _ a2).2 2 _ rfl) rfl) ?_;refine zvH (RV.ld (by first|exact(c _ a2).1 2 _ rfl|exact(c _ a2).2 2 _ rfl) rfl) ?_;refine zc Kj (eS p.base q.base b1 b2 _ ((b5.ext hE).ext a2) ((b4.ext hE).ext a2)) ?_;rintro v w4 ⟨rfl,a1⟩;refine zh ?_;refine nE 17 6 (a2.trans a1) h2
 intro w4 a1;refine zh ?_;refine bx (GR w2) (p.check==q.check) 5 (a1) rfl rfl rfl rfl rfl ?_ ?_
 ·intro h3;refine zh ?_;refine zvH (RV.ld (by first|exact(c _ a1).1 3 _ rfl|exact(c _ a1).2 3 _ rfl) rfl) ?_;refine zvH (RV.ld (by first|exact(c _ a1).1 3 _ rfl|exact(c _ a1).2 3 _ rfl) rfl) ?_;refine zc Kj (eS p.check q.check k1 k2 _ ((b3.ext hE).ext a1) ((b0.ext hE).ext a1)) ?_;rintro v w5 ⟨rfl,a0⟩;refine zh ?_;refine nE 24 6 (a1.trans a0) h3
 intro w5 a0;refine zh ?_;refine bx (GR w2) (p.next==q.next) 5 (a0) rfl rfl rfl rfl rfl ?_ ?_
 ·intro h4;refine zh ?_;refine zvH (RV.ld (by first|exact(c _ a0).1 4 _ rfl|exact(c _ a0).2 4 _ rfl) rfl) ?_;refine zvH (RV.ld (by first|exact(c _ a0).1 4 _ rfl|exact(c _ a0).2 4 _ rfl) rfl) ?_;refine zc Kj (eS p.next q.next n1 n2 _ ((a'.ext hE).ext a0) ((a9.ext hE).ext a0)) ?_;rintro v w6 ⟨rfl,a4⟩;refine zh ?_;refine nE 31 6 (a0.trans a4) h4
 intro w6 a4;refine zh ?_;refine ae rfl rfl (⟨rfl,hE.trans a4⟩)
def getM(p:PSt)(r c:Nat):Int:=
 let k:=(nth p.base r).toNat+c
 if k<p.check.length/\nth p.check k=r then nth p.next k else nth p.usual r
structure OkP(p:PSt):Prop where
 w1:1<=p.width
 w2:p.width<=64
 rows:p.usual.length<=1000
 bl:p.base.length=p.usual.length
 cl:p.check.length=p.next.length
 c2:p.check.length<=65599
 base:∀r,r<p.base.length->0<=nth p.base r/\nth p.base r<=65535
theorem okP(p:PSt)(h:cE p=true):OkP p:=by
 simp only[cE,Gq,It,Bool.or_eq_false_iff,decide_eq_false_iff_not,bne_eq_false_iff_eq]at h;obtain⟨⟨⟨⟨⟨h1,h2⟩,h3⟩,h4⟩,h5,h6⟩,⟨⟨h7,h8⟩,h9⟩,a0⟩:=h;exact⟨zo,zo,zo,zo,zo,zo,fun r hr=>ma h8 (aN hr)⟩
theorem CW(p:PSt)(ok:OkP p)(u1 b1 k1 n1:ix)(pb r c:Nat)(w:ln)(hu:Is w u1 p.usual)(hb:Is w b1 p.base)(hk:Is w k1 p.check)(hn:Is w n1 p.next)
  (hc:∀j u,(#[nI p.width,u1,b1,k1,n1]:Array ix)[j]? = some u->w.cell? ⟨pb,j,none⟩=some u) (hr:r<p.base.length) (a3:c<64) :
  I9 Gt 75 [nP pb,nI r,nI c] w fun v w'=>v=nI (getM p r c)/\w=w':=by
 obtain⟨o1,o2,o3,o4,o5,o6,o7⟩:=ok;have a1:=o7 r hr;obtain⟨b,a0⟩:=Jh a1.1;have hg:getM p r c=if b+c<p.check.length/\nth p.check (b+c)=r then nth p.next (b+c)else nth p.usual r:=by simp only[getM,a0];rfl
 refine G0 func75 ntmps75 rfl rfl ?_;refine zg ?_
 refine zvG (RV.ld (hc 2 _ rfl) rfl) ?_;refine zv (GU hb G5 (GI _) rfl rfl _ rfl zo) ?_
 refine zv (RV.ld (hb.ld hr) rfl) ?_;have a2:nI (nth p.base r)=nI (b:Int):=by rw[a0]
 rw[a2];refine zg ?_;refine zvG (Im rfl rfl (GZ zo)) ?_;refine zv (RV.ld (hc 3 _ rfl) rfl) ?_;refine zvG (Il hk G5 rfl) ?_
 by_cases h1:b+c<p.check.length
 ·refine ao (d:=24) rfl (b':=true) (decide_eq_true zo) ?_;refine zg ?_
  refine zvG (RV.ld (hc 3 _ rfl) rfl) ?_;refine zvG (GU hk G5 (GI _) rfl rfl _ rfl zo) ?_
  refine zvG (RV.ld (hk.ld h1) rfl) ?_;refine zC ?_ ?_
  ·intro he;replace he:nth p.check (b+c)=r:=by simpa using he
   rw[if_pos ⟨h1,he⟩]at hg;refine zg ?_;refine zvG (RV.ld (hc 4 _ rfl) rfl) ?_;refine zv (GU hn G5 (GI _) rfl rfl (b+c) rfl zo) ?_;refine zvG (RV.ld (hn.ld (i:=b+c) zo) rfl) ?_;refine ae rfl rfl (⟨by rw[hg],rfl⟩)
  intro he;replace he:¬nth p.check (b+c)=r:=by simpa using he
  rw[if_neg (fun h=>he h.2)]at hg;refine zg ?_;refine zvG (RV.ld (hc 1 _ rfl) rfl) ?_;refine zv (GU hu G5 (GI _) rfl rfl _ rfl zo) ?_;refine zvG (RV.ld (hu.ld (i:=r) zo) rfl) ?_;refine ae rfl rfl (⟨by rw[hg],rfl⟩)
 rw[if_neg (fun h=>h1 h.1)]at hg;refine ao (d:=24) rfl (b':=false) (decide_eq_false zo) ?_;refine zg ?_;refine zFG rfl rfl ?_;refine zvG (RV.ld (hc 1 _ rfl) rfl) ?_;refine zv (GU hu G5 (GI _) rfl rfl _ rfl zo) ?_;refine zvG (RV.ld (hu.ld (i:=r) zo) rfl) ?_;refine ae rfl rfl (⟨by rw[hg],rfl⟩)
def AB(p:PSt)(r:Nat):List Int:=(Gx p.width.toNat).map (getM p r)
def fo(p:PSt):List (List Int):=(Gx p.usual.length).map (AB p)
def eK(p:PSt)(r c:Nat):List Int:=(Gx c).map (getM p r)++G1 (p.width.toNat-c) 0
theorem yp(p:PSt)(r c:Nat)(h:c<p.width.toNat):(eK p r c).set c (getM p r c)=eK p r (c+1):=by
 simp only[eK];rw[List.set_append_right _ _ (by simp),IC,If];obtain⟨d,hd⟩:∃d,p.width.toNat-c=d+1:=⟨p.width.toNat-c-1,zo⟩
 rw[hd,show p.width.toNat-(c+1)=d from by omega];simp[List.replicate_succ]
theorem qN(p:PSt)(r c:Nat)(h:c<=p.width.toNat):(eK p r c).length=p.width.toNat:=by simp[eK];omega
theorem yq(p:PSt)(r:Nat):eK p r p.width.toNat=AB p r:=by simp[eK,AB]
theorem fw(f:Nat->List Int)(n i:Nat)(h:i<n):nth ((Gx n).map f) i=f i:=by
 rw[aB (by simpa using h)];simp
theorem FF:KA Gt 89 25 1 24:=⟨Kr,by kernel_rfl,zd⟩
theorem qS(p:PSt)(pv:ix)(w:ln)(hp:PkV w pv p):
  I9 Gt 46 [pv] w fun v w'=>∃rv,v=.tuple #[rv,.bool (cE p)]/\(if cE p then Rows w' rv (fo p)else rv=nS)/\GR w w':=by
 have d2:=hp;obtain⟨u1,b1,k1,n1,rfl,hu,hb,hk,hn⟩:=hp;refine G0 func46 ntmps46 rfl rfl ?_;refine zg ?_;refine aG (aw w) 1 zo rfl rfl ?_;intro x1 w1 O1 c5 e2 e5 d0;refine zg ?_;refine zv (ah c5.cellsAdd (IL _) (GT _) rfl) ?_;refine zc call74 (vJ p _ w1 (d2.ext d0)) ?_;rintro v w2 ⟨rfl,c'⟩;have hE:=d0.trans c';have hc:∀w',GR w2 w'->∀j u,(#[nI p.width,u1,b1,k1,n1]:Array ix)[j]? = some u->w'.cell? ⟨x1,j,none⟩=some u:=fun w' e j u hu=>e.cell (c'.cell (c5.cell j hu))
 replace hu:=hu.ext hE;replace hb:=hb.ext hE;replace hk:=hk.ext hE;replace hn:=hn.ext hE;refine zg ?_;refine zC ?_ ?_
 ·intro hg;replace hg:cE p=false:=by simpa using hg
  refine zg ?_;refine bC rfl rfl rfl (⟨_,by rw[hg],by rw[hg];rfl,hE⟩)
 intro hg;replace hg:cE p=true:=by simpa using hg
 have ok:=okP p hg;obtain⟨o1,o2,o3,o4,o5,o6,o7⟩:=ok;have ok:=okP p hg;obtain⟨n,c6⟩:∃n:Nat,p.width=n:=Jh zo;have a':p.width.toNat=n:=by omega
 refine zg ?_;refine zv (RV.ld (hc _ (G9 _) 1 _ rfl) rfl) ?_
 refine zvG (Il (by first|exact hu) G5 rfl) ?_;refine zlp (fun x:Nat×(Nat->Nat)×World×ix×List ix=>[(1,nP x1),(4,x.2.2.2.1),(13,nI p.usual.length),(14,nI x.1)]) (fun x=>x.2.2.1) (fun x=>x.1<=p.usual.length/\J1 (fun v=>[v]) 25 1 x.2.1 x.2.2.1 16 x.2.2.2.1 x.2.2.2.2/\x.2.2.2.2.length=x.1/\(∀i,i<x.1->Is x.2.2.1 (nth x.2.2.2.2 i) (AB p i)/\Jy x.2.1 x.2.2.1 (nth x.2.2.2.2 i))/\GC (fun j=>j=16) (fun _=>0) w2 x.2.1 x.2.2.1) (fun x=>p.usual.length-x.1) (0,(fun _=>0),w2,nS,[]) (⟨G4 _,GJ _ _ _ _ _ _,rfl,fun i hi=>absurd hi (Gv i),Iy zd _ _⟩) ?_
 rintro⟨k,O3,w3,ov,vs⟩ ⟨d7,b3,a9,a0,b2⟩;dsimp only at d7 b3 a9 a0 b2 ⊢;have b9:=b2.ext;have c9:=(aw w2).upd b2;refine zg ?_;refine zC ?_ ?_
 ·intro b4;replace b4:k<p.usual.length:=by have:=of_decide_eq_true b4;omega
  refine zg ?_;refine zv (RV.ld (hc _ b9 0 _ rfl) rfl) ?_
  refine cR xd (val:=fun n:Int=>nI n) (0:Int) zk (fun _=>rfl) (aw w3) 15 zd n rfl rfl c6 c6 zo zo rfl ?_;intro w4 O4 lv d5 d6 e0 e4 e6;have a4:lD O4 w4 15 lv (eK p k 0):=by simpa[eK,a']using d6
  have b6:=a4.sl;have a2:(eK p k 0).length=n:=by rw[qN _ _ _ (G4 _),a']
  refine zg ?_;refine zvG (Il (by first|exact b6) G5 rfl) ?_
  have b':nI ((eK p k 0).length:Int)=nI (n:Int):=by rw[a2]
  rw[b'];refine zlp (fun y:Nat×ln=>[(1,nP x1),(4,ov),(5,nI k),(6,lv),(13,nI p.usual.length),(14,nI k),(21,nI n),(22,nI y.1)]) (fun y=>y.2) (fun y=>y.1<=n/\lD O4 y.2 15 lv (eK p k y.1)/\GC (fun j=>j=15) (fun _=>0) w3 O4 y.2) (fun y=>n-y.1) (0,w4) (⟨G4 _,a4,e0⟩) ?_;rintro⟨c,w5⟩ ⟨d9,a3,a6⟩;dsimp only at d9 a3 a6 ⊢;have a7:=b9.trans a6.ext;have b5:=a3.sl;have c7:(eK p k c).length=n:=by rw[qN _ _ _ zo,a']
  refine zg ?_;refine zC ?_ ?_
  ·intro a1;replace a1:c<n:=by have:=of_decide_eq_true a1;omega
   refine zg ?_;refine zc call75 (CW p ok u1 b1 k1 n1 x1 k c w5 (hu.ext a7) (hb.ext a7) (hk.ext a7) (hn.ext a7) (hc _ a7) zo zo) ?_
   rintro v _ ⟨rfl,rfl⟩;refine zv (GU (by first|exact b5) G5 (GI _) rfl rfl _ rfl zo) ?_;refine J9 a3 c zo (getM p k c) (GI _) rfl zo rfl rfl rfl rfl ?_;intro w6 b0 d';rw[yp _ _ _ zo]at b0;refine zg ?_;refine zvG (Im rfl rfl (GZ zo)) ?_;refine zxd (c+1,w6) (⟨a1,b0,a6.trans d'⟩)
  intro b7;obtain rfl:c=n:=by have:=of_decide_eq_false b7;omega
  have b0:Is w5 lv (AB p k):=by have:=a3.sl;rw[<-a',yq]at this;exact this
  have c8:Jy O3 w5 lv:=a3.free zd ((aw w3).upd a6) c9;have a8:=a6.ext;have b8:GC (fun _=>False) O3 w3 O3 w5:=aa (fun h=>h) O3 a8;have d4:=b3.upd b8 zd (fun h=>h);have e1:=c9.ext a8;subst d5;refine zg ?_;refine Iw FF d4 e1 ((K5 (some ⟨w3.heap.size,0,none⟩) c c)) (fun _=>rfl) rfl rfl rfl (by simp[GB]) zo zo zo zd rfl rfl ?_;intro d1 w7 O7 d3 a5 e3;refine zg ?_;refine zvG (Im rfl rfl (GZ zo)) ?_;refine zxd (k+1,O7,w7,d1,vs++[K5 (some ⟨w3.heap.size,0,none⟩) c c]) (⟨b4,d3,by simp[a9],?_,(b2.trans (aa zd O3 a8)).trans a5⟩);intro i hi;dsimp only at hi ⊢;rw[ay,a9]
  split
  ·rename_i h;obtain⟨g1,g2⟩:=a0 i h;exact⟨(g1.ext a8).upd (g2.upd b8) a5,(g2.upd b8).upd a5⟩
  rename_i h;obtain rfl:i=k:=by omega
  rw[IB,au];exact⟨b0.upd c8 a5,c8.upd a5⟩
 intro d8;obtain rfl:k=p.usual.length:=by have:=of_decide_eq_false d8;omega
 refine zg ?_;refine bC rfl rfl rfl (⟨_,by rw[hg],by rw[hg,if_pos rfl];exact⟨vs,b3.sl,by simp[a9,fo],fun i hi=>by simp only[fo,Ig,JG]at hi;rw[fo,fw _ _ _ hi];exact(a0 i hi).1⟩,hE.trans b9⟩)
theorem qn(p:PSt):p.same p=true:=by simp[PSt.same]
theorem nU(f:Ent->Int)(s:Nat):∀(A:List Ent) (l:List Int),(∀x∈A,x.1<l.length)->(∀x∈A,x.1≠s)->nth (cV f A l) s=nth l s
 |[],_,_,_=>rfl
 |x::A,l,h,hs=>by
  have:=nU f s A (l.set x.1 (f x)) (fun y hy=>by simpa using h y (by simp[hy])) (fun y hy=>hs y (by simp[hy]));simp only[cV,Gp]at this ⊢;rw[this,aP (h x (by simp)),if_neg (fun e=>hs x (by simp) e.symm)]
theorem jq(f:Ent->Int):∀(A:List Ent) (l:List Int),(A.map (·.1)).Nodup->(∀x∈A,x.1<l.length)->∀x∈A,nth (cV f A l) x.1=f x
 |[],_,_,_,x,hx=>by simp at hx
 |y::A,l,hn,h,x,hx=>by
  simp only[IK,JR,GK]at hn;have hl:∀z∈A,z.1<(l.set y.1 (f y)).length:=fun z hz=>by simpa using h z (by simp[hz])
  rcases GV.1 hx with rfl|hx
  ·have:=nU f x.1 A (l.set x.1 (f x)) hl (fun z hz e=>hn.1 ⟨z,hz,e⟩);simp only[cV,Gp]at this ⊢;rw[this,aP (h x (by simp)),if_pos rfl]
  have:=jq f A (l.set y.1 (f y)) hn.2 hl x hx;simpa only[cV,Gp]using this
theorem zY{A:List Ent}(hn:(A.map (·.1)).Nodup){s r:Nat}(h:nth (ei A) s=r)(hs:s<gH A):∃x∈A,x.1=s/\x.2.1=r:=by
 have h1:=nV A s (G1 (gH A) (-1)) (by simpa using hs) (fun y hy=>by simpa using dM hy);have h2:nth (G1 (gH A) (-1:Int)) s = -1:=by rw[aB (by simpa using hs)];simp
 rw[h2]at h1;have h3:=h1.1 (by rw[ei]at h;rw[h];omega);simp only[ne_eq,not_true,or_false,List.any_eq_true]at h3;obtain⟨x,hx,he⟩:=h3;have he:x.1=s:=by simpa using he
 refine⟨x,hx,he,?_⟩;have h4:=jq jO A (G1 (gH A) (-1)) hn (fun y hy=>by simpa using dM hy) x hx;rw[he]at h4;rw[ei,h4]at h;unfold jO at h;omega
structure BInv(width:Int)(L:List (List Int))(k:Nat)(A:List Ent)(q:PSt):Prop where
 chk:q.check=ei A
 nxt:q.next=jB A
 bl:q.base.length=k
 b0:∀b∈q.base,0<=b
 us:q.usual=(L.take k).map bz
 nd:(A.map (·.1)).Nodup
 mem:∀x:Ent,x∈A↔x.2.1<k/\∃c,c<(nth L x.2.1).length/\nth (nth L x.2.1) c≠bz (nth L x.2.1)/\x.1=(nth q.base x.2.1).toNat+c/\x.2.2=nth (nth L x.2.1) c
theorem oh{a0:List Int}{u:Int}{c:Nat}:c∈bu a0 u↔c<a0.length/\nth a0 c≠u:=by simp[bu,eU]
theorem Gj(a0:Int)(L:List (List Int)):∀k,k<=L.length->∃A,BInv a0 L k A ((L.take k).foldl PSt.lay ⟨a0,[],[],[],[]⟩):=by
 intro k
 induction k with
 |zero=>intro _;exact⟨[],⟨rfl,rfl,rfl,by simp,rfl,by simp,fun x=>by simp⟩⟩
 |succ k ih=>
  intro hk;obtain⟨A,h⟩:=ih zo;rw[aF zo,GF];generalize (L.take k).foldl PSt.lay ⟨a0,[],[],[],[]⟩=q at *;simp only[Gp,IW];obtain⟨e1,e2⟩:=uL q A (nth L k) h.chk h.nxt;obtain⟨m1,m2,m3⟩:=uM q (nth L k);have a3:=(fO q.check (bu (nth L k) (bz (nth L k)))).1;rw[dU,GM,h.chk]at a3;rw[h.chk]at e1 e2 m1;generalize hb:eX (ei A) (bu (nth L k) (bz (nth L k)))=b at *;rw[h.bl]at e1 e2;have a1:∀r,r<k->nth (q.base++[(b:Int)]) r=nth q.base r:=fun r hr=>by rw[ay,if_pos (by rw[h.bl];exact hr)]
  have a4:nth (q.base++[(b:Int)]) k=b:=by rw[ay,h.bl,if_neg (Nat.lt_irrefl _),IB,au]
  refine⟨_,⟨e1,e2,by rw[m1];simp[h.bl],fun n hn=>?_,by rw[m2,h.us,aF zo];simp,?_,fun x=>?_⟩⟩
  ·rw[m1]at hn
   rcases ID.1 hn with h1|h1
   ·exact h.b0 n h1
   simp only[G6]at h1;subst h1;omega
  ·rw[If,JF];refine⟨h.nd,?_,fun s hs s' a2 e=>?_⟩
   ·simp only[iS,K7];rw[List.nodup_iff_pairwise_ne,List.pairwise_map];exact(lg (nth L k) (bz (nth L k))).imp (fun {a c} a6 e=>a6 (by simpa using e))
   subst e;simp only[iS,K7,GK,KE]at a2;obtain⟨c,hc,rfl⟩:=a2;obtain⟨y,hy,a5⟩:=GK.1 hs;have h2:=a3 c hc;rw[vY,It]at h2;have h3:=I5.1 h2 y hy;exact h3 (by simp[a5])
  rw[ID,h.mem,m1]
  constructor
  ·rintro(⟨h1,c,h2,h3,h4,h5⟩|h1)
   ·exact⟨zo,c,h2,h3,by rw[a1 _ h1];exact h4,h5⟩
   simp only[iS,GK]at h1;obtain⟨c,hc,rfl⟩:=h1;obtain⟨c1,c2⟩:=oh.1 hc;exact⟨by dsimp only;omega,c,c1,c2,by dsimp only;rw[a4];simp,rfl⟩
  rintro⟨h1,c,h2,h3,h4,h5⟩
  by_cases hr:x.2.1<k
  ·exact .inl ⟨hr,c,h2,h3,by rw[a1 _ hr]at h4;exact h4,h5⟩
  obtain⟨x1,x2,x3⟩:=x;dsimp only at h1 h2 h3 h4 h5 hr;obtain rfl:x2=k:=zo;right;rw[a4]at h4;simp only[iS,GK];exact⟨c,oh.2 ⟨h2,h3⟩,by rw[h4,h5];simp⟩
theorem zD(a0:Int)(L:List (List Int))(r c:Nat)(hr:r<L.length)(hc:c<(nth L r).length):getM (ky a0 L) r c=nth (nth L r) c:=by
 obtain⟨A,h⟩:=Gj a0 L L.length (Gw _);rw[GA]at h;have hq:L.foldl PSt.lay ⟨a0,[],[],[],[]⟩=ky a0 L:=rfl;rw[hq]at h;generalize ky a0 L=q at *;have a1:nth q.usual r=bz (nth L r):=by rw[h.us,GA,dV hr]
 unfold getM;rw[h.chk,h.nxt,eV,a1]
 by_cases hu:nth (nth L r) c=bz (nth L r)
 ·rw[if_neg,hu];rintro⟨h1,h2⟩;obtain⟨x,hx,e1,e2⟩:=zY h.nd h2 h1;obtain⟨g1,c',g2,g3,g4,g5⟩:=(h.mem x).1 hx;rw[e2]at g2 g3 g4;have:c'=c:=zo;subst this;exact g3 hu
 have hx:(((nth q.base r).toNat+c,r,nth (nth L r) c):Ent)∈A:=(h.mem _).2 ⟨by simpa using hr,c,hc,hu,rfl,rfl⟩;have h1:=dM hx;have h2:=jq jO A (G1 (gH A) (-1)) h.nd (fun y hy=>by simpa using dM hy) _ hx;have h3:=jq FZ A (G1 (gH A) 0) h.nd (fun y hy=>by simpa using dM hy) _ hx;dsimp only at h1;rw[if_pos ⟨h1,h2⟩];exact h3
end Go.Proofs.YtpfpmhhigheccaaGreatDoor
section
namespace Go.VL
structure LS where
 l:List UInt8
 pos:Int
 to:Int
 bg:Int
 bad:Int
 e:Int
 ig:ix
 kp:ix
 ru:ix
 mc:ix
 i:Bool
 k:Bool
def LS.cells(s:LS):Array ix:=#[.string (bs s.l),nI s.pos,nI s.to,nI s.bg,nI s.bad,nI s.e,s.ig,s.kp,s.ru,s.mc,.bool s.i,.bool s.k]
theorem BlkO.q0{O:Nat->Nat}{w:ln}{j rb:Nat}{s:LS}{E:GH}(h:GW O w j rb s.cells E):w.cell? ⟨rb,0,none⟩=some (.string (bs s.l)):=h.cell 0 rfl
theorem BlkO.q1{O:Nat->Nat}{w:ln}{j rb:Nat}{s:LS}{E:GH}(h:GW O w j rb s.cells E):w.cell? ⟨rb,1,none⟩=some (nI s.pos):=h.cell 1 rfl
theorem BlkO.q2{O:Nat->Nat}{w:ln}{j rb:Nat}{s:LS}{E:GH}(h:GW O w j rb s.cells E):w.cell? ⟨rb,2,none⟩=some (nI s.to):=h.cell 2 rfl
theorem BlkO.q3{O:Nat->Nat}{w:ln}{j rb:Nat}{s:LS}{E:GH}(h:GW O w j rb s.cells E):w.cell? ⟨rb,3,none⟩=some (nI s.bg):=h.cell 3 rfl
theorem BlkO.q4{O:Nat->Nat}{w:ln}{j rb:Nat}{s:LS}{E:GH}(h:GW O w j rb s.cells E):w.cell? ⟨rb,4,none⟩=some (nI s.bad):=h.cell 4 rfl
theorem BlkO.q5{O:Nat->Nat}{w:ln}{j rb:Nat}{s:LS}{E:GH}(h:GW O w j rb s.cells E):w.cell? ⟨rb,5,none⟩=some (nI s.e):=h.cell 5 rfl
theorem BlkO.q6{O:Nat->Nat}{w:ln}{j rb:Nat}{s:LS}{E:GH}(h:GW O w j rb s.cells E):w.cell? ⟨rb,6,none⟩=some (s.ig):=h.cell 6 rfl
theorem BlkO.q7{O:Nat->Nat}{w:ln}{j rb:Nat}{s:LS}{E:GH}(h:GW O w j rb s.cells E):w.cell? ⟨rb,7,none⟩=some (s.kp):=h.cell 7 rfl
theorem BlkO.q8{O:Nat->Nat}{w:ln}{j rb:Nat}{s:LS}{E:GH}(h:GW O w j rb s.cells E):w.cell? ⟨rb,8,none⟩=some (s.ru):=h.cell 8 rfl
theorem BlkO.q9{O:Nat->Nat}{w:ln}{j rb:Nat}{s:LS}{E:GH}(h:GW O w j rb s.cells E):w.cell? ⟨rb,9,none⟩=some (s.mc):=h.cell 9 rfl
theorem BlkO.q10{O:Nat->Nat}{w:ln}{j rb:Nat}{s:LS}{E:GH}(h:GW O w j rb s.cells E):w.cell? ⟨rb,10,none⟩=some (.bool s.i):=h.cell 10 rfl
theorem BlkO.q11{O:Nat->Nat}{w:ln}{j rb:Nat}{s:LS}{E:GH}(h:GW O w j rb s.cells E):w.cell? ⟨rb,11,none⟩=some (.bool s.k):=h.cell 11 rfl
theorem BlkO.s_pos{O:Nat->Nat}{w:ln}{j rb:Nat}{s:LS}{E:GH}(h:GW O w j rb s.cells E)(a':Int):GW O (w.setCell ⟨rb,1,none⟩ (nI a')) j rb ({s with pos:=a'}:LS).cells E:=h.set 1 _
theorem BlkO.s_to{O:Nat->Nat}{w:ln}{j rb:Nat}{s:LS}{E:GH}(h:GW O w j rb s.cells E)(a':Int):GW O (w.setCell ⟨rb,2,none⟩ (nI a')) j rb ({s with to:=a'}:LS).cells E:=h.set 2 _
theorem BlkO.s_bg{O:Nat->Nat}{w:ln}{j rb:Nat}{s:LS}{E:GH}(h:GW O w j rb s.cells E)(a':Int):GW O (w.setCell ⟨rb,3,none⟩ (nI a')) j rb ({s with bg:=a'}:LS).cells E:=h.set 3 _
theorem BlkO.s_bad{O:Nat->Nat}{w:ln}{j rb:Nat}{s:LS}{E:GH}(h:GW O w j rb s.cells E)(a':Int):GW O (w.setCell ⟨rb,4,none⟩ (nI a')) j rb ({s with bad:=a'}:LS).cells E:=h.set 4 _
theorem BlkO.s_e{O:Nat->Nat}{w:ln}{j rb:Nat}{s:LS}{E:GH}(h:GW O w j rb s.cells E)(a':Int):GW O (w.setCell ⟨rb,5,none⟩ (nI a')) j rb ({s with e:=a'}:LS).cells E:=h.set 5 _
theorem BlkO.s_ru{O:Nat->Nat}{w:ln}{j rb:Nat}{s:LS}{E:GH}(h:GW O w j rb s.cells E)(a':ix):GW O (w.setCell ⟨rb,8,none⟩ a') j rb ({s with ru:=a'}:LS).cells E:=h.set 8 _
end Go.VL
namespace Go.Proofs.YtpfpmhhigheccaaGreatDoor
open Go.VL Go.Proofs
set_option maxRecDepth 10000
abbrev Rd6(O:Nat->Nat)(w:ln)(j rb:Nat)(s:LS):Prop:=GW O w j rb s.cells 148
theorem lG{l:List UInt8}{m i:Nat}{c:UInt8}(h:(l.take m)[i]? = some c):l[i]? = some c:=by
 rw[List.getElem?_take]at h
 split at h
 ·exact h
 cases h
theorem dq(O:Nat->Nat)(w:ln)(j rb:Nat)(s:LS)(m:Nat)(r:List UInt8)(hj:j≠0)(hm:m<=s.l.length)(hl:s.l.length<=100000)(a3:s.to=(m:Int))(hr:r <:+ s.l.take m)(hp:s.pos=(m:Int)-(r.length:Int))(h:Rd6 O w j rb s):
  I9 Gt 103 [nP rb] w fun v w'=>v=.bool (decide (0<(ak r).length))/\Rd6 O w' j rb {s with pos:=(m:Int)-((ak r).length:Int)}/\GC (fun k=>k=j) O w O w':=by
 have hz:¬(fun k:Nat=>k=j) 0:=fun e=>hj e.symm
 have a9:(s.l.take m).length=m:=by simp;omega
 have h0:Rd6 O w j rb {s with pos:=(m:Int)-(r.length:Int)}:=by rw[<-hp];exact h
 refine G0 func103 ntmps103 rfl rfl ?_;refine zh ?_
 refine zlp (fun x:List UInt8×ln=>[(0,nP rb)]) (fun x=>x.2) (fun x=>x.1 <:+ s.l.take m/\ak x.1=ak r/\Rd6 O x.2 j rb {s with pos:=(m:Int)-(x.1.length:Int)}/\GC (fun k=>k=j) O w O x.2) (fun x=>x.1.length) (r,w) (⟨hr,rfl,h0,Iy hz _ _⟩) ?_;rintro⟨r1,w1⟩ ⟨a4,a2,a7,a5⟩;dsimp only at a4 a2 a7 a5 ⊢;have a0:=a7.drew;have a8:=a4.length_le;refine zh ?_
 refine I8 zk zk ?_;refine zh ?_
 refine zwH (RV.ld a0.q1 rfl) ?_;refine zwH (RV.ld a0.q2 rfl) ?_
 cases r1 with
 |nil=>
  refine cd (d:=12) rfl (b':=false) (decide_eq_false (by simp[a3])) ?_;have a1:=a0.drew;refine zh ?_
  refine zw (bF rfl rfl) ?_;refine I7 ?_
  refine zh ?_;refine zFH rfl rfl ?_
  refine I8 zk zk ?_;refine zh ?_
  refine zwH (RV.ld a1.q1 rfl) ?_;refine zwH (RV.ld a1.q2 rfl) ?_
  refine I7 ?_;refine zh ?_
  refine ae rfl rfl (⟨by rw[<-a2];simp[a3,ak],by rw[<-a2];exact a1,a5.drew.drew⟩)
 |cons b r2=>
  simp only[GD]at a8 a0;refine cd (d:=12) rfl (b':=true) (decide_eq_true (by simp only[GD,a3];omega)) ?_;refine zh ?_;refine zwH (RV.ld a0.q0 rfl) ?_;refine zwH (RV.ld a0.q1 rfl) ?_;refine zwH (aY (c:=b) G2 rfl rfl (m-(r2.length+1)) (by dsimp only;omega) (lG (by have:=lQ a4;rwa[a9]at this))) ?_;refine zw (bT rfl rfl) ?_;refine I7 ?_;refine zh ?_;refine zC ?_ ?_
  ·intro hb;replace hb:b=32:=by rw[show(32:Int)=((32:Nat):Int)from rfl,mM b 32 zd]at hb;simpa using hb
   subst hb;refine zh ?_;refine zv (RV.ld a0.q1 rfl) ?_;refine zvH (Im rfl rfl (GZ (by dsimp only;omega))) ?_;refine aj (j:=1) a0 rfl (GI _) rfl rfl rfl rfl ?_;rw[show((m:Int)-((r2.length+1:Nat):Int))+1=(m:Int)-(r2.length:Int)from by omega];have a1:=a0.s_pos ((m:Int)-(r2.length:Int));have a':GC (fun k=>k=j) O w1.drew O (w1.drew.setCell ⟨rb,1,none⟩ (nI ((m:Int)-(r2.length:Int)))):=GQ hz a0.tag rfl;refine zh ?_;refine zx (r2,w1.drew.setCell ⟨rb,1,none⟩ (nI ((m:Int)-(r2.length:Int)))) (⟨(IP _ _).trans a4,by rw[<-a2];simp[ak],a1,a5.drew.trans a'⟩) (by dsimp only;simp)
  intro hb;replace hb:b≠32:=by rw[show(32:Int)=((32:Nat):Int)from rfl,mM b 32 zd]at hb;simpa using hb
  have a6:ak (b::r2)=b::r2:=by simp[ak,hb]
  have a1:=a0.drew;refine zh ?_;refine I8 zk zk ?_;refine zh ?_;refine zwH (RV.ld a1.q1 rfl) ?_;refine zwH (RV.ld a1.q2 rfl) ?_;refine I7 ?_;refine zh ?_;refine ae rfl rfl (⟨by rw[<-a2,a6];simp[a3];omega,by rw[<-a2,a6];exact a1,a5.drew.drew⟩)
theorem bq(O:Nat->Nat)(w:ln)(j rb:Nat)(s:LS)(p e:Int)(hj:j≠0)(he:s.e=0)(h:Rd6 O w j rb s):
  I9 Gt 130 [nP rb,nI p,nI e] w fun _ w'=>Rd6 O w' j rb {s with bad:=p,e:=e}/\GC (fun k=>k=j) O w O w':=by
 refine G0 func130 ntmps130 rfl rfl ?_;refine zh ?_
 refine zvH (RV.ld h.q5 rfl) ?_;refine zTH rfl ((by rw[he];rfl)) ?_
 refine aj (j:=4) h rfl (GI _) rfl rfl rfl rfl ?_;have a0:=h.s_bad p;have a3:GC (fun k=>k=j) O w O (w.setCell ⟨rb,4,none⟩ (nI p)):=GQ (fun e=>hj e.symm) h.tag rfl;refine zh ?_
 refine aj (j:=5) a0 rfl (sizeOf33 _) rfl rfl rfl rfl ?_;have a1:=a0.s_e e;have a2:GC (fun k=>k=j) O (w.setCell ⟨rb,4,none⟩ (nI p)) O ((w.setCell ⟨rb,4,none⟩ (nI p)).setCell ⟨rb,5,none⟩ (nI e)):=GQ (fun e=>hj e.symm) a0.tag rfl;refine zh ?_
 refine aE rfl (⟨a1,a3.trans a2⟩)
theorem gq(O:Nat->Nat)(w:ln)(j rb:Nat)(s:LS)(m:Nat)(r:List UInt8)(hj:j≠0)(hm:m<=s.l.length)(hl:s.l.length<=100000)(b2:s.to=(m:Int))(hr:r <:+ s.l.take m)(hp:s.pos=(m:Int)-(r.length:Int))(h:Rd6 O w j rb s):
  I9 Gt 104 [nP rb] w fun v w'=>v=.string (bs (r.takeWhile ai))/\Rd6 O w' j rb {s with pos:=(m:Int)-((r.dropWhile ai).length:Int)}/\GC (fun k=>k=j) O w O w':=by
 have hz:¬(fun k:Nat=>k=j) 0:=fun e=>hj e.symm
 have a9:(s.l.take m).length=m:=by simp;omega
 have h0:Rd6 O w j rb {s with pos:=(m:Int)-(r.length:Int)}:=by rw[<-hp];exact h
 have a':=hr.length_le;rw[a9]at a';refine G0 func104 ntmps104 rfl rfl ?_;refine zh ?_;refine zvH (RV.ld h0.q1 rfl) ?_;refine zlp (fun x:List UInt8×ln=>[(0,nP rb),(3,nI ((m:Int)-(r.length:Int)))]) (fun x=>x.2) (fun x=>x.1 <:+ s.l.take m/\x.1.dropWhile ai=r.dropWhile ai/\Rd6 O x.2 j rb {s with pos:=(m:Int)-(x.1.length:Int)}/\GC (fun k=>k=j) O w O x.2) (fun x=>x.1.length) (r,w) (⟨hr,rfl,h0,Iy hz _ _⟩) ?_;rintro⟨r1,w1⟩ ⟨a8,a5,b4,a6⟩;dsimp only at a8 a5 b4 a6 ⊢;have a0:=b4.drew;have b3:=a8.length_le;rw[a9]at b3;have a3:r1=r.dropWhile ai->(s.l.take (m-r1.length)).drop (m-r.length)=r.takeWhile ai:=fun e=>by
  have:=yd (l:=s.l.take m) (a:=r.takeWhile ai) (b:=r.dropWhile ai) (by rw[IN];exact hr);rw[IN,<-e,a9,JV,JU zo]at this;exact this
 have b0:r1.length<=r.length\/r1≠r.dropWhile ai:=by
  by_cases e:r1=r.dropWhile ai
  ·left;rw[e];exact(Jo _).length_le
  right;exact e
 refine zh ?_;refine I8 zk zk ?_
 refine zh ?_;refine zwH (RV.ld a0.q1 rfl) ?_
 refine zwH (RV.ld a0.q2 rfl) ?_
 cases r1 with
 |nil=>
  refine cd (d:=17) rfl (b':=false) (decide_eq_false (by simp[b2])) ?_;have a1:=a0.drew;have hd:[]=r.dropWhile ai:=by rw[<-a5];rfl
  have h1:=a3 hd;refine zh ?_;refine zw (bF rfl rfl) ?_;refine I7 ?_;refine zh ?_;refine zFH rfl rfl ?_;refine I8 zk zk ?_;refine zh ?_;refine zwH (RV.ld a1.q0 rfl) ?_;refine zw (RV.ld a1.q1 rfl) ?_;refine zwH (cJ G2 rfl rfl rfl (m-r.length) (m-0) zo (by simp) zo zo) ?_;refine I7 ?_;refine zh ?_;simp only[List.length_nil]at h1;refine ae rfl rfl (⟨by rw[h1],by rw[<-hd];exact a1,a6.drew.drew⟩)
 |cons b r2=>
  simp only[GD]at b3 a0;refine cd (d:=17) rfl (b':=true) (decide_eq_true (by simp only[GD,b2];omega)) ?_;have a2:s.l[m-(r2.length+1)]? = some b:=lG (by have:=lQ a8;rwa[a9]at this);refine zh ?_;refine zwH (RV.ld a0.q0 rfl) ?_;refine zwH (RV.ld a0.q1 rfl) ?_;refine zwH (aY (c:=b) G2 rfl rfl (m-(r2.length+1)) (by dsimp only;omega) a2) ?_
  by_cases k1:65<=b.toNat
  ·refine cd (d:=28) rfl (b':=true) (decide_eq_true zo) ?_;refine zh ?_
   refine zwH (RV.ld a0.q0 rfl) ?_;refine zwH (RV.ld a0.q1 rfl) ?_
   refine zwH (aY (c:=b) G2 rfl rfl (m-(r2.length+1)) (by dsimp only;omega) a2) ?_;refine zwH (bT rfl rfl) ?_
   by_cases k2:b.toNat<=90
   ·refine cd (d:=40) rfl (b':=true) (decide_eq_true zo) ?_;have a4:ai b=true:=by simp[ai,k1,k2]
    refine zh ?_;refine zw (bT rfl rfl) ?_
    refine zw (bT rfl rfl) ?_;refine I7 ?_
    refine zh ?_;refine zTH rfl rfl ?_
    refine zv (RV.ld a0.q1 rfl) ?_;refine zvH (Im rfl rfl (GZ (by dsimp only;omega))) ?_
    refine aj (j:=1) a0 rfl (GI _) rfl rfl rfl rfl ?_;rw[show((m:Int)-((r2.length+1:Nat):Int))+1=(m:Int)-(r2.length:Int)from by omega];have a1:=a0.s_pos ((m:Int)-(r2.length:Int));have b1:GC (fun k=>k=j) O w1.drew O (w1.drew.setCell ⟨rb,1,none⟩ (nI ((m:Int)-(r2.length:Int)))):=GQ hz a0.tag rfl;refine zh ?_
    refine zx (r2,w1.drew.setCell ⟨rb,1,none⟩ (nI ((m:Int)-(r2.length:Int)))) (⟨(IP _ _).trans a8,by rw[<-a5,IX a4],a1,a6.drew.trans b1⟩) (by dsimp only;simp)
   refine cd (d:=40) rfl (b':=false) (decide_eq_false zo) ?_;refine zh ?_
   refine zwH (RV.ld a0.q0 rfl) ?_;refine zwH (RV.ld a0.q1 rfl) ?_
   refine zwH (aY (c:=b) G2 rfl rfl (m-(r2.length+1)) (by dsimp only;omega) a2) ?_
   by_cases k3:97<=b.toNat
   ·refine cd (d:=51) rfl (b':=true) (decide_eq_true zo) ?_;refine zh ?_
    refine zwH (RV.ld a0.q0 rfl) ?_;refine zwH (RV.ld a0.q1 rfl) ?_
    refine zwH (aY (c:=b) G2 rfl rfl (m-(r2.length+1)) (by dsimp only;omega) a2) ?_;refine zwH (bT rfl rfl) ?_
    refine zw (bF rfl rfl) ?_;refine zw (bT rfl rfl) ?_
    refine I7 ?_;refine zh ?_
    by_cases k4:b.toNat<=122
    ·refine aS rfl (decide_eq_true zo) ?_;have a4:ai b=true:=by simp[ai,k3,k4]
     refine zh ?_;refine zv (RV.ld a0.q1 rfl) ?_
     refine zvH (Im rfl rfl (GZ (by dsimp only;omega))) ?_;refine aj (j:=1) a0 rfl (GI _) rfl rfl rfl rfl ?_
     rw[show((m:Int)-((r2.length+1:Nat):Int))+1=(m:Int)-(r2.length:Int)from by omega];have a1:=a0.s_pos ((m:Int)-(r2.length:Int));have b1:GC (fun k=>k=j) O w1.drew O (w1.drew.setCell ⟨rb,1,none⟩ (nI ((m:Int)-(r2.length:Int)))):=GQ hz a0.tag rfl;refine zh ?_;refine zx (r2,w1.drew.setCell ⟨rb,1,none⟩ (nI ((m:Int)-(r2.length:Int)))) (⟨(IP _ _).trans a8,by rw[<-a5,IX a4],a1,a6.drew.trans b1⟩) (by dsimp only;simp)
    refine aX rfl (decide_eq_false zo) ?_;have a4:ai b=false:=by simp[ai,k2,k4]
    have a7:(b::r2).dropWhile ai=b::r2:=Iq (by rw[a4];decide);have hd:b::r2=r.dropWhile ai:=by rw[<-a5,a7]
    have h1:=a3 hd;have h2:=b0.resolve_right (fun e=>e hd);simp only[GD]at h1 h2;have a1:=a0.drew;refine zh ?_;refine I8 zk zk ?_;refine zh ?_;refine zwH (RV.ld a1.q0 rfl) ?_;refine zw (RV.ld a1.q1 rfl) ?_;refine zwH (cJ G2 rfl rfl rfl (m-r.length) (m-(r2.length+1)) zo (by dsimp only;omega) zo (by dsimp only;omega)) ?_;refine I7 ?_;refine zh ?_;refine ae rfl rfl (⟨by rw[h1],by rw[<-hd];exact a1,a6.drew.drew⟩)
   refine cd (d:=51) rfl (b':=false) (decide_eq_false zo) ?_;have a4:ai b=false:=by simp[ai,k2,k3]
   have a7:(b::r2).dropWhile ai=b::r2:=Iq (by rw[a4];decide);have hd:b::r2=r.dropWhile ai:=by rw[<-a5,a7]
   have h1:=a3 hd;have h2:=b0.resolve_right (fun e=>e hd);simp only[GD]at h1 h2;have a1:=a0.drew;refine zh ?_;refine zwH (bF rfl rfl) ?_;refine zw (bF rfl rfl) ?_;refine zw (bT rfl rfl) ?_;refine I7 ?_;refine zh ?_;refine zFH rfl rfl ?_;refine I8 zk zk ?_;refine zh ?_;refine zwH (RV.ld a1.q0 rfl) ?_;refine zw (RV.ld a1.q1 rfl) ?_;refine zwH (cJ G2 rfl rfl rfl (m-r.length) (m-(r2.length+1)) zo (by dsimp only;omega) zo (by dsimp only;omega)) ?_;refine I7 ?_;refine zh ?_;refine ae rfl rfl (⟨by rw[h1],by rw[<-hd];exact a1,a6.drew.drew⟩)
  have k3:¬97<=b.toNat:=zo;refine cd (d:=28) rfl (b':=false) (decide_eq_false zo) ?_;refine zh ?_;refine zwH (bF rfl rfl) ?_;refine zwH (RV.ld a0.q0 rfl) ?_;refine zwH (RV.ld a0.q1 rfl) ?_;refine zwH (aY (c:=b) G2 rfl rfl (m-(r2.length+1)) (by dsimp only;omega) a2) ?_;refine cd (d:=51) rfl (b':=false) (decide_eq_false zo) ?_;have a4:ai b=false:=by simp[ai,k1,k3]
  have a7:(b::r2).dropWhile ai=b::r2:=Iq (by rw[a4];decide);have hd:b::r2=r.dropWhile ai:=by rw[<-a5,a7]
  have h1:=a3 hd;have h2:=b0.resolve_right (fun e=>e hd);simp only[GD]at h1 h2;have a1:=a0.drew;refine zh ?_;refine zwH (bF rfl rfl) ?_;refine zw (bF rfl rfl) ?_;refine zw (bT rfl rfl) ?_;refine I7 ?_;refine zh ?_;refine zFH rfl rfl ?_;refine I8 zk zk ?_;refine zh ?_;refine zwH (RV.ld a1.q0 rfl) ?_;refine zw (RV.ld a1.q1 rfl) ?_;refine zwH (cJ G2 rfl rfl rfl (m-r.length) (m-(r2.length+1)) zo (by dsimp only;omega) zo (by dsimp only;omega)) ?_;refine I7 ?_;refine zh ?_;refine ae rfl rfl (⟨by rw[h1],by rw[<-hd];exact a1,a6.drew.drew⟩)
end Go.Proofs.YtpfpmhhigheccaaGreatDoor
end
section
namespace Go.VL
section
variable{P:Ky}{N:Nat}{ops:Array Oper}{Q:Exit→Act→ln→Prop}{rest:List Oper}{st:St}{w:ln}
variable{t:GH}{p:String}{e:Array Edge}{d:Nat}{x y z:Operand}
theorem WC.scope{c:Code}(h:WC P N c (Kb Q) st w):WC P N (.scope c) Q st w:=fun a ha=>wp_scope_straight (h a ha)
theorem jh(h:QF N Q .ret st w):QF N (Kb Q) .ret st w:=h
theorem run_next_at(w:ln)(b:Nat)(s:ByteArray)(a0:Nat)(ty:GH){c n:Nat}(hb:w.heap[b]? = some (.stringIter s a0))(h:a0<s.size)(hd:IH s a0=(c,n)):
  (IU (nP b) true ty).run P w=.ok (.tuple #[.bool true,nI a0,.int .i32 c]) (w.putObj b (.stringIter s (a0+n))):=by
 simp only[IU,getObj,setObj,Jl,JI,hb,Result.andThen,h,if_true,hd];simp[goInt,World.putObj]
theorem pg(w:ln)(b:Nat)(s:ByteArray)(a0:Nat)(ty:GH)(hb:w.heap[b]? = some (.stringIter s a0))(h:¬a0<s.size):
  (IU (nP b) true ty).run P w=.ok (.tuple #[.bool false]) w:=by
 simp[IU,getObj,JI,hb,h]
theorem sn{l:List UInt8}{a0 c n b:Nat}(hx:ev st x=some (nP b))(hb:w.heap[b]? = some (.stringIter (bs l) a0))(hp:a0<l.length)(a2:IH (bs l) a0=(c,n))(hd:K9 d N=true) 
  (h:WL P N ops Q rest ((d,.tuple #[.bool true,nI (a0:Nat),.int .i32 (c:Int)])::st) (w.putObj b (.stringIter (bs l) (a0+n)))):WL P N ops Q (⟨some d,.next x true,t,p,e,none⟩::rest) st w:=by
 have a1:=run_next_at (P:=P) w b (bs l) a0 t hb (by rw[cP];exact hp) a2
 exact Km hd (fun a ha=>by
  simp only[execOp,ha.ev hx,Jl,a1,Ju]
  rfl) h
theorem tV{l:List UInt8}{a0 b:Nat}(hx:ev st x=some (nP b))(hb:w.heap[b]? = some (.stringIter (bs l) a0))(hp:l.length<=a0)(hd:K9 d N=true) 
  (h:WL P N ops Q rest ((d,.tuple #[.bool false])::st) w):WL P N ops Q (⟨some d,.next x true,t,p,e,none⟩::rest) st w:=by
 have a1:=pg (P:=P) w b (bs l) a0 t hb (by rw[cP];omega)
 exact Km hd (fun a ha=>by
  simp only[execOp,ha.ev hx,Jl,a1,Ju]
  rfl) h
theorem ug{xt yt:GH}{k k':IntKind}{m:Int}(hs:P.underlying xt=some (.int k'))(a0:P.underlying yt=some .string)(hx:ev st x=some (.int k m)):RV P N (.convert xt yt x) t st w (.string (Jp m)):=
 fun a ha a1 p e g=>by
  simp only[execOp,ha.ev hx];simp[convert,run_underlying hs,run_underlying a0,Conv.intToString]
end
theorem zW{l:List UInt8}{a0:Nat}(h:a0<l.length)(hb:(nth l a0).toNat<128):IH (bs l) a0=((nth l a0).toNat,1):=by
 have hs:a0<(bs l).size:=by rw[cP];exact h
 have he:(bs l)[a0]'hs=nth l a0:=by rw[aB h];exact List.getElem_toArray (xs:=l) (i:=a0) h
 have:=decode_ascii (bs l) a0 hs (by rw[he];exact hb);rw[he]at this;exact this
theorem BX{l:List UInt8}{i:Nat}(h:i<l.length):(bs l).get! i=nth l i:=by
 rw[aB h];show(bs l).data[i]! = _;rw[getElem!_pos (bs l).data i (by simpa[bs]using h)];simp[bs]
theorem zX{l:List UInt8}{a0:Nat}(h:a0<l.length)(hb:128<=(nth l a0).toNat):
  ∃c n,IH (bs l) a0=(c,n)/\128<=c/\I1 (c:Int)=true/\1<=n/\a0+n<=l.length/\∀i,a0<=i->i<a0+n->128<=(nth l i).toNat:=by
 have h0:(bs l).get! (a0+0)=nth l a0:=BX h;have hc:∀k,(a0+k<(bs l).size&&((bs l).get! (a0+k)).toNat / 64==2)=true->a0+k<l.length/\128<=(nth l (a0+k)).toNat:=fun k hk=>by
  simp only[Gq,decide_eq_true_eq,beq_iff_eq,cP]at hk;rw[BX hk.1]at hk;exact⟨hk.1,zo⟩
 have one:∀i,a0<=i->i<a0+1->128<=(nth l i).toNat:=fun i h1 h2=>by
  obtain rfl:i=a0:=zo;exact hb
 have a1:∃c n,(Utf8.runeError,1)=(c,n)/\128<=c/\I1 (c:Int)=true/\1<=n/\a0+n<=l.length/\∀i,a0<=i->i<a0+n->128<=(nth l i).toNat:=⟨_,_,rfl,zd,zd,zd,zo,one⟩
 unfold IH;simp only[h0];rw[if_neg zo];have a2:=(nth l a0).toNat_lt
 split
 ·rename_i h1;simp only[Gq]at h1;obtain⟨g1,g2⟩:=hc 1 (by simpa using h1.2)
  split
  ·rename_i h2;refine⟨_,_,rfl,h2,?_,zd,zo,fun i k1 k2=>?_⟩
   ·unfold I1;simp only[IT,Gq,decide_eq_true_eq];left;constructor<;>omega
   by_cases e:i=a0
   ·rw[e];exact hb
   obtain rfl:i=a0+1:=zo;exact g2
  exact a1
 split
 ·rename_i h1;simp only[Gq]at h1;obtain⟨g1,g2⟩:=hc 1 (by simpa using h1.1.2);obtain⟨g3,g4⟩:=hc 2 (by simpa using h1.2)
  split
  ·rename_i h2;simp only[Gq,decide_eq_true_eq]at h2;refine⟨_,_,rfl,zo,h2.2,zd,zo,fun i k1 k2=>?_⟩
   by_cases e:i=a0
   ·rw[e];exact hb
   by_cases e1:i=a0+1
   ·rw[e1];exact g2
   obtain rfl:i=a0+2:=zo;exact g4
  exact a1
 split
 ·rename_i h1;simp only[Gq]at h1;obtain⟨g1,g2⟩:=hc 1 (by simpa using h1.1.1.2);obtain⟨g3,g4⟩:=hc 2 (by simpa using h1.1.2);obtain⟨g5,g6⟩:=hc 3 (by simpa using h1.2)
  split
  ·rename_i h2;simp only[Gq,decide_eq_true_eq]at h2;refine⟨_,_,rfl,zo,h2.2,zd,zo,fun i k1 k2=>?_⟩
   by_cases e:i=a0
   ·rw[e];exact hb
   by_cases e1:i=a0+1
   ·rw[e1];exact g2
   by_cases e2:i=a0+2
   ·rw[e2];exact g4
   obtain rfl:i=a0+3:=zo;exact g6
  exact a1
 exact a1
theorem zP{c:Nat}(hc:128<=c)(hv:I1 (c:Int)=true):∃L:List UInt8,Jp (c:Int)=bs L/\2<=L.length/\L.length<=4/\128<=(nth L 1).toNat:=by
 unfold Jp;simp only[hv,if_true,JL];rw[if_neg zo];have hm:c % 64<64:=JE _ zd
 split
 ·refine⟨[Gz (0xC0+c / 64),Gz (0x80+c % 64)],rfl,by simp,by simp,?_⟩;rw[bp,au];simp;omega
 split
 ·refine⟨[Gz (0xE0+c / 4096),Gz (0x80+c / 64 % 64),Gz (0x80+c % 64)],rfl,by simp,by simp,?_⟩;rw[bp,au];have:c / 64 % 64<64:=JE _ zd;simp;omega
 refine⟨[Gz (0xF0+c / 262144),Gz (0x80+c / 4096 % 64),Gz (0x80+c / 64 % 64),Gz (0x80+c % 64)],rfl,by simp,by simp,?_⟩;rw[bp,au];have:c / 4096 % 64<64:=JE _ zd;simp;omega
end Go.VL
namespace Go.Proofs.YtpfpmhhigheccaaGreatDoor
open Go.VL Go.Proofs
set_option maxRecDepth 10000
theorem oV(c:Int)(w:ln)(hv:I1 c=true):I9 Gt 180 [.int .i32 c] w fun v w'=>v=.bool true/\w'=w:=by
 unfold I1 at hv;simp only[IT,Gq,decide_eq_true_eq]at hv;refine G0 func180 ntmps180 rfl rfl ?_;refine zh ?_;refine ao (d:=6) rfl (b':=true) ((decide_eq_true zo)) ?_;refine zh ?_
 by_cases h:c<55296
 ·refine zTH rfl ((decide_eq_true zo)) ?_;refine ae rfl rfl (⟨rfl,rfl⟩)
 refine zFH rfl ((decide_eq_false zo)) ?_;refine ao (d:=13) rfl (b':=true) ((decide_eq_true zo)) ?_
 refine zh ?_;refine zTH rfl ((decide_eq_true zo)) ?_
 refine ae rfl rfl (⟨rfl,rfl⟩)
theorem mC(c:Nat)(w:ln)(hc:128<=c)(hv:I1 (c:Int)=true):I9 Gt 161 [.string (bs [33,47]),.int .i32 (c:Int)] w fun v w'=>v=nI (-1)/\GR w w':=by
 refine G0 func161 ntmps161 rfl rfl ?_;refine zh ?_
 refine ao (d:=163) rfl (b':=true) ((decide_eq_true zo)) ?_;refine zh ?_
 refine zFH rfl ((decide_eq_false zo)) ?_
 by_cases h3:(c:Int)=65533
 ·refine zTH rfl ((by simpa using h3)) ?_;refine sm G2 rfl rfl ?_
  refine zh ?_;refine zlp (fun x:Nat=>[(175,.pointer (some ⟨w.heap.size,0,none⟩))]) (fun x=>w.iter (bs [33,47]) x) (fun x=>x<=2) (fun x=>2-x) 0 (G4 _) ?_
  rintro k hk;refine zh ?_
  by_cases a2:k<2
  ·have a3:([33,47]:List UInt8)[k]? = some (nth [33,47] k):=by rw[aB (by simpa using a2)];exact Iu (by simpa using a2)
   have a4:(nth ([33,47]:List UInt8) k).toNat<128:=by
    have:k=0\/k=1:=zo
    rcases this with rfl|rfl
    ·rw[au];decide
    rw[bp,au];decide
   refine BF rfl a3 a4 rfl ?_;refine zh ?_
   refine zTH rfl rfl ?_;refine zFH rfl ((beq_eq_false_iff_ne.2 zo)) ?_
   refine zxd (k+1) (a2)
  refine BE rfl (by simp;omega) rfl ?_;refine zh ?_
  refine zFH rfl rfl ?_;refine ae rfl rfl (⟨rfl,Ext.iter _ _ _⟩)
 refine zFH rfl ((by simpa using h3)) ?_;refine zc call180 (oV c w hv) ?_
 rintro v w9 ⟨rfl,a1⟩;rw[a1];clear a1 w9;obtain⟨L,hL,a6,a5,a7⟩:=zP hc hv;refine zh ?_;refine aX rfl rfl ?_;refine WC.scope ?_;refine zh ?_;refine zv (ug Kw G2 rfl) ?_;rw[hL];refine zh ?_;refine zvH (bQ G2 rfl) ?_;refine zlp (fun x:Unit=>[(0,.string (bs [33,47])),(7,.string (bs L)),(8,nI ((L.length:Int)-1)),(9,nI ((L.length:Int)-1)),(10,nI 0)]) (fun x=>w) (fun x=>True) (fun x=>0) () (trivial) ?_;rintro _ _;refine zh ?_;refine zvH (bQ G2 rfl) ?_
 by_cases h2:L.length=2
 ·refine aS rfl ((decide_eq_true (by simp;omega))) ?_;have a0:L[1]? = some (nth L 1):=by rw[aB zo];exact Iu zo
  refine zh ?_;refine WC.scope ?_
  refine zh ?_;refine I8 zk zk ?_
  refine zh ?_;refine zwH (aY (c:=47) G2 rfl rfl 1 zo rfl) ?_
  refine zwH (aY (c:=nth L 1) G2 rfl rfl 1 zo a0) ?_;refine I7 ?_
  refine zh ?_;refine zTH rfl ((by rw[bne_iff_ne];show(47:Int)≠_;omega)) ?_
  refine J0 7 rfl rfl zk zk ?_;refine zh ?_
  refine zwH (jf G2 rfl rfl 2 zo (by simp)) ?_;refine zw (aY (c:=nth L 1) G2 rfl rfl 1 zo a0) ?_
  refine JO ?_;refine zc call72 (de [] (nth L 1) w.drew.drew) ?_
  rintro v w9 ⟨rfl,a1⟩;rw[a1];clear a1 w9;refine zh ?_;refine zTH rfl rfl ?_;refine jh ?_;refine zh ?_;refine jh ?_;refine zh ?_;refine ae rfl rfl (⟨rfl,(G9 w).drew.drew⟩)
 refine zFH rfl ((decide_eq_false (by simp;omega))) ?_;refine jh ?_
 refine zh ?_;refine ae rfl rfl (⟨rfl,G9 _⟩)
theorem jQ(c:Nat)(w:ln)(hc:128<=c)(hv:I1 (c:Int)=true):I9 Gt 138 [.string (bs [33,47]),.int .i32 (c:Int)] w fun v w'=>v=.bool false/\GR w w':=by
 refine G0 func138 ntmps138 rfl rfl ?_;refine zh ?_
 refine zc call161 (mC c w hc hv) ?_;rintro v w9 ⟨rfl,hE⟩;refine zh ?_
 refine ae rfl rfl (⟨rfl,hE⟩)
theorem sT(c:Nat)(w:ln)(hc:128<=c)(hv:I1 (c:Int)=true):I9 Gt 137 [.int .i32 (c:Int)] w fun v w'=>v=.bool false/\GR w w':=by
 refine G0 func137 ntmps137 rfl rfl ?_;refine zh ?_
 refine zc call138 (jQ c w hc hv) ?_;rintro v w9 ⟨rfl,hE⟩;refine zh ?_
 refine ae rfl rfl (⟨rfl,hE⟩)
end Go.Proofs.YtpfpmhhigheccaaGreatDoor
end
section
namespace Go.VL
def forget(i:Nat)(O:Nat->Nat)(b:Nat):Nat:=if O b=i then 0 else O b
theorem Rng.forget{B i:Nat}{O:Nat->Nat}{w:ln}(h:IR B O w):IR B (forget i O) w:=⟨h.le,fun b hb=>by
 unfold VL.forget at hb
 split at hb
 ·exact absurd rfl hb
 exact h.rng b hb⟩
end Go.VL
namespace Go.Proofs.YtpfpmhhigheccaaGreatDoor
open Go.VL Go.Proofs
set_option maxRecDepth 10000
def fY(l:List UInt8):List UInt8:=(l.reverse.dropWhile (· == 32)).reverse
def AH(l:List UInt8):List UInt8:=ak (fY l)
theorem sH(l:List UInt8):fY (l++[32])=fY l:=by simp[fY]
theorem sI(l:List UInt8){c:UInt8}(h:c≠32):fY (l++[c])=l++[c]:=by simp[fY,h]
theorem lz(l:List UInt8)(w:ln)(hl:l.length<=1000000):I9 Gt 183 [.string (bs l),.int .u8 32] w fun v w'=>v=.string (bs (ak l))/\w'=w:=by
 refine G0 func183 ntmps183 rfl rfl ?_;refine zh ?_
 refine zlp (fun x:List UInt8=>[(0,.string (bs x)),(1,.int .u8 32)]) (fun x=>w) (fun x=>ak x=ak l/\x.length<=1000000) (fun x=>x.length) l (⟨rfl,hl⟩) ?_;rintro r ⟨hr,a0⟩;refine zh ?_
 refine zvH (bQ G2 rfl) ?_
 cases r with
 |nil=>
  refine ao (d:=8) rfl (b':=false) (rfl) ?_;refine zh ?_
  refine zFH rfl rfl ?_;refine ae rfl rfl (⟨by rw[<-hr];rfl,rfl⟩)
 |cons b r2=>
  simp only[GD]at a0;refine ao (d:=8) rfl (b':=true) ((decide_eq_true (by simp only[GD];omega))) ?_;refine zh ?_;refine zvH (aY (c:=b) G2 rfl rfl 0 rfl rfl) ?_;refine zC ?_ ?_
  ·intro hb;replace hb:b=32:=by
    by_cases e:b=32
    ·exact e
    have:=gJ b 32 zd e;exact absurd (this.symm.trans hb) zd
   subst hb;refine zh ?_;refine zvH (jf G2 rfl rfl 1 rfl (by simp)) ?_;refine zx (r2) (⟨by rw[<-hr];simp[ak],zo⟩) (by simp)
  intro hb;replace hb:b≠32:=fun e=>by subst e;cases hb
  refine zh ?_;refine ae rfl rfl (⟨by rw[<-hr];simp[ak,hb],rfl⟩)
theorem kf(l:List UInt8)(w:ln)(hl:l.length<=1000000):I9 Gt 184 [.string (bs l),.int .u8 32] w fun v w'=>v=.string (bs (fY l))/\w'=w:=by
 refine G0 func184 ntmps184 rfl rfl ?_;refine zh ?_
 refine zlp (fun x:List UInt8=>[(0,.string (bs x)),(1,.int .u8 32)]) (fun x=>w) (fun x=>fY x=fY l/\x.length<=1000000) (fun x=>x.length) l (⟨rfl,hl⟩) ?_;rintro r ⟨hr,a1⟩;refine zh ?_
 refine zvH (bQ G2 rfl) ?_
 rcases List.eq_nil_or_concat r with rfl|⟨r2,b,rfl⟩
 ·refine ao (d:=8) rfl (b':=false) (rfl) ?_;refine zh ?_
  refine zFH rfl rfl ?_;refine ae rfl rfl (⟨by rw[<-hr];rfl,rfl⟩)
 rw[List.concat_eq_append]at *;have a0:(r2++[b]).length=r2.length+1:=by simp
 rw[a0]at a1;refine ao (d:=8) rfl (b':=true) ((decide_eq_true (by rw[a0];omega))) ?_;refine zh ?_;refine zvH (bQ G2 rfl) ?_;refine zvH (aY (c:=b) G2 rfl rfl r2.length (by rw[a0];omega) (by simp)) ?_;refine zC ?_ ?_
 ·intro hb;replace hb:b=32:=by
   by_cases e:b=32
   ·exact e
   have:=gJ b 32 zd e;exact absurd (this.symm.trans hb) zd
  subst hb;refine zh ?_;refine zv (bQ G2 rfl) ?_;refine zv (RV.sub rfl rfl (GZ (by rw[a0];omega))) ?_;refine zvH (uc G2 rfl rfl r2.length (by rw[a0];omega) (by simp)) ?_;rw[List.take_left];refine zx (r2) (⟨by rw[<-hr,sH],zo⟩) (by simp)
 intro hb;replace hb:b≠32:=fun e=>by subst e;cases hb
 refine zh ?_;refine ae rfl rfl (⟨by rw[<-hr,sI _ hb],rfl⟩)
theorem xN(l:List UInt8):(fY l).length<=l.length:=by
 have:=(Jo (l:=l.reverse) (· == (32:UInt8))).length_le;simpa[fY]using this
theorem AF(l:List UInt8)(w:ln)(hl:l.length<=1000000):I9 Gt 162 [.string (bs l),.string (bs [32])] w fun v w'=>v=.string (bs (AH l))/\GR w w':=by
 have a0:=xN l;refine G0 func162 ntmps162 rfl rfl ?_;refine zh ?_;refine zvH (bU rfl rfl) ?_
 by_cases h0:l=[]
 ·subst h0;refine ao (d:=9) rfl (b':=true) (rfl) ?_;refine zh ?_;refine zTH rfl rfl ?_;refine ae rfl rfl (⟨rfl,G9 _⟩)
 refine ao (d:=9) rfl (b':=false) ((by simpa using h0)) ?_;refine zh ?_
 refine zvH (bU rfl rfl) ?_;refine zFH rfl rfl ?_
 refine zvH (bQ G2 rfl) ?_;refine ao (d:=17) rfl (b':=true) (rfl) ?_
 refine zh ?_;refine zvH (aY (c:=32) G2 rfl rfl 0 rfl rfl) ?_
 refine zTH rfl rfl ?_;refine I8 zk zk ?_
 refine zh ?_;refine zw (aY (c:=32) G2 rfl rfl 0 rfl rfl) ?_
 refine KI call184 rfl (kf l w.drew hl) rfl ?_;refine zh ?_
 refine zw (aY (c:=32) G2 rfl rfl 0 rfl rfl) ?_;refine KI call183 rfl (lz (fY l) w.drew zo) rfl ?_
 refine zh ?_;refine I7 ?_
 refine zh ?_;refine ae rfl rfl (⟨rfl,(G9 w).drew⟩)
def vC(c:UInt8):Bool:=decide (c=33)||decide (c=47)
theorem CS(c:UInt8):decide (0<=qt [33,47] c)=vC c:=by
 unfold qt vC
 by_cases h1:c=33
 ·subst h1;rfl
 by_cases h2:c=47
 ·subst h2;rfl
 have:[(33:UInt8),47].findIdx? (· == c)=none:=by
  rw[GG];intro x hx;simp at hx
  rcases hx with rfl|rfl<;>simp<;>intro e<;>first|exact h1 e.symm|exact h2 e.symm
 rw[this];simp[h1,h2]
theorem pQ(c:UInt8)(w:ln)(hc:c.toNat<128):I9 Gt 161 [.string (bs [33,47]),.int .i32 (c.toNat:Int)] w fun v w'=>v=nI (qt [33,47] c)/\w'=w:=by
 refine G0 func161 ntmps161 rfl rfl ?_;refine zh ?_
 refine ao (d:=163) rfl (b':=true) ((decide_eq_true zo)) ?_;refine zh ?_
 refine zTH rfl ((decide_eq_true zo)) ?_;refine zv (dJ Kw J8 rfl (Fit.u8 zo)) ?_
 refine zc call72 (de [33,47] c w) ?_;rintro v w9 ⟨rfl,a0⟩;rw[a0];clear a0 w9;refine zh ?_
 refine ae rfl rfl (⟨rfl,rfl⟩)
theorem lB(c:UInt8)(w:ln)(hc:c.toNat<128):I9 Gt 138 [.string (bs [33,47]),.int .i32 (c.toNat:Int)] w fun v w'=>v=.bool (vC c)/\w'=w:=by
 refine G0 func138 ntmps138 rfl rfl ?_;refine zh ?_
 refine zc call161 (pQ c w hc) ?_;rintro v w9 ⟨rfl,a0⟩;rw[a0];clear a0 w9;refine zh ?_
 refine ae rfl rfl (⟨congrArg Ib (CS c),rfl⟩)
theorem yo(c:UInt8)(w:ln)(hc:c.toNat<128):I9 Gt 137 [.int .i32 (c.toNat:Int)] w fun v w'=>v=.bool (vC c)/\w'=w:=by
 refine G0 func137 ntmps137 rfl rfl ?_;refine zh ?_
 refine zc call138 (lB c w hc) ?_;rintro v w9 ⟨rfl,a0⟩;rw[a0];clear a0 w9;refine zh ?_
 refine ae rfl rfl (⟨rfl,rfl⟩)
def kS(l:List UInt8):Int:=match l.findIdx? vC with|some i=>(i:Nat)|none=>-1
theorem pR(l:List UInt8)(w:ln):I9 Gt 160 [.string (bs l),.func (.func 137) #[] #[],.bool true] w fun v w'=>v=nI (kS l)/\GR w w':=by
 have b2:GC (fun k=>k=1) (fun _=>0) w (kW (fun _=>0) w.heap.size 1) (w.iter (bs l) 0):=JP zd (aw w) _ 1;have hO:kW (fun _=>0) w.heap.size 1 w.heap.size=1:=dr _ _ _;refine G0 func160 ntmps160 rfl rfl ?_;refine zh ?_;refine sm G2 rfl rfl ?_;refine zh ?_;refine zlp (fun x:Nat×ln=>[(1,.func (.func 137) #[] #[]),(2,.bool true),(10,.pointer (some ⟨w.heap.size,0,none⟩))]) (fun x=>x.2) (fun x=>(∀i,i<x.1->i<l.length->vC (nth l i)=false)/\x.2.heap[w.heap.size]? = some (.stringIter (bs l) x.1)/\GC (fun k=>k=1) (fun _=>0) w (kW (fun _=>0) w.heap.size 1) x.2) (fun x=>l.length-x.1) (0,w.iter (bs l) 0) (⟨fun i hi=>absurd hi (Gv i),World.iter_heap w (bs l) 0,b2⟩) ?_;rintro⟨k,w1⟩ ⟨a3,a2,a5⟩;dsimp only at a3 a2 a5 ⊢;refine zh ?_
 by_cases a1:k<l.length
 ·by_cases a7:(nth l k).toNat<128
  ·refine sn rfl a2 a1 (zW a1 a7) rfl ?_;have a4:=a5.trans (Kk zd hO (w:=w1) (.stringIter (bs l) (k+1)));have a0:(w1.putObj w.heap.size (.stringIter (bs l) (k+1))).heap[w.heap.size]? = some (.stringIter (bs l) (k+1)):=Jd (bm a2);generalize w1.putObj w.heap.size (.stringIter (bs l) (k+1))=w2 at *;refine zh ?_
   refine zTH rfl rfl ?_;refine df rfl call137 rfl (yo (nth l k) w2 a7) rfl ?_
   rintro v w9 ⟨rfl,a6⟩;rw[a6];clear a6 w9;refine zh ?_;refine zvH (Aw KC rfl rfl) ?_
   cases hs:vC (nth l k)with
   |true=>
    refine zTH rfl rfl ?_;have hf:l.findIdx? vC=some k:=Gn.2 ⟨a1,by rw[<-aB a1,hs],fun j hj=>by rw[<-aB zo,a3 j hj zo];decide⟩
    refine ae rfl rfl (⟨by unfold kS;rw[hf];rfl,a4.ext⟩)
   |false=>
    refine zFH rfl rfl ?_;refine zxd (k+1,w2) (⟨fun i hi hl=>(Gs.1 hi).elim (fun h=>a3 i h hl) (fun e=>by rw[e];exact hs),a0,a4⟩)
  obtain⟨c,n,a',b1,b0,b4,b3,a9⟩:=zX a1 zo;refine sn rfl a2 a1 a' rfl ?_;have a4:=a5.trans (Kk zd hO (w:=w1) (.stringIter (bs l) (k+n)));have a0:(w1.putObj w.heap.size (.stringIter (bs l) (k+n))).heap[w.heap.size]? = some (.stringIter (bs l) (k+n)):=Jd (bm a2);generalize w1.putObj w.heap.size (.stringIter (bs l) (k+n))=w2 at *;refine zh ?_;refine zTH rfl rfl ?_;refine df rfl call137 rfl (sT c w2 b1 b0) rfl ?_;rintro v w3 ⟨rfl,a8⟩;refine zh ?_;refine zvH (Aw KC rfl rfl) ?_;refine zFH rfl rfl ?_;refine zxd (k+n,w3) (⟨fun i hi hl=>?_,(a8.block _ (bm a0)).trans a0,a4.trans (aa zd _ a8)⟩)
  by_cases e:i<k
  ·exact a3 i e hl
  have:=a9 i zo hi;unfold vC;rw[decide_eq_false (fun e=>by rw[e]at this;exact absurd this zd),decide_eq_false (fun e=>by rw[e]at this;exact absurd this zd)];rfl
 refine tV rfl a2 zo rfl ?_;refine zh ?_
 refine zFH rfl rfl ?_;have hf:l.findIdx? vC=none:=GG.2 fun x hx=>by
  obtain⟨j,hj,rfl⟩:=Gm hx;exact a3 j zo hj
 refine ae rfl rfl (⟨by unfold kS;rw[hf],a5.ext⟩)
theorem lA(l:List UInt8)(w:ln):I9 Gt 136 [.string (bs l),.func (.func 137) #[] #[]] w fun v w'=>v=nI (kS l)/\GR w w':=by
 refine G0 func136 ntmps136 rfl rfl ?_;refine zh ?_
 refine zc call160 (pR l w) ?_;rintro v w1 ⟨rfl,hE⟩;refine zh ?_
 refine ae rfl rfl (⟨rfl,hE⟩)
def DC(a0:List UInt8):XR:=if AH a0=[]then .ok (.mk 9 0 [])else FC a0
def nn(kn:Kn)(a0:List UInt8):XR:=if AH a0=[]then .ok (.mk 9 0 [])else eB kn a0
variable{kn:Kn}
def PostS(O:Nat->Nat)(w:ln)(j rb:Nat)(s:LS)(fr:Nat)(x:N3):XR->Prop
 |.ok t=>Nt O w t x/\Rd6 O w j rb s
 |.bad p e=>x=(0,0,nS)/\e≠0/\Rd6 O w j rb {s with bad:=(fr:Int)+(p:Int),e:=e}
theorem uX(l:List UInt8)(p:Nat)(e:Int)(h:eB kn l=.bad p e):e≠0/\p<=l.length:=by
 have hg:=iw (kn:=kn) 20 l;unfold eB at h
 split at h
 ·cases h;exact⟨zd,G4 _⟩
 cases hf:tT kn 20 l with
 |bad q f=>
  rw[hf]at h hg
  cases h
  exact⟨hg.2,zo⟩
 |ok t r=>
  rw[hf]at h;dsimp only at h
  split at h
  ·cases h;exact⟨zd,zo⟩
  split at h
  ·cases h;exact⟨zd,G4 _⟩
  cases h
theorem tZ{α:Type}{enc:α->List ix}{E:GH}{sz:Nat}{B:Nat}{O:Nat->Nat}{w:ln}{i:Nat}{v:ix}{l:List α}(h:J1 enc E sz O w i v l)(hi:i≠0)(r:IR B O w):Jy (forget i O) w v:=fun a n c e _=>by
 have h1:=h.1.tag a.block (by subst e;rfl);have h2:=r.rng a.block (by rw[h1];exact hi);exact⟨by unfold forget;rw[if_pos h1],h2.2⟩
def Mac(O:Nat->Nat)(w:ln)(i:Nat)(v:ix)(kn:Kn):Prop:=
 ∃ms:List M3,J1 ke 218 4 O w i v ms/\kn.length=ms.length/\∀q,q<ms.length->(nth kn q).1=(nth ms q).1/\Nt O w (nth kn q).2 (nth ms q).2
theorem Mac.upd{S:Nat->Prop}{O O':Nat->Nat}{w w':ln}{i:Nat}{v:ix}(h:Mac O w i v kn)(u:GC S O w O' w')(hi:i≠0)(hS:¬S i):Mac O' w' i v kn:=by
 obtain⟨ms,h1,h2,h3⟩:=h;exact⟨ms,h1.upd u hi hS,h2,fun q hq=>⟨(h3 q hq).1,(h3 q hq).2.upd u⟩⟩
theorem Mac.known{B:Nat}{O:Nat->Nat}{w:ln}{i:Nat}{v:ix}(h:Mac O w i v kn)(hi:i≠0)(r:IR B O w):Known (forget i O) w v kn:=by
 obtain⟨ms,h1,h2,h3⟩:=h;exact⟨ms,h1.sl,tZ h1 hi r,h2,fun q hq=>⟨(h3 q hq).1,(h3 q hq).2.weak fun b hb=>by unfold forget;rw[hb];split<;>rfl⟩⟩
theorem Mac.nil(O:Nat->Nat)(w:ln)(i:Nat):Mac O w i (nS) []:=⟨[],GJ _ _ _ _ _ _,rfl,fun q hq=>absurd hq (by simp)⟩
theorem pf(B:Nat)(O:Nat->Nat)(w:ln)(j rb:Nat)(s:LS)(fr to:Nat)(hR:IR B O w)(hj:j≠0)(he:s.e=0){jm:Nat}(d6:jm≠0)(e7:j≠jm)(e5:Mac O w jm s.mc kn)(e8:fr<=to)(e3:to<=s.l.length)(hl:s.l.length<=100000)(h:Rd6 O w j rb s):
  I9 Gt 139 [nP rb,nI fr,nI to] w fun v w'=>∃x,v=nv x/\GC (fun k=>k=j) O w O w'/\PostS O w' j rb s fr x (nn kn ((s.l.take to).drop fr)):=by
 obtain⟨T0,d2,b1⟩:=hR.bound;obtain⟨T,a2,e6,hT⟩:∃T,0<T/\jm<T/\∀b,O b<T:=⟨T0+jm+1,zo,zo,fun b=>by have:=b1 b;omega⟩
 clear d2 b1 T0;have f7:j<T:=by rw[<-h.tag];exact hT rb
 have f5:((s.l.take to).drop fr).length=to-fr:=by simp;omega
 refine G0 func139 ntmps139 rfl rfl ?_;refine zh ?_
 refine ar hR T zo (J7 _) rfl ?_;intro xb w1 O1 e2 d9 f3 f8;have d8:=h.upd d9 hj zo;have c9:=d9.pT hj a2 (Gw _);refine zh ?_
 refine zvH (RV.ld d8.q0 rfl) ?_;refine zvH (cJ G2 rfl rfl rfl fr to rfl rfl e8 e3) ?_
 refine zc call162 (AF ((s.l.take to).drop fr) w1 zo) ?_;rintro v w2 ⟨rfl,e1⟩;have c7:GC (fun _=>False) O1 w1 O1 w2:=aa (fun h=>h) O1 e1;have b2:=e2.upd c7 zo (fun h=>h);have c5:=d8.upd c7 hj (fun h=>h);have b4:=f3.upd c7;have a5:=c9.trans (iN O1 e1 hj a2);refine zvH (bU rfl rfl) ?_
 by_cases b3:AH ((s.l.take to).drop fr)=[]
 ·have hM:nn kn ((s.l.take to).drop fr)=.ok (.mk 9 0 []):=by unfold nn;rw[if_pos b3]
  rw[hM];refine aS rfl ((by rw[b3];rfl)) ?_;have a6:((9,0,nS):N3).2.2.oneCell'=true:=rfl;refine zh ?_;refine zv (aD vH (J7 _) rfl (by first|rfl|(simp only[G7,GL];rfl)) rfl rfl) ?_;refine zsb (us:=#[nI ((9,0,nS):N3).1,nI ((9,0,nS):N3).2.1,((9,0,nS):N3).2.2]) b2 (GN _) (bR a6) ?_;have a8:=Jr (us:=#[nI ((9,0,nS):N3).1,nI ((9,0,nS):N3).2.1,((9,0,nS):N3).2.2]) b2;have a1:GC (fun k=>k=T) O1 w2 O1 (Jc w2 xb #[nI ((9,0,nS):N3).1,nI ((9,0,nS):N3).2.1,((9,0,nS):N3).2.2]):=G8 zo (JY b2) rfl;have a':=c5.upd a1 hj zo;have a7:=a5.trans (a1.pT hj a2 (Gw _));refine zh ?_;refine aI rfl rfl (a8.cellsAdd) (Ik _) (GN _) (⟨(9,0,nS),rfl,a7.priv hT hj,Kg _ _ _ _,a'.fgt h.tag⟩)
 have hM:nn kn ((s.l.take to).drop fr)=eB kn ((s.l.take to).drop fr):=by unfold nn;rw[if_neg b3]
 rw[hM];refine zFH rfl ((by simpa using b3)) ?_;refine zv (RV.ld c5.q9 rfl) ?_;have b9:=e5.upd a5 d6 zo;refine zc call132 (ku s.mc ((s.l.take to).drop fr) B O1 (forget jm O1) w2 b4 b4.forget (b9.known d6 b4)) ?_;rintro v w3 ⟨e0,b5⟩;have c6:GC (fun _=>False) O1 w2 O1 w3:=aa (fun h=>h) O1 e0;have d3:=b2.upd c6 zo (fun h=>h);have d7:=c5.upd c6 hj (fun h=>h);have d':=b4.upd c6;have b0:=a5.trans (iN O1 e0 hj a2)
 cases hf:eB kn ((s.l.take to).drop fr)with
 |ok t=>
  rw[hf]at b5;obtain⟨x,rfl,d4⟩:=b5;have a6:=d4.one;refine zh ?_;refine ar d' (T+1) zo (J7 _) rfl ?_;intro nb w4 O4 a3 d1 e' f4;refine zsb (us:=#[nI x.1,nI x.2.1,x.2.2]) a3 (GN _) (bR a6) ?_;have b8:=a3.setRow (us:=#[nI x.1,nI x.2.1,x.2.2]);have d0:GC (fun k=>k=T+1) O4 w4 O4 (w4.setRow nb #[nI x.1,nI x.2.1,x.2.2]):=G8 zo a3.tag rfl;have a0:=d1.trans d0;have a9:=d3.upd a0 zo zo;have b':=d7.upd a0 hj zo;have a4:=b0.trans (a0.pT hj a2 (Kh _));have b7:=d4.upd a0;generalize w4.setRow nb #[nI x.1,nI x.2.1,x.2.2]=w5 at *;refine zh ?_;refine zFH rfl rfl ?_;refine zv (ah (us:=bn x) b8.cellsAdd (Ik _) (GN _) rfl) ?_;refine zsb (us:=#[nI x.1,nI x.2.1,x.2.2]) a9 (GN _) (bR a6) ?_;have a8:=Jr (us:=#[nI x.1,nI x.2.1,x.2.2]) a9;have a1:GC (fun k=>k=T) O4 w5 O4 (Jc w5 xb #[nI x.1,nI x.2.1,x.2.2]):=G8 zo (JY a9) rfl;have a':=b'.upd a1 hj zo;have a7:=a4.trans (a1.pT hj a2 (Gw _));refine zh ?_;refine aI rfl rfl (a8.cellsAdd) (Ik _) (GN _) (⟨x,rfl,a7.priv hT hj,(b7.upd a1).low a7,a'.fgt h.tag⟩)
 |bad p e=>
  rw[hf]at b5;obtain⟨rfl,d5⟩:=b5;obtain⟨_,f6⟩:=uX _ _ _ hf;refine zh ?_;refine ar d' (T+1) zo (J7 _) rfl ?_;intro nb w4 O4 a3 d1 e' f4;refine zsa (us:=#[nI 0,nI 0,nS]) a3 (GN _) ?_;have b8:=a3.setRow (us:=#[nI 0,nI 0,nS]);have d0:GC (fun k=>k=T+1) O4 w4 O4 (w4.setRow nb #[nI 0,nI 0,nS]):=G8 zo a3.tag rfl;have a0:=d1.trans d0;have a9:=d3.upd a0 zo zo;have b':=d7.upd a0 hj zo;have a4:=b0.trans (a0.pT hj a2 (Kh _));generalize w4.setRow nb #[nI 0,nI 0,nS]=w5 at *;refine zh ?_;refine zTH rfl ((by simpa using d5)) ?_;refine zc K4 (bq O4 w5 j rb s ((fr:Int)+(p:Int)) e hj he b') ?_;rintro v w6 ⟨e9,c'⟩;have b6:=a9.upd c' zo zo;have e4:=b8.upd c' zo zo;have c8:=a4.trans (c'.pj a2);refine zh ?_;refine zv (ah (us:=bn ((0,0,nS):N3)) e4.cellsAdd (Ik _) (GN _) rfl) ?_;have a6:((0,0,nS):N3).2.2.oneCell'=true:=rfl;refine zsb (us:=#[nI ((0,0,nS):N3).1,nI ((0,0,nS):N3).2.1,((0,0,nS):N3).2.2]) b6 (GN _) (bR a6) ?_;have a8:=Jr (us:=#[nI ((0,0,nS):N3).1,nI ((0,0,nS):N3).2.1,((0,0,nS):N3).2.2]) b6;have a1:GC (fun k=>k=T) O4 w6 O4 (Jc w6 xb #[nI ((0,0,nS):N3).1,nI ((0,0,nS):N3).2.1,((0,0,nS):N3).2.2]):=G8 zo (JY b6) rfl;have a':=e9.upd a1 hj zo;have a7:=c8.trans (a1.pT hj a2 (Gw _));refine zh ?_;refine aI rfl rfl (a8.cellsAdd) (Ik _) (GN _) (⟨(0,0,nS),rfl,a7.priv hT hj,rfl,d5,a'.fgt h.tag⟩)
end Go.Proofs.YtpfpmhhigheccaaGreatDoor
end
namespace Go.Proofs.YtpfpmhhigheccaaGreatDoor
section
def eP(t:Nd):Int:=if(bE t&&Bl 3 t)=true then 4 else if(!(yU t)||decide (4<vO t))=true then 8 else 0
theorem jE(t:Nd)(x:N3)(w:ln)(h:Nt (fun _=>0) w t x):I9 Gt 80 [nv x] w fun v w'=>v=nI (eP t)/\GR w w':=by
 refine G0 func80 ntmps80 rfl rfl ?_;refine zh ?_
 refine aG (aw w) 1 zo rfl rfl ?_;intro xb w1 O1 a5 a7 a8 a3;have a4:∀W,GR w1 W->∀(j:Nat) (u:ix),(bn x)[j]? = some u->W.cell? (nA xb j)=some u:=fun W hE j u hu=>hE.cell (a5.cellsAdd j u hu)
 refine zh ?_;refine zv (ah (us:=bn x) (a4 w1 (G9 _)) (Ik _) (GN _) rfl) ?_
 refine zc call110 (nu t x w1 (h.ext a3)) ?_;rintro v w2 ⟨rfl,a2⟩;refine zh ?_
 refine zv (ah (us:=bn x) (a4 w2 a2) (Ik _) (GN _) rfl) ?_;refine zc call111 (vV t 3 x w2 (h.ext (a3.trans a2))) ?_
 rintro v w3 ⟨rfl,a6⟩;have a0:=(a3.trans a2).trans a6;refine zh ?_
 cases h1:(bE t&&Bl 3 t)with
 |true=>
  refine zTH rfl rfl ?_;refine ae rfl rfl (⟨by unfold eP;rw[if_pos h1],a0⟩)
 |false=>
  refine zFH rfl rfl ?_;refine cu (fun w1=>_=w1) (decide (4<vO t)) 2 (rfl) rfl rfl rfl rfl rfl ?_ ?_
  ·intro a1;refine zh ?_;refine nE 16 3 (rfl) a1
  rintro _ rfl;refine zh ?_
  cases h2:(!(yU t)||decide (4<vO t))with
  |true=>
   refine zTH rfl rfl ?_;refine ae rfl rfl (⟨by unfold eP;rw[if_neg (by rw[h1];decide),if_pos h2],a0⟩)
  |false=>
   refine zFH rfl rfl ?_;refine ae rfl rfl (⟨by unfold eP;rw[if_neg (by rw[h1];decide),if_neg (by rw[h2];decide)],a0⟩)
abbrev R3:=Nd×Nd×Bool
abbrev X3:=N3×N3×Bool
def cM(x:X3):List ix:=[nI x.1.1,nI x.1.2.1,x.1.2.2,nI x.2.1.1,nI x.2.1.2.1,x.2.1.2.2,.bool x.2.2]
def Rt(O:Nat->Nat)(w:ln)(t:R3)(x:X3):Prop:=Nt O w t.1 x.1/\Nt O w t.2.1 x.2.1/\x.2.2=t.2.2
theorem Rt.upd{S:Nat->Prop}{O O':Nat->Nat}{w w':ln}{t:R3}{x:X3}(h:Rt O w t x)(u:GC S O w O' w'):Rt O' w' t x:=⟨h.1.upd u,h.2.1.upd u,h.2.2⟩
theorem Rt.weak{O O':Nat->Nat}{w:ln}{t:R3}{x:X3}(h:Rt O' w t x)(k:∀b,O' b=0->O b=0):Rt O w t x:=⟨h.1.weak k,h.2.1.weak k,h.2.2⟩
theorem elR:KA Gt 47 88 7 88:=⟨Ku,by kernel_rfl,zd⟩
theorem FV:cD Gt 88 #[(0,3),(3,3),(6,1)]:=⟨_,underlying88,fun w=>by kernel_rfl⟩
inductive LR where
 |ok (x:R3)
 |bad (p:Nat) (e:Int)
def Ge(r:List UInt8):LR:=
 match r.findIdx? vC with
 |none=>.bad r.length 4
 |some k=>
  match DC (r.take k)with
  |.bad p e=>.bad p e
  |.ok a=>
   match DC (r.drop (k+1))with
   |.bad p e=>.bad (k+1+p) e
   |.ok b=>if eP b≠0 then .bad (k+1) (eP b)else .ok (a,b,(((nth r k).toNat:Int)==47))
def iD(kn:Kn)(r:List UInt8):LR:=
 match r.findIdx? vC with
 |none=>.bad r.length 4
 |some k=>
  match nn kn (r.take k)with
  |.bad p e=>.bad p e
  |.ok a=>
   match nn kn (r.drop (k+1))with
   |.bad p e=>.bad (k+1+p) e
   |.ok b=>if eP b≠0 then .bad (k+1) (eP b)else .ok (a,b,(((nth r k).toNat:Int)==47))
variable{kn:Kn}
def ym(s:LS)(fr:Nat):XR->LS
 |.ok _=>s
 |.bad p e=>{s with bad:=(fr:Int)+(p:Int),e:=e}
theorem PostS.rd{O:Nat->Nat}{w:ln}{j rb:Nat}{s:LS}{fr:Nat}{x:N3}{M:XR}(h:PostS O w j rb s fr x M):Rd6 O w j rb (ym s fr M):=by
 cases M with
 |ok t=>exact h.2
 |bad p e=>exact h.2.2
theorem PostS.one{O:Nat->Nat}{w:ln}{j rb:Nat}{s:LS}{fr:Nat}{x:N3}{M:XR}(h:PostS O w j rb s fr x M):x.2.2.oneCell'=true:=by
 cases M with
 |ok t=>exact h.1.one
 |bad p e=>rw[h.1];rfl
theorem PostS.upd{S:Nat->Prop}{O O':Nat->Nat}{w w':ln}{j rb:Nat}{s:LS}{fr:Nat}{x:N3}{M:XR}(h:PostS O w j rb s fr x M)(u:GC S O w O' w')(hj:j≠0)(hS:¬S j):PostS O' w' j rb s fr x M:=by
 cases M with
 |ok t=>exact⟨h.1.upd u,Gy h.2 u hj hS⟩
 |bad p e=>exact⟨h.1,h.2.1,Gy h.2.2 u hj hS⟩
theorem AQ(s:LS)(fr:Nat)(M:XR):(ym s fr M).l=s.l:=by cases M<;>rfl
theorem yl(s:LS)(fr:Nat)(M:XR):(ym s fr M).bg=s.bg:=by cases M<;>rfl
def FO(B:Nat)(O:Nat->Nat)(w w':ln)(j jr rb:Nat)(s:LS)(xs:List X3)(M:LR):Prop:=
 ∃O' rv,GC (fun k=>k=j\/k=jr) O w O' w'/\IR B O' w'/\
  match M with
  |.ok t=>∃x,J1 cM 88 7 O' w' jr rv (xs++[x])/\Rt O' w' t x/\Rd6 O' w' j rb {s with ru:=rv}
  |.bad p e=>e≠0/\Rd6 O' w' j rb {s with ru:=rv,bad:=s.bg+(p:Int),e:=e}
theorem ju{x y:N3}{b:Bool}(h1:x.2.2.oneCell'=true)(h2:y.2.2.oneCell'=true):(cM (x,y,b)).toArray.toList.all GB=true:=by
 simp only[cM,G7,h1,h2];rfl
theorem cI{x y:N3}{b:Bool}(h1:x.2.2.oneCell'=true)(h2:y.2.2.oneCell'=true):∀c∈cM (x,y,b),c.oneCell'=true:=by
 have:=ju (b:=b) h1 h2;exact GM.1 this
theorem BQ{L r:List UInt8}(h:r <:+ L):L.drop (L.length-r.length)=r:=(List.suffix_iff_eq_drop.1 h).symm
theorem iV{O:Nat->Nat}{w:ln}{i b:Nat}{x1 x2:N3}{a0:Bool}{E:GH}(h:GW O w i b (cM (x1,x2,a0)).toArray E):∀(q:Nat) (u:ix),(bn x2)[q]? = some u->w.cell? ((nA b 3).add q)=some u:=fun q u hu=>by
 have e:((nA b 3).add q)=⟨b,3+q,none⟩:=by
  simp only[Kq];(repeat' split)<;>simp_all
 rw[e];refine h.cell (3+q) ?_;simp only[bn]at hu
 match q,hu with
 |0,hu=>exact hu
 |1,hu=>exact hu
 |2,hu=>exact hu
theorem sP{O:Nat->Nat}{w:ln}{j rb m n:Nat}{s:LS}{fr:Nat}{x:N3}{M:XR}{hbg:s.bg=((m-n:Nat):Int)}(h:PostS O w j rb s fr x M):w.cell? ⟨rb,0,none⟩=some (.string (bs s.l))/\w.cell? ⟨rb,3,none⟩=some (nI ((m-n:Nat):Int)):=by
 have h0:=h.rd.q0;have h3:=h.rd.q3;rw[AQ]at h0;rw[yl,hbg]at h3;exact⟨h0,h3⟩
theorem qL(B:Nat)(O:Nat->Nat)(w:ln)(j jr rb:Nat)(s:LS)(m:Nat)(r:List UInt8)(xs:List X3)(hR:IR B O w)(hj:j≠0)(b0:jr≠0)(e7:j≠jr)(hm:m<=s.l.length)(hl:s.l.length<=100000)(i7:s.to=(m:Int))(hbg:s.bg=((m-r.length:Nat):Int))(he:s.e=0){jm:Nat}(h2:jm≠0)(g0:j≠jm)(l':jr≠jm)(j3:Mac O w jm s.mc kn)
  (hr:r <:+ s.l.take m) (f':J1 cM 88 7 O w jr s.ru xs) (l9:xs.length<=40) (h:Rd6 O w j rb s) :
  I9 Gt 107 [nP rb] w fun _ w'=>FO B O w w' j jr rb s xs (if xs.length=40 then .bad 0 3 else iD kn r):=by
 obtain⟨T0,j6,i4⟩:=hR.bound;obtain⟨T,g7,h',l3,hT⟩:∃T,0<T/\jr<T/\jm<T/\∀b,O b<T:=⟨T0+jr+jm+1,by omega,by omega,by omega,fun b=>by have:=i4 b;omega⟩
 clear j6 i4 T0;have f7:j<T:=by rw[<-h.tag];exact hT rb
 have b2:¬(fun q:Nat=>q=j\/q=jr\/T<=q) 0:=fun e=>by rcases e with e|e|e;exact hj e.symm;exact b0 e.symm;omega
 have j1:¬(fun q:Nat=>q=j\/q=jr) 0:=fun e=>by rcases e with e|e;exact hj e.symm;exact b0 e.symm
 have k5:(s.l.take m).length=m:=by simp;omega
 have k':=hr.length_le;rw[k5]at k';have c8:=BQ hr;rw[k5]at c8;have q0:=h.q0;have q2:=h.q2;rw[i7]at q2;have q3:=h.q3;rw[hbg]at q3;have q8:=h.q8;have k9:=f'.sl;refine G0 func107 ntmps107 rfl rfl ?_;refine zg ?_;refine zv (RV.ld q8 rfl) ?_;refine zvG (Il (by first|exact k9) Ku rfl) ?_
 by_cases j8:xs.length=40
 ·rw[if_pos j8];refine aS rfl ((by rw[j8];rfl)) ?_;have k7:w.drew.cell? ⟨rb,3,none⟩=some (nI ((m-r.length:Nat):Int)):=q3;refine zg ?_;refine J0 8 rfl rfl zk zk ?_;refine zg ?_;refine zw (RV.ld k7 rfl) ?_;refine JO ?_;refine zc K4 (bq O w.drew j rb s ((m-r.length:Nat):Int) 3 hj he h.drew) ?_;rintro v w1 ⟨f8,k3⟩;refine zg ?_;refine cj rfl ⟨O,s.ru,(JC k3).mono (fun _ h=>.inl h) j1,hR.drew.upd k3,by decide,?_⟩;rw[show s.bg+((0:Nat):Int)=((m-r.length:Nat):Int)from by rw[hbg];simp];exact f8
 rw[if_neg j8];refine aX rfl ((beq_eq_false_iff_ne.2 zo)) ?_;have hd:=h.drew;have d0:=hd.q0;have d2:=hd.q2;rw[i7]at d2;have d3:=hd.q3;rw[hbg]at d3;refine zg ?_;refine J0 16 rfl rfl zk zk ?_;refine zg ?_;refine zwG (RV.ld d0 rfl) ?_;refine zwG (RV.ld d3 rfl) ?_;refine zw (RV.ld d2 rfl) ?_;refine zw (cJ G2 rfl rfl rfl (m-r.length) m rfl rfl zo hm) ?_;refine JO ?_;rw[c8];refine zc call136 (lA r w.drew) ?_;rintro v w1 ⟨rfl,l7⟩;have i8:GC (fun _=>False) O w.drew O w1:=aa (fun h=>h) O l7;have f8:=hd.upd i8 hj (fun h=>h);have j9:=f'.drew.upd i8 b0 (fun h=>h);have j0:=hR.drew.upd i8;have e8:GC (fun q=>q=j\/T<=q) O w O w1:=JC (i8.mono (fun _ h=>h.elim) (fun e=>by rcases e with e|e;exact hj e.symm;omega));have e2:=f8.q2;rw[i7]at e2;have e3:=f8.q3;rw[hbg]at e3
 cases hf:r.findIdx? vC with
 |none=>
  have hi:kS r = -1:=by unfold kS;rw[hf]
  have hM:iD kn r=.bad r.length 4:=by unfold iD;rw[hf]
  rw[hi,hM];refine zg ?_;refine aS rfl rfl ?_;have l8:w1.drew.cell? ⟨rb,2,none⟩=some (nI (m:Int)):=e2;refine zg ?_;refine J0 8 rfl rfl zk zk ?_;refine zg ?_;refine zw (RV.ld l8 rfl) ?_;refine JO ?_;refine zc K4 (bq O w1.drew j rb s (m:Int) 4 hj he f8.drew) ?_;rintro v w2 ⟨l5,k2⟩;refine zg ?_;refine cj rfl ⟨O,s.ru,(e8.fgt (S':=fun k=>k=j\/k=jr) (fun b hb=>.inl (hb.resolve_right (by have:=hT b;omega))) j1).trans ((JC k2).mono (fun _ h=>.inl h) j1),j0.drew.upd k2,by decide,?_⟩;rw[show s.bg+(r.length:Int)=(m:Int)from by rw[hbg];omega];exact l5
 |some k=>
  obtain⟨hk,m1,m0⟩:=Gn.1 hf;have hi:kS r=(k:Nat):=by unfold kS;rw[hf]
  rw[hi];have j4:s.l[k+(m-r.length)]? = some (nth r k):=by
   have h1:(s.l.take m)[m-r.length+k]? = r[k]?:=by rw[<-c8,List.getElem?_drop,c8]
   rw[aB hk];exact lG (m:=m) (by rw[Ka,h1];exact Iu hk)
  have f4:(s.l.take (k+(m-r.length))).drop (m-r.length)=r.take k:=by
   rw[<-c8,JW,JV,JU zo,c8,Ka]
  have h5:(s.l.take m).drop (k+(m-r.length)+1)=r.drop (k+1):=by
   rw[<-c8,List.drop_drop,c8];congr 1;omega
  generalize i0:(((nth r k).toNat:Int)==47)=brk;refine zg ?_;refine zFG rfl ((decide_eq_false zo)) ?_;refine zv (RV.ld e3 rfl) ?_;refine zvG (Im rfl rfl (GZ zo)) ?_;rw[show(k:Int)+((m-r.length:Nat):Int)=((k+(m-r.length):Nat):Int)from by omega];refine mS (fun z:(Nat->Nat)×World×Nat×N3=>[(0,nP rb),(2,nI ((k+(m-r.length):Nat):Int)),(3,.pointer (some ⟨z.2.2.1,0,none⟩))]) (fun z:(Nat->Nat)×World×Nat×N3=>z.2.1) (fun z:(Nat->Nat)×World×Nat×N3=>GW z.1 z.2.1 T z.2.2.1 (cM (z.2.2.2,(0,0,nS),brk)).toArray 88/\GC (fun q=>q=j\/T<=q) O w z.1 z.2.1/\IR B z.1 z.2.1/\PostS z.1 z.2.1 j rb s (m-r.length) z.2.2.2 (nn kn (r.take k))) ?_ ?_
  ·intro hN;refine aK (fun V=>V.cell? ⟨rb,0,none⟩=some (.string (bs s.l))/\V.cell? ⟨rb,3,none⟩=some (nI ((m-r.length:Nat):Int))) 19 rfl zk ?_;refine zin ⟨f8.drew.q0,e3⟩ fun zS=>?_
   refine zrm 0 rfl zS rfl ?_;refine zrm 1 rfl zS rfl ?_
   refine zr 2 rfl zS (fun _=>aq rfl) ?_;refine zrf 3 rfl zS rfl ?_
   refine zrf 4 rfl zS rfl ?_;refine zt 5 rfl zS (fun w1 e5=>RV.ld e5.2 rfl) ?_
   refine zrm 6 rfl zS rfl ?_;refine zrm 8 rfl zS rfl ?_
   refine zr 9 rfl zS (fun _=>aq rfl) ?_;refine zrf 10 rfl zS rfl ?_
   refine zrf 11 rfl zS rfl ?_;refine zt 12 rfl zS (fun w1 e5=>RV.ld e5.1 rfl) ?_
   refine zrm 13 rfl zS rfl ?_;refine zr 14 rfl zS (fun _=>aY (c:=nth r k) G2 rfl rfl (k+(m-r.length)) rfl j4) ?_
   refine zr 15 rfl zS (fun _=>RV.eql rfl rfl) ?_;rw[i0];refine bL 7 17 zk rfl rfl ?_ ?_
   ·refine zc Kx (pf B O w1.drew j rb s (m-r.length) (k+(m-r.length)) j0.drew hj he h2 g0 (j3.upd (Js e8) h2 zo) zo zo hl f8.drew) ?_;rintro v w3 ⟨x1,rfl,h4,e4⟩;rw[f4]at e4;refine zg ?_
    refine af (sP (hbg:=hbg) e4) ?_;refine zr 16 rfl (sP (hbg:=hbg) e4) (fun _=>K6 (cells:=(cM (x1,(0,0,nS),brk)).toArray) FV (J6 _) rfl rfl) ?_
    refine Gu 17 zk rfl ?_;refine ar (j0.drew.upd h4) T zo (J6 _) rfl ?_
    intro xb w4 O4 d8 e0 i5 k6;have e1:=e4.upd e0 hj zo;refine zg ?_;refine af (sP (hbg:=hbg) e1) ?_;refine Gu 18 zk rfl ?_;refine zsb (us:=(cM (x1,(0,0,nS),brk)).toArray) d8 (IF _) (ju e4.one rfl) ?_;have f9:=d8.setRow (us:=(cM (x1,(0,0,nS),brk)).toArray);have d':GC (fun q=>q=T) O4 w4 O4 (w4.setRow xb (cM (x1,(0,0,nS),brk)).toArray):=G8 zo d8.tag rfl;have e':=e1.upd d' hj zo;refine zg ?_;refine af (sP (hbg:=hbg) e') ?_;refine I3 zk ?_;exact gh (hN ((O4,_,xb,x1)) (⟨f9,(((Js e8).trans (h4.pj g7)).trans (e0.pT hj g7 (Gw _))).trans (d'.pT hj g7 (Gw _)),i5.upd d',e'⟩)) ⟨rfl,rfl,rfl,trivial⟩ rfl
   refine ar j0.drew T zo (J6 _) rfl ?_;intro xb w3 O3 g9 h4 g8 m2;have d7:=f8.drew.upd h4 hj zo;have f3:=d7.q3;rw[hbg]at f3;refine zg ?_
   refine af ⟨d7.q0,f3⟩ ?_;refine Gu 7 zk rfl ?_
   refine zc Kx (pf B O3 w3 j rb s (m-r.length) (k+(m-r.length)) g8 hj he h2 g0 (j3.upd ((Js e8).trans (h4.pT hj g7 (Gw _))) h2 zo) zo zo hl d7) ?_;rintro v w4 ⟨x1,rfl,e0,e1⟩;rw[f4]at e1;have d8:=g9.upd e0 zo zo;refine zg ?_
   refine af (sP (hbg:=hbg) e1) ?_;refine zr 16 rfl (sP (hbg:=hbg) e1) (fun _=>K6 (cells:=(cM (x1,(0,0,nS),brk)).toArray) FV (J6 _) rfl rfl) ?_
   refine Gu 18 zk rfl ?_;refine zsb (us:=(cM (x1,(0,0,nS),brk)).toArray) d8 (IF _) (ju e1.one rfl) ?_
   have f9:=d8.setRow (us:=(cM (x1,(0,0,nS),brk)).toArray);have d':GC (fun q=>q=T) O3 w4 O3 (w4.setRow xb (cM (x1,(0,0,nS),brk)).toArray):=G8 zo d8.tag rfl;have e':=e1.upd d' hj zo;refine zg ?_;refine af (sP (hbg:=hbg) e') ?_;refine I3 zk ?_;exact gh (hN ((O3,_,xb,x1)) (⟨f9,(((Js e8).trans (h4.pT hj g7 (Gw _))).trans (e0.pj g7)).trans (d'.pT hj g7 (Gw _)),(g8.upd e0).upd d',e'⟩)) ⟨rfl,rfl,rfl,trivial⟩ rfl
  rintro⟨O3,w3,xb,x1⟩ ⟨g9,g3,g8,e4⟩;dsimp only at g9 g3 g8 e4 ⊢;have f6:=f'.upd g3 b0 (fun e=>by rcases e with e|e;exact e7 e.symm;omega);have hx1o:=e4.one;have g4:GC (fun q=>q=j\/q=jr\/T<=q) O w O3 w3:=g3.mono (fun _ h=>h.elim .inl (fun h=>.inr (.inr h))) b2;refine zg ?_
  cases g':nn kn (r.take k)with
  |bad p e=>
   have hM:iD kn r=.bad p e:=by unfold iD;rw[hf];dsimp only;rw[g']
   rw[hM];rw[g']at e4;obtain⟨rfl,c9,d7⟩:=e4;replace d7:GW O3 w3 j rb ({s with bad:=((m-r.length:Nat):Int)+(p:Int),e:=e}:LS).cells 148:=d7;refine zg ?_;refine zvG (RV.ld d7.q5 rfl) ?_;refine zFG rfl ((by simpa using c9)) ?_;refine zv (ah (us:=bn ((0,0,nS):N3)) (iV g9) (Ik _) (GN _) rfl) ?_;refine zc Ki (jE (.mk 0 0 []) (0,0,nS) w3 (Kg _ _ _ _)) ?_;rintro v w4 ⟨rfl,k6⟩;have i1:GC (fun _=>False) O3 w3 O3 w4:=aa (fun h=>h) O3 k6;have k1:=d7.upd i1 hj (fun h=>h);have d8:=g9.upd i1 zo (fun h=>h);have e6:=f6.upd i1 b0 (fun h=>h);have i5:=g8.upd i1;have c5:=g4.trans (i1.mono (fun _ h=>h.elim) b2);refine zg ?_;refine zvG (RV.ld k1.q5 rfl) ?_;refine ao (d:=98) rfl (b':=false) ((by simpa using c9)) ?_;obtain⟨x1,hx1e⟩:∃x1:N3,x1=(0,0,nS):=⟨_,rfl⟩
   obtain⟨x2,hx2e⟩:∃x2:N3,x2=(0,0,nS):=⟨_,rfl⟩
   have hx2o:x2.2.2.oneCell'=true:=by rw[hx2e];rfl
   have hx1o:x1.2.2.oneCell'=true:=by rw[hx1e];rfl
   have j2:GW O3 w4 T xb (cM (x1,x2,brk)).toArray 88:=by rw[hx1e,hx2e];exact d8
   have c':=(Io k1)
   have c6:=(Io j2)
   have a':=(Je e6)
   have e9:=(Jt i5)
   refine zg ?_;refine zFG rfl rfl ?_
   refine aK (fun V=>∀(q:Nat) (u:ix),(cM (x1,x2,brk))[q]? = some u->V.cell? (nA xb q)=some u) 13 rfl zk ?_;refine zin c6.cellsAdd fun zS=>?_
   refine zrm 0 rfl zS rfl ?_;refine zrm 1 rfl zS rfl ?_
   refine zr 2 rfl zS (fun _=>aq rfl) ?_;refine zrf 3 rfl zS rfl ?_
   refine zrf 4 rfl zS rfl ?_;refine zt 6 rfl zS (fun w1 e5=>ah (us:=cM (x1,x2,brk)) e5 (Jf _) (IF _) rfl) ?_
   refine bL 5 7 zk rfl rfl ?_ ?_
   ·refine zvG (RV.ld c'.q8 rfl) ?_;refine af c6.cellsAdd ?_
    refine Gu 7 zk rfl ?_;refine aM elR (enc:=cM) (x1,x2,brk) rfl rfl rfl zd rfl ?_
    intro w9 h9 d5;have a5:GC (fun _=>False) O3 (Ia w4) O3 w9:=aa (fun h=>h) O3 d5;have c7:=c'.upd a5 hj (fun h=>h);have b9:=c6.upd a5 zo (fun h=>h);have a7:=a'.upd a5 b0 (fun h=>h);have d4:=e9.upd a5;have b6:=(c5.drew).trans (a5.mono (fun _ h=>h.elim) b2);refine zg ?_;refine af b9.cellsAdd ?_;have a8:∀u∈[(x1,x2,brk)],∀c∈cM u,c.oneCell'=true:=fun u hu=>by
     rw[G6.1 hu];exact cI hx1o hx2o
    refine Gu 8 zk rfl ?_;refine aC elR a7 d4 h9 (by simp) rfl rfl (fun _ _=>rfl) a8 (by simp;omega) (by simp;omega) zo rfl ?_
    intro a2 b1 O10 a0 a3 b8;have a4:=Gy c7 a3 hj zo;have a6:=Gy b9 a3 zo zo;have b4:=a0.one;refine zg ?_;refine zaf a6.cellsAdd fun zS=>?_
    refine zr 9 rfl zS (fun _=>aq rfl) ?_;refine zrf 10 rfl zS rfl ?_
    refine zrf 11 rfl zS rfl ?_;refine Gu 12 zk rfl ?_
    refine aj (j:=8) a4 rfl (IG _) b4 rfl rfl rfl ?_;have b5:=a4.s_ru a2;have a1:GC (fun q=>q=j) O10 b1 O10 (b1.setCell ⟨rb,8,none⟩ a2):=GQ (fun e=>hj e.symm) a4.tag rfl;have b3:=a6.upd a1 zo zo;have a9:=a0.upd a1 b0 (fun e=>e7 e.symm);have b7:=b8.upd a1;refine zg ?_
    refine af b3.cellsAdd ?_;refine I3 zk ?_
    have d1:GC (fun q=>q=j\/q=jr\/T<=q) O w O10 (b1.setCell ⟨rb,8,none⟩ a2):=(b6.trans (a3.mono (fun _ h=>.inr (.inl h)) b2)).trans (a1.mono (fun _ h=>.inl h) b2);refine aE rfl ⟨lowT O10 T,a2,d1.lowT hT (fun b hb=>by have:=hT b;rcases hb with h|h|h;exact .inl h;exact .inr h;omega) (fun e=>by rcases e with e|e;exact hj e.symm;exact b0 e.symm),b7.lowT T,?_⟩;exact⟨c9,by rw[show s.bg+(p:Int)=((m-r.length:Nat):Int)+(p:Int)from by rw[hbg]];exact b5.lowT f7⟩
   refine aM elR (enc:=cM) (x1,x2,brk) rfl rfl rfl zd rfl ?_;intro w9 h9 d5;have a5:GC (fun _=>False) O3 (Ia w4) O3 w9:=aa (fun h=>h) O3 d5;have c7:=c'.upd a5 hj (fun h=>h);have b9:=c6.upd a5 zo (fun h=>h);have a7:=a'.upd a5 b0 (fun h=>h);have d4:=e9.upd a5;have b6:=(c5.drew).trans (a5.mono (fun _ h=>h.elim) b2);refine zg ?_
   refine af b9.cellsAdd ?_;refine Gu 5 zk rfl ?_
   refine zvG (RV.ld c7.q8 rfl) ?_;refine af b9.cellsAdd ?_
   have a8:∀u∈[(x1,x2,brk)],∀c∈cM u,c.oneCell'=true:=fun u hu=>by
    rw[G6.1 hu];exact cI hx1o hx2o
   refine Gu 8 zk rfl ?_;refine aC elR a7 d4 h9 (by simp) rfl rfl (fun _ _=>rfl) a8 (by simp;omega) (by simp;omega) zo rfl ?_
   intro a2 b1 O10 a0 a3 b8;have a4:=Gy c7 a3 hj zo;have a6:=Gy b9 a3 zo zo;have b4:=a0.one;refine zg ?_;refine zaf a6.cellsAdd fun zS=>?_
   refine zr 9 rfl zS (fun _=>aq rfl) ?_;refine zrf 10 rfl zS rfl ?_
   refine zrf 11 rfl zS rfl ?_;refine Gu 12 zk rfl ?_
   refine aj (j:=8) a4 rfl (IG _) b4 rfl rfl rfl ?_;have b5:=a4.s_ru a2;have a1:GC (fun q=>q=j) O10 b1 O10 (b1.setCell ⟨rb,8,none⟩ a2):=GQ (fun e=>hj e.symm) a4.tag rfl;have b3:=a6.upd a1 zo zo;have a9:=a0.upd a1 b0 (fun e=>e7 e.symm);have b7:=b8.upd a1;refine zg ?_
   refine af b3.cellsAdd ?_;refine I3 zk ?_
   have d1:GC (fun q=>q=j\/q=jr\/T<=q) O w O10 (b1.setCell ⟨rb,8,none⟩ a2):=(b6.trans (a3.mono (fun _ h=>.inr (.inl h)) b2)).trans (a1.mono (fun _ h=>.inl h) b2);refine aE rfl ⟨lowT O10 T,a2,d1.lowT hT (fun b hb=>by have:=hT b;rcases hb with h|h|h;exact .inl h;exact .inr h;omega) (fun e=>by rcases e with e|e;exact hj e.symm;exact b0 e.symm),b7.lowT T,?_⟩;exact⟨c9,by rw[show s.bg+(p:Int)=((m-r.length:Nat):Int)+(p:Int)from by rw[hbg]];exact b5.lowT f7⟩
  |ok a=>
   rw[g']at e4;obtain⟨l2,d7⟩:=e4;replace d7:GW O3 w3 j rb s.cells 148:=d7;have g2:=d7.q2;rw[i7]at g2;have g5:=d7.q5;rw[he]at g5;refine zg ?_;refine zvG (RV.ld g5 rfl) ?_;refine zTG rfl rfl ?_;refine zvG (Im rfl rfl (GZ zo)) ?_;refine zv (RV.ld g2 rfl) ?_;rw[show((k+(m-r.length):Nat):Int)+1=((k+(m-r.length)+1:Nat):Int)from by omega];refine zc Kx (pf B O3 w3 j rb s (k+(m-r.length)+1) m g8 hj he h2 g0 (j3.upd g4 h2 zo) zo hm hl d7) ?_;rintro v w4 ⟨x2,rfl,e0,e1⟩;rw[h5]at e1;have hx2o:=e1.one;have d8:=g9.upd e0 zo zo;have e6:=f6.upd e0 b0 (fun e=>e7 e.symm);have i5:=g8.upd e0;have j5:=g4.trans (e0.mono (fun _ h=>.inl h) b2);have l1:=l2.upd e0;refine zg ?_;refine jW 3 (us:=#[nI x2.1,nI x2.2.1,x2.2.2]) d8 (Nat.le_of_ble_eq_true rfl) (GN _) (bR hx2o) rfl rfl rfl ?_;rw[show((cM (x1,(0,0,nS),brk)).toArray.toList.take 3++(#[nI x2.1,nI x2.2.1,x2.2.2]:Array ix).toList++(cM (x1,(0,0,nS),brk)).toArray.toList.drop (3+(#[nI x2.1,nI x2.2.1,x2.2.2]:Array ix).size)).toArray=(cM (x1,x2,brk)).toArray from rfl];have f9:=d8.setRow (us:=(cM (x1,x2,brk)).toArray);have d':GC (fun q=>q=T) O3 w4 O3 (w4.setRow xb (cM (x1,x2,brk)).toArray):=G8 zo d8.tag rfl;have e':=e1.upd d' hj zo;have f5:=e6.upd d' b0 zo;have k4:=i5.upd d';have i3:=j5.trans (d'.mono (fun _ h=>.inr (.inr (Nat.le_of_eq h.symm))) b2);have l0:=l1.upd d';generalize w4.setRow xb (cM (x1,x2,brk)).toArray=w5 at *;refine zg ?_
   refine zv (ah (us:=bn x2) (iV f9) (Ik _) (GN _) rfl) ?_
   cases h6:nn kn (r.drop (k+1))with
   |bad p e=>
    have hM:iD kn r=.bad (k+1+p) e:=by unfold iD;rw[hf];dsimp only;rw[g'];dsimp only;rw[h6]
    rw[hM];rw[h6]at e';obtain⟨hx2e,c9,g1⟩:=e';replace g1:GW O3 w5 j rb ({s with bad:=((k+(m-r.length)+1:Nat):Int)+(p:Int),e:=e}:LS).cells 148:=g1;refine zc Ki (jE (.mk 0 0 []) x2 w5 (by rw[hx2e];exact Kg _ _ _ _)) ?_;rintro v w6 ⟨rfl,j7⟩;have d9:GC (fun _=>False) O3 w5 O3 w6:=aa (fun h=>h) O3 j7;have h3:=g1.upd d9 hj (fun h=>h);have i6:=f9.upd d9 zo (fun h=>h);have d6:=f5.upd d9 b0 (fun h=>h);have i':=k4.upd d9;have c5:=i3.trans (d9.mono (fun _ h=>h.elim) b2);refine zg ?_;refine zvG (RV.ld h3.q5 rfl) ?_;refine ao (d:=98) rfl (b':=false) ((by simpa using c9)) ?_;have c':=(Io h3)
    have c6:=(Io i6)
    have a':=(Je d6)
    have e9:=(Jt i')
    refine zg ?_;refine zFG rfl rfl ?_
    refine aK (fun V=>∀(q:Nat) (u:ix),(cM (x1,x2,brk))[q]? = some u->V.cell? (nA xb q)=some u) 13 rfl zk ?_;refine zin c6.cellsAdd fun zS=>?_
    refine zrm 0 rfl zS rfl ?_;refine zrm 1 rfl zS rfl ?_
    refine zr 2 rfl zS (fun _=>aq rfl) ?_;refine zrf 3 rfl zS rfl ?_
    refine zrf 4 rfl zS rfl ?_;refine zt 6 rfl zS (fun w1 e5=>ah (us:=cM (x1,x2,brk)) e5 (Jf _) (IF _) rfl) ?_
    refine bL 5 7 zk rfl rfl ?_ ?_
    ·refine zvG (RV.ld c'.q8 rfl) ?_;refine af c6.cellsAdd ?_
     refine Gu 7 zk rfl ?_;refine aM elR (enc:=cM) (x1,x2,brk) rfl rfl rfl zd rfl ?_
     intro w9 h9 d5;have a5:GC (fun _=>False) O3 (Ia w6) O3 w9:=aa (fun h=>h) O3 d5;have c7:=c'.upd a5 hj (fun h=>h);have b9:=c6.upd a5 zo (fun h=>h);have a7:=a'.upd a5 b0 (fun h=>h);have d4:=e9.upd a5;have b6:=(c5.drew).trans (a5.mono (fun _ h=>h.elim) b2);refine zg ?_;refine af b9.cellsAdd ?_;have a8:∀u∈[(x1,x2,brk)],∀c∈cM u,c.oneCell'=true:=fun u hu=>by
      rw[G6.1 hu];exact cI hx1o hx2o
     refine Gu 8 zk rfl ?_;refine aC elR a7 d4 h9 (by simp) rfl rfl (fun _ _=>rfl) a8 (by simp;omega) (by simp;omega) zo rfl ?_
     intro a2 b1 O10 a0 a3 b8;have a4:=Gy c7 a3 hj zo;have a6:=Gy b9 a3 zo zo;have b4:=a0.one;refine zg ?_;refine zaf a6.cellsAdd fun zS=>?_
     refine zr 9 rfl zS (fun _=>aq rfl) ?_;refine zrf 10 rfl zS rfl ?_
     refine zrf 11 rfl zS rfl ?_;refine Gu 12 zk rfl ?_
     refine aj (j:=8) a4 rfl (IG _) b4 rfl rfl rfl ?_;have b5:=a4.s_ru a2;have a1:GC (fun q=>q=j) O10 b1 O10 (b1.setCell ⟨rb,8,none⟩ a2):=GQ (fun e=>hj e.symm) a4.tag rfl;have b3:=a6.upd a1 zo zo;have a9:=a0.upd a1 b0 (fun e=>e7 e.symm);have b7:=b8.upd a1;refine zg ?_
     refine af b3.cellsAdd ?_;refine I3 zk ?_
     have d1:GC (fun q=>q=j\/q=jr\/T<=q) O w O10 (b1.setCell ⟨rb,8,none⟩ a2):=(b6.trans (a3.mono (fun _ h=>.inr (.inl h)) b2)).trans (a1.mono (fun _ h=>.inl h) b2);refine aE rfl ⟨lowT O10 T,a2,d1.lowT hT (fun b hb=>by have:=hT b;rcases hb with h|h|h;exact .inl h;exact .inr h;omega) (fun e=>by rcases e with e|e;exact hj e.symm;exact b0 e.symm),b7.lowT T,?_⟩;exact⟨c9,by rw[show s.bg+((k+1+p:Nat):Int)=((k+(m-r.length)+1:Nat):Int)+(p:Int)from by rw[hbg];omega];exact b5.lowT f7⟩
    refine aM elR (enc:=cM) (x1,x2,brk) rfl rfl rfl zd rfl ?_;intro w9 h9 d5;have a5:GC (fun _=>False) O3 (Ia w6) O3 w9:=aa (fun h=>h) O3 d5;have c7:=c'.upd a5 hj (fun h=>h);have b9:=c6.upd a5 zo (fun h=>h);have a7:=a'.upd a5 b0 (fun h=>h);have d4:=e9.upd a5;have b6:=(c5.drew).trans (a5.mono (fun _ h=>h.elim) b2);refine zg ?_
    refine af b9.cellsAdd ?_;refine Gu 5 zk rfl ?_
    refine zvG (RV.ld c7.q8 rfl) ?_;refine af b9.cellsAdd ?_
    have a8:∀u∈[(x1,x2,brk)],∀c∈cM u,c.oneCell'=true:=fun u hu=>by
     rw[G6.1 hu];exact cI hx1o hx2o
    refine Gu 8 zk rfl ?_;refine aC elR a7 d4 h9 (by simp) rfl rfl (fun _ _=>rfl) a8 (by simp;omega) (by simp;omega) zo rfl ?_
    intro a2 b1 O10 a0 a3 b8;have a4:=Gy c7 a3 hj zo;have a6:=Gy b9 a3 zo zo;have b4:=a0.one;refine zg ?_;refine zaf a6.cellsAdd fun zS=>?_
    refine zr 9 rfl zS (fun _=>aq rfl) ?_;refine zrf 10 rfl zS rfl ?_
    refine zrf 11 rfl zS rfl ?_;refine Gu 12 zk rfl ?_
    refine aj (j:=8) a4 rfl (IG _) b4 rfl rfl rfl ?_;have b5:=a4.s_ru a2;have a1:GC (fun q=>q=j) O10 b1 O10 (b1.setCell ⟨rb,8,none⟩ a2):=GQ (fun e=>hj e.symm) a4.tag rfl;have b3:=a6.upd a1 zo zo;have a9:=a0.upd a1 b0 (fun e=>e7 e.symm);have b7:=b8.upd a1;refine zg ?_
    refine af b3.cellsAdd ?_;refine I3 zk ?_
    have d1:GC (fun q=>q=j\/q=jr\/T<=q) O w O10 (b1.setCell ⟨rb,8,none⟩ a2):=(b6.trans (a3.mono (fun _ h=>.inr (.inl h)) b2)).trans (a1.mono (fun _ h=>.inl h) b2);refine aE rfl ⟨lowT O10 T,a2,d1.lowT hT (fun b hb=>by have:=hT b;rcases hb with h|h|h;exact .inl h;exact .inr h;omega) (fun e=>by rcases e with e|e;exact hj e.symm;exact b0 e.symm),b7.lowT T,?_⟩;exact⟨c9,by rw[show s.bg+((k+1+p:Nat):Int)=((k+(m-r.length)+1:Nat):Int)+(p:Int)from by rw[hbg];omega];exact b5.lowT f7⟩
   |ok b=>
    rw[h6]at e';obtain⟨h8,g1⟩:=e';replace g1:GW O3 w5 j rb s.cells 148:=g1;refine zc Ki (jE b x2 w5 h8.zero) ?_;rintro v w6 ⟨rfl,j7⟩;have d9:GC (fun _=>False) O3 w5 O3 w6:=aa (fun h=>h) O3 j7;have h3:=g1.upd d9 hj (fun h=>h);have i6:=f9.upd d9 zo (fun h=>h);have d6:=f5.upd d9 b0 (fun h=>h);have i':=k4.upd d9;have i2:=i3.trans (d9.mono (fun _ h=>h.elim) b2);have k0:=l0.upd d9;have j':=h8.upd d9;have g6:=h3.q5;rw[he]at g6;refine zg ?_;refine zvG (RV.ld g6 rfl) ?_;refine ao (d:=98) rfl (b':=true) (rfl) ?_;refine zg ?_
    by_cases h0:eP b=0
    ·have hM:iD kn r=.ok (a,b,brk):=by unfold iD;rw[hf];dsimp only;rw[g'];dsimp only;rw[h6];dsimp only;rw[if_neg (by simpa using h0),i0]
     rw[hM];have c5:=i2;refine aX rfl ((by rw[h0];rfl)) ?_;have c':=(Io h3)
     have c6:=(Io i6)
     have a':=(Je d6)
     have e9:=(Jt i')
     refine zg ?_;refine aK (fun V=>∀(q:Nat) (u:ix),(cM (x1,x2,brk))[q]? = some u->V.cell? (nA xb q)=some u) 13 rfl zk ?_
     refine zin c6.cellsAdd fun zS=>?_
     refine zrm 0 rfl zS rfl ?_;refine zrm 1 rfl zS rfl ?_
     refine zr 2 rfl zS (fun _=>aq rfl) ?_;refine zrf 3 rfl zS rfl ?_
     refine zrf 4 rfl zS rfl ?_;refine zt 6 rfl zS (fun w1 e5=>ah (us:=cM (x1,x2,brk)) e5 (Jf _) (IF _) rfl) ?_
     refine bL 5 7 zk rfl rfl ?_ ?_
     ·refine zvG (RV.ld c'.q8 rfl) ?_;refine af c6.cellsAdd ?_
      refine Gu 7 zk rfl ?_;refine aM elR (enc:=cM) (x1,x2,brk) rfl rfl rfl zd rfl ?_
      intro w9 h9 d5;have a5:GC (fun _=>False) O3 (Ia w6) O3 w9:=aa (fun h=>h) O3 d5;have c7:=c'.upd a5 hj (fun h=>h);have b9:=c6.upd a5 zo (fun h=>h);have a7:=a'.upd a5 b0 (fun h=>h);have d4:=e9.upd a5;have b6:=(c5.drew).trans (a5.mono (fun _ h=>h.elim) b2);refine zg ?_;refine af b9.cellsAdd ?_;have a8:∀u∈[(x1,x2,brk)],∀c∈cM u,c.oneCell'=true:=fun u hu=>by
       rw[G6.1 hu];exact cI hx1o hx2o
      refine Gu 8 zk rfl ?_;refine aC elR a7 d4 h9 (by simp) rfl rfl (fun _ _=>rfl) a8 (by simp;omega) (by simp;omega) zo rfl ?_
      intro a2 b1 O10 a0 a3 b8;have a4:=Gy c7 a3 hj zo;have a6:=Gy b9 a3 zo zo;have b4:=a0.one;refine zg ?_;refine zaf a6.cellsAdd fun zS=>?_
      refine zr 9 rfl zS (fun _=>aq rfl) ?_;refine zrf 10 rfl zS rfl ?_
      refine zrf 11 rfl zS rfl ?_;refine Gu 12 zk rfl ?_
      refine aj (j:=8) a4 rfl (IG _) b4 rfl rfl rfl ?_;have b5:=a4.s_ru a2;have a1:GC (fun q=>q=j) O10 b1 O10 (b1.setCell ⟨rb,8,none⟩ a2):=GQ (fun e=>hj e.symm) a4.tag rfl;have b3:=a6.upd a1 zo zo;have a9:=a0.upd a1 b0 (fun e=>e7 e.symm);have b7:=b8.upd a1;refine zg ?_
      refine af b3.cellsAdd ?_;refine I3 zk ?_
      have d1:GC (fun q=>q=j\/q=jr\/T<=q) O w O10 (b1.setCell ⟨rb,8,none⟩ a2):=(b6.trans (a3.mono (fun _ h=>.inr (.inl h)) b2)).trans (a1.mono (fun _ h=>.inl h) b2);refine aE rfl ⟨lowT O10 T,a2,d1.lowT hT (fun b hb=>by have:=hT b;rcases hb with h|h|h;exact .inl h;exact .inr h;omega) (fun e=>by rcases e with e|e;exact hj e.symm;exact b0 e.symm),b7.lowT T,?_⟩;exact⟨(x1,x2,brk),a9.lowT h',⟨((((k0.drew).upd a5).upd a3).upd a1).weak (fun b e=>jD e),((((j'.drew).upd a5).upd a3).upd a1).weak (fun b e=>jD e),rfl⟩,b5.lowT f7⟩
     refine aM elR (enc:=cM) (x1,x2,brk) rfl rfl rfl zd rfl ?_;intro w9 h9 d5;have a5:GC (fun _=>False) O3 (Ia w6) O3 w9:=aa (fun h=>h) O3 d5;have c7:=c'.upd a5 hj (fun h=>h);have b9:=c6.upd a5 zo (fun h=>h);have a7:=a'.upd a5 b0 (fun h=>h);have d4:=e9.upd a5;have b6:=(c5.drew).trans (a5.mono (fun _ h=>h.elim) b2);refine zg ?_
     refine af b9.cellsAdd ?_;refine Gu 5 zk rfl ?_
     refine zvG (RV.ld c7.q8 rfl) ?_;refine af b9.cellsAdd ?_
     have a8:∀u∈[(x1,x2,brk)],∀c∈cM u,c.oneCell'=true:=fun u hu=>by
      rw[G6.1 hu];exact cI hx1o hx2o
     refine Gu 8 zk rfl ?_;refine aC elR a7 d4 h9 (by simp) rfl rfl (fun _ _=>rfl) a8 (by simp;omega) (by simp;omega) zo rfl ?_
     intro a2 b1 O10 a0 a3 b8;have a4:=Gy c7 a3 hj zo;have a6:=Gy b9 a3 zo zo;have b4:=a0.one;refine zg ?_;refine zaf a6.cellsAdd fun zS=>?_
     refine zr 9 rfl zS (fun _=>aq rfl) ?_;refine zrf 10 rfl zS rfl ?_
     refine zrf 11 rfl zS rfl ?_;refine Gu 12 zk rfl ?_
     refine aj (j:=8) a4 rfl (IG _) b4 rfl rfl rfl ?_;have b5:=a4.s_ru a2;have a1:GC (fun q=>q=j) O10 b1 O10 (b1.setCell ⟨rb,8,none⟩ a2):=GQ (fun e=>hj e.symm) a4.tag rfl;have b3:=a6.upd a1 zo zo;have a9:=a0.upd a1 b0 (fun e=>e7 e.symm);have b7:=b8.upd a1;refine zg ?_
     refine af b3.cellsAdd ?_;refine I3 zk ?_
     have d1:GC (fun q=>q=j\/q=jr\/T<=q) O w O10 (b1.setCell ⟨rb,8,none⟩ a2):=(b6.trans (a3.mono (fun _ h=>.inr (.inl h)) b2)).trans (a1.mono (fun _ h=>.inl h) b2);refine aE rfl ⟨lowT O10 T,a2,d1.lowT hT (fun b hb=>by have:=hT b;rcases hb with h|h|h;exact .inl h;exact .inr h;omega) (fun e=>by rcases e with e|e;exact hj e.symm;exact b0 e.symm),b7.lowT T,?_⟩;exact⟨(x1,x2,brk),a9.lowT h',⟨((((k0.drew).upd a5).upd a3).upd a1).weak (fun b e=>jD e),((((j'.drew).upd a5).upd a3).upd a1).weak (fun b e=>jD e),rfl⟩,b5.lowT f7⟩
    have hM:iD kn r=.bad (k+1) (eP b):=by unfold iD;rw[hf];dsimp only;rw[g'];dsimp only;rw[h6];dsimp only;rw[if_pos (by simpa using h0)]
    rw[hM];refine zTG rfl ((by simpa using h0)) ?_;refine zvG (Im rfl rfl (GZ zo)) ?_;refine zc K4 (bq O3 w6 j rb s (((k+(m-r.length):Nat):Int)+1) (eP b) hj he h3) ?_;rintro v w7 ⟨l4,i9⟩;have k8:=i6.upd i9 zo zo;have h7:=d6.upd i9 b0 (fun e=>e7 e.symm);have l6:=i'.upd i9;have c5:=i2.trans (i9.mono (fun _ h=>.inl h) b2);have c':=(Io l4)
    have c6:=(Io k8)
    have a':=(Je h7)
    have e9:=(Jt l6)
    refine zg ?_;refine aK (fun V=>∀(q:Nat) (u:ix),(cM (x1,x2,brk))[q]? = some u->V.cell? (nA xb q)=some u) 13 rfl zk ?_
    refine zin c6.cellsAdd fun zS=>?_
    refine zrm 0 rfl zS rfl ?_;refine zrm 1 rfl zS rfl ?_
    refine zr 2 rfl zS (fun _=>aq rfl) ?_;refine zrf 3 rfl zS rfl ?_
    refine zrf 4 rfl zS rfl ?_;refine zt 6 rfl zS (fun w1 e5=>ah (us:=cM (x1,x2,brk)) e5 (Jf _) (IF _) rfl) ?_
    refine bL 5 7 zk rfl rfl ?_ ?_
    ·refine zvG (RV.ld c'.q8 rfl) ?_;refine af c6.cellsAdd ?_
     refine Gu 7 zk rfl ?_;refine aM elR (enc:=cM) (x1,x2,brk) rfl rfl rfl zd rfl ?_
     intro w9 h9 d5;have a5:GC (fun _=>False) O3 (Ia w7) O3 w9:=aa (fun h=>h) O3 d5;have c7:=c'.upd a5 hj (fun h=>h);have b9:=c6.upd a5 zo (fun h=>h);have a7:=a'.upd a5 b0 (fun h=>h);have d4:=e9.upd a5;have b6:=(c5.drew).trans (a5.mono (fun _ h=>h.elim) b2);refine zg ?_;refine af b9.cellsAdd ?_;have a8:∀u∈[(x1,x2,brk)],∀c∈cM u,c.oneCell'=true:=fun u hu=>by
      rw[G6.1 hu];exact cI hx1o hx2o
     refine Gu 8 zk rfl ?_;refine aC elR a7 d4 h9 (by simp) rfl rfl (fun _ _=>rfl) a8 (by simp;omega) (by simp;omega) zo rfl ?_
     intro a2 b1 O10 a0 a3 b8;have a4:=Gy c7 a3 hj zo;have a6:=Gy b9 a3 zo zo;have b4:=a0.one;refine zg ?_;refine zaf a6.cellsAdd fun zS=>?_
     refine zr 9 rfl zS (fun _=>aq rfl) ?_;refine zrf 10 rfl zS rfl ?_
     refine zrf 11 rfl zS rfl ?_;refine Gu 12 zk rfl ?_
     refine aj (j:=8) a4 rfl (IG _) b4 rfl rfl rfl ?_;have b5:=a4.s_ru a2;have a1:GC (fun q=>q=j) O10 b1 O10 (b1.setCell ⟨rb,8,none⟩ a2):=GQ (fun e=>hj e.symm) a4.tag rfl;have b3:=a6.upd a1 zo zo;have a9:=a0.upd a1 b0 (fun e=>e7 e.symm);have b7:=b8.upd a1;refine zg ?_
     refine af b3.cellsAdd ?_;refine I3 zk ?_
     have d1:GC (fun q=>q=j\/q=jr\/T<=q) O w O10 (b1.setCell ⟨rb,8,none⟩ a2):=(b6.trans (a3.mono (fun _ h=>.inr (.inl h)) b2)).trans (a1.mono (fun _ h=>.inl h) b2);refine aE rfl ⟨lowT O10 T,a2,d1.lowT hT (fun b hb=>by have:=hT b;rcases hb with h|h|h;exact .inl h;exact .inr h;omega) (fun e=>by rcases e with e|e;exact hj e.symm;exact b0 e.symm),b7.lowT T,?_⟩;exact⟨h0,by rw[show s.bg+((k+1:Nat):Int)=((k+(m-r.length):Nat):Int)+1 from by rw[hbg];omega];exact b5.lowT f7⟩
    refine aM elR (enc:=cM) (x1,x2,brk) rfl rfl rfl zd rfl ?_;intro w9 h9 d5;have a5:GC (fun _=>False) O3 (Ia w7) O3 w9:=aa (fun h=>h) O3 d5;have c7:=c'.upd a5 hj (fun h=>h);have b9:=c6.upd a5 zo (fun h=>h);have a7:=a'.upd a5 b0 (fun h=>h);have d4:=e9.upd a5;have b6:=(c5.drew).trans (a5.mono (fun _ h=>h.elim) b2);refine zg ?_
    refine af b9.cellsAdd ?_;refine Gu 5 zk rfl ?_
    refine zvG (RV.ld c7.q8 rfl) ?_;refine af b9.cellsAdd ?_
    have a8:∀u∈[(x1,x2,brk)],∀c∈cM u,c.oneCell'=true:=fun u hu=>by
     rw[G6.1 hu];exact cI hx1o hx2o
    refine Gu 8 zk rfl ?_;refine aC elR a7 d4 h9 (by simp) rfl rfl (fun _ _=>rfl) a8 (by simp;omega) (by simp;omega) zo rfl ?_
    intro a2 b1 O10 a0 a3 b8;have a4:=Gy c7 a3 hj zo;have a6:=Gy b9 a3 zo zo;have b4:=a0.one;refine zg ?_;refine zaf a6.cellsAdd fun zS=>?_
    refine zr 9 rfl zS (fun _=>aq rfl) ?_;refine zrf 10 rfl zS rfl ?_
    refine zrf 11 rfl zS rfl ?_;refine Gu 12 zk rfl ?_
    refine aj (j:=8) a4 rfl (IG _) b4 rfl rfl rfl ?_;have b5:=a4.s_ru a2;have a1:GC (fun q=>q=j) O10 b1 O10 (b1.setCell ⟨rb,8,none⟩ a2):=GQ (fun e=>hj e.symm) a4.tag rfl;have b3:=a6.upd a1 zo zo;have a9:=a0.upd a1 b0 (fun e=>e7 e.symm);have b7:=b8.upd a1;refine zg ?_
    refine af b3.cellsAdd ?_;refine I3 zk ?_
    have d1:GC (fun q=>q=j\/q=jr\/T<=q) O w O10 (b1.setCell ⟨rb,8,none⟩ a2):=(b6.trans (a3.mono (fun _ h=>.inr (.inl h)) b2)).trans (a1.mono (fun _ h=>.inl h) b2);refine aE rfl ⟨lowT O10 T,a2,d1.lowT hT (fun b hb=>by have:=hT b;rcases hb with h|h|h;exact .inl h;exact .inr h;omega) (fun e=>by rcases e with e|e;exact hj e.symm;exact b0 e.symm),b7.lowT T,?_⟩;exact⟨h0,by rw[show s.bg+((k+1:Nat):Int)=((k+(m-r.length):Nat):Int)+1 from by rw[hbg];omega];exact b5.lowT f7⟩
end
def bj(a0:List UInt8):List UInt8:=a0.takeWhile (fun b=>!(b==35))
def aU(a0:List UInt8):List UInt8:=ak (bj a0)
theorem xu{a0:List UInt8}{k:Nat}(h:a0.findIdx? (· == 35)=some k):bj a0=a0.take k/\k<=a0.length:=by
 obtain⟨hk,h1,h2⟩:=Gn.1 h;refine⟨?_,zo⟩;unfold bj;have e:a0=a0.take k++a0.drop k:=(Jm k a0).symm
 conv=>lhs;rw[e]
 rw[List.takeWhile_append_of_pos]
 ·rw[Ir hk,IV (by simpa using h1),JT]
 intro x hx;obtain⟨i,hi,rfl⟩:=Jv hx;simp only[JK]at hi;have:=h2 i zo;simp only[JH];simpa using this
theorem dK{p:UInt8->Bool}:∀ {l:List UInt8},(∀x∈l,p x=true)->l.takeWhile p=l
 |[],_=>rfl
 |a::l,h=>by rw[List.takeWhile_cons_of_pos (h a (by simp)),dK fun x hx=>h x (by simp[hx])]
theorem xw{a0:List UInt8}(h:a0.findIdx? (· == 35)=none):bj a0=a0:=by
 have h1:=GG.1 h;exact dK fun x hx=>by simpa using h1 x hx
def dE(r:List UInt8):List UInt8:=r.takeWhile (fun b=>!(b==10))
def RowsT(O:Nat->Nat)(w:ln)(jr:Nat)(rv:ix)(ts:List R3)(xs:List X3):Prop:=
 J1 cM 88 7 O w jr rv xs/\ts.length=xs.length/\xs.length<=40/\∀i,i<xs.length->Rt O w (nth ts i) (nth xs i)
theorem RowsT.push{O:Nat->Nat}{w:ln}{jr:Nat}{rv:ix}{ts:List R3}{xs:List X3}{t:R3}{x:X3}(hr:J1 cM 88 7 O w jr rv (xs++[x]))(h1:ts.length=xs.length)(h2:xs.length<40)(h3:∀i,i<xs.length->Rt O w (nth ts i) (nth xs i))(h4:Rt O w t x):RowsT O w jr rv (ts++[t]) (xs++[x]):=by
 refine⟨hr,by simp[h1],by simp;omega,fun i hi=>?_⟩;simp only[I2,Jn]at hi
 by_cases e:i<xs.length
 ·rw[aB (by simp;omega),aB (by simp;omega),Ja zo,Ja e,<-aB zo,<-aB e];exact h3 i e
 obtain rfl:i=xs.length:=zo;rw[aB (by simp;omega),aB (by simp),J4 zo,J4 zo];simp[h1];exact h4
theorem vP{r:List UInt8}{k:Nat}(h:r.findIdx? (· == 10)=some k):(dE r).length=k:=by
 obtain⟨hk,h1,h2⟩:=Gn.1 h;unfold dE;have e:r=r.take k++r.drop k:=(Jm k r).symm;have e2:(r.take k).takeWhile (fun b=>!(b==10))=r.take k:=dK fun x hx=>by
  obtain⟨i,hi,rfl⟩:=Jv hx;simp only[JK]at hi;have:=h2 i zo;simp only[JH];simpa using this
 conv=>lhs;rw[e]
 rw[List.takeWhile_append,e2,if_pos rfl,Ir hk,IV (by simpa using h1),JT];simp;omega
theorem vQ{r:List UInt8}(h:r.findIdx? (· == 10)=none):dE r=r:=
 dK fun x hx=>by simpa using GG.1 h x hx
theorem rn(l:List UInt8)(fr:Nat):(l.take (fr+(dE (l.drop fr)).length)).drop fr=dE (l.drop fr):=by
 have h1:dE (l.drop fr)=(l.drop fr).take (dE (l.drop fr)).length:=List.prefix_iff_eq_take.1 (List.takeWhile_prefix _)
 conv=>rhs;rw[h1]
 rw[JW]
abbrev DA(ig kp ru:ix):ix:=.agg #[ig,kp,ru]
abbrev qq:ix:=nS
theorem Fk:cD Gt 49 #[(0,1),(1,1),(2,1)]:=⟨_,underlying49,fun w=>by kernel_rfl⟩
theorem Fv:cD Gt 145 #[(0,1),(1,1),(2,1),(3,1),(4,1),(5,1)]:=⟨_,underlying145,fun w=>by kernel_rfl⟩
theorem Fu:cD Gt 148 #[(0,6),(6,3),(9,1),(10,1),(11,1)]:=⟨_,underlying148,fun w=>by kernel_rfl⟩
theorem xM{w:ln}{rb:Nat}{a b c:ix}(h6:w.cell? ⟨rb,6,none⟩=some a)(h7:w.cell? ⟨rb,7,none⟩=some b)(h8:w.cell? ⟨rb,8,none⟩=some c):∀(q:Nat) (u:ix),[a,b,c][q]? = some u->w.cell? ((nA rb 6).add q)=some u:=fun q u hu=>by
 have e:((nA rb 6).add q)=⟨rb,6+q,none⟩:=by
  simp only[Kq];(repeat' split)<;>simp_all
 rw[e]
 match q,hu with
 |0,hu=>obtain rfl:=GE hu;exact h6
 |1,hu=>obtain rfl:=GE hu;exact h7
 |2,hu=>obtain rfl:=GE hu;exact h8
def BA(l:List Int)(i:Nat):Bool:=(decide (nth l i<0)||decide (36<=nth l i))||(decide ((0:Int)<(i:Int))&&decide (nth l i<=nth l (i-1)))
def jy(l:List Int):Bool:=!(iH (BA l) l.length)
def qK(t:R3):Bool:=(bE t.1&&bE t.2.1)&&(eP t.2.1==0)
def Fc(ts:List R3):Bool:=!(iH (fun i=>!(qK (nth ts i))) ts.length)
def et(li lk:List Int)(ts:List R3):Bool:=((decide ((ts.length:Int)<=40)&&jy li)&&jy lk)&&Fc ts
theorem qO(l:List Int)(sv:ix)(w:ln)(h:Sl (fun c:Int=>[nI c]) 1 w sv l):I9 Gt 52 [sv] w fun v w'=>v=.bool (jy l)/\w'=w:=by
 have a5:=h.len_le;refine G0 func52 ntmps52 rfl rfl ?_;refine zh ?_;refine zlp (fun x:Nat=>[(0,sv),(5,sv),(6,nI l.length),(7,nI x)]) (fun x=>w) (fun x=>x<=l.length/\∀i,i<x->BA l i=false) (fun x=>l.length-x) 0 (⟨G4 _,fun i hi=>absurd hi (Gv i)⟩) ?_;rintro k ⟨hk,a3⟩;refine zh ?_;refine zC ?_ ?_
 ·intro a0;replace a0:k<l.length:=dT a0;refine zh ?_;refine zvH (RV.ld (h.ld a0) rfl) ?_;refine cu (fun w1=>_=w1) (decide (36<=nth l k)) 2 (rfl) rfl rfl rfl rfl rfl ?_ ?_
  ·intro a1;refine zh ?_;refine nE 14 3 (rfl) a1
  rintro _ rfl;refine zh ?_;refine cu (fun w1=>_=w1) ((decide ((0:Int)<(k:Int))&&decide (nth l k<=nth l (k-1)))) 11 (rfl) rfl rfl rfl rfl rfl ?_ ?_
  ·intro a2;refine zh ?_
   cases a6:decide ((0:Int)<(k:Int))with
   |true=>
    have a7:=of_decide_eq_true a6;refine ao (d:=21) rfl (b':=true) (rfl) ?_;refine zh ?_;rw[show(k:Int)-1=((k-1:Nat):Int)from by omega];refine zh ?_;refine zvH (RV.ld (h.ld (i:=k-1) zo) rfl) ?_;refine nE 18 13 (rfl) a2
   |false=>
    refine ao (d:=21) rfl (b':=false) (rfl) ?_;refine zh ?_
    refine nE 18 13 (rfl) a2
  rintro _ rfl;refine zh ?_;refine zC ?_ ?_
  ·intro hy;refine zh ?_;refine ae rfl rfl (⟨by unfold jy;rw[eh.2 ⟨k,a0,hy⟩];rfl,rfl⟩)
  intro hy;refine zh ?_;refine zxd (k+1) (⟨a0,fun i hi=>(Gs.1 hi).elim (a3 i) (fun e=>by rw[e];exact hy)⟩)
 intro a4;replace a4:l.length<=k:=dF a4;refine zh ?_;refine ae rfl rfl (⟨by unfold jy;rw[bP.2 fun i hi=>a3 i zo];rfl,rfl⟩)
abbrev nr(x:X3):ix:=.agg (cM x).toArray
theorem jv{O:Nat->Nat}{w:ln}{i b:Nat}{x:X3}{E:GH}(h:GW O w i b (cM x).toArray E):(∀W,GR w W->∀(q:Nat) (u:ix),(bn x.1)[q]? = some u->W.cell? (nA b q)=some u)/\(∀W,GR w W->∀(q:Nat) (u:ix),(bn x.2.1)[q]? = some u->W.cell? ((nA b 3).add q)=some u)/\(∀W,GR w W->W.cell? (nA b 6)=some (.bool x.2.2))/\(∀W,GR w W->∀(q:Nat) (u:ix),(cM x)[q]? = some u->W.cell? (nA b q)=some u):=by
 obtain⟨x1,x2,a0⟩:=x;refine⟨fun W hE q u hu=>hE.cell (h.cellsAdd q u ?_),fun W hE q u hu=>hE.cell (iV h q u hu),fun W hE=>hE.cell (h.cellsAdd 6 _ rfl),fun W hE q u hu=>hE.cell (h.cellsAdd q u hu)⟩;simp only[bn]at hu
 match q,hu with
 |0,hu=>exact hu
 |1,hu=>exact hu
 |2,hu=>exact hu
theorem Rt.ext{O:Nat->Nat}{w w':ln}{t:R3}{x:X3}(h:Rt O w t x)(e:GR w w'):Rt O w' t x:=⟨h.1.ext e,h.2.1.ext e,h.2.2⟩
theorem vE(t:R3)(x:X3)(w:ln)(h:Rt (fun _=>0) w t x):I9 Gt 55 [nr x] w fun v w'=>v=.bool (qK t)/\GR w w':=by
 have hx1o:=h.1.one;have hx2o:=h.2.1.one;have a7:=cI (b:=x.2.2) hx1o hx2o;refine G0 func55 ntmps55 rfl rfl ?_;refine zh ?_;refine aG (aw w) 1 zo rfl rfl ?_;intro xb w1 O1 a6 a8 a9 a4;obtain⟨lc,rc,bc,_⟩:=jv a6;refine zh ?_;refine zv (ah (us:=bn x.1) (lc w1 (G9 _)) (Ik _) (GN _) rfl) ?_;refine zc call79 (eJ t.1 x.1 w1 (h.1.ext a4)) ?_;rintro v w2 ⟨rfl,a3⟩;refine zh ?_;refine bx (GR w1) (bE t.2.1) 3 (a3) rfl rfl rfl rfl rfl ?_ ?_
 ·intro a1;refine zh ?_;refine zvH (ah (us:=bn x.2.1) (rc _ a3) (Ik _) (GN _) rfl) ?_;refine zc call79 (eJ t.2.1 x.2.1 _ (h.2.1.ext (a4.trans a3))) ?_;rintro v w3 ⟨rfl,a0⟩;refine zh ?_;refine nE 6 4 (a3.trans a0) a1
 intro w3 a0;refine zh ?_;refine bx (GR w1) ((eP t.2.1==0)) 4 (a0) rfl rfl rfl rfl rfl ?_ ?_
 ·intro a2;refine zh ?_;refine zvH (ah (us:=bn x.2.1) (rc _ a0) (Ik _) (GN _) rfl) ?_;refine zc Ki (jE t.2.1 x.2.1 _ (h.2.1.ext (a4.trans a0))) ?_;rintro v w4 ⟨rfl,a5⟩;refine zh ?_;refine nE 11 5 (a0.trans a5) a2
 intro w4 a5;refine zh ?_;refine ae rfl rfl (⟨rfl,a4.trans a5⟩)
theorem vG(t:R3)(x:X3)(w:ln)(h:Rt (fun _=>0) w t x):I9 Gt 54 [nr x] w fun v w'=>v=.bool (!(qK t))/\GR w w':=by
 have hx1o:=h.1.one;have hx2o:=h.2.1.one;have a2:=cI (b:=x.2.2) hx1o hx2o;refine G0 func54 ntmps54 rfl rfl ?_;refine zh ?_;refine aG (aw w) 1 zo rfl rfl ?_;intro xb w1 O1 a1 a4 a5 a0;obtain⟨_,_,_,ac⟩:=jv a1;refine zh ?_;refine zv (ah (us:=cM x) (ac w1 (G9 _)) (Jf _) (IF _) rfl) ?_;refine zc call55 (vE t x w1 (h.ext a0)) ?_;rintro v w2 ⟨rfl,a3⟩;refine zh ?_;refine ae rfl rfl (⟨rfl,a0.trans a3⟩)
theorem kF{F:J5}(hF:∀(args:Array ix) (w:ln),(callFunc F args).run Gt w=.ok (.enter F args) w)(cs:Array ix)(l:List (X3))(sv:ix)(q:Nat->Bool)(w:ln)(h:Sl cM 7 w sv l) 
  (hq:∀i,i<l.length->∀w',GR w w'->I9 Gt F ([nr (nth l i)]++cs.toList) w' fun v w''=>v=.bool (q i)/\GR w' w'') :
  I9 Gt 78 [sv,.func (.func F) #[] cs] w fun v w'=>v=nI (dh q l.length)/\GR w w':=by
 have hl:=h.len_le;refine G0 func78 ntmps78 rfl rfl ?_;refine zh ?_;refine zlp (fun x:Nat×ln=>[(0,sv),(1,.func (.func F) #[] cs),(7,nI l.length),(8,nI x.1)]) (fun x=>x.2) (fun x=>x.1<=l.length/\GR w x.2/\∀i,i<x.1->q i=false) (fun x=>l.length-x.1) (0,w) (⟨G4 _,G9 _,fun i hi=>absurd hi (Gv i)⟩) ?_;rintro⟨k,w1⟩ ⟨hk,hE,a1⟩;dsimp only at hk hE a1 ⊢;have h1:=h.ext hE;refine zh ?_;refine zC ?_ ?_
 ·intro a0;replace a0:k<l.length:=dT a0;refine zh ?_;refine zv (ah (us:=cM (nth l k)) (fun j u hu=>h1.cell a0 hu) (Jf _) (IF _) rfl) ?_;refine df rfl hF rfl (hq k a0 w1 hE) rfl ?_;rintro v w2 ⟨rfl,a3⟩;refine zh ?_;refine zC ?_ ?_
  ·intro hy;refine zh ?_;refine ae rfl rfl (⟨by rw[bY a0 hy a1],hE.trans a3⟩)
  intro hy;refine zh ?_;refine zxd (k+1,w2) (⟨a0,hE.trans a3,fun i hi=>(Gs.1 hi).elim (a1 i) (fun e=>by rw[e];exact hy)⟩)
 intro a2;replace a2:l.length<=k:=dF a2;refine zh ?_;refine ae rfl rfl (⟨by rw[bW fun i hi=>a1 i zo],hE⟩)
theorem iF{F:J5}(hF:∀(args:Array ix) (w:ln),(callFunc F args).run Gt w=.ok (.enter F args) w)(cs:Array ix)(l:List (X3))(sv:ix)(q:Nat->Bool)(w:ln)(h:Sl cM 7 w sv l) 
  (hq:∀i,i<l.length->∀w',GR w w'->I9 Gt F ([nr (nth l i)]++cs.toList) w' fun v w''=>v=.bool (q i)/\GR w' w'') :
  I9 Gt 53 [sv,.func (.func F) #[] cs] w fun v w'=>v=.bool (iH q l.length)/\GR w w':=by
 refine G0 func53 ntmps53 rfl rfl ?_;refine zh ?_
 refine zc call78 (kF hF cs l sv q w h hq) ?_;rintro v w1 ⟨rfl,hE⟩;refine zh ?_
 refine ae rfl rfl (⟨by rw[firstN_any],hE⟩)
theorem vF(li lk:List Int)(ts:List R3)(xs:List X3)(ig kp ru:ix)(w:ln)(hi:Sl (fun c:Int=>[nI c]) 1 w ig li)(hk:Sl (fun c:Int=>[nI c]) 1 w kp lk)(hr:Sl cM 7 w ru xs)(hl:ts.length=xs.length)(hx:∀i,i<xs.length->Rt (fun _=>0) w (nth ts i) (nth xs i)):
  I9 Gt 33 [DA ig kp ru] w fun v w'=>v=.bool (et li lk ts)/\GR w w':=by
 have b0:=hi.one;have a':=hk.one;have a9:=hr.one;refine G0 func33 ntmps33 rfl rfl ?_;refine zh ?_;refine aG (aw w) 1 zo rfl rfl ?_;intro xb w1 O1 a5 b1 b2 a4;have c0:w1.cell? (nA xb 0)=some ig:=a5.cell 0 rfl;have c1:w1.cell? (nA xb 1)=some kp:=a5.cell 1 rfl;have c2:w1.cell? (nA xb 2)=some ru:=a5.cell 2 rfl;have a7:=hr.ext a4;refine zh ?_;refine bx (fun w1=>_=w1) (jy li) 3 (rfl) rfl rfl rfl rfl rfl ?_ ?_
 ·intro a1;refine zh ?_;refine zc call52 (qO li ig w1 (hi.ext a4)) ?_;rintro v w9 ⟨rfl,a0⟩;rw[a0];clear a0 w9;refine zh ?_;refine nE 7 4 (rfl) a1
 rintro _ rfl;refine zh ?_;refine bx (fun w1=>_=w1) (jy lk) 3 (rfl) rfl rfl rfl rfl rfl ?_ ?_
 ·intro a2;refine zh ?_;refine zc call52 (qO lk kp w1 (hk.ext a4)) ?_;rintro v w9 ⟨rfl,a0⟩;rw[a0];clear a0 w9;refine zh ?_;refine nE 12 4 (rfl) a2
 rintro _ rfl;refine zh ?_;have a8:Fc ts = !(iH (fun i=>!(qK (nth ts i))) xs.length):=by unfold Fc;rw[hl]
 refine bx (GR w1) ((!(iH (fun i=>!(qK (nth ts i))) xs.length))) 4 (G9 w1) rfl rfl rfl rfl rfl ?_ ?_
 ·intro a3;refine zh ?_;refine zc call53 (iF call54 #[] xs ru (fun i=>!(qK (nth ts i))) w1 a7 (fun i hi w' hE=>vG (nth ts i) (nth xs i) w' ((hx i hi).ext (a4.trans hE)))) ?_;rintro v w2 ⟨rfl,a6⟩;refine zh ?_;refine nE 17 5 (a6) a3
 intro w2 a6;refine zh ?_;refine ae rfl rfl (⟨by unfold et;rw[hl,a8],a4.trans a6⟩)
abbrev B2:List UInt8:=[67,82,32,33,32,76,70]
structure Tx(w:ln)(v:ix)(li lk:List Int)(ts:List R3):Prop where
 ex:∃ig kp ru xs,v=DA ig kp ru/\Sl encI 1 w ig li/\Sl encI 1 w kp lk/\Sl cM 7 w ru xs/\ts.length=xs.length/\∀i,i<xs.length->Rt (fun _=>0) w (nth ts i) (nth xs i)
theorem Tx.ext{w w':ln}{v:ix}{li lk:List Int}{ts:List R3}(h:Tx w v li lk ts)(e:GR w w'):Tx w' v li lk ts:=by
 obtain⟨ig,kp,ru,xs,hv,h1,h2,h3,h4,h5⟩:=h;exact⟨ig,kp,ru,xs,hv,h1.ext e,h2.ext e,h3.ext e,h4,fun i hi=>(h5 i hi).ext e⟩
theorem _root_.Go.VL.BlkO.ext{O:Nat->Nat}{w w':ln}{i b:Nat}{cs:Array ix}{E:GH}(h:GW O w i b cs E)(e:GR w w'):GW O w' i b cs E:=⟨by rw[e.block b (bm h.blk)];exact h.blk,h.tag⟩
theorem RowsG.upd{S:Nat->Prop}{B:Nat}{O O':Nat->Nat}{w0 w w':ln}{v:ix}{rows:List (List Nat)}(h:KD w0.heap.size w v rows)(r:IR B O w0)(u:GC S O w O' w'):KD w0.heap.size w' v rows:=by
 obtain⟨vs,h1,h2,h3,h4⟩:=h;exact⟨vs,h1.upd (h2.free h1 (fun x _=>by simp) r) u,h2,h3,fun i hi=>⟨(h4 i hi).1.upd ((h4 i hi).2.free (h4 i hi).1 (fun x _=>by simp) r) u,(h4 i hi).2⟩⟩
theorem _root_.Go.VL.NewV.slU{S:Nat->Prop}{B:Nat}{O O':Nat->Nat}{w0 w w':ln}{v:ix}{l:List Nat}(h:IS w0.heap.size v)(hs:Sl ff 1 w v l)(r:IR B O w0)(u:GC S O w O' w'):Sl ff 1 w' v l:=hs.upd (h.free hs (fun x _=>by simp) r) u
def cL(l:List Int):Nat:=l.foldl (fun b c=>b ||| 2^c.toNat) 0
theorem lT{l:List Int}(h:∀c∈l,0<=c/\c<=35):cL l<2^36:=by
 have a0:∀(l:List Int) (b:Nat),(∀c∈l,0<=c/\c<=35)->b<2^36->l.foldl (fun b c=>b ||| 2^c.toNat) b<2^36:=fun l=>by
  induction l with
  |nil=>exact fun b _ hb=>hb
  |cons c l ih=>exact fun b h hb=>ih _ (fun x hx=>h x (by simp[hx])) (Nat.or_lt_two_pow hb (Nat.pow_lt_pow_right zd (by have:=h c (by simp);omega)))
 exact a0 l 0 h zd
theorem yh{l:List Int}{i:Nat}(h:i<l.length):cL (l.take (i+1))=cL (l.take i) ||| 2^(nth l i).toNat:=by
 unfold cL;rw[aF h,GF];rfl
theorem lS(l:List Int)(sv:ix)(w:ln)(h:Sl encI 1 w sv l)(hr:∀c∈l,0<=c/\c<=35):I9 Gt 34 [sv] w fun v w'=>v=.int .u64 ((cL l:Nat):Int)/\w'=w:=by
 have hl:=h.len_le;have a1:KJ.max=18446744073709551615:=rfl;refine G0 func34 ntmps34 rfl rfl ?_;refine zh ?_;refine zlp (fun z:Nat=>[(3,.int .u64 ((cL (l.take z):Nat):Int)),(6,sv),(7,nI l.length),(8,nI z)]) (fun z=>w) (fun z=>z<=l.length) (fun z=>l.length-z) 0 (G4 _) ?_;intro i hi;refine zh ?_;refine zC ?_ ?_
 ·intro a0;replace a0:i<l.length:=dT a0;have hc:=hr _ (aN a0);have m1:w.cell? (adr sv 1 i)=some (nI (nth l i)):=by have:=h.cell (i:=i) (j:=0) a0 rfl;rwa[az]at this
  obtain⟨c,a3⟩:∃c:Nat,nth l i=(c:Int):=⟨(nth l i).toNat,zo⟩
  have hs:=yh a0;rw[a3]at m1 hs;simp only[JL]at hs;have a7:cL (l.take i)<2^36:=lT fun x hx=>hr x (List.mem_of_mem_take hx)
  have a6:2^c<=2^35:=Nat.pow_le_pow_right zd zo;have a5:(2^35:Nat)=34359738368:=zd;have a4:(2^36:Nat)=68719476736:=zd;refine zh ?_;refine zv (ue (a:=1) (b:=c) rfl rfl rfl rfl (by show _<=64;omega) (by show _<=(18446744073709551615:Int);omega)) ?_;rw[Nat.one_mul];refine zvH (oT (a:=cL (l.take i)) (b:=2^c) rfl rfl rfl rfl (by show _<=(18446744073709551615:Int);omega) (by show _<=(18446744073709551615:Int);omega)) ?_;rw[<-hs];refine zxd (i+1) (a0)
 intro a2;obtain rfl:i=l.length:=dF a2;rw[GA];refine zh ?_;refine ae rfl rfl (⟨rfl,rfl⟩)
def stM(se:Bool)(ts:List Nd):Option (List (List Nat)×List Nat):=if dg ts=0 then BY (cG se (qs ts)) (dy (qs ts))else none
def Cls(cl:Nat->Nat)(d:List (List Nat)×List Nat):Prop:=∀p q,p<d.1.length->q<d.1.length->(cl p=cl q↔Alike (nxD d.1) (nth d.2) p q)
def PostSt(B:Nat)(w:ln)(v:ix):Option (List (List Nat)×List Nat)->Prop
 |some d=>∃cl nv tv,v=.tuple #[.agg #[nv,tv],nI 0]/\nv.oneCell'=true/\tv.oneCell'=true/\JD d.1 d.2/\Cls cl d/\KD B w nv (cC cl d.1 d.2).1/\Sl ff 1 w tv (cC cl d.1 d.2).2/\IS B tv
 |none=>∃e:Int,e≠0/\v=.tuple #[.agg #[nS,nS],nI e]
theorem yM{ts:List Nd}(h:dg ts=0):ts.length<=40/\(∀t∈ts,bE t=true)/\1+aQ ts<=1000:=by
 unfold dg at h
 split at h
 ·cases h
 split at h
 ·cases h
 rename_i h1 h2
 split at h
 ·cases h
 rename_i h3;refine⟨zo,fun t ht=>?_,zo⟩;have:ts.any (fun t=>!bE t)=false:=by simpa using h2
 have:=I5.1 this t ht;simpa using this
set_option maxHeartbeats 1000000 in
theorem nT(se:Bool)(ts:List Nd)(xs:List N3)(sv:ix)(w:ln)(hs:Sl bn 3 w sv xs)(hl:ts.length=xs.length)(hk:∀i,i<xs.length->Nt (fun _=>0) w (nth ts i) (nth xs i)):
  I9 Gt 35 [.bool se,sv] w fun v w'=>GR w w'/\PostSt w.heap.size w' v (stM se ts):=by
 refine G0 func35 ntmps35 rfl rfl ?_;refine zh ?_
 refine ar (aw w) 1 zo (Iz _) rfl ?_;intro cb w1 O1 c6 e2 e5 d4;refine zh ?_
 refine zc call56 (CJ se ts xs sv w1 (hs.ext d4) hl (fun i hi=>(hk i hi).ext d4)) ?_;rintro _ w2 ⟨nb,rfl,e',e6⟩;have c8:GC (fun _=>False) O1 w1 O1 w2:=aa (fun h=>h) O1 e';have a2:=c6.upd c8 zd (fun h=>h);have e4:=e5.upd c8;have b2:=e2.trans (c8.mono (fun _ h=>h.elim) zd);refine zh ?_
 by_cases he:dg ts=0
 ·have hD:=e6 he;obtain⟨f5,a4,f4⟩:=yM he;obtain⟨a',a3⟩:=iT a4;obtain⟨d5,h0⟩:=CI ts;have d9:=oe a' a3;have d':∀q,(qs ts).en q<=40:=fun q=>by have:=yK ts q;omega
  have b6:stM se ts=BY (cG se (qs ts)) (dy (qs ts)):=by unfold stM;rw[if_pos he]
  have d8:yL nb (dg ts)=nP nb:=by unfold yL;rw[if_pos he]
  rw[d8,he,b6];refine zFH rfl rfl ?_;have hC:=zV nb se (qs ts) w2 hD d5 h0 (CH ts) zo d';generalize hd:BY (cG se (qs ts)) (dy (qs ts))=D at hC b6 ⊢;refine zc call57 (hC) ?_;rintro v w3 ⟨e9,hP⟩;have c7:GC (fun _=>False) O1 w2 O1 w3:=aa (fun h=>h) O1 e9;have b1:=a2.upd c7 zd (fun h=>h);have d3:=e4.upd c7;have a8:=b2.trans (c7.mono (fun _ h=>h.elim) zd)
  cases D with
  |none=>
   obtain rfl:=hP;refine zh ?_;refine ar d3 2 zo (Iz _) rfl ?_;intro db w4 O4 a0 b8 e3 e8;refine zsa (us:=#[nS,nS]) a0 (GS _) ?_;have b7:GC (fun j=>j=2) O4 w4 O4 (w4.setRow db #[nS,nS]):=G8 zd a0.tag rfl;have a6:=(b1.upd b8 zd zd).upd b7 zd zd;have c':=(a8.mono (S':=fun q=>q=1\/q=2) (fun _ h=>.inl h) zd).trans ((b8.trans b7).mono (fun _ h=>.inr h) zd);generalize w4.setRow db #[nS,nS]=w5 at *;refine zh ?_;refine zTH rfl rfl ?_;refine zvH (aD Df (Iz _) rfl (by first|rfl|(simp only[G7,GL];rfl)) rfl rfl) ?_;refine zsa (us:=#[nS,nS]) a6 (GS _) ?_;have b0:=a6.setRow (us:=#[nS,nS]);have a7:GC (fun j=>j=1) O4 w5 O4 (w5.setRow cb #[nS,nS]):=G8 zd a6.tag rfl;refine zh ?_;refine aO rfl rfl rfl (b0.cellsAdd) (II _) (GS _) (⟨(c'.trans (a7.mono (fun _ h=>.inl h) zd)).ext,7,zd,rfl⟩)
  |some d=>
   obtain⟨nv,tv,rfl,o1,o2,d7,d6⟩:=hP;obtain⟨S,f3⟩:=rR hd;have d1:=f3.right;refine zh ?_;refine ar (aw w3) 2 zo (Iz _) rfl ?_;intro db w4 O4 a0 b8 e3 e8;refine zsb (us:=#[nv,tv]) a0 (GS _) (by simp only[G7,o1,o2];rfl) ?_;have c5:=a0.setRow (us:=#[nv,tv]);have b7:GC (fun j=>j=2) O4 w4 O4 (w4.setRow db #[nv,tv]):=G8 zd a0.tag rfl;have a1:GR w3 (w4.setRow db #[nv,tv]):=(b8.trans b7).ext;generalize w4.setRow db #[nv,tv]=w5 at *;refine zh ?_;refine zFH rfl rfl ?_;refine zv (ah (us:=[nv,tv]) c5.cellsAdd (II _) (GS _) rfl) ?_;refine zc call58 (tz nv tv d.1 d.2 w5 (d7.ext a1) (d6.ext a1) d1) ?_;rintro _ w6 ⟨cl,b5,b4,rfl,p1,p2,e7,e0,b',b9,a9⟩;have b3:=a1.trans e7;have a5:=b1.ext b3;have e1:GC (fun q=>q=1) O1 w3 O1 w6:=aa zd O1 b3;have c9:=a8.trans e1;have d2:=d3.ext a1;refine zsb (us:=#[b5,b4]) a5 (GS _) (by simp only[G7,p1,p2];rfl) ?_;have b0:=a5.setRow (us:=#[b5,b4]);have a7:GC (fun j=>j=1) O1 w6 O1 (w6.setRow cb #[b5,b4]):=G8 zd a5.tag rfl;have d0:w.heap.size<=w5.heap.size:=K8 a8.size a1.size;refine zh ?_;refine aO rfl rfl rfl (b0.cellsAdd) (II _) (GS _) (⟨(c9.trans a7).ext,cl,b5,b4,rfl,p1,p2,d1,e0,(b'.upd d2 a7).mono d0,a9.slU b9 d2 a7,a9.mono d0⟩)
 have b6:stM se ts=none:=by unfold stM;rw[if_neg he]
 rw[b6];refine zTH rfl ((by simpa using he)) ?_;refine zvH (aD Df (Iz _) rfl (by first|rfl|(simp only[G7,GL];rfl)) rfl rfl) ?_;refine zsa (us:=#[nS,nS]) a2 (GS _) ?_;have b0:=a2.setRow (us:=#[nS,nS]);have a7:GC (fun j=>j=1) O1 w2 O1 (w2.setRow cb #[nS,nS]):=G8 zd a2.tag rfl;refine zh ?_;refine aO rfl rfl rfl (b0.cellsAdd) (II _) (GS _) (⟨(b2.trans a7).ext,dg ts,he,rfl⟩)
theorem FW:cD Gt 30 #[(0,5),(5,1)]:=⟨_,underlying30,fun w=>by kernel_rfl⟩
def PartV(w:ln)(cs:List ix)(p:PSt)(tl:List Nat):Prop:=
 ∃uv bv kv nv tv,cs=[nI p.width,uv,bv,kv,nv,tv]/\Is w uv p.usual/\Is w bv p.base/\Is w kv p.check/\Is w nv p.next/\Sl ff 1 w tv tl
theorem PartV.ext{w w':ln}{cs:List ix}{p:PSt}{tl:List Nat}(h:PartV w cs p tl)(e:GR w w'):PartV w' cs p tl:=by
 obtain⟨uv,bv,kv,nv,tv,h0,h1,h2,h3,h4,h5⟩:=h;exact⟨uv,bv,kv,nv,tv,h0,h1.ext e,h2.ext e,h3.ext e,h4.ext e,h5.ext e⟩
def Dh(B:Nat)(cs:List ix):Prop:=∀v∈cs,IS B v
theorem _root_.Go.VL.NewV.slI{S:Nat->Prop}{B:Nat}{O O':Nat->Nat}{w0 w w':ln}{v:ix}{l:List Int}(h:IS w0.heap.size v)(hs:Is w v l)(r:IR B O w0)(u:GC S O w O' w'):Is w' v l:=hs.upd (h.free hs (fun x _=>by simp) r) u
theorem PartV.upd{S:Nat->Prop}{B:Nat}{O O':Nat->Nat}{w0 w w':ln}{cs:List ix}{p:PSt}{tl:List Nat}(h:PartV w cs p tl)(n:Dh w0.heap.size cs)(r:IR B O w0)(u:GC S O w O' w'):PartV w' cs p tl:=by
 obtain⟨uv,bv,kv,nv,tv,rfl,h1,h2,h3,h4,h5⟩:=h;exact⟨uv,bv,kv,nv,tv,rfl,(n uv (by simp)).slI h1 r u,(n bv (by simp)).slI h2 r u,(n kv (by simp)).slI h3 r u,(n nv (by simp)).slI h4 r u,(n tv (by simp)).slU h5 r u⟩
theorem PartV.one{w:ln}{cs:List ix}{p:PSt}{tl:List Nat}(h:PartV w cs p tl):cs.length=6/\∀v∈cs,v.oneCell'=true:=by
 obtain⟨uv,bv,kv,nv,tv,rfl,h1,h2,h3,h4,h5⟩:=h;refine⟨rfl,fun v hv=>?_⟩;simp only[GV,JJ,or_false]at hv
 rcases hv with rfl|rfl|rfl|rfl|rfl|rfl
 ·rfl
 ·exact h1.one
 ·exact h2.one
 ·exact h3.one
 ·exact h4.one
 exact h5.one
theorem RowsN.pack{w:ln}{v:ix}{rows:List (List Nat)}(h:JQ w v rows):Rows w v (rows.map ints):=by
 obtain⟨vs,h1,h2,h3⟩:=h
 exact⟨vs,h1,by rw[Ig];exact h2,fun i hi=>by
  rw[Ig]at hi
  rw[dV hi];exact(h3 i hi).natIv⟩
def jw(g:List Nat)(many:Nat)(rows:List (List Nat)):List (List Int):=(rows.map (nt g many)).map ints
def dc(g:List Nat)(many:Nat)(rows:List (List Nat)):PSt:=ky (many:Int) (jw g many rows)
theorem nX{g:List Nat}{many:Nat}(hg:GrpI g many){rows:List (List Nat)}{a0:List Nat}(hr:JD rows a0):bG (many:Int) (jw g many rows)=false:=by
 have h1:=hg.pos;have h2:=hg.le;have h3:=hr.le;unfold bG;have hl:(jw g many rows).length=rows.length:=by simp[jw]
 rw[decide_eq_false zo,decide_eq_false zo,decide_eq_false zo];simp only[Bool.false_or];refine I5.2 fun r a1=>?_
 obtain⟨q,hq,rfl⟩:=GK.1 a1;obtain⟨o,ho,rfl⟩:=GK.1 hq;obtain⟨j,hj,rfl⟩:=Gm ho;obtain⟨r1,r2⟩:=hr.row j hj;unfold gK;rw[show(ints (nt g many (nth rows j))).length=many from by simp[lH]];have a2:inB 0 65535 (ints (nt g many (nth rows j)))=true:=rJ fun n hn=>by
  obtain⟨x,hx,rfl⟩:=GK.1 hn;unfold nt at hx;obtain⟨k,hk,rfl⟩:=GK.1 hx
  cases hf:g.findIdx? (· == k)with
  |none=>simp only[Option.getD_none];have:=r2 0 (zd);unfold nxD at *;omega
  |some q=>
   obtain⟨h1,_⟩:=Gn.1 hf;have a3:=hg.len;simp only[Option.getD_some];have:=r2 q zo;omega
 rw[a2];simp
theorem uC(g:List Nat)(many:Nat)(gv nv tv:ix)(rows:List (List Nat))(d4:List Nat)(w:ln)(hg:GrpI g many)(e':Sl aJ 1 w gv g)(hn:JQ w nv rows)(g0:Sl ff 1 w tv d4)(hr:JD rows d4) 
  (hc:∀p,p<rows.length->∀i j,i<37->j<37->nth g i=nth g j->nth (nth rows p) i=nth (nth rows p) j) :
  I9 Gt 37 [gv,.agg #[nv,tv]] w fun v w'=>∃cs,v=.agg cs.toArray/\PartV w' cs (dc g many rows) d4/\Dh w.heap.size cs/\GR w w':=by
 have a4:=nX hg hr;refine G0 func37 ntmps37 rfl rfl ?_;refine zh ?_;refine aG (aw w) 1 zo rfl rfl ?_;intro db w1 O1 e4 g' h4 h9;refine ar h4 2 zo (KB _) rfl ?_;intro cb w2 O2 e8 f8 b8 h8;have e3:=e4.upd f8 zd zd;have b6:GC (fun q=>1<=q) (fun _=>0) w O2 w2:=(g'.mono (fun _ h=>zo) zd).trans (f8.mono (fun _ h=>zo) zd);have b7:=b6.ext;refine zh ?_;refine zv (ah (us:=[nv,tv]) e3.cellsAdd (II _) (GS _) rfl) ?_;refine zc call65 (A9 g many gv nv tv rows d4 w2 hg (e'.ext b7) (hn.ext b7) (g0.ext b7) hr hc) ?_;rintro _ w3 ⟨d8,a6,a5,rfl,o1,o2,o3,c9,a',a9,h5⟩;have d6:GC (fun _=>False) O2 w2 O2 w3:=aa (fun h=>h) O2 h5;have e7:=e8.upd d6 zd (fun h=>h);have e9:=b6.trans (d6.mono (fun _ h=>h.elim) zd);have h3:=b8.upd d6;refine zh ?_;refine ar h3 3 zo (I0 _) rfl ?_;intro nb w4 O4 b3 g8 h2 h7;refine zsb (us:=#[d8,a6,a5]) b3 (IY _) (by simp only[G7,o1,o2,o3];rfl) ?_;have b2:=b3.setRow (us:=#[d8,a6,a5]);have f7:GC (fun j=>j=3) O4 w4 O4 (w4.setRow nb #[d8,a6,a5]):=G8 zd b3.tag rfl;have a2:=g8.trans f7;have g9:=(d6.mono (S':=fun q=>q=3) (fun _ h=>h.elim) zd).trans a2;have e6:=e7.upd a2 zd zd;have g6:=c9.upd b8 a2;have f':=a9.slU a' b8 a2;have h1:=h2.upd f7;have b5:=e9.trans (a2.mono (fun _ h=>zo) zd);generalize w4.setRow nb #[d8,a6,a5]=w5 at *;have h6:(rows.map (nt g many)).length=rows.length:=by simp
 refine zh ?_;have d1:w5.drew.cell? (nA nb 1)=some a6:=b2.cell 1 rfl;refine aK (fun W=>W.cell? (nA nb 1)=some a6) 11 rfl zk ?_
 refine zrm 0 rfl d1 rfl ?_;refine zrf 2 rfl d1 rfl ?_
 refine zt 3 rfl d1 (fun w1 f9=>RV.ld f9 rfl) ?_;refine sq (fun x:ix×ix×ix×ix×Int×Nat×(Nat->Nat)×World=>[(4,nP cb),(5,nP nb),(7,.pointer (some ⟨x.2.2.2.2.2.1,0,none⟩)),(21,.agg #[nI (dc g many rows).width,x.1,x.2.1,x.2.2.1,x.2.2.2.1]),(22,nI x.2.2.2.2.1)]) (fun x=>x.2.2.2.2.2.2.2) (fun x=>Is x.2.2.2.2.2.2.2 x.1 (dc g many rows).usual/\Is x.2.2.2.2.2.2.2 x.2.1 (dc g many rows).base/\Is x.2.2.2.2.2.2.2 x.2.2.1 (dc g many rows).check/\Is x.2.2.2.2.2.2.2 x.2.2.2.1 (dc g many rows).next/\IS w5.heap.size x.1/\IS w5.heap.size x.2.1/\IS w5.heap.size x.2.2.1/\IS w5.heap.size x.2.2.2.1/\GW x.2.2.2.2.2.2.1 x.2.2.2.2.2.2.2 4 x.2.2.2.2.2.1 #[nI 0,nS,nS,nS,nS] 27/\GC (fun q=>q=4) O4 w5 x.2.2.2.2.2.2.1 x.2.2.2.2.2.2.2/\IR w.heap.size x.2.2.2.2.2.2.1 x.2.2.2.2.2.2.2/\Jy x.2.2.2.2.2.2.1 x.2.2.2.2.2.2.2 x.1/\Jy x.2.2.2.2.2.2.1 x.2.2.2.2.2.2.2 x.2.1/\Jy x.2.2.2.2.2.2.1 x.2.2.2.2.2.2.2 x.2.2.1/\Jy x.2.2.2.2.2.2.1 x.2.2.2.2.2.2.2 x.2.2.2.1) #[true,true,true,true,true,true,true,true,true,false,false] 2 ?_ ?_
 ·intro hN;have hR:=h1.drew;have hU:GC (fun q=>q=4) O4 w5 O4 w5.drew:=aa zd O4 (G9 w5).drew;have k0:∀O W,GC (fun q=>q=4) O4 w5 O W->W.cell? (nA nb 1)=some a6:=fun O W u=>(b2.upd u zd zd).cell 1 rfl
  have kg:∀O W,GC (fun q=>q=4) O4 w5 O W->Sl encI 1 W gv (ints g):=fun O W u=>(e'.ext (b5.trans (u.mono (fun _ h=>zo) zd)).ext).natIv
  have kn:∀O W,GC (fun q=>q=4) O4 w5 O W->Rows W a6 (jw g many rows):=fun O W u=>(c9.upd b8 (a2.mono (S':=fun q=>q=3\/q=4) (fun _ h=>.inl h) zd |>.trans (u.mono (fun _ h=>.inr h) zd))).rows.pack
  refine bL 1 8 zk rfl rfl ?_ ?_ 
  ·refine zc KH (gX (ints g) gv _ (kg _ _ hU)) ?_;rintro _ wa ⟨rfl,c8⟩;rw[c8,hg.cnt];clear c8 wa;refine zh ?_
   refine af (k0 _ _ hU) ?_;refine bL 4 8 zk rfl rfl ?_ ?_ 
   ·refine zc KG (lZ (many:Int) (jw g many rows) a6 _ (kn _ _ hU)) ?_;rintro _ wb ⟨pv,ep,rfl,fP,f5,d2,gP⟩;have gP:=gP a4;rw[a4,if_neg zd]at fP;obtain⟨b9,b',d3,c7,c6,c5,n1,n2,n3,n4⟩:=gP;obtain⟨uv,bv,kv,a0,pe,f1,f2,f3,f4⟩:=fP;subst pe;obtain⟨rfl,rfl,rfl,rfl,rfl⟩:_=b9/\uv=b'/\bv=d3/\kv=c7/\a0=c6:=by simpa using c5
    have fU:=hU.size;have g1:=n1.free f1 (fun x _=>by simp) hR;have g2:=n2.free f2 (fun x _=>by simp) hR;have g3:=n3.free f3 (fun x _=>by simp) hR;have g4:=n4.free f4 (fun x _=>by simp) hR;have n1:=n1.mono fU;have n2:=n2.mono fU;have n3:=n3.mono fU;have n4:=n4.mono fU;have a7:=fun O=>aa (S:=fun _=>False) (fun h=>h) O d2
    have hU:=GP hU ((a7 _).mono (fun _ h=>h.elim) zd);have hR:=IJ hR (a7 _)
    try have fC:=Gy fC (a7 _) zd (fun h=>h)
    refine zh ?_;refine zaf (k0 _ _ hU) fun zS=>?_
    refine zrm 5 rfl zS rfl ?_;refine zr 6 rfl zS (fun _=>IE rfl rfl) ?_
    refine zr 7 rfl zS (fun _=>IE rfl rfl) ?_;refine Gu 8 zk rfl ?_
    refine ar hR 4 zd (GX _) rfl ?_;intro pb wc Oc fC a1 d0 a3;have hU:=GP hU a1;have hR:=d0
    try have f1:=GY f1 a3
    try have f2:=GY f2 a3
    try have f3:=GY f3 a3
    try have f4:=GY f4 a3
    try have g1:=GO g1 a1
    try have g2:=GO g2 a1
    try have g3:=GO g3 a1
    try have g4:=GO g4 a1
    refine zh ?_;refine af (k0 _ _ hU) ?_
    exact IZ (hN (uv,bv,kv,a0,ep,pb,_,_) ⟨f1,f2,f3,f4,n1,n2,n3,n4,fC,hU,hR,g1,g2,g3,g4⟩) zk ⟨rfl,rfl,rfl,rfl,rfl,trivial⟩ rfl
   refine ar hR 4 zd (GX _) rfl ?_;intro pb wc Oc fC a1 d0 a3;have hU:=GP hU a1;have hR:=d0
   try have f1:=GY f1 a3
   try have f2:=GY f2 a3
   try have f3:=GY f3 a3
   try have f4:=GY f4 a3
   try have g1:=GO g1 a1
   try have g2:=GO g2 a1
   try have g3:=GO g3 a1
   try have g4:=GO g4 a1
   refine zh ?_;refine af (k0 _ _ hU) ?_
   refine Gu 4 zk rfl ?_;refine zc KG (lZ (many:Int) (jw g many rows) a6 _ (kn _ _ hU)) ?_
   rintro _ wb ⟨pv,ep,rfl,fP,f5,d2,gP⟩;have gP:=gP a4;rw[a4,if_neg zd]at fP;obtain⟨b9,b',d3,c7,c6,c5,n1,n2,n3,n4⟩:=gP;obtain⟨uv,bv,kv,a0,pe,f1,f2,f3,f4⟩:=fP;subst pe;obtain⟨rfl,rfl,rfl,rfl,rfl⟩:_=b9/\uv=b'/\bv=d3/\kv=c7/\a0=c6:=by simpa using c5
   have fU:=hU.size;have g1:=n1.free f1 (fun x _=>by simp) hR;have g2:=n2.free f2 (fun x _=>by simp) hR;have g3:=n3.free f3 (fun x _=>by simp) hR;have g4:=n4.free f4 (fun x _=>by simp) hR;have n1:=n1.mono fU;have n2:=n2.mono fU;have n3:=n3.mono fU;have n4:=n4.mono fU;have a7:=fun O=>aa (S:=fun _=>False) (fun h=>h) O d2
   have hU:=GP hU ((a7 _).mono (fun _ h=>h.elim) zd);have hR:=IJ hR (a7 _)
   try have fC:=Gy fC (a7 _) zd (fun h=>h)
   refine zh ?_;refine zaf (k0 _ _ hU) fun zS=>?_
   refine zrm 5 rfl zS rfl ?_;refine zr 6 rfl zS (fun _=>IE rfl rfl) ?_
   refine zr 7 rfl zS (fun _=>IE rfl rfl) ?_;exact IZ (hN (uv,bv,kv,a0,ep,pb,_,_) ⟨f1,f2,f3,f4,n1,n2,n3,n4,fC,hU,hR,g1,g2,g3,g4⟩) zk ⟨rfl,rfl,rfl,rfl,rfl,trivial⟩ rfl
  refine ar hR 4 zd (GX _) rfl ?_;intro pb wc Oc fC a1 d0 a3;have hU:=GP hU a1;have hR:=d0
  try have f1:=GY f1 a3
  try have f2:=GY f2 a3
  try have f3:=GY f3 a3
  try have f4:=GY f4 a3
  try have g1:=GO g1 a1
  try have g2:=GO g2 a1
  try have g3:=GO g3 a1
  try have g4:=GO g4 a1
  refine zh ?_;refine af (k0 _ _ hU) ?_
  refine Gu 1 zk rfl ?_;refine zc KH (gX (ints g) gv _ (kg _ _ hU)) ?_
  rintro _ wa ⟨rfl,c8⟩;rw[c8,hg.cnt];clear c8 wa;refine zh ?_;refine af (k0 _ _ hU) ?_;refine Gu 4 zk rfl ?_;refine zc KG (lZ (many:Int) (jw g many rows) a6 _ (kn _ _ hU)) ?_;rintro _ wb ⟨pv,ep,rfl,fP,f5,d2,gP⟩;have gP:=gP a4;rw[a4,if_neg zd]at fP;obtain⟨b9,b',d3,c7,c6,c5,n1,n2,n3,n4⟩:=gP;obtain⟨uv,bv,kv,a0,pe,f1,f2,f3,f4⟩:=fP;subst pe;obtain⟨rfl,rfl,rfl,rfl,rfl⟩:_=b9/\uv=b'/\bv=d3/\kv=c7/\a0=c6:=by simpa using c5
  have fU:=hU.size;have g1:=n1.free f1 (fun x _=>by simp) hR;have g2:=n2.free f2 (fun x _=>by simp) hR;have g3:=n3.free f3 (fun x _=>by simp) hR;have g4:=n4.free f4 (fun x _=>by simp) hR;have n1:=n1.mono fU;have n2:=n2.mono fU;have n3:=n3.mono fU;have n4:=n4.mono fU;have a7:=fun O=>aa (S:=fun _=>False) (fun h=>h) O d2
  have hU:=GP hU ((a7 _).mono (fun _ h=>h.elim) zd);have hR:=IJ hR (a7 _)
  try have fC:=Gy fC (a7 _) zd (fun h=>h)
  refine zh ?_;refine zaf (k0 _ _ hU) fun zS=>?_
  refine zrm 5 rfl zS rfl ?_;refine zr 6 rfl zS (fun _=>IE rfl rfl) ?_
  refine zr 7 rfl zS (fun _=>IE rfl rfl) ?_;exact IZ (hN (uv,bv,kv,a0,ep,pb,_,_) ⟨f1,f2,f3,f4,n1,n2,n3,n4,fC,hU,hR,g1,g2,g3,g4⟩) zk ⟨rfl,rfl,rfl,rfl,rfl,trivial⟩ rfl
 rintro⟨uv,bv,kv,a0,ep,pb,O7,w7⟩ ⟨f1,f2,f3,f4,n1,n2,n3,n4,b0,a8,h0,g1,g2,g3,g4⟩;dsimp only at f1 f2 f3 f4 n1 n2 n3 n4 b0 a8 h0 g1 g2 g3 g4 ⊢;have q1:=f1.one;have q2:=f2.one;have q3:=f3.one;have q4:=f4.one;have e1:=b2.upd a8 zd zd;have e5:=e6.upd a8 zd zd;refine Gu 9 zk rfl ?_;refine zsb (us:=#[nI (dc g many rows).width,uv,bv,kv,a0]) b0 (GT _) (by simp only[G7,q1,q2,q3,q4];rfl) ?_;have e0:=b0.setRow (us:=#[nI (dc g many rows).width,uv,bv,kv,a0]);have d7:GC (fun j=>j=4) O7 w7 O7 (w7.setRow pb #[nI (dc g many rows).width,uv,bv,kv,a0]):=G8 zd b0.tag rfl;generalize w7.setRow pb #[nI (dc g many rows).width,uv,bv,kv,a0]=w8 at *;have b1:=e1.upd d7 zd zd;have b4:=e5.upd d7 zd zd;have c':=a8.trans d7;have d9:=a9.slU a' b8 ((a2.mono (S':=fun q=>q=3\/q=4) (fun _ h=>.inl h) zd).trans (c'.mono (fun _ h=>.inr h) zd));have d':=(a9.free a' (fun x _=>by simp) b8).upd ((a2.mono (S':=fun q=>q=3\/q=4) (fun _ h=>.inl h) zd).trans (c'.mono (fun _ h=>.inr h) zd));refine zh ?_;refine af (b1.cell 1 rfl) ?_;have e2:w8.cell? (nA nb 2)=some a5:=b1.cell 2 rfl;refine zra 10 rfl (b1.cell 1 rfl) rfl ?_;refine I3 zk ?_;refine zh ?_;refine zv (ah (us:=[nI (dc g many rows).width,uv,bv,kv,a0]) e0.cellsAdd (IL _) (GT _) rfl) ?_;obtain⟨ta,tc,g5,_⟩:=a'.shape;refine zh ?_;refine zv (K6 (cells:=#[nI (dc g many rows).width,uv,bv,kv,a0,a5]) FW (KB _) rfl (by rw[g5];rfl)) ?_
 refine zsb (us:=#[nI (dc g many rows).width,uv,bv,kv,a0,a5]) b4 (sizeOf30 _) (by simp only[G7,q1,q2,q3,q4,o3];rfl) ?_;have g7:=b4.setRow (us:=#[nI (dc g many rows).width,uv,bv,kv,a0,a5]);have f6:GC (fun j=>j=2) O7 w8 O7 (w8.setRow cb #[nI (dc g many rows).width,uv,bv,kv,a0,a5]):=G8 zd b4.tag rfl;have hU8z:=(d7.mono (S':=fun q=>q=2\/q=4) (fun _ h=>.inr h) zd).trans (f6.mono (fun _ h=>.inl h) zd);have d5:=b5.size;refine zh ?_
 refine aI rfl rfl (g7.cellsAdd) (isAgg30 _) (sizeOf30 _) (⟨[nI (dc g many rows).width,uv,bv,kv,a0,a5],rfl,⟨uv,bv,kv,a0,a5,rfl,f1.upd g1 hU8z,f2.upd g2 hU8z,f3.upd g3 hU8z,f4.upd g4 hU8z,d9.upd d' f6⟩,fun v hv=>?_,((b5.trans (a8.mono (fun _ h=>zo) zd)).trans (hU8z.mono (fun _ h=>zo) zd)).ext⟩);simp only[GV,JJ,or_false]at hv
 rcases hv with rfl|rfl|rfl|rfl|rfl|rfl
 ·exact fun a n c e=>by cases e
 ·exact n1.mono d5
 ·exact n2.mono d5
 ·exact n3.mono d5
 ·exact n4.mono d5
 exact a9.mono b6.size
end Go.Proofs.YtpfpmhhigheccaaGreatDoor
