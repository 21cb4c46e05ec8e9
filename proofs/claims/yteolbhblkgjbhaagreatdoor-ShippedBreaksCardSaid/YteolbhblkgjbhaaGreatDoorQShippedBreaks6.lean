/- Texts that the proof of this statement needs, merged and shortened. -/
import Derived.Test.YteolbhblkgjbhaaGreatDoorQShippedBreaks5
set_option linter.defProp false
open Go.VL.Upd renaming J->ix,setRow->L1,set->Mm,refl->MO
open Go.VL.RowT renaming U->ln,nil->Nm
open Nat renaming le_refl->L0,lt_succ_iff_lt_or_eq->L8,le_of_ble_eq_true->Mg,not_lt_zero->Mj,zero_le->Mk,le_of_lt->Mn,le_succ->MP,sub_self->Nh
open Go.VL.WH renaming one->L2,leaf->LZ,done->Mo
open Bool renaming and_eq_true->L3,and_eq_false_iff->M9,and_true->MG,or_eq_false_iff->MM,not_or->MN,eq_false_iff->MU
open Go.Proofs.Tryz renaming sizeOf96->L4,underlying9->L6,zeroValue96->L9,sizeOf237->LY,zeroValue237->M8,underlying149->Mh,isAgg96->Mi,underlying234->Ml,isAgg237->Mq,sizeOf240->Mt,sizeOf3->Mv,prog->Mw,sizeOf45->My,underlying107->MA,sizeOf185->MD,zeroValue9->MI,underlying94->MS,call68->MT,zeroValue45->N0,sizeOf31->N1,sizeOf9->N8,isAgg45->N9,call104->Na,underlying22->Nq,isAgg31->Nr,call69->Nu
open Option.some renaming inj->L5
open List renaming all_cons->L7,mem_singleton->M6,nil_append->Ma,eq_nil_of_length_eq_zero->Md,all_nil->Mf,takeWhile_append_dropWhile->Mz,getElem?_eq_some_iff->ME,drop_eq_getElem_cons->MF,length_append->MQ,find?_eq_none->MR,take_length->MV,not_mem_nil->MW,mem_reverse->MX,length_cons->MY,length_nil->N2,mem_cons->N7
open Go renaming Value->LX,World->Mc
open Go.VL.RV renaming indexAddr->M0,extract->Mb,move->Ms,build->MB,len->Nc,add->Nf,neq->Nn
open Go.VL.Ret renaming enter->M1
open Go.World renaming setRow->M4
open Go.VL renaming Upd->M5,BlkO->Me,Free->MH,Ext->MK,Rng->N6,Ret->Ni,RowT->Nk
open Go.VL.BlkO renaming U->M7,setRow->Mu,tag->MC
open Go.VL.Ext renaming refl->Mp
open Go.VL.Rng renaming U->Mr
open Go.Value renaming bool->Mx
open Go.Proofs.YteolbhblkgjbhaaGreatDoor.Nt renaming leaf->MJ,U->Ng
open Go.VL.Fit renaming i64->MZ
open Go.Proofs.YteolbhblkgjbhaaGreatDoor renaming Known->N4,RulesO->Nj,KnownM->Nx
open Go.VL.WC renaming region->N5,seq->Nb,skip->Nw
open Go.VL.WL renaming nil->Nl,push->Nv
open Prod renaming ext->No
open Go.Addr renaming add->Np
open Classical renaming byContradiction->Ns
set_option maxRecDepth 10000
open Go.VL Go.Proofs Go.Proofs.Tryz
variable {m:Int}{l:List UInt8}{w:Mc}{i t u':Nat}{O:Nat->Nat}
variable {k n:Nat}
namespace Go.Proofs.YteolbhblkgjbhaaGreatDoor
abbrev cR(x:N3)(t:Nat):List LX:=[nI x.1,nI x.2.1,x.2.2,nI (t:Nat),nI 0,nI 0]
abbrev oV(x:N3)(t:Nat):LX:=.agg (cR x t).toArray
def lH{x:N3}{u:LX}(h:(bu x)[k]? = some u):(cR x t)[k]? = some u:=by
 obtain⟨hk,_⟩:=ME.1 h;rw[show cR x t=bu x++[nI (t:Nat),nI 0,nI 0]from rfl,List.getElem?_append_left hk];exact h
def gS{x:N3}(h:x.2.2.oneCell'=true)(t:Nat):(cR x t).toArray.toList.all Value.oneCell'=true:=by
 simp only[L7,h];rfl
def vW(F:FuncId)(kn:Kn)(op:Int)(M:PG):Prop:=∀(B:Nat) (O:Nat->Nat) (w:Mc) (ts:List T3) (lv kv:LX) (t u:Nat) (nd:Nd),N6 B O w->Sl lJ 3 w lv ts->MH O w lv->N4 O w kv kn->ts.length<=4097->t<=ts.length->M ts t=some (nd,u)->
 Ni Mw F [lv,nI (t:Nat),nI op,kv] w λv w'=>MK w w'/\u<=ts.length/\∃x,v=oV x u/\Nt O w' nd x
def Lc:Elem Mw 94 96 3 40:=⟨MS,by kernel_rfl,zd⟩
def Jn(al:Option PG)(kn:Kn)(op:Int):Prop:=match al with
 |none=>op=20
 |some f=>0<=op/\op<20/\vW 144 kn (op+1) f
def Ct{al:Option PG}{kn:Kn}{ts:List T3}{a0:Nd}(h:AJ al kn ts t=some (a0,u')):
  t<ts.length/\∃nd u,DG al kn ts t=some (nd,u)/\u<ts.length/\((∃k,opM (nth ts u).1=some k/\a0=.mk (6+(k:Nat)) 0 [nd]/\u'=u+1)\/(opM (nth ts u).1=none/\a0=nd/\u'=u)):=by
 unfold AJ at h
 split at h
 ·rename_i ht;refine⟨ht,?_⟩
  cases ha:DG al kn ts t with
  |none=>rw[ha]at h;cases h
  |some p=>
   obtain⟨x,u⟩:=p;rw[ha]at h;dsimp only at h
   split at h
   ·rename_i hu;refine⟨x,u,rfl,hu,?_⟩
    cases ho:opM (nth ts u).1 with
    |none=>rw[ho]at h;cases h;exact .inr ⟨rfl,rfl,rfl⟩
    |some k=>rw[ho]at h;cases h;exact .inl ⟨k,rfl,rfl,rfl⟩
   cases h
 cases h
def FG{kn:Kn}{p:List UInt8×Nd->Bool}(hi:i<kn.length)(h:p (nth kn i)=true)(a0:∀j,i<j->j<kn.length->p (nth kn j)=false):kn.reverse.find? p=some (nth kn i):=by
 have e:kn=kn.take i++nth kn i::kn.drop (i+1):=by
  conv=>lhs;rw[<-List.take_append_drop i kn,MF hi,<-aD hi]
 conv=>lhs;rw[e]
 rw[List.reverse_append,List.reverse_cons,List.append_assoc,List.find?_append];have:(kn.drop (i+1)).reverse.find? p=none:=by
  rw[MR];intro x hx;rw[MX]at hx;obtain⟨j,hj,rfl⟩:=cu hx;rw[zu];rw[a0 _ zo (by simp at hj;omega)];decide
 rw[this,Option.none_or,List.cons_append,Ma,List.find?_cons_of_pos h]
def sk{kn:Kn}{p:List UInt8×Nd->Bool}(a0:∀j,j<kn.length->p (nth kn j)=false):kn.reverse.find? p=none:=by
 rw[MR];intro x hx;rw[MX]at hx;obtain⟨j,hj,rfl⟩:=cu hx;rw[a0 _ hj];decide
def uV(s:List UInt8)(m:List UInt8×Nd):Bool:=((m.1==s && !(s==[97,110,121]))&&bz m.2)&&(m.2.kind != 9)
def xX{s:List UInt8}(h:¬s=[97,110,121])(m:List UInt8×Nd):uV s m=Bv s m:=by
 unfold uV Bv;have:(s==[97,110,121])=false:=by simpa using h
 rw[this];simp
set_option maxHeartbeats 1000000 in
def Cu(al:Option PG)(kn:Kn)(op:Int)(hop:0 ≤ op ∧ op ≤ 20)(hsm:∀j, j < kn.length → nsz (nth kn j).2 ≤ 2000)(ha:Jn al kn op): vW 243 kn op (AJ al kn) := by
  intro B O w ts lv kv t u' nd' hR hs hf hkn hl ht hM
  obtain⟨hlt, nd, u, hA, hu, hE⟩ := Ct hM
  obtain⟨T, hT0, hT⟩ := hR.bound
  have hTT:∀b, ¬T ≤ O b := fun b => by have := hT b; omega
  have hzz:¬(fun q:Nat => T ≤ q) 0 := fun e => by omega
  obtain⟨ms, hk0⟩ := hkn
  refine M1 func243 ntmps243 rfl rfl ?_
  refine zh ?_
  refine aw hR T (by omega) (M8 _) rfl ?_
  intro xb w1 O1 hx1 hU1 hR1 hE1
  refine zh ?_
  refine zv (MB (cells := (cR (0, 0, .slice none 0 0) (t + 1)).toArray) FJ (M8 _) rfl rfl) ?_
  refine aw hR1 (T + 1) (by omega) (M8 _) rfl ?_
  intro ob wa O2 hoa hUa hRa hEa
  refine zsa (us := (cR (0, 0, .slice none 0 0) (t + 1)).toArray) hoa (LY _) ?_
  have ho2:Me O2 (wa.setRow ob (cR (0, 0, .slice none 0 0) (t + 1)).toArray) (T + 1) ob (cR (0, 0, .slice none 0 0) (t + 1)).toArray 237 := hoa.setRow
  have hU2:M5 (fun q => q = T + 1) O1 w1 O2 (wa.setRow ob (cR (0, 0, .slice none 0 0) (t + 1)).toArray) := hUa.J (L1 (by omega) hoa.tag rfl)
  have hR2 := hRa.U (L1 (S := fun q => q = T + 1) (us := (cR (0, 0, .slice none 0 0) (t + 1)).toArray) (by omega) hoa.tag rfl)
  generalize wa.setRow ob (cR (0, 0, .slice none 0 0) (t + 1)).toArray = w2 at *
  have hx2 := hx1.U hU2 (by omega) (by omega)
  have hUt2:M5 (fun q => T ≤ q) O w O2 w2 := (hU1.mono (fun _ h => by rw[h]; omega) hzz).J (hU2.mono (fun _ h => by rw[h]; omega) hzz)
  have hE02 := aP hUt2 hTT
  have hs2 := hs.ext hE02
  have hf2 := hf.U hUt2
  have hk2 := hk0.U hUt2
  have hd0:∀W, MK w W → ∀i, i < ts.length → W.cell? ((adr lv 3 i).add 0) = some (.int .u8 ((nth ts i).1.toNat:Int)) := fun W hE i hi => (hs.ext hE).cell hi rfl
  have hd1:∀W, MK w W → ∀i, i < ts.length → W.cell? ((adr lv 3 i).add 1) = some (.string (bs (nth ts i).2.1)) := fun W hE i hi => (hs.ext hE).cell hi rfl
  have g0 := hd0 w2 hE02 t hlt
  have g1 := hd1 w2 hE02 t hlt
  refine zh ?_
  refine ia (fun z:Mc×N3 => [(0, lv), (8, .pointer (some ⟨xb, 0, none⟩)), (9, .pointer (some ⟨ob, 0, none⟩))]) (fun z:Mc×N3 => z.1) (fun z:Mc×N3 => Me O2 z.1 T xb #[.int .i64 0, .int .i64 0, .slice none 0 0, .int .i64 0, .int .i64 0, .int .i64 0] 237 ∧ Me O2 z.1 (T + 1) ob (cR z.2 u).toArray 237 ∧ Nt O2 z.1 nd z.2 ∧ M5 (fun q => T ≤ q) O w O2 z.1 ∧ N6 B O2 z.1) ?_ ?_
  · intro Qm hN
    refine zh ?_
    by_cases c97:(nth ts t).1 = 97
    · have hA2:∃y, qI kn (nth ts t).2.1 = some y ∧ nd = y ∧ u = t + 1 := by
        unfold DG at hA
        rw[ap c97]at hA
        cases hn:qI kn (nth ts t).2.1 with
        |none => rw[hn]at hA; cases hA
        |some y => rw[hn]at hA; cases hA; exact⟨_, rfl, rfl, rfl⟩
      obtain⟨_, hn, rfl, rfl⟩ := hA2
      clear hA
      have hd1t:∀W, MK w W → W.cell? ((adr lv 3 t).add 1) = some (.string (bs (nth ts t).2.1)) := fun W hE => hd1 W hE t hlt
      obtain⟨s, hse⟩:∃s, s = (nth ts t).2.1 := ⟨_, rfl⟩
      rw[← hse]at hn hd1t g1
      refine zTH rfl ((by rw[c97]; rfl)) ?_
      refine zc call259 (oF s w2) ?_
      rintro v w3 ⟨rfl, hE3⟩
      have hX3:M5 (fun _ => False) O2 w2 O2 w3 := ae (fun h => h) O2 hE3
      have hx3 := hx2.U hX3 (by omega) (fun h => h)
      have ho3 := ho2.U hX3 (by omega) (fun h => h)
      have hR3 := hR2.U hX3
      have hUt3 := hUt2.J (hX3.mono (fun _ h => h.elim) hzz)
      have hk3 := hk2.U hX3
      have hkl := hk3.1.len_le
      refine zh ?_
      refine zvH (Nc (by first | exact hk3.1) Mh rfl) ?_
      refine zlp (fun y:Nat×Bool×Mc×N3 => [(0, lv), (1, .int .i64 (t:Nat)), (3, kv), (8, .pointer (some ⟨xb, 0, none⟩)), (9, .pointer (some ⟨ob, 0, none⟩)), (10, .int .i64 (qU namesL s)), (11, .bool y.2.1), (12, .int .i64 ((y.1:Int) - 1))]) (fun y => y.2.2.1) (fun y => y.1 ≤ ms.length ∧ Me O2 y.2.2.1 T xb #[.int .i64 0, .int .i64 0, .slice none 0 0, .int .i64 0, .int .i64 0, .int .i64 0] 237 ∧ Me O2 y.2.2.1 (T + 1) ob (cR y.2.2.2 (t + 1)).toArray 237 ∧ M5 (fun q => T ≤ q) O w O2 y.2.2.1 ∧ N6 B O2 y.2.2.1 ∧ Nx O2 y.2.2.1 kv kn ms ∧ (y.2.1 = false → y.2.2.2 = (0, 0, .slice none 0 0) ∧ ∀j, y.1 ≤ j → j < kn.length → uV s (nth kn j) = false) ∧ (y.2.1 = true → Nt O2 y.2.2.1 nd y.2.2.2)) (fun y => y.1) (ms.length, false, w3, (0, 0, .slice none 0 0)) (⟨L0 _, hx3, ho3, hUt3, hR3, hk3, fun _ => ⟨rfl, fun j h1 h2 => by have := hk3.2.2.1; dsimp only at h1; omega⟩, fun h => by cases h⟩) ?_
      rintro⟨i, found, w4, x⟩ ⟨hi, hx4, ho4, hUt4, hR4, hk4, hno, hyes⟩
      dsimp only at hi hx4 ho4 hUt4 hR4 hk4 hno hyes ⊢
      have hkn4 := hk4.2.2.1
      refine zh ?_
      refine aU (fun w1 => _ = w1) (!found) 2 (rfl) rfl rfl rfl rfl rfl ?_ ?_
      · skip
        intro a1
        refine zh ?_
        refine cp (tA := 39) 3 (rfl) rfl rfl rfl (fun v hv => (L5 hv).symm.J (congrArg Mx a1)) rfl
      rintro _ rfl
      refine zh ?_
      refine zC ?_ ?_
      · intro hc
        rw[L3]at hc
        obtain⟨hc1, hc2⟩ := hc
        obtain⟨j, rfl⟩:∃j, i = j + 1 := ⟨i - 1, by have := of_decide_eq_true hc1; omega⟩
        obtain rfl:found = false := by simpa using hc2
        obtain⟨rfl, hno2⟩ := hno rfl
        clear hno hyes hc1 hc2
        rw[show((j + 1:Nat):Int) - 1 = (j:Nat)from by omega]
        have hjm:j < ms.length := by omega
        have hjk:j < kn.length := by omega
        have hXD:M5 (fun _ => False) O2 w4 O2 w4.drew := ae (fun h => h) O2 (Mp w4).drew
        have hxD := hx4.drew
        have hoD := ho4.drew
        have hRD := hR4.U hXD
        have hUtD := hUt4.drew
        have hkD := hk4.U hXD
        obtain⟨e1, e2⟩ := hkD.2.2.2 j hjm
        have hED := aP hUtD hTT
        have m0:∀W, MK w W → W.cell? ((adr kv 4 j).add 0) = some (.string (bs (nth kn j).1)) := fun W hE => by rw[e1]; exact(hk0.1.ext hE).cell hjm rfl
        have mN:∀W, MK w W → ∀(k:Nat) (u:LX), (bu (nth ms j).2)[k]? = some u → W.cell? (((adr kv 4 j).add 1).add k) = some u := fun W hE k u hu => by
          have := (hk0.1.ext hE).cell hjm (j := k + 1) (u := u) hu
          rw[show((adr kv 4 j).add 1).add k = (adr kv 4 j).add (k + 1)from by simp[Np, Nat.add_assoc, Nat.add_comm]]
          exact this
        have mk:∀W, MK w W → W.cell? (((adr kv 4 j).add 1).add 0) = some (.int .i64 (nth kn j).2.kind) := fun W hE => by rw[mN W hE 0 _ rfl, e2.kind]
        refine zh ?_
        refine aO (fun W => MK w W) 36 rfl (by kernel_rfl) ?_
        refine zrm 0 rfl hED rfl ?_
        refine zrm 1 rfl hED rfl ?_
        refine zt 2 rfl hED (fun w1 hw1 => M0 (by first | exact hk0.1.ext hw1 | exact hs.ext hw1) Mh (MD _) rfl rfl _ rfl (by omega)) ?_
        refine zrf 3 rfl hED rfl ?_
        refine zt 4 rfl hED (fun w1 hw1 => RV.ld (by first | exact m0 _ hw1 | exact hd1t _ hw1 | exact mk _ hw1) rfl) ?_
        refine zrm 5 rfl hED rfl ?_
        refine zrm 6 rfl hED rfl ?_
        refine zt 7 rfl hED (fun w1 hw1 => M0 (by first | exact hk0.1.ext hw1 | exact hs.ext hw1) Ml (Mt _) rfl rfl _ rfl (by omega)) ?_
        refine zrf 8 rfl hED rfl ?_
        refine zt 9 rfl hED (fun w1 hw1 => RV.ld (by first | exact m0 _ hw1 | exact hd1t _ hw1 | exact mk _ hw1) rfl) ?_
        refine zr 10 rfl hED (fun _ => bP rfl rfl) ?_
        refine zrm 11 rfl hED rfl ?_
        cases b1:((nth kn j).1 == s)with
        |false =>
          have hq:uV s (nth kn j) = false := by unfold uV; rw[b1]; rfl
          refine bJ (d := 56) rfl (b' := false) (rfl) ?_
          have hno3:∀j', j ≤ j' → j' < kn.length → uV s (nth kn j') = false := fun j' h1 h2 => by
            by_cases e:j' = j
            · subst e; exact hq
            · exact hno2 j' (by omega) h2
          refine zte 12 rfl rfl hED ?_
          refine zte 13 rfl rfl hED ?_
          refine zte 14 rfl rfl hED ?_
          refine zte 15 rfl rfl hED ?_
          refine zte 16 rfl rfl hED ?_
          refine zte 17 rfl rfl hED ?_
          refine zr 18 rfl hED (fun _ => aV rfl rfl) ?_
          refine zrm 19 rfl hED rfl ?_
          refine zte 20 rfl rfl hED ?_
          refine zte 21 rfl rfl hED ?_
          refine zte 22 rfl rfl hED ?_
          refine zte 23 rfl rfl hED ?_
          refine zte 24 rfl rfl hED ?_
          refine zte 25 rfl rfl hED ?_
          refine zr 26 rfl hED (fun _ => aV rfl rfl) ?_
          refine zrm 27 rfl hED rfl ?_
          refine zte 28 rfl rfl hED ?_
          refine zte 29 rfl rfl hED ?_
          refine zte 30 rfl rfl hED ?_
          refine zte 31 rfl rfl hED ?_
          refine zte 32 rfl rfl hED ?_
          refine zte 33 rfl rfl hED ?_
          refine zte 34 rfl rfl hED ?_
          refine zr 35 rfl hED (fun _ => aV rfl rfl) ?_
          refine Mo (by kernel_rfl) ?_
          refine zh ?_
          refine zFH rfl rfl ?_
          refine zxd (j, false, w4.drew, (0, 0, .slice none 0 0)) (⟨by dsimp only; omega, hxD, hoD, hUtD, hRD, hkD, fun _ => ⟨rfl, hno3⟩, fun h => by cases h⟩)
        |true =>
          refine bJ (d := 56) rfl (b' := true) (rfl) ?_
          refine zro 12 rfl hED (fun _ => Ms rfl) ?_
          refine zro 13 rfl hED (fun _ => Ms rfl) ?_
          refine zto 14 rfl hED (fun w1 hw1 => M0 (by first | exact hk0.1.ext hw1 | exact hs.ext hw1) Ml (Mt _) rfl rfl _ rfl (by omega)) ?_
          refine zro 15 rfl hED (fun _ => RV.fa rfl) ?_
          refine zto 16 rfl hED (fun w1 hw1 => RV.ld (by first | exact m0 _ hw1 | exact hd1t _ hw1 | exact mk _ hw1) rfl) ?_
          refine zro 17 rfl hED (fun _ => Jg rfl rfl) ?_
          refine zr 18 rfl hED (fun _ => aT rfl rfl) ?_
          refine zrm 19 rfl hED rfl ?_
          cases b2:(s == [97, 110, 121])with
          |true =>
            have hq:uV s (nth kn j) = false := by unfold uV; rw[b2]; simp
            refine bJ (d := 64) rfl (b' := false) (rfl) ?_
            have hno3:∀j', j ≤ j' → j' < kn.length → uV s (nth kn j') = false := fun j' h1 h2 => by
              by_cases e:j' = j
              · subst e; exact hq
              · exact hno2 j' (by omega) h2
            refine zte 20 rfl rfl hED ?_
            refine zte 21 rfl rfl hED ?_
            refine zte 22 rfl rfl hED ?_
            refine zte 23 rfl rfl hED ?_
            refine zte 24 rfl rfl hED ?_
            refine zte 25 rfl rfl hED ?_
            refine zr 26 rfl hED (fun _ => aV rfl rfl) ?_
            refine zrm 27 rfl hED rfl ?_
            refine zte 28 rfl rfl hED ?_
            refine zte 29 rfl rfl hED ?_
            refine zte 30 rfl rfl hED ?_
            refine zte 31 rfl rfl hED ?_
            refine zte 32 rfl rfl hED ?_
            refine zte 33 rfl rfl hED ?_
            refine zte 34 rfl rfl hED ?_
            refine zr 35 rfl hED (fun _ => aV rfl rfl) ?_
            refine Mo (by kernel_rfl) ?_
            refine zh ?_
            refine zFH rfl rfl ?_
            refine zxd (j, false, w4.drew, (0, 0, .slice none 0 0)) (⟨by dsimp only; omega, hxD, hoD, hUtD, hRD, hkD, fun _ => ⟨rfl, hno3⟩, fun h => by cases h⟩)
          |false =>
            refine bJ (d := 64) rfl (b' := true) (rfl) ?_
            refine zro 20 rfl hED (fun _ => Ms rfl) ?_
            refine zro 21 rfl hED (fun _ => Ms rfl) ?_
            refine zto 22 rfl hED (fun w1 hw1 => M0 (by first | exact hk0.1.ext hw1 | exact hs.ext hw1) Mh (MD _) rfl rfl _ rfl (by omega)) ?_
            refine zro 23 rfl hED (fun _ => RV.fa rfl) ?_
            refine zto 24 rfl hED (fun w1 hw1 => ai (us := bu (nth ms j).2) (mN _ hw1) (Mi _) (L4 _) rfl) ?_
            refine L2 25 (by kernel_rfl) rfl ?_
            refine bt rfl ?_
            refine zc call260 (dt 2000 (L0 _) (nth kn j).2 (hsm j hjk) (nth ms j).2 w4.drew false e2.zero) ?_
            rintro v w5 ⟨rfl, hE5⟩
            have hX5:M5 (fun _ => False) O2 w4.drew O2 w5 := ae (fun h => h) O2 hE5
            have hx5 := hxD.U hX5 (by omega) (fun h => h)
            have ho5 := hoD.U hX5 (by omega) (fun h => h)
            have hR5 := hRD.U hX5
            have hUt5 := hUtD.J (hX5.mono (fun _ h => h.elim) hzz)
            have hk5 := hkD.U hX5
            have e5 := e2.U hX5
            have hxo := e2.one
            refine zh ?_
            refine zaf ((hED.J hE5)) fun zS => ?_
            refine zr 26 rfl zS (fun _ => aT rfl rfl) ?_
            refine zrm 27 rfl zS rfl ?_
            cases b3:bV (nth kn j).2 false with
            |false =>
              have hq:uV s (nth kn j) = false := by unfold uV bz; rw[b3]; simp
              refine bJ (d := 72) rfl (b' := false) (rfl) ?_
              have hno3:∀j', j ≤ j' → j' < kn.length → uV s (nth kn j') = false := fun j' h1 h2 => by
                by_cases e:j' = j
                · subst e; exact hq
                · exact hno2 j' (by omega) h2
              refine zin ((hED.J hE5)) fun zS => ?_
              refine zte 28 rfl rfl zS ?_
              refine zte 29 rfl rfl zS ?_
              refine zte 30 rfl rfl zS ?_
              refine zte 31 rfl rfl zS ?_
              refine zte 32 rfl rfl zS ?_
              refine zte 33 rfl rfl zS ?_
              refine zte 34 rfl rfl zS ?_
              refine zr 35 rfl zS (fun _ => aV rfl rfl) ?_
              refine Mo (by kernel_rfl) ?_
              refine zh ?_
              refine zFH rfl rfl ?_
              refine zxd (j, false, w5, (0, 0, .slice none 0 0)) (⟨by dsimp only; omega, hx5, ho5, hUt5, hR5, hk5, fun _ => ⟨rfl, hno3⟩, fun h => by cases h⟩)
            |true =>
              refine bJ (d := 72) rfl (b' := true) (rfl) ?_
              refine zin ((hED.J hE5)) fun zS => ?_
              refine zro 28 rfl zS (fun _ => Ms rfl) ?_
              refine zro 29 rfl zS (fun _ => Ms rfl) ?_
              refine zto 30 rfl zS (fun w1 hw1 => M0 (by first | exact hk0.1.ext hw1 | exact hs.ext hw1) Mh (MD _) rfl rfl _ rfl (by omega)) ?_
              refine zro 31 rfl zS (fun _ => RV.fa rfl) ?_
              refine zro 32 rfl zS (fun _ => RV.fa rfl) ?_
              refine zto 33 rfl zS (fun w1 hw1 => RV.ld (by first | exact m0 _ hw1 | exact hd1t _ hw1 | exact mk _ hw1) rfl) ?_
              refine zro 34 rfl zS (fun _ => Nn rfl rfl) ?_
              refine zr 35 rfl zS (fun _ => aT rfl rfl) ?_
              refine Mo (by kernel_rfl) ?_
              refine zh ?_
              cases b4:((nth kn j).2.kind != 9)with
              |false =>
                have hq:uV s (nth kn j) = false := by unfold uV; rw[b4]; simp
                refine aH rfl rfl ?_
                have hno3:∀j', j ≤ j' → j' < kn.length → uV s (nth kn j') = false := fun j' h1 h2 => by
                  by_cases e:j' = j
                  · subst e; exact hq
                  · exact hno2 j' (by omega) h2
                refine zh ?_
                refine zxd (j, false, w5, (0, 0, .slice none 0 0)) (⟨by dsimp only; omega, hx5, ho5, hUt5, hR5, hk5, fun _ => ⟨rfl, hno3⟩, fun h => by cases h⟩)
              |true =>
                have hq:uV s (nth kn j) = true := by unfold uV bz; rw[b1, b2, b3, b4, decide_eq_true (hsm j hjk)]; rfl
                have hsa:¬s = [97, 110, 121] := by simpa using b2
                obtain rfl:nd = (nth kn j).2 := by
                  unfold qI at hn
                  rw[am hsa, FG (i := j) hjk (by rw[← xX hsa]; exact hq) (fun k h1 h2 => by rw[← xX hsa]; exact hno2 k h1 h2)]at hn
                  exact(L5 hn).symm
                refine zTH rfl rfl ?_
                refine zvH (M0 (by first | exact hk0.1.ext (hED.J hE5)) Mh (MD _) rfl rfl _ rfl (by omega)) ?_
                refine zvH (ai (us := bu (nth ms j).2) (mN w5 (hED.J hE5)) (Mi _) (L4 _) rfl) ?_
                refine bW (us := #[.int .i64 ((nth ms j).2).1, .int .i64 ((nth ms j).2).2.1, ((nth ms j).2).2.2]) 0 (cR (nth ms j).2 (t + 1)).toArray ho5 rfl (Mg rfl) (L4 _) (cj hxo) rfl rfl rfl ?_
                have hoN:Me O2 (M4 w5 ob (cR (nth ms j).2 (t + 1)).toArray) (T + 1) ob (cR (nth ms j).2 (t + 1)).toArray 237 := Mu ho5
                have hUN:M5 (fun q => q = T + 1) O2 w5 O2 (M4 w5 ob (cR (nth ms j).2 (t + 1)).toArray) := L1 (by omega) (MC ho5) rfl
                have hxN := M7 hx5 hUN (by omega) (by omega)
                have hUtN := ix hUt5 (hUN.mono (fun _ h => by rw[h]; omega) hzz)
                have hRN := Mr hR5 hUN
                refine zh ?_
                refine zxd (j, true, _, (nth ms j).2) (⟨by dsimp only; omega, hxN, hoN, hUtN, hRN, hk5.U hUN, fun h => (by cases h), fun _ => e5.U hUN⟩)
      · intro hc
        refine zh ?_
        cases found with
        |true =>
          refine zTH rfl rfl ?_
          exact dA (hN ((w4, x)) (⟨hx4, ho4, hyes rfl, hUt4, hR4⟩)) ⟨rfl, rfl, rfl, trivial⟩ rfl
        |false =>
          obtain⟨rfl, hno2⟩ := hno rfl
          obtain rfl:i = 0 := by
            rw[Bool.not_false, MG]at hc
            have := of_decide_eq_false hc; omega
          refine aH rfl rfl ?_
          have g1E := hd1t _ (aP hUt4 hTT)
          have hsE := hs.ext (aP hUt4 hTT)
          refine zh ?_
          refine zvH (bP rfl rfl) ?_
          refine zC ?_ ?_
          · intro hany
            obtain rfl:s = [97, 110, 121] := by simpa using hany
            obtain rfl:nd = .mk 1 0 [] := by
              unfold qI at hn
              rw[ap rfl]at hn
              exact(L5 hn).symm
            refine zh ?_
            refine zvH (aI GS (L9 _) rfl (by first | rfl | (simp only[L7, Mf]; rfl)) rfl rfl) ?_
            refine bW (us := #[.int .i64 (((1, 0, .slice none 0 0):N3)).1, .int .i64 (((1, 0, .slice none 0 0):N3)).2.1, (((1, 0, .slice none 0 0):N3)).2.2]) 0 (cR ((1, 0, .slice none 0 0):N3) (t + 1)).toArray ho4 rfl (Mg rfl) (L4 _) (cj rfl) rfl rfl rfl ?_
            have hoN:Me O2 (M4 w4 ob (cR ((1, 0, .slice none 0 0):N3) (t + 1)).toArray) (T + 1) ob (cR ((1, 0, .slice none 0 0):N3) (t + 1)).toArray 237 := Mu ho4
            have hUN:M5 (fun q => q = T + 1) O2 w4 O2 (M4 w4 ob (cR ((1, 0, .slice none 0 0):N3) (t + 1)).toArray) := L1 (by omega) (MC ho4) rfl
            have hxN := M7 hx4 hUN (by omega) (by omega)
            have hUtN := ix hUt4 (hUN.mono (fun _ h => by rw[h]; omega) hzz)
            have hRN := Mr hR4 hUN
            refine zh ?_
            exact dA (hN ((_, ((1, 0, .slice none 0 0):N3))) (⟨hxN, hoN, MJ _ _ _ _, hUtN, hRN⟩)) ⟨rfl, rfl, rfl, trivial⟩ rfl
          · intro hany
            have hsa:¬s = [97, 110, 121] := by simpa using hany
            have hc0:∃c, my s = some c ∧ nd = .mk 0 (c:Nat) [] := by
              unfold qI at hn
              rw[am hsa, sk (fun k h2 => by rw[← xX hsa]; exact hno2 k (Mk _) h2)]at hn
              cases hnm:my s with
              |none => rw[hnm]at hn; cases hn
              |some c => rw[hnm]at hn; exact⟨c, rfl, (L5 hn).symm⟩
            obtain⟨c, hnm, rfl⟩ := hc0
            rw[show qU namesL s = ((c:Nat):Int)from by unfold my at hnm; unfold qU; rw[hnm]]
            refine zh ?_
            refine zFH rfl ((decide_eq_false (by omega))) ?_
            refine zvH (aI GS (L9 _) rfl (by first | rfl | (simp only[L7, Mf]; rfl)) rfl rfl) ?_
            refine bW (us := #[.int .i64 (((0, (c:Nat), .slice none 0 0):N3)).1, .int .i64 (((0, (c:Nat), .slice none 0 0):N3)).2.1, (((0, (c:Nat), .slice none 0 0):N3)).2.2]) 0 (cR ((0, (c:Nat), .slice none 0 0):N3) (t + 1)).toArray ho4 rfl (Mg rfl) (L4 _) (cj rfl) rfl rfl rfl ?_
            have hoN:Me O2 (M4 w4 ob (cR ((0, (c:Nat), .slice none 0 0):N3) (t + 1)).toArray) (T + 1) ob (cR ((0, (c:Nat), .slice none 0 0):N3) (t + 1)).toArray 237 := Mu ho4
            have hUN:M5 (fun q => q = T + 1) O2 w4 O2 (M4 w4 ob (cR ((0, (c:Nat), .slice none 0 0):N3) (t + 1)).toArray) := L1 (by omega) (MC ho4) rfl
            have hxN := M7 hx4 hUN (by omega) (by omega)
            have hUtN := ix hUt4 (hUN.mono (fun _ h => by rw[h]; omega) hzz)
            have hRN := Mr hR4 hUN
            refine zh ?_
            exact dA (hN ((_, ((0, (c:Nat), .slice none 0 0):N3))) (⟨hxN, hoN, MJ _ _ _ _, hUtN, hRN⟩)) ⟨rfl, rfl, rfl, trivial⟩ rfl
    · unfold DG at hA
      rw[am c97]at hA
      refine zFH rfl ((eN _ 97 (by decide) c97)) ?_
      by_cases c126:(nth ts t).1 = 126
      · rw[ap c126]at hA
        have hA2:t + 1 < ts.length ∧ (nth ts (t + 1)).1 = 97 ∧ ∃c, my (nth ts (t + 1)).2.1 = some c ∧ nd = .mk 2 (c:Nat) [] ∧ u = t + 2 := by
          split at hA
          · rename_i h
            cases hnm:my (nth ts (t + 1)).2.1 with
            |none => rw[hnm]at hA; cases hA
            |some c => rw[hnm]at hA; cases hA; exact⟨h.1, h.2, c, rfl, rfl, rfl⟩
          · cases hA
        obtain⟨hl1, hs1, c, hnm, rfl, rfl⟩ := hA2
        clear hA
        have q0 := hd0 w2 hE02 (t + 1) hl1
        have q1 := hd1 w2 hE02 (t + 1) hl1
        refine zTH rfl ((by rw[c126]; rfl)) ?_
        refine zFH rfl ((by rw[hs1]; rfl)) ?_
        refine zc call259 (oF (nth ts (t + 1)).2.1 w2) ?_
        rintro v w3 ⟨rfl, hE3⟩
        rw[show qU namesL (nth ts (t + 1)).2.1 = ((c:Nat):Int)from by unfold my at hnm; unfold qU; rw[hnm]]
        have hX3:M5 (fun _ => False) O2 w2 O2 w3 := ae (fun h => h) O2 hE3
        have hx3 := hx2.U hX3 (by omega) (fun h => h)
        have ho3 := ho2.U hX3 (by omega) (fun h => h)
        have hR3 := hR2.U hX3
        have hUt3 := hUt2.J (hX3.mono (fun _ h => h.elim) hzz)
        refine zh ?_
        refine zFH rfl ((decide_eq_false (by omega))) ?_
        refine zvH (aI GS (L9 _) rfl (by first | rfl | (simp only[L7, Mf]; rfl)) rfl rfl) ?_
        refine bW (us := #[.int .i64 (((2, (c:Nat), .slice none 0 0):N3)).1, .int .i64 (((2, (c:Nat), .slice none 0 0):N3)).2.1, (((2, (c:Nat), .slice none 0 0):N3)).2.2]) 0 (cR ((2, (c:Nat), .slice none 0 0):N3) (t + 1)).toArray ho3 rfl (Mg rfl) (L4 _) (cj rfl) rfl rfl rfl ?_
        have hoN:Me O2 (M4 w3 ob (cR ((2, (c:Nat), .slice none 0 0):N3) (t + 1)).toArray) (T + 1) ob (cR ((2, (c:Nat), .slice none 0 0):N3) (t + 1)).toArray 237 := Mu ho3
        have hUN:M5 (fun q => q = T + 1) O2 w3 O2 (M4 w3 ob (cR ((2, (c:Nat), .slice none 0 0):N3) (t + 1)).toArray) := L1 (by omega) (MC ho3) rfl
        have hxN := M7 hx3 hUN (by omega) (by omega)
        have hUtN := ix hUt3 (hUN.mono (fun _ h => by rw[h]; omega) hzz)
        have hRN := Mr hR3 hUN
        generalize M4 w3 ob (cR ((2, (c:Nat), .slice none 0 0):N3) (t + 1)).toArray = w4 at *
        refine zh ?_
        refine ao (j := 3) hoN rfl (Mv _) rfl rfl rfl rfl ?_
        have hoP:Me O2 (w4.setCell ⟨ob, 3, none⟩ (.int .i64 ((t:Nat) + 2:Int))) (T + 1) ob (cR ((2, (c:Nat), .slice none 0 0):N3) (t + 2)).toArray 237 := hoN.set 3 (.int .i64 ((t:Nat) + 2:Int))
        have hUP:M5 (fun q => q = T + 1) O2 w4 O2 (w4.setCell ⟨ob, 3, none⟩ (.int .i64 ((t:Nat) + 2:Int))) := Mm (by omega) hoN.tag rfl
        refine zh ?_
        exact dA (hN ((_, ((2, (c:Nat), .slice none 0 0):N3))) (⟨hxN.U hUP (by omega) (by omega), hoP, MJ _ _ _ _, hUtN.J (hUP.mono (fun _ h => by rw[h]; omega) hzz), hRN.U hUP⟩)) ⟨rfl, rfl, rfl, trivial⟩ rfl
      · rw[am c126]at hA
        refine zFH rfl ((eN _ 126 (by decide) c126)) ?_
        by_cases c94:(nth ts t).1 = 94
        · rw[ap c94]at hA
          cases hA
          refine zTH rfl ((by rw[c94]; rfl)) ?_
          refine zvH (aI GS (L9 _) rfl (by first | rfl | (simp only[L7, Mf]; rfl)) rfl rfl) ?_
          refine bW (us := #[.int .i64 (((3, 0, .slice none 0 0):N3)).1, .int .i64 (((3, 0, .slice none 0 0):N3)).2.1, (((3, 0, .slice none 0 0):N3)).2.2]) 0 (cR ((3, 0, .slice none 0 0):N3) (t + 1)).toArray ho2 rfl (Mg rfl) (L4 _) (cj rfl) rfl rfl rfl ?_
          have hoN:Me O2 (M4 w2 ob (cR ((3, 0, .slice none 0 0):N3) (t + 1)).toArray) (T + 1) ob (cR ((3, 0, .slice none 0 0):N3) (t + 1)).toArray 237 := Mu ho2
          have hUN:M5 (fun q => q = T + 1) O2 w2 O2 (M4 w2 ob (cR ((3, 0, .slice none 0 0):N3) (t + 1)).toArray) := L1 (by omega) (MC ho2) rfl
          have hxN := M7 hx2 hUN (by omega) (by omega)
          have hUtN := ix hUt2 (hUN.mono (fun _ h => by rw[h]; omega) hzz)
          have hRN := Mr hR2 hUN
          refine zh ?_
          exact dA (hN ((_, ((3, 0, .slice none 0 0):N3))) (⟨hxN, hoN, MJ _ _ _ _, hUtN, hRN⟩)) ⟨rfl, rfl, rfl, trivial⟩ rfl
        · rw[am c94]at hA
          refine zFH rfl ((eN _ 94 (by decide) c94)) ?_
          by_cases c40:(nth ts t).1 = 40
          · rw[ap c40]at hA
            have hA2:∃f u0, al = some f ∧ f ts (t + 1) = some (nd, u0) ∧ u0 < ts.length ∧ (nth ts u0).1 = 41 ∧ u = u0 + 1 := by
              cases al with
              |none => cases hA
              |some f =>
                dsimp only at hA
                cases hff:f ts (t + 1)with
                |none => rw[hff]at hA; cases hA
                |some p =>
                  obtain⟨x, u0⟩ := p
                  rw[hff]at hA
                  dsimp only at hA
                  split at hA
                  · rename_i h; cases hA; exact⟨f, u0, rfl, hff, h.1, h.2, rfl⟩
                  · cases hA
            obtain⟨f, u0, rfl, hff, hu0, hs0, rfl⟩ := hA2
            obtain⟨ha1, ha2, ha3⟩ := ha
            refine zTH rfl ((by rw[c40]; rfl)) ?_
            refine zFH rfl ((by simp; omega)) ?_
            refine zc call144 (ha3 B O2 w2 ts lv kv (t + 1) u0 nd hR2 hs2 hf2 ⟨ms, hk2⟩ hl hlt hff) ?_
            rintro v w3 ⟨hE3, hu1, x, rfl, hnt3⟩
            have hX3:M5 (fun _ => False) O2 w2 O2 w3 := ae (fun h => h) O2 hE3
            have hx3 := hx2.U hX3 (by omega) (fun h => h)
            have ho3 := ho2.U hX3 (by omega) (fun h => h)
            have hR3 := hR2.U hX3
            have hUt3 := hUt2.J (hX3.mono (fun _ h => h.elim) hzz)
            have hxo := hnt3.one
            refine zsb (us := (cR x u0).toArray) ho3 (LY _) (gS hxo u0) ?_
            have ho4:Me O2 (w3.setRow ob (cR x u0).toArray) (T + 1) ob (cR x u0).toArray 237 := ho3.setRow
            have hU4:M5 (fun q => q = T + 1) O2 w3 O2 (w3.setRow ob (cR x u0).toArray) := L1 (by omega) ho3.tag rfl
            have hx4 := hx3.U hU4 (by omega) (by omega)
            have hR4 := hR3.U hU4
            have hUt4 := hUt3.J (hU4.mono (fun _ h => by rw[h]; omega) hzz)
            have hnt4 := hnt3.U hU4
            generalize w3.setRow ob (cR x u0).toArray = w4 at *
            have r3:w4.cell? ⟨ob, 3, none⟩ = some (.int .i64 (u0:Nat)) := ho4.cell 3 rfl
            have r5:w4.cell? ⟨ob, 5, none⟩ = some (.int .i64 0) := ho4.cell 5 rfl
            have q0 := hd0 w4 (aP hUt4 hTT) u0 hu0
            refine Nl ?_
            refine aa ?_
            refine Nb ?_
            refine Nb ?_
            refine N5 ?_
            refine zv (RV.fa rfl) ?_
            refine zv (RV.ld (by first | exact r3 | exact r5 | exact q0) rfl) ?_
            refine zv (Nn rfl rfl) ?_
            refine Nl ?_
            refine aa ?_
            refine aH rfl rfl ?_
            refine Nw ?_
            refine aa ?_
            refine Nb ?_
            refine Nb ?_
            refine N5 ?_
            refine zv (Ms rfl) ?_
            refine zv (RV.fa rfl) ?_
            refine zv (RV.ld (by first | exact r3 | exact r5 | exact q0) rfl) ?_
            refine zv (M0 (by first | exact hs.ext (aP hUt4 hTT)) Ml (Mt _) rfl rfl _ rfl (by omega)) ?_
            refine zv (RV.fa rfl) ?_
            refine zv (RV.ld (by first | exact r3 | exact r5 | exact q0) rfl) ?_
            refine zv (Nn rfl rfl) ?_
            refine Nl ?_
            refine aa ?_
            refine aH rfl ((by rw[hs0]; rfl)) ?_
            refine Nw ?_
            refine aa ?_
            refine N5 ?_
            refine zv (RV.fa rfl) ?_
            refine zv (RV.ld (by first | exact r3 | exact r5 | exact q0) rfl) ?_
            refine zv (Nf rfl rfl (MZ (by omega))) ?_
            refine zv (RV.fa rfl) ?_
            refine ao (j := 3) ho4 rfl (Mv _) rfl rfl rfl rfl ?_
            have hoP:Me O2 (w4.setCell ⟨ob, 3, none⟩ (.int .i64 ((u0:Nat) + 1:Int))) (T + 1) ob (cR x (u0 + 1)).toArray 237 := ho4.set 3 (.int .i64 ((u0:Nat) + 1:Int))
            have hUP:M5 (fun q => q = T + 1) O2 w4 O2 (w4.setCell ⟨ob, 3, none⟩ (.int .i64 ((u0:Nat) + 1:Int))) := Mm (by omega) ho4.tag rfl
            refine zh ?_
            exact dA (hN ((_, x)) (⟨hx4.U hUP (by omega) (by omega), hoP, hnt4.U hUP, hUt4.J (hUP.mono (fun _ h => by rw[h]; omega) hzz), hR4.U hUP⟩)) ⟨rfl, rfl, rfl, trivial⟩ rfl
          · rw[am c40]at hA
            cases hA
  · rintro⟨w3, x⟩ ⟨hx3, ho3, hnt3, hUt3, hR3⟩
    dsimp only at hx3 ho3 hnt3 hUt3 hR3 ⊢
    clear hA
    refine zh ?_
    refine zlp (fun y:Nat×Mc => [(0, lv), (8, .pointer (some ⟨xb, 0, none⟩)), (9, .pointer (some ⟨ob, 0, none⟩)), (14, .int .i64 (y.1:Nat))]) (fun y => y.2) (fun y => y.1 ≤ 3 ∧ Me O2 y.2 T xb #[.int .i64 0, .int .i64 0, .slice none 0 0, .int .i64 0, .int .i64 0, .int .i64 0] 237 ∧ Me O2 y.2 (T + 1) ob (cR x u).toArray 237 ∧ Nt O2 y.2 nd x ∧ M5 (fun q => T ≤ q) O w O2 y.2 ∧ N6 B O2 y.2 ∧ ∀j, j < y.1 → nth [42, 43, 63] j ≠ (nth ts u).1) (fun y => 3 - y.1) (0, w3) (⟨Mk _, hx3, ho3, hnt3, hUt3, hR3, fun j hj => absurd hj (Mj j)⟩) ?_
    rintro⟨i, w4⟩ ⟨hi, hx4, ho4, hnt4, hUt4, hR4, hno⟩
    dsimp only at hi hx4 ho4 hnt4 hUt4 hR4 hno ⊢
    have hxo := hnt4.one
    refine zh ?_
    refine zC ?_ ?_
    · intro hi3
      replace hi3:i < 3 := by have := of_decide_eq_true hi3; omega
      have hXD:M5 (fun _ => False) O2 w4 O2 w4.drew := ae (fun h => h) O2 (Mp w4).drew
      have hxD := hx4.drew
      have hoD := ho4.drew
      have hntD := hnt4.U hXD
      have hRD := hR4.U hXD
      have hUtD := hUt4.drew
      have hs4 := hs.ext (aP hUt4 hTT)
      have r3:w4.drew.cell? ⟨ob, 3, none⟩ = some (.int .i64 (u:Nat)) := hoD.cell 3 rfl
      have q0 := hd0 w4.drew (aP hUtD hTT) u hu
      refine zh ?_
      refine WC.still (by kernel_rfl) (by kernel_rfl) ?_
      refine zw (Ms rfl) ?_
      refine zw (RV.fa rfl) ?_
      refine zw (RV.ld (by first | exact r3 | exact q0) rfl) ?_
      refine zw (M0 (by first | exact(hs4).drew) Ml (Mt _) rfl rfl _ rfl (by omega)) ?_
      refine zw (RV.fa rfl) ?_
      refine zw (RV.ld (by first | exact r3 | exact q0) rfl) ?_
      refine zw (Ms rfl) ?_
      refine zwH (bZ L6 rfl rfl _ rfl (by omega)) ?_
      refine WS.nil ?_
      refine zh ?_
      by_cases he:(nth ts u).1 = nth [42, 43, 63] i
      · have hop:opM (nth ts u).1 = some i := by
          rw[he]
          obtain rfl | rfl | rfl:i = 0 ∨ i = 1 ∨ i = 2 := by omega
          · decide +kernel
          · decide +kernel
          · decide +kernel
        obtain⟨rfl, rfl⟩:nd' = .mk (6 + (i:Nat)) 0 [nd] ∧ u' = u + 1 := by
          rcases hE with⟨k, h1, h2, h3⟩ | ⟨h1, _⟩
          · rw[hop]at h1; cases h1; exact⟨h2, h3⟩
          · rw[hop]at h1; cases h1
        refine aM rfl ((by rw[he]; simp)) ?_
        generalize w4.drew = wD at *
        refine zh ?_
        refine zv (ai (us := bu x) (fun k u' hu' => hoD.V k u' (lH hu')) (Mi _) (L4 _) rfl) ?_
        refine bq Lc (enc := bu) x rfl rfl rfl (by decide) rfl ?_
        intro w5 h5 hE5
        have hX5:M5 (fun _ => False) O2 wD O2 w5 := ae (fun h => h) O2 hE5
        have hx5 := hxD.U hX5 (by omega) (fun h => h)
        have ho5 := hoD.U hX5 (by omega) (fun h => h)
        have hR5 := hRD.U hX5
        have hUt5 := hUtD.J (hX5.mono (fun _ h => h.elim) hzz)
        have hnt5 := hntD.U hX5
        have hfr:MH O2 w5 (.slice (some ⟨wD.heap.size, 0, none⟩) 1 1) := fun a n c e _ => by
          cases e
          refine⟨Ns fun hne => by have := (hRD.rng _ hne).2; simp at this, ?_⟩
          have hc := World.block_lt_of_cell? _ _ (h5.cells 0 (by simp) 0 _ rfl)
          simpa[adr, Np]using hc
        have hN:Nt O2 w5 (.mk (6 + (i:Nat)) 0 [nd]) (6 + (i:Nat), 0, .slice (some ⟨wD.heap.size, 0, none⟩) 1 1) :=
          .mk (xs := [x]) h5 hfr rfl (fun k hk => by obtain rfl : k = 0 := by simpa using hk
                                                     rw[ar, ar]; exact hnt5)
        have r5:w5.cell? ⟨ob, 3, none⟩ = some (.int .i64 (u:Nat)) := ho5.cell 3 rfl
        refine zv (aI GS (L9 _) rfl (by first | rfl | (simp only[L7, Mf]; rfl)) rfl rfl) ?_
        refine zv (RV.fa rfl) ?_
        refine zv (RV.ld r5 rfl) ?_
        refine zv (Nf rfl rfl (MZ (by omega))) ?_
        refine zv (MB FJ (M8 _) rfl rfl) ?_
        refine zsa (us := (cR ((6 + (i:Nat), 0, .slice (some ⟨wD.heap.size, 0, none⟩) 1 1):N3) (u + 1)).toArray) hx5 (LY _) ?_
        have hx6 := hx5.setRow (us := (cR ((6 + (i:Nat), 0, .slice (some ⟨wD.heap.size, 0, none⟩) 1 1):N3) (u + 1)).toArray)
        have hU6:M5 (fun q => q = T) O2 w5 O2 (w5.setRow xb (cR ((6 + (i:Nat), 0, .slice (some ⟨wD.heap.size, 0, none⟩) 1 1):N3) (u + 1)).toArray) := L1 (by omega) hx5.tag rfl
        have hUt6 := hUt5.J (hU6.mono (fun _ h => by rw[h]; omega) hzz)
        refine zh ?_
        refine aR rfl rfl (hx6.V) (Mq _) (LY _) (⟨aP hUt6 hTT, hu, _, rfl, (hN.U hU6).low hUt6⟩)
      · skip
        refine zFH rfl ((DA he)) ?_
        refine zxd (i + 1, w4.drew) (⟨hi3, hxD, hoD, hntD, hUtD, hRD, fun j hj => (L8.1 hj).elim (hno j) (fun e => by rw[e]; exact fun h => he h.symm)⟩)
    · intro hi3
      obtain rfl:i = 3 := by have := of_decide_eq_false hi3; omega
      have hop:opM (nth ts u).1 = none := by
        have h0 := hno 0 (by omega)
        have h1 := hno (0 + 1) (by omega)
        have h2 := hno (0 + 1 + 1) (by omega)
        rw[ar]at h0
        rw[aX, ar]at h1
        rw[aX, aX, ar]at h2
        unfold opM
        rw[am (fun e => h0 e.symm), am (fun e => h1 e.symm), am (fun e => h2 e.symm)]
      obtain⟨rfl, rfl⟩:nd = nd' ∧ u = u' := by
        rcases hE with⟨k, h1, _⟩ | ⟨_, h2, h3⟩
        · rw[hop]at h1; cases h1
        · exact⟨h2.symm, h3.symm⟩
      refine zh ?_
      refine zv (ai (us := cR x u) ho4.V (Mq _) (LY _) rfl) ?_
      refine zsb (us := (cR x u).toArray) hx4 (LY _) (gS hxo u) ?_
      have hx6 := hx4.setRow (us := (cR x u).toArray)
      have hU6:M5 (fun q => q = T) O2 w4 O2 (w4.setRow xb (cR x u).toArray) := L1 (by omega) hx4.tag rfl
      have hUt6 := hUt4.J (hU6.mono (fun _ h => by rw[h]; omega) hzz)
      refine zh ?_
      refine aR rfl rfl (hx6.V) (Mq _) (LY _) (⟨aP hUt6 hTT, Mn hu, x, rfl, (hnt4.U hU6).low hUt6⟩)
def B8{al:Option PG}{kn:Kn}{ts:List T3}{a1:List Nd}{a0:Nd}(h:Fx al kn ts (n+1) a1 t=some (a0,u')):
  ∃x u,AJ al kn ts t=some (x,u)/\u<ts.length/\((Jt (nth ts u).1=true/\Fx al kn ts n (a1++[x]) u=some (a0,u'))\/(Jt (nth ts u).1=false/\a0=oneM 4 (a1++[x])/\u=u')):=by
 unfold Fx at h
 cases hp:AJ al kn ts t with
 |none=>rw[hp]at h;cases h
 |some p=>
  obtain⟨x,u⟩:=p;rw[hp]at h;dsimp only at h
  split at h
  ·rename_i hu;refine⟨x,u,rfl,hu,?_⟩
   cases hb:Jt (nth ts u).1 with
   |true=>rw[hb,ap rfl]at h;exact .inl ⟨rfl,h⟩
   |false=>rw[hb,am zd]at h;cases h;exact .inr ⟨rfl,rfl,rfl⟩
  cases h
def DJ{al:Option PG}{kn:Kn}{ts:List T3}{a1:List Nd}{a0:Nd}(h:G6 al kn ts (n+1) a1 t=some (a0,u')):
  ∃x u,Fx al kn ts (ts.length+1) [] t=some (x,u)/\u<ts.length/\(((nth ts u).1=124/\G6 al kn ts n (a1++[x]) (u+1)=some (a0,u'))\/((nth ts u).1≠124/\a0=oneM 5 (a1++[x])/\u=u')):=by
 unfold G6 at h
 cases hp:Fx al kn ts (ts.length+1) [] t with
 |none=>rw[hp]at h;cases h
 |some p=>
  obtain⟨x,u⟩:=p;rw[hp]at h;dsimp only at h
  split at h
  ·rename_i hu;refine⟨x,u,rfl,hu,?_⟩
   by_cases hb:(nth ts u).1=124
   ·rw[ap hb]at h;exact .inl ⟨hb,h⟩
   rw[am hb]at h;cases h;exact .inr ⟨hb,rfl,rfl⟩
  cases h
abbrev LK:Array LX:=#[nI 0,nI 0,nS,nI 0,nI 0,nI 0]
structure LoopG(B:Nat)(O0:Nat->Nat)(w0:Mc)(T:Nat)(xb:Nat)(ts:List T3)(n t:Nat)(acc:List Nd)(xs:List N3)(kl:LX)(O:Nat->Nat)(w:Mc):Prop where
 xbk:Me O w T xb LK 237
 row:Nk bu 96 3 O w (T+1) kl xs
 len:acc.length=xs.length
 nts:∀i,i<xs.length->Nt O w (nth acc i) (nth xs i)
 U:M5 (λq=>T<=q) O0 w0 O w
 rng:N6 B O w
 le:t<=ts.length
 few:xs.length+n<=ts.length+1
def Fy(al:Option PG)(kn:Kn)(op:Int)(e6:0<=op/\op<=20)(e5:∀j,j<kn.length->nsz (nth kn j).2<=2000)(ha:Jn al kn op):vW 195 kn op (λts t=>Fx al kn ts (ts.length+1) [] t):=by
 intro B O w ts lv kv t u' e2 hR hs hf e7 hl ht hM;obtain⟨T,f9,hT⟩:=hR.bound;have c6:∀b,¬T<=O b:=λb=>by have:=hT b;omega
 have b1:¬(λq:Nat=>T<=q) 0:=λe=>by omega
 apply M1 func195 ntmps195 rfl rfl;refine zg ?_
 apply aw hR T zo (M8 _) rfl;intro xb w1 O1 d3 d9 e0 d2;have b7:=d9.mono (λ_ h=>by rw[h];omega) b1;dsimp only at hM;refine zg ?_
 apply zlp (λy:Nat×Nat×List Nd×List N3×LX×(Nat->Nat)×World=>[(0,lv),(1,nI (y.2.1:Nat)),(2,nI op),(3,kv),(8,nP xb),(9,y.2.2.2.2.1)]) (λy=>y.2.2.2.2.2.2) (λy=>LoopG B O w T xb ts y.1 y.2.1 y.2.2.1 y.2.2.2.1 y.2.2.2.2.1 y.2.2.2.2.2.1 y.2.2.2.2.2.2/\Fx al kn ts y.1 y.2.2.1 y.2.1=some (e2,u')) (λy=>y.1) (ts.length+1,t,[],[],nS,O1,w1) ⟨⟨d3,Nm _ _ _ _ _ _,rfl,λi hi=>absurd hi (Mj i),b7,e0,ht,by dsimp only;simp⟩,hM⟩;clear d3 d9 e0 d2 b7 hM O1 w1;rintro⟨n,t1,b9,xs,kl,O1,w1⟩ ⟨hL,hM⟩;dsimp only at hL hM ⊢
 obtain⟨n,rfl⟩:∃m,n=m+1:=⟨n-1,by
  cases n with
  |zero=>cases hM
  |succ n=>rfl⟩
 obtain⟨x0,u,hp,hu,b6⟩:=B8 hM;have f':=hL.le;refine zg ?_;have d2:=aP hL.U c6;apply zc call243 (Cu al kn op e6 e5 ha B O1 w1 ts lv kv t1 u x0 hL.rng (hs.ext d2) (hf.U hL.U) (e7.U hL.U) hl hL.le hp);rintro v w2 ⟨f5,f6,x,rfl,b4⟩;have c7:=b4.one;have f8:=hL.few;have d7:M5 (λ_=>False) O1 w1 O1 w2:=ae (λh=>h) O1 f5;apply aw (hL.rng.U d7) (T+2) zo (M8 _) rfl;intro ob w3 O3 c9 d8 e' g0;apply zsb (us:=(cR x u).toArray) c9 (LY _) (gS c7 u);have b':Me O3 (w3.setRow ob (cR x u).toArray) (T+2) ob (cR x u).toArray 237:=c9.setRow;have d1:M5 (λq=>q=T+2) O3 w3 O3 (w3.setRow ob (cR x u).toArray):=L1 zo c9.tag rfl;have c5:M5 (λq=>q=T+2) O1 w1 O3 (w3.setRow ob (cR x u).toArray):=(d7.mono (λ_ h=>h.elim) zo).J (d8.J d1);generalize w3.setRow ob (cR x u).toArray=w4 at *;have b3:∀i,i<xs.length->Nt O3 w4 (nth b9 i) (nth xs i):=λi hi=>(hL.nts i hi).U c5
 have r3:w4.cell? ⟨ob,3,none⟩=some (nI (u:Nat)):=b'.cell 3 rfl;have r5:w4.cell? ⟨ob,5,none⟩=some (nI 0):=b'.cell 5 rfl;refine zg ?_;refine zvG (RV.ld (by first|exact r3|exact r5) rfl) ?_;apply zFG rfl rfl;apply zv (ai (us:=bu x) (λk u' e4=>b'.V k u' (lH e4)) (Mi _) (L4 _) rfl);apply Nv Lc (hL.row.U c5 zo zo) (e'.U d1) ((x:N3)) (λ_=>rfl) rfl rfl rfl (kz c7) zo zo zo zd rfl rfl;intro a9 w5 O5 a0 b8 d';have a':=(hL.xbk.U c5 zo zo).U b8 zo zo;have d5:=b'.U b8 zo zo;have a7:=(hL.U.J (c5.mono (λ_ h=>by rw[h];omega) b1)).J (b8.mono (λ_ h=>by rw[h];omega) b1);have a5:∀i,i<(xs++[x]).length->Nt O5 w5 (nth (b9++[x0]) i) (nth (xs++[x]) i):=λi hi=>by
  rw[aC,aC,hL.len]
  by_cases e:i<xs.length
  ·rw[ap e,ap e];exact(b3 i e).U b8
  rw[am e,am e];obtain rfl:i=xs.length:=by simp at hi;omega
  rw[Nh,ar,ar];exact ((b4.U d8).U d1).U b8
 have a6:(b9++[x0]).length=(xs++[x]).length:=by simp[hL.len]
 have b5:(xs++[x]).length+n<=ts.length+1:=by have:=hL.few;simp;omega
 clear r3 r5;have r3:w5.cell? ⟨ob,3,none⟩=some (nI (u:Nat)):=d5.cell 3 rfl;have d4:=hs.ext (aP a7 c6);have q0:w5.cell? ((adr lv 3 u).add 0)=some (.int .u8 ((nth ts u).1.toNat:Int)):=d4.cell hu rfl;refine zg ?_;refine zvG (RV.ld (by first|exact r3|exact q0) rfl) ?_;refine zvG (M0 (by first|exact d4) Ml (Mt _) rfl rfl _ rfl zo) ?_;refine zvG (RV.ld (by first|exact r3|exact q0) rfl) ?_;refine aU (λw1=>_=w1) (((nth ts u).1.toNat:Int) != 126) 2 rfl rfl rfl rfl rfl rfl ?_ ?_
 ·intro a1;refine zg ?_;refine cp (tA:=35) 3 rfl rfl rfl rfl (λv hv=>(L5 hv).symm.J (congrArg Mx a1)) rfl
 rintro _ rfl;refine zg ?_;refine aU (λw1=>_=w1) (((nth ts u).1.toNat:Int) != 94) 2 rfl rfl rfl rfl rfl rfl ?_ ?_
 ·intro a2;refine zg ?_;refine cp (tA:=39) 3 rfl rfl rfl rfl (λv hv=>(L5 hv).symm.J (congrArg Mx a2)) rfl
 rintro _ rfl;refine zg ?_;refine aU (λw1=>_=w1) (((nth ts u).1.toNat:Int) != 40) 2 rfl rfl rfl rfl rfl rfl ?_ ?_
 ·intro a3;refine zg ?_;refine cp (tA:=43) 3 rfl rfl rfl rfl (λv hv=>(L5 hv).symm.J (congrArg Mx a3)) rfl
 rintro _ rfl;have e8:((((((nth ts u).1.toNat:Int) != 97)&&(((nth ts u).1.toNat:Int) != 126))&&(((nth ts u).1.toNat:Int) != 94))&&(((nth ts u).1.toNat:Int) != 40)) = !(Jt (nth ts u).1):=by
  have h:∀k:Nat,k<256->(((nth ts u).1.toNat:Int)==(k:Int))=((nth ts u).1==UInt8.ofNat k):=λk hk=>fH _ k hk
  have h1:(((nth ts u).1.toNat:Int)==97)=((nth ts u).1==97):=h 97 zd;have h2:(((nth ts u).1.toNat:Int)==126)=((nth ts u).1==126):=h 126 zd;have h3:(((nth ts u).1.toNat:Int)==94)=((nth ts u).1==94):=h 94 zd;have h4:(((nth ts u).1.toNat:Int)==40)=((nth ts u).1==40):=h 40 zd;unfold Jt bne;rw[h1,h2,h3,h4,MN,MN,MN]
 rw[e8];refine zg ?_
 rcases b6 with⟨hb,f4⟩|⟨hb,rfl,rfl⟩
 ·rw[hb];apply zFG rfl rfl;refine zxd (n,u,b9++[x0],xs++[x],a9,O5,w5) ⟨⟨a',a0,a6,a5,a7,d',Mn hu,b5⟩,f4⟩
 rw[hb];apply aM rfl rfl;have f7:=a0.sl.len_le;refine zg ?_;refine zvG (Nc (by first|exact a0.sl) MS rfl) ?_
 by_cases h1:(xs++[x]).length=1
 ·obtain rfl:xs=[]:=Md (by simpa using h1);obtain rfl:b9=[]:=Md (by have:=hL.len;simpa using this);apply zTG rfl rfl;apply zv (ai (us:=cR x u) d5.V (Mq _) (LY _) rfl);apply zsb (us:=(cR x u).toArray) a' (LY _) (gS c7 u);have c8:=a'.setRow (us:=(cR x u).toArray);have b0:M5 (λq=>q=T) O5 w5 O5 (w5.setRow xb (cR x u).toArray):=L1 zo a'.tag rfl;have a4:=a7.J (b0.mono (λ_ h=>by rw[h];omega) b1);refine zg ?_;refine aR rfl rfl c8.V (Mq _) (LY _) ⟨aP a4 c6,Mn hu,x,rfl,?_⟩;have e1:=a5 0 (by simp);rw[Ma,Ma,ar,ar]at e1;rw[show oneM 4 ([]++[x0])=x0 from by simp[oneM,ar]];exact(e1.U b0).low a4
 apply aH rfl ((by rw[beq_eq_false_iff_ne];omega));have d6:=a0.one;refine zg ?_
 refine zvG (aI GS (L9 _) rfl (by first|rfl|(simp only[L7,d6,Mf];rfl)) rfl rfl) ?_;apply zv (MB (cells:=(cR ((4,0,a9):N3) u).toArray) FJ (M8 _) rfl rfl)
 apply zsb (us:=(cR ((4,0,a9):N3) u).toArray) a' (LY _) (gS (x:=(4,0,a9)) d6 u);have c8:=a'.setRow (us:=(cR ((4,0,a9):N3) u).toArray);have b0:M5 (λq=>q=T) O5 w5 O5 (w5.setRow xb (cR ((4,0,a9):N3) u).toArray):=L1 zo a'.tag rfl;have a4:=a7.J (b0.mono (λ_ h=>by rw[h];omega) b1);have a8:=a0.U b0 zo zo;refine zg ?_
 refine aR rfl rfl c8.V (Mq _) (LY _) ⟨aP a4 c6,Mn hu,(4,0,a9),rfl,?_⟩;unfold oneM;rw[am (by rw[a6];exact h1)];exact .mk a8.sl (a8.freeT zo (λb=>by have:=hT b;omega) (d'.U b0) a4) a6 (λi hi=>((a5 i hi).U b0).low a4)
def vQ(al:Option PG)(kn:Kn)(op:Int)(e3:0<=op/\op<=20)(e2:∀j,j<kn.length->nsz (nth kn j).2<=2000)(ha:Jn al kn op):vW 144 kn op (λts t=>G6 al kn ts (ts.length+1) [] t):=by
 intro B O w ts lv kv t u' d' hR hs hf e4 hl ht hM;obtain⟨T,f5,hT⟩:=hR.bound;have b9:∀b,¬T<=O b:=λb=>by have:=hT b;omega
 have a9:¬(λq:Nat=>T<=q) 0:=λe=>by omega
 apply M1 func144 ntmps144 rfl rfl;refine zg ?_
 apply aw hR T zo (M8 _) rfl;intro xb w1 O1 d0 d6 d8 c';have b4:=d6.mono (λ_ h=>by rw[h];omega) a9;dsimp only at hM;refine zg ?_
 apply zlp (λy:Nat×Nat×List Nd×List N3×LX×(Nat->Nat)×World=>[(0,lv),(1,nI (y.2.1:Nat)),(2,nI op),(3,kv),(8,nP xb),(9,y.2.2.2.2.1)]) (λy=>y.2.2.2.2.2.2) (λy=>LoopG B O w T xb ts y.1 y.2.1 y.2.2.1 y.2.2.2.1 y.2.2.2.2.1 y.2.2.2.2.2.1 y.2.2.2.2.2.2/\G6 al kn ts y.1 y.2.2.1 y.2.1=some (d',u')) (λy=>y.1) (ts.length+1,t,[],[],nS,O1,w1) ⟨⟨d0,Nm _ _ _ _ _ _,rfl,λi hi=>absurd hi (Mj i),b4,d8,ht,by dsimp only;simp⟩,hM⟩;clear d0 d6 d8 c' b4 hM O1 w1;rintro⟨n,t1,b6,xs,kl,O1,w1⟩ ⟨hL,hM⟩;dsimp only at hL hM ⊢
 obtain⟨n,rfl⟩:∃m,n=m+1:=⟨n-1,by
  cases n with
  |zero=>cases hM
  |succ n=>rfl⟩
 obtain⟨x0,u,hp,hu,b3⟩:=DJ hM;have f6:=hL.le;refine zg ?_;have c':=aP hL.U b9;apply zc call195 (Fy al kn op e3 e2 ha B O1 w1 ts lv kv t1 u x0 hL.rng (hs.ext c') (hf.U hL.U) (e4.U hL.U) hl hL.le hp);rintro v w2 ⟨e9,e',x,rfl,b1⟩;have b':=b1.one;have f4:=hL.few;have d4:M5 (λ_=>False) O1 w1 O1 w2:=ae (λh=>h) O1 e9;apply aw (hL.rng.U d4) (T+2) zo (M8 _) rfl;intro ob w3 O3 c6 d5 e6 f7;apply zsb (us:=(cR x u).toArray) c6 (LY _) (gS b' u);have b7:Me O3 (w3.setRow ob (cR x u).toArray) (T+2) ob (cR x u).toArray 237:=c6.setRow;have c9:M5 (λq=>q=T+2) O3 w3 O3 (w3.setRow ob (cR x u).toArray):=L1 zo c6.tag rfl;have b8:M5 (λq=>q=T+2) O1 w1 O3 (w3.setRow ob (cR x u).toArray):=(d4.mono (λ_ h=>h.elim) zo).J (d5.J c9);generalize w3.setRow ob (cR x u).toArray=w4 at *;have b0:∀i,i<xs.length->Nt O3 w4 (nth b6 i) (nth xs i):=λi hi=>(hL.nts i hi).U b8
 have r3:w4.cell? ⟨ob,3,none⟩=some (nI (u:Nat)):=b7.cell 3 rfl;have r5:w4.cell? ⟨ob,5,none⟩=some (nI 0):=b7.cell 5 rfl;refine zg ?_;refine zvG (RV.ld (by first|exact r3|exact r5) rfl) ?_;apply zFG rfl rfl;apply zv (ai (us:=bu x) (λk u' e1=>b7.V k u' (lH e1)) (Mi _) (L4 _) rfl);apply Nv Lc (hL.row.U b8 zo zo) (e6.U c9) ((x:N3)) (λ_=>rfl) rfl rfl rfl (kz b') zo zo zo zd rfl rfl;intro a6 w5 O5 a0 b5 d7;have a7:=(hL.xbk.U b8 zo zo).U b5 zo zo;have d2:=b7.U b5 zo zo;have a4:=(hL.U.J (b8.mono (λ_ h=>by rw[h];omega) a9)).J (b5.mono (λ_ h=>by rw[h];omega) a9);have a2:∀i,i<(xs++[x]).length->Nt O5 w5 (nth (b6++[x0]) i) (nth (xs++[x]) i):=λi hi=>by
  rw[aC,aC,hL.len]
  by_cases e:i<xs.length
  ·rw[ap e,ap e];exact(b0 i e).U b5
  rw[am e,am e];obtain rfl:i=xs.length:=by simp at hi;omega
  rw[Nh,ar,ar];exact ((b1.U d5).U c9).U b5
 have a3:(b6++[x0]).length=(xs++[x]).length:=by simp[hL.len]
 have b2:(xs++[x]).length+n<=ts.length+1:=by have:=hL.few;simp;omega
 clear r3 r5;have r3:w5.cell? ⟨ob,3,none⟩=some (nI (u:Nat)):=d2.cell 3 rfl;have d1:=hs.ext (aP a4 b9);have q0:w5.cell? ((adr lv 3 u).add 0)=some (.int .u8 ((nth ts u).1.toNat:Int)):=d1.cell hu rfl;refine zg ?_;refine zvG (RV.ld (by first|exact r3|exact q0) rfl) ?_;refine zvG (M0 (by first|exact d1) Ml (Mt _) rfl rfl _ rfl zo) ?_;refine zvG (RV.ld (by first|exact r3|exact q0) rfl) ?_
 rcases b3 with⟨hb,e8⟩|⟨hb,rfl,rfl⟩
 ·apply zFG rfl ((by rw[hb];rfl));refine zvG (Nf rfl rfl (MZ zo)) ?_
  refine zxd (n,u+1,b6++[x0],xs++[x],a6,O5,w5) ⟨⟨a7,a0,a3,a2,a4,d7,hu,b2⟩,e8⟩
 apply aM rfl ((ti _ 124 zd hb));have f3:=a0.sl.len_le;refine zg ?_
 refine zvG (Nc (by first|exact a0.sl) MS rfl) ?_
 by_cases h1:(xs++[x]).length=1
 ·obtain rfl:xs=[]:=Md (by simpa using h1);obtain rfl:b6=[]:=Md (by have:=hL.len;simpa using this);apply zTG rfl rfl;apply zv (ai (us:=cR x u) d2.V (Mq _) (LY _) rfl);apply zsb (us:=(cR x u).toArray) a7 (LY _) (gS b' u);have c5:=a7.setRow (us:=(cR x u).toArray);have a8:M5 (λq=>q=T) O5 w5 O5 (w5.setRow xb (cR x u).toArray):=L1 zo a7.tag rfl;have a1:=a4.J (a8.mono (λ_ h=>by rw[h];omega) a9);refine zg ?_;refine aR rfl rfl c5.V (Mq _) (LY _) ⟨aP a1 b9,Mn hu,x,rfl,?_⟩;have d9:=a2 0 (by simp);rw[Ma,Ma,ar,ar]at d9;rw[show oneM 5 ([]++[x0])=x0 from by simp[oneM,ar]];exact(d9.U a8).low a1
 apply aH rfl ((by rw[beq_eq_false_iff_ne];omega));have d3:=a0.one;refine zg ?_
 refine zvG (aI GS (L9 _) rfl (by first|rfl|(simp only[L7,d3,Mf];rfl)) rfl rfl) ?_;apply zv (MB (cells:=(cR ((5,0,a6):N3) u).toArray) FJ (M8 _) rfl rfl)
 apply zsb (us:=(cR ((5,0,a6):N3) u).toArray) a7 (LY _) (gS (x:=(5,0,a6)) d3 u);have c5:=a7.setRow (us:=(cR ((5,0,a6):N3) u).toArray);have a8:M5 (λq=>q=T) O5 w5 O5 (w5.setRow xb (cR ((5,0,a6):N3) u).toArray):=L1 zo a7.tag rfl;have a1:=a4.J (a8.mono (λ_ h=>by rw[h];omega) a9);have a5:=a0.U a8 zo zo;refine zg ?_
 refine aR rfl rfl c5.V (Mq _) (LY _) ⟨aP a1 b9,Mn hu,(5,0,a6),rfl,?_⟩;unfold oneM;rw[am (by rw[a3];exact h1)];exact .mk a5.sl (a5.freeT zo (λb=>by have:=hT b;omega) (d7.U a8) a1) a3 (λi hi=>((a2 i hi).U a8).low a1)
def pH(kn:Kn)(a0:∀j,j<kn.length->nsz (nth kn j).2<=2000):∀(d:Nat),d<=20->vW 144 kn (20-(d:Int)) (Bq kn d)
 |0,h=>vQ none kn _ zo a0 (show(20:Int)-((0:Nat):Int)=20 by omega)
 |d+1,h=>by
  have ih:=pH kn a0 d zo;rw[show(20:Int)-(d:Int)=(20-((d+1:Nat):Int))+1 from by omega]at ih;exact vQ (some (Bq kn d)) kn _ zo a0 ⟨zo,zo,ih⟩
def nK(l:List UInt8):∀(n a:Nat),(Fh l n a).length<=n
 |0,_=>L0 _
 |n+1,a=>by
  unfold Fh
  split
  ·simp
  split
  ·have:=nK l n (a+1);omega
  split
  ·have:=nK l n (tw ak l a l.length);simp;omega
  have:=nK l n (a+1);simp;omega
def jq(kn:Kn)(d6:∀j,j<kn.length->nsz (nth kn j).2<=2000)(l:List UInt8)(kv:LX)(nd:Nd)(B:Nat)(O:Nat->Nat)(w:Mc)(hR:N6 B O w)(d9:N4 O w kv kn)(hM:IJ kn l=some nd):
  Ni Mw 104 [.string (bs l),kv] w λv w'=>MK w w'/\nsz nd<=2000/\∃x,v=.tuple #[nv x,nI 0,nI 0]/\Nt O w' nd x:=by
 have hl:¬4096<l.length:=λh=>by unfold IJ at hM;rw[ap h]at hM;cases hM
 have hp:∃u,Bq kn 20 (yR l) 0=some (nd,u)/\u<(yR l).length/\(nth (yR l) u).1=0/\nsz nd<=2000:=by
  unfold IJ at hM;rw[am hl]at hM
  cases hq:Bq kn 20 (yR l) 0 with
  |none=>rw[hq]at hM;cases hM
  |some p=>
   obtain⟨t,u⟩:=p;rw[hq]at hM;dsimp only at hM
   split at hM
   ·rename_i h;cases hM;exact⟨u,rfl,h⟩
   cases hM
 obtain⟨u,ha,hu,h0,d5⟩:=hp;obtain⟨T,e8,hT⟩:=hR.bound;have e2:∀b,¬T<=O b:=λb=>by have:=hT b;omega
 have a0:¬(λq:Nat=>T<=q) 0:=λe=>by omega
 have d4:(yR l).length<=4097:=by have:=nK l (l.length+1) 0;unfold yR;omega
 have hA:=pH kn d6 20 (L0 _);rw[show(20:Int)-((20:Nat):Int)=0 from by omega]at hA;apply M1 func104 ntmps104 rfl rfl;refine zg ?_;apply aw hR T zo (L9 _) rfl;intro xb w1 O1 d3 e1 c8 f3;have b7:M5 (λq=>T<=q) O w O1 w1:=e1.mono (λ_ h=>by rw[h];omega) a0;refine zg ?_;refine zvG (bS L6 rfl) ?_;apply zFG rfl ((decide_eq_false zo));apply zc call143 (Fi l B O1 w1 c8 zo);rintro lv w2 ⟨e6,b',c5⟩;have b3:M5 (λ_=>False) O1 w1 O1 w2:=ae (λh=>h) O1 e6;have c7:=c8.U b3;have a5:=b7.J (b3.mono (λ_ h=>h.elim) a0);refine zg ?_;apply zc call144 (hA B O1 w2 (yR l) lv kv 0 u nd c7 b' c5 (d9.U a5) d4 (Mk _) ha);rintro v w3 ⟨c9,e7,x,rfl,a3⟩;have b8:=a3.one;have a9:M5 (λ_=>False) O1 w2 O1 w3:=ae (λh=>h) O1 c9;have d1:=(d3.U b3 zo (λh=>h)).U a9 zo (λh=>h);apply aw (c7.U a9) (T+1) zo (M8 _) rfl;intro ob w4 O4 a7 e0 e3 e';apply zsb (us:=(cR x u).toArray) a7 (LY _) (gS b8 u);have a6:Me O4 (w4.setRow ob (cR x u).toArray) (T+1) ob (cR x u).toArray 237:=a7.setRow;have a':M5 (λq=>q=T+1) O1 w3 O4 (w4.setRow ob (cR x u).toArray):=e0.J (L1 zo a7.tag rfl);have e9:=e3.U (L1 (S:=λq=>q=T+1) (us:=(cR x u).toArray) zo a7.tag rfl)
 have b9:=(b'.ext c9).U (c5.U a9) a';generalize w4.setRow ob (cR x u).toArray=w5 at *;have b5:=(a5.J (a9.mono (λ_ h=>h.elim) a0)).J (a'.mono (λ_ h=>by rw[h];omega) a0);have a2:=a3.U a';have r3:w5.cell? ⟨ob,3,none⟩=some (nI (u:Nat)):=a6.cell 3 rfl;have r5:w5.cell? ⟨ob,5,none⟩=some (nI 0):=a6.cell 5 rfl;have q0:w5.cell? ((adr lv 3 u).add 0)=some (.int .u8 ((nth (yR l) u).1.toNat:Int)):=b9.cell hu rfl;refine zg ?_;refine zvG (RV.ld (by first|exact r3|exact r5|exact q0) rfl) ?_;refine aU (λw1=>_=w1) (((nth (yR l) u).1.toNat:Int) != 0) 7 rfl rfl rfl rfl rfl rfl ?_ ?_
 ·intro a1;refine zg ?_;refine zvG (RV.ld (by first|exact r3|exact r5|exact q0) rfl) ?_;refine zvG (M0 (by first|exact b9) Ml (Mt _) rfl rfl _ rfl zo) ?_;refine zvG (RV.ld (by first|exact r3|exact r5|exact q0) rfl) ?_;refine cp (tA:=21) 8 rfl rfl rfl rfl (λv hv=>(L5 hv).symm.J (congrArg Mx a1)) rfl
 rintro _ rfl;refine zg ?_;apply zFG rfl ((by rw[h0];rfl));refine zvG (RV.ld (by first|exact r3|exact r5|exact q0) rfl) ?_;apply zFG rfl rfl;apply zv (ai (us:=bu x) (λk u' b1=>a6.V k u' (lH b1)) (Mi _) (L4 _) rfl);apply zc call146 (oC (nsz nd) nd (L0 _) x w5 2000 a2.zero zo);rintro v w6 ⟨rfl,e5⟩;have a8:M5 (λ_=>False) O4 w5 O4 w6:=ae (λh=>h) O4 e5;have b0:=(d1.U a' zo zo).U a8 zo (λh=>h);refine zg ?_;apply zFG rfl ((decide_eq_false zo));apply zv (ai (us:=bu x) (λk u' b1=>(a6.U a8 zo (λh=>h)).V k u' (lH b1)) (Mi _) (L4 _) rfl);apply zsb (us:=#[nI x.1,nI x.2.1,x.2.2]) b0 (L4 _) (cj b8);have c6:M5 (λq=>q=T) O4 w6 O4 (w6.setRow xb #[nI x.1,nI x.2.1,x.2.2]):=L1 zo b0.tag rfl;have a4:=(b5.J (a8.mono (λ_ h=>h.elim) a0)).J (c6.mono (λ_ h=>by rw[h];omega) a0);refine zg ?_;refine cH rfl rfl rfl rfl (b0.setRow (us:=#[nI x.1,nI x.2.1,x.2.2])).V (Mi _) (L4 _) ⟨aP a4 e2,d5,x,rfl,((a2.U a8).U c6).low a4⟩
def ya(c:UInt8)(w:Mc):Ni Mw 102 [.int .u8 (c.toNat:Int)] w λv w'=>v=.bool (ak c)/\w'=w:=by
 apply M1 func102 ntmps102 rfl rfl;refine zh ?_
 by_cases h1:65<=c.toNat
 ·apply ay (d:=5) rfl (b':=true) (decide_eq_true zo);refine zh ?_
  by_cases h2:c.toNat<=90
  ·apply ay (d:=9) rfl (b':=true) (decide_eq_true zo);refine zh ?_
   refine ah rfl rfl ⟨by simp[ak,h1,h2],rfl⟩
  apply ay (d:=9) rfl (b':=false) (decide_eq_false zo);refine zh ?_
  by_cases h3:97<=c.toNat
  ·apply ay (d:=12) rfl (b':=true) (decide_eq_true zo);refine zh ?_
   have e:decide ((c.toNat:Int)<=122)=decide (c.toNat<=122):=decide_eq_decide.2 zo;refine ah rfl rfl ⟨by rw[e];simp[ak,h1,h2,h3],rfl⟩
  apply ay (d:=12) rfl (b':=false) (decide_eq_false zo);refine zh ?_
  refine ah rfl rfl ⟨by simp[ak,h1,h2,h3],rfl⟩
 apply ay (d:=5) rfl (b':=false) (decide_eq_false zo);refine zh ?_
 by_cases h3:97<=c.toNat
 ·apply ay (d:=12) rfl (b':=true) (decide_eq_true zo);refine zh ?_
  have e:decide ((c.toNat:Int)<=122)=decide (c.toNat<=122):=decide_eq_decide.2 zo;refine ah rfl rfl ⟨by rw[e];simp[ak,h1,h3],rfl⟩
 apply ay (d:=12) rfl (b':=false) (decide_eq_false zo);refine zh ?_
 refine ah rfl rfl ⟨by simp[ak,h1,h3],rfl⟩
def jl(l:List UInt8)(a b:Nat)(a6:a<=b)(hb:b<=l.length)(w:Mc)(hl:l.length<=4096):Ni Mw 68 [.string (bs l),nI (a:Nat),nI (b:Nat)] w λv w'=>v=nI ((tw bA l a b:Nat):Int)/\w'=w:=by
 apply M1 func68 ntmps68 rfl rfl;refine zh ?_
 apply zlp (λk:Nat=>[(0,.string (bs l)),(1,nI (k:Nat)),(2,nI (b:Nat))]) (λk=>w) (λk=>a<=k/\k<=b/\∀i,a<=i->i<k->bA (nth l i)=true) (λk=>b-k) a ⟨L0 _,a6,λi h1 h2=>zo⟩;rintro k ⟨a5,a4,a0⟩;refine zh ?_
 refine aU (λw1=>_=w1) ((((nth l k).toNat:Int)==32)) 4 rfl rfl rfl rfl rfl rfl ?_ ?_
 ·intro a1;have a7:=dT a1;refine zh ?_;refine zvH (bZ L6 rfl rfl _ rfl zo) ?_;refine nE 10 5 rfl a1
 rintro _ rfl;rw[show(((nth l k).toNat:Int)==32)=bA (nth l k)from fH _ 32 zd];refine zh ?_;refine zC ?_ ?_
 ·intro hc;rw[L3]at hc;have a3:k<b:=by have:=of_decide_eq_true hc.1;omega
  refine zh ?_;refine zxd (k+1) ⟨zo,a3,λi h1 h2=>(L8.1 h2).elim (a0 i h1) (λe=>by rw[e];exact hc.2)⟩
 intro hc;have a2:k=b\/bA (nth l k)=false:=by
  rcases M9.1 hc with h|h
  ·exact .inl (by have:=of_decide_eq_false h;omega)
  exact .inr h
 refine zh ?_;refine ah rfl rfl ⟨by rw[xj a5 a4 hb a0 a2],rfl⟩
def rL(l:List UInt8)(a b:Nat)(a7:a<=b)(hb:b<=l.length)(w:Mc)(hl:l.length<=4096):Ni Mw 69 [.string (bs l),nI (a:Nat),nI (b:Nat)] w λv w'=>v=nI ((tw ak l a b:Nat):Int)/\w'=w:=by
 apply M1 func69 ntmps69 rfl rfl;refine zh ?_
 apply zlp (λk:Nat=>[(0,.string (bs l)),(1,nI (k:Nat)),(2,nI (b:Nat))]) (λk=>w) (λk=>a<=k/\k<=b/\∀i,a<=i->i<k->ak (nth l i)=true) (λk=>b-k) a ⟨L0 _,a7,λi h1 h2=>zo⟩;rintro k ⟨a6,a5,a2⟩;refine zh ?_
 refine aU (λw1=>_=w1) (ak (nth l k)) 4 rfl rfl rfl rfl rfl rfl ?_ ?_
 ·intro a1;have a8:=dT a1;refine zh ?_;refine zvH (bZ L6 rfl rfl _ rfl zo) ?_;apply zc call102 (ya (nth l k) w);rintro v w9 ⟨rfl,a0⟩;rw[a0];clear a0 w9;refine zh ?_;refine nE 10 5 rfl a1
 rintro _ rfl;refine zh ?_;refine zC ?_ ?_
 ·intro hc;rw[L3]at hc;have a4:k<b:=by have:=of_decide_eq_true hc.1;omega
  refine zh ?_;refine zxd (k+1) ⟨zo,a4,λi h1 h2=>(L8.1 h2).elim (a2 i h1) (λe=>by rw[e];exact hc.2)⟩
 intro hc;have a3:k=b\/ak (nth l k)=false:=by
  rcases M9.1 hc with h|h
  ·exact .inl (by have:=of_decide_eq_false h;omega)
  exact .inr h
 refine zh ?_;refine ah rfl rfl ⟨by rw[xj a6 a5 hb a2 a3],rfl⟩
def IF{l:List Int}{c:Int}(hk:k<=l.length)(h1:∀i,i<k->nth l i<c)(h2:k=l.length\/¬nth l k<c):GQ l c=if k<l.length/\nth l k=c then l else l.take k++[c]++l.drop k:=by
 have a0:(l.takeWhile (λx=>decide (x<c))).length=k:=gz hk (λi hi=>decide_eq_true (h1 i hi)) (h2.imp id (λh=>decide_eq_false h));have a2:=Mz (p:=λx=>decide (x<c)) (l:=l);have e1:l.take k=l.takeWhile (λx=>decide (x<c)):=by
  conv=>lhs;rw[<-a2]
  rw[List.take_left' a0]
 have e2:l.drop k=l.dropWhile (λx=>decide (x<c)):=by
  conv=>lhs;rw[<-a2]
  rw[List.drop_left' a0]
 unfold GQ;rw[<-e1,<-e2]
 by_cases a1:k<l.length
 ·have e3:(l.drop k).head? = some (nth l k):=by rw[MF a1,aD a1];rfl
  rw[e3]
  by_cases e:nth l k=c
  ·rw[ap (by rw[e]),ap ⟨a1,e⟩]
  rw[am (λh=>e (L5 h)),am (λh=>e h.2)]
 rw[List.drop_of_length_le zo,am (show¬([]:List Int).head? = some c from by simp),am (λh=>a1 h.1)]
def ID(l:List Int)(c:Int)(sv:LX)(B:Nat)(O:Nat->Nat)(w:Mc)(b6:N6 B O w)(h:Sl encI 1 w sv l)(hf:MH O w sv)(hl:l.length<=100000):Ni Mw 105 [sv,nI c] w λv w'=>MK w w'/\Sl encI 1 w' v (GQ l c)/\MH O w' v:=by
 obtain⟨T,c7,hT⟩:=b6.bound;have c6:∀b,¬T<=O b:=λb=>by have:=hT b;omega
 have a0:¬(λq:Nat=>T<=q) 0:=λe=>zo
 have d2:=h.len_le;apply M1 func105 ntmps105 rfl rfl;refine zh ?_;apply zlp (λk:Nat=>[(0,sv),(1,nI c),(5,nI (k:Nat))]) (λk=>w) (λk=>k<=l.length/\∀i,i<k->nth l i<c) (λk=>l.length-k) 0 ⟨Mk _,λi hi=>absurd hi (Mj i)⟩;rintro k ⟨hk,b3⟩;refine zh ?_;refine aU (λw1=>_=w1) (decide (nth l k<c)) 6 rfl rfl rfl rfl rfl rfl ?_ ?_
 ·intro a1;have d1:k<l.length:=dT a1;have m1:=h.ld d1;refine zh ?_;refine nE 10 7 rfl a1
 rintro _ rfl;refine zh ?_;refine zC ?_ ?_
 ·intro hc;rw[L3]at hc;have b9:k<l.length:=by have:=of_decide_eq_true hc.1;omega
  refine zh ?_;refine zxd (k+1) ⟨b9,λi hi=>(L8.1 hi).elim (b3 i) (λe=>by rw[e];exact of_decide_eq_true hc.2)⟩
 intro hc;have b7:k=l.length\/¬nth l k<c:=by
  rcases M9.1 hc with h|h
  ·exact .inl (by have:=of_decide_eq_false h;omega)
  exact .inr (of_decide_eq_false h)
 have hP:=IF hk b3 b7;refine zh ?_;refine aU (λw1=>_=w1) ((nth l k==c)) 6 rfl rfl rfl rfl rfl rfl ?_ ?_
 ·intro a2;have d0:k<l.length:=dT a2;have m1:=h.ld d0;refine zh ?_;refine nE 24 7 rfl a2
 rintro _ rfl;refine zh ?_;refine zC ?_ ?_
 ·intro he;rw[L3]at he;rw[ap ⟨by have:=of_decide_eq_true he.1;omega,eq_of_beq he.2⟩]at hP;rw[hP];refine zh ?_;refine ah rfl rfl ⟨Mp _,h,hf⟩
 intro he;rw[am (λe=>by rw[decide_eq_true (show(k:Int)<(l.length:Int) by omega),beq_iff_eq.2 e.2]at he;cases he)]at hP;rw[hP];have b2:∀W,MK w W->Sl encI 1 W (dk sv 1 0 k) (l.take k):=λW hE=>by have:=(h.ext hE).slice (Mk k) hk;simpa using this
 have c':∀W,MK w W->Sl encI 1 W (dk sv 1 k l.length) (l.drop k):=λW hE=>by have:=(h.ext hE).slice hk (L0 _);rwa[MV]at this
 have kE:∀O1 W,M5 (λq=>T<=q) O w O1 W->MK w W:=λO1 W u=>aP u c6
 have hU:M5 (λq=>T<=q) O w O w.drew:=(MO a0 O w).drew;have hR:=b6.drew;refine zh ?_;apply aO (λW=>MK w W) 13 rfl zk;refine zin (kE _ _ hU) λzS=>?_
 apply zrm 1 rfl zS rfl;apply zrm 2 rfl zS rfl
 apply zt 3 rfl zS (λw1 a'=>rJ (h.ext a') Nq (Mv _) rfl rfl k rfl hk);apply zrm 5 rfl zS rfl
 apply zrm 8 rfl zS rfl;apply zrm 9 rfl zS rfl
 apply zt 10 rfl zS (λw1 a'=>mS (h.ext a') Nq (Mv _) rfl rfl k rfl hk);refine ja (λx:LX×LX×(Nat->Nat)×World=>[(37,x.1),(39,x.2.1),(43,dk sv 1 k l.length)]) (λx=>x.2.2.2) (λx=>Nk encI 3 1 x.2.2.1 x.2.2.2 T x.1 ([]++l.take k)/\Nk encI 3 1 x.2.2.1 x.2.2.2 (T+1) x.2.1 [c]/\M5 (λq=>T<=q) O w x.2.2.1 x.2.2.2/\N6 B x.2.2.1 x.2.2.2) #[true,true,true,true,true,true,true,false,true,true,true,false,false] 3 ?_ ?_
 ·intro hN;refine bK 0 6 zk rfl rfl ?_ ?_ 
  ·apply cA By encI hR T zo rfl;intro rv wa Oa fA a7 b1;have hU:=ix hU (a7.mono (λ_ h=>by rw[h];exact L0 _) a0);have hR:=b1
   try have fC:=ln fC a7 zo zo
   refine zh ?_;apply af (kE _ _ hU)
   refine bK 4 6 zk rfl rfl ?_ ?_ 
   ·apply aL By fA hR (b2 _ (kE _ _ hU)) rfl rfl (λ_ _=>rfl) (λu hu c hc=>by rw[M6.1 hc];rfl) (by simp;omega) (by simp;omega) zo rfl;intro pv wb Ob fB a5 a9;have hU:=ix hU (a5.mono (λ_ h=>by rw[h];exact L0 _) a0);have hR:=a9
    try have fC:=ln fC a5 zo zo
    refine zh ?_;apply af (kE _ _ hU)
    apply L2 6 zk rfl;apply aN By (enc:=encI) hR (T+1) zo c rfl rfl rfl zd rfl
    intro cv wc Oc fC a3 a8;have hU:=ix hU (a3.mono (λ_ h=>by rw[h];exact MP _) a0);have hR:=a8
    try have fA:=ln fA a3 zo zo
    try have fB:=ln fB a3 zo zo
    refine zh ?_;apply af (kE _ _ hU)
    exact LZ (hN (pv,cv,_,_) ⟨fB,fC,hU,hR⟩) zk ⟨rfl,rfl,rfl,trivial⟩ rfl
   apply aN By (enc:=encI) hR (T+1) zo c rfl rfl rfl zd rfl;intro cv wc Oc fC a3 a8;have hU:=ix hU (a3.mono (λ_ h=>by rw[h];exact MP _) a0);have hR:=a8
   try have fA:=ln fA a3 zo zo
   try have fB:=ln fB a3 zo zo
   refine zh ?_;apply af (kE _ _ hU)
   apply L2 4 zk rfl;apply aL By fA hR (b2 _ (kE _ _ hU)) rfl rfl (λ_ _=>rfl) (λu hu c hc=>by rw[M6.1 hc];rfl) (by simp;omega) (by simp;omega) zo rfl
   intro pv wb Ob fB a5 a9;have hU:=ix hU (a5.mono (λ_ h=>by rw[h];exact L0 _) a0);have hR:=a9
   try have fC:=ln fC a5 zo zo
   refine zh ?_;apply af (kE _ _ hU)
   exact LZ (hN (pv,cv,_,_) ⟨fB,fC,hU,hR⟩) zk ⟨rfl,rfl,rfl,trivial⟩ rfl
  apply aN By (enc:=encI) hR (T+1) zo c rfl rfl rfl zd rfl;intro cv wc Oc fC a3 a8;have hU:=ix hU (a3.mono (λ_ h=>by rw[h];exact MP _) a0);have hR:=a8
  try have fA:=ln fA a3 zo zo
  try have fB:=ln fB a3 zo zo
  refine zh ?_;apply af (kE _ _ hU)
  apply L2 0 zk rfl;apply cA By encI hR T zo rfl
  intro rv wa Oa fA a7 b1;have hU:=ix hU (a7.mono (λ_ h=>by rw[h];exact L0 _) a0);have hR:=b1
  try have fC:=ln fC a7 zo zo
  refine zh ?_;apply af (kE _ _ hU)
  apply L2 4 zk rfl;apply aL By fA hR (b2 _ (kE _ _ hU)) rfl rfl (λ_ _=>rfl) (λu hu c hc=>by rw[M6.1 hc];rfl) (by simp;omega) (by simp;omega) zo rfl
  intro pv wb Ob fB a5 a9;have hU:=ix hU (a5.mono (λ_ h=>by rw[h];exact L0 _) a0);have hR:=a9
  try have fC:=ln fC a5 zo zo
  refine zh ?_;apply af (kE _ _ hU)
  exact LZ (hN (pv,cv,_,_) ⟨fB,fC,hU,hR⟩) zk ⟨rfl,rfl,rfl,trivial⟩ rfl
 rintro⟨pv,cv,O7,w7⟩ ⟨fB,fC,b4,b5⟩;dsimp only at fB fC b4 b5 ⊢;apply L2 7 zk rfl;apply aL By fB b5 fC.sl rfl rfl (λ_ _=>rfl) (λu hu c hc=>by rw[M6.1 hc];rfl) (by simp;omega) (by simp;omega) zo rfl;intro qv w8 O8 b8 c5 c9;have a6:=b4.J (c5.mono (λ_ h=>by rw[h];exact L0 _) a0);refine zh ?_;apply af (kE _ _ a6);apply L2 11 zk rfl;apply aL By b8 c9 (c' _ (kE _ _ a6)) rfl rfl (λ_ _=>rfl) (λu hu c hc=>by rw[M6.1 hc];rfl) (by simp;omega) (by simp;omega) zo rfl;intro zv w9 O9 b0 b' c8;have a4:=a6.J (b'.mono (λ_ h=>by rw[h];exact L0 _) a0);refine zh ?_;apply af (kE _ _ a4);apply zra 12 rfl (kE _ _ a4) rfl;apply Mo zk;refine zh ?_;rw[Ma]at b0;refine ah rfl rfl ⟨kE _ _ a4,b0.sl,b0.freeT c7 hT c8 a4⟩
def zD(l:List UInt8)(a b bg:Nat)(b1:a<=b)(hb:b<=l.length)(hl:l.length<=4096)(xp a':LX)(B:Nat)(O:Nat->Nat)(w:Mc)(hR:N6 B O w)(a2:List Int)(hM:ve l a b=some a2):
  Ni Mw 71 [xp,.string (bs l),nI (bg:Nat),nI (a:Nat),nI (b:Nat),a',.bool false] w λv w'=>MK w w'/\Sl encI 1 w' v a2/\MH O w' v:=by
 have hz:∀w:Mc,Sl encI 1 w nS ([]:List Int)/\MH O w (nS):=λw=>⟨⟨⟨none,0,rfl,L0 _,zd,λh=>absurd rfl h⟩,λi hi=>absurd hi (by simp)⟩,λa n c e=>by cases e⟩
 have a4:vd l b (l.length+1) (tw bA l a b) []=some a2/\a2≠[]:=by
  unfold ve at hM
  cases hg:vd l b (l.length+1) (tw bA l a b) []with
  |none=>rw[hg]at hM;cases hM
  |some o=>
   rw[hg]at hM
   cases o with
   |nil=>cases hM
   |cons x r=>cases hM;exact⟨rfl,by simp⟩
 obtain⟨a4,b5⟩:=a4;clear hM;apply M1 func71 ntmps71 rfl rfl;refine zh ?_;refine zFH rfl rfl ?_;apply zc MT (jl l a b b1 hb w hl);rintro v w9 ⟨rfl,a1⟩;rw[a1];clear a1 w9;refine zh ?_;apply zlp (λy:Nat×Nat×List Int×LX×Mc=>[(0,xp),(1,.string (bs l)),(2,nI (bg:Nat)),(3,nI (y.2.1:Nat)),(4,nI (b:Nat)),(5,a'),(6,.bool false),(15,y.2.2.2.1)]) (λy=>y.2.2.2.2) (λy=>y.2.1<=b/\vd l b y.1 y.2.1 y.2.2.1=some a2/\Sl encI 1 y.2.2.2.2 y.2.2.2.1 y.2.2.1/\MH O y.2.2.2.2 y.2.2.2.1/\MK w y.2.2.2.2/\y.2.2.1.length+y.1<=l.length+1) (λy=>y.1) (l.length+1,tw bA l a b,[],nS,w) ⟨(tV (p:=bA) b1 hb).2,a4,(hz _).1,(hz _).2,Mp _,by simp⟩;clear a4;rintro⟨n,a0,a3,lv,w1⟩ ⟨ha,hM,hs,hf,hE,hn⟩;dsimp only at ha hM hs hf hE hn ⊢
 obtain⟨n,rfl⟩:∃m,n=m+1:=⟨n-1,by
  cases n with
  |zero=>cases hM
  |succ n=>rfl⟩
 refine zh ?_;refine zC ?_ ?_
 ·intro a7;replace a7:a0<b:=dT a7;unfold vd at hM;rw[am zo]at hM;have b8:ak (nth l a0)=true/\∃c,my (jF l a0 (tw ak l a0 b))=some c/\vd l b n (tw bA l (tw ak l a0 b) b) (GQ a3 (c:Nat))=some a2:=by
   split at hM
   ·rename_i a8;refine⟨a8,?_⟩
    cases hq:my (jF l a0 (tw ak l a0 b))with
    |none=>rw[hq]at hM;cases hM
    |some c=>rw[hq]at hM;exact⟨c,rfl,hM⟩
   cases hM
  obtain⟨a8,c,b0,b7⟩:=b8;clear hM;have a6:=tV (p:=ak) ha hb;have b':=Ii (p:=ak) a7 hb a8;refine zh ?_;apply zc Nu (rL l a0 b ha hb w1 hl);rintro v w9 ⟨rfl,a1⟩;rw[a1];clear a1 w9;generalize tw ak l a0 b=en at *;refine zh ?_;apply zv (cm L6 rfl rfl rfl a0 en rfl rfl a6.1 zo);apply zc call103 (oE (jF l a0 en) w1);rintro v w2 ⟨rfl,a5⟩;rw[show qU namesL (jF l a0 en)=((c:Nat):Int)from by unfold my at b0;unfold qU;rw[b0]];refine zh ?_;refine zFH rfl ((by rw[beq_eq_false_iff_ne];omega)) ?_;refine zFH rfl ((decide_eq_false zo)) ?_;apply zc call105 (ID a3 (c:Nat) lv B O w2 (hR.ext (hE.J a5)) (hs.ext a5) (hf.U (ae (S:=λ_=>False) (λh=>h) O a5)) zo);rintro v w3 ⟨b9,b4,b6⟩;refine zh ?_;apply zc MT (jl l en b a6.2 hb w3 hl);rintro _ w9 ⟨rfl,a1⟩;rw[a1];clear a1 w9;refine zh ?_;have c5:(GQ a3 (c:Nat)).length<=a3.length+1:=by
   unfold GQ
   split
   ·omega
   have h:=congrArg List.length (Mz (p:=λx=>decide (x<((c:Nat):Int))) (l:=a3));rw[MQ]at h;simp;omega
  refine zxd (n,tw bA l en b,GQ a3 (c:Nat),v,w3) ⟨(tV (p:=bA) a6.2 hb).2,b7,b4,b6,(hE.J a5).J b9,by dsimp only;omega⟩
 intro a9;replace a9:b<=a0:=dF a9;unfold vd at hM;rw[ap a9]at hM
 cases hM
 refine zh ?_;refine zFH rfl ((by rw[beq_eq_false_iff_ne];have:=List.length_pos_iff.2 b5;omega)) ?_
 refine ah rfl rfl ⟨hE,hs,hf⟩
def stC(ig kp rv kv:LX)(st:St)(pl:Int):Array LX:=#[ig,kp,rv,kv,.bool st.hi,.bool st.hk,nI pl,nI 0]
abbrev stT:TypeId:=151
def KU:cI Mw 185 #[(0,1),(1,3)]:=⟨_,underlying185,λw=>by kernel_rfl⟩
def LG:cI Mw 98 #[(0,3),(3,3),(6,1)]:=⟨_,underlying98,λw=>by kernel_rfl⟩
def ql:Elem Mw 149 185 4 56:=⟨Mh,by kernel_rfl,zd⟩
def qk:Elem Mw 43 98 7 88:=⟨underlying43,by kernel_rfl,zd⟩
def ug(l:List UInt8)(a b:Nat)(b8:a<=b)(hb:b<=l.length)(hl:l.length<=4096)(kn:Kn)(b6:∀j,j<kn.length->nsz (nth kn j).2<=2000)(st:St)(i xb:Nat)(kv ig kp rv:LX)(pl:Int)(nd:Nd)(B:Nat)(O:Nat->Nat)(w:Mc) 
  (c6:N6 B O w) (_:i≠0) (h:Me O w i xb (stC ig kp rv kv st pl) stT) (b7:N4 O w kv kn) (hM:uf kn l a b=some nd) :
  Ni Mw 106 [nP xb,.string (bs l),nI (a:Nat),nI (b:Nat)] w λv w'=>MK w w'/\nsz nd<=2000/\∃x,v=nv x/\Nt O w' nd x:=by
 obtain⟨T,d7,hT⟩:=c6.bound;have d6:i<T:=by rw[<-h.tag];exact hT xb
 have b1:∀b,¬T<=O b:=λb=>by have:=hT b;omega
 have a1:¬(λq:Nat=>T<=q) 0:=λe=>zo
 apply M1 func106 ntmps106 rfl rfl;refine zh ?_
 apply aw c6 (T+1) zo (L9 _) rfl;intro yb w1 O1 a7 d2 d4 d8;have a6:=d2.mono (λ_ h=>by rw[h];omega) a1;refine zh ?_
 apply zc MT (jl l a b b8 hb w1 hl);rintro v w9 ⟨rfl,b5⟩;rw[b5];clear b5 w9;unfold uf at hM;refine zh ?_
 by_cases hs:tw bA l a b=b
 ·rw[ap hs]at hM
  cases hM
  refine zTH rfl ((by rw[hs];simp)) ?_;apply zv (aI GS (L9 _) rfl (by first|rfl|(simp only[L7,Mf];rfl)) rfl rfl)
  apply zsa (us:=#[nI 9,nI 0,nS]) a7 (L4 _);have c9:=a7.setRow (us:=#[nI 9,nI 0,nS]);have d1:M5 (λq=>q=T+1) O1 w1 O1 (w1.setRow yb #[nI 9,nI 0,nS]):=L1 zo a7.tag rfl;have a':=a6.J (d1.mono (λ_ h=>by rw[h];omega) a1);refine zh ?_
  refine aR rfl rfl c9.V (Mi _) (L4 _) ⟨aP a' b1,zd,(9,0,nS),rfl,MJ _ _ _ _⟩
 rw[am hs]at hM;have hP:=hM;have kE:∀O1 W,M5 (λq=>T<=q) O w O1 W->W.cell? (nA xb 3)=some kv:=λO1 W u=>(aP u b1).cell (h.cell 3 rfl)
 have hU:=a6.drew;have hR:=d4.drew;have c7:Me O1 w1.drew (T+1) yb #[nI 0,nI 0,nS] 96:=a7.drew;refine zFH rfl ((by rw[beq_eq_false_iff_ne];omega)) ?_;apply aO (λW=>W.cell? (nA xb 3)=some kv) 17 rfl zk;refine zin (kE _ _ hU) λzS=>?_
 apply zrm 0 rfl zS rfl;apply zrm 1 rfl zS rfl
 apply zrm 2 rfl zS rfl;apply zr 3 rfl zS (λ_=>cm L6 rfl rfl rfl a b rfl rfl b8 hb)
 apply zrm 4 rfl zS rfl;apply zr 5 rfl zS (λ_=>aq rfl)
 apply zrf 6 rfl zS rfl;apply zt 7 rfl zS (λw1 c'=>RV.ld c' rfl)
 refine ja (λz:Nat×N3×(Nat->Nat)×World=>[(8,nP yb),(9,.pointer (some ⟨z.1,0,none⟩)),(29,nv z.2.1),(30,nI 0),(31,nI 0)]) (λz=>z.2.2.2) (λz=>Nt z.2.2.1 z.2.2.2 nd z.2.1/\Me z.2.2.1 z.2.2.2 T z.1 #[nI 0,nI 0,nS] 96/\Me z.2.2.1 z.2.2.2 (T+1) yb #[nI 0,nI 0,nS] 96/\M5 (λq=>T<=q) O w z.2.2.1 z.2.2.2/\N6 B z.2.2.1 z.2.2.2/\nsz nd<=2000) #[true,true,true,true,true,true,true,true,true,true,true,true,true,true,false,false,false] 3 ?_ ?_
 ·intro hN;have fY:=c7;refine bK 8 13 zk rfl rfl ?_ ?_ 
  ·apply zc Na (jq kn b6 _ kv nd B _ _ hR (b7.U hU) hP);rintro v wa ⟨b3,a3,x,rfl,fA⟩;have a0:=λO=>ae (S:=λ_=>False) (λh=>h) O b3
   have hU:=ix hU ((a0 _).mono (λ_ h=>h.elim) a1);have hR:=Mr hR (a0 _);have fY:=M7 fY (a0 _) zo (λh=>h)
   try have fB:=M7 fB (a0 _) zo (λh=>h)
   refine zh ?_;refine zaf (kE _ _ hU) λzS=>?_
   apply zrm 9 rfl zS rfl;apply zr 10 rfl zS (λ_=>Mb rfl rfl)
   apply zr 11 rfl zS (λ_=>Mb rfl rfl);apply zr 12 rfl zS (λ_=>Mb rfl rfl)
   apply L2 13 zk rfl;apply aw hR T zo (L9 _) rfl
   intro nb wb Ob fB a2 b2 d5;have hU:=ix hU (a2.mono (λ_ h=>by rw[h];exact L0 _) a1);have hR:=b2;have fY:=M7 fY a2 zo zo
   try have fA:=Ng fA a2
   refine zh ?_;apply af (kE _ _ hU)
   exact LZ (hN (nb,x,_,_) ⟨fA,fB,fY,hU,hR,a3⟩) zk ⟨rfl,rfl,rfl,rfl,rfl,trivial⟩ rfl
  apply aw hR T zo (L9 _) rfl;intro nb wb Ob fB a2 b2 d5;have hU:=ix hU (a2.mono (λ_ h=>by rw[h];exact L0 _) a1);have hR:=b2;have fY:=M7 fY a2 zo zo
  try have fA:=Ng fA a2
  refine zh ?_;apply af (kE _ _ hU)
  apply L2 8 zk rfl;apply zc Na (jq kn b6 _ kv nd B _ _ hR (b7.U hU) hP)
  rintro v wa ⟨b3,a3,x,rfl,fA⟩;have a0:=λO=>ae (S:=λ_=>False) (λh=>h) O b3
  have hU:=ix hU ((a0 _).mono (λ_ h=>h.elim) a1);have hR:=Mr hR (a0 _);have fY:=M7 fY (a0 _) zo (λh=>h)
  try have fB:=M7 fB (a0 _) zo (λh=>h)
  refine zh ?_;refine zaf (kE _ _ hU) λzS=>?_
  apply zrm 9 rfl zS rfl;apply zr 10 rfl zS (λ_=>Mb rfl rfl)
  apply zr 11 rfl zS (λ_=>Mb rfl rfl);apply zr 12 rfl zS (λ_=>Mb rfl rfl)
  exact LZ (hN (nb,x,_,_) ⟨fA,fB,fY,hU,hR,a3⟩) zk ⟨rfl,rfl,rfl,rfl,rfl,trivial⟩ rfl
 rintro⟨nb,x,O7,w7⟩ ⟨fA,fB,fY,c5,d3,a3⟩;dsimp only at fA fB fY c5 d3 ⊢;have b4:=fA.one;apply L2 14 zk rfl;apply zsb (us:=#[nI x.1,nI x.2.1,x.2.2]) fB (L4 _) (cj b4);have d0:=fB.setRow (us:=#[nI x.1,nI x.2.1,x.2.2]);have b0:M5 (λq=>q=T) O7 w7 O7 (w7.setRow nb #[nI x.1,nI x.2.1,x.2.2]):=L1 zo fB.tag rfl;have a8:=fY.U b0 zo zo;have a5:=c5.J (b0.mono (λ_ h=>by rw[h];exact L0 _) a1);have a9:=fA.U b0;generalize w7.setRow nb #[nI x.1,nI x.2.1,x.2.2]=w8 at *;refine zh ?_;refine zaf (kE _ _ a5) λzS=>?_
 apply zra 15 rfl zS rfl;apply zra 16 rfl zS rfl
 apply Mo zk;refine zh ?_
 apply ay (d:=34) rfl (b':=false) rfl;refine zh ?_
 refine zFH rfl rfl ?_;apply zv (ai (us:=bu x) d0.V (Mi _) (L4 _) rfl)
 apply zsb (us:=#[nI x.1,nI x.2.1,x.2.2]) a8 (L4 _) (cj b4);have c8:=a8.setRow (us:=#[nI x.1,nI x.2.1,x.2.2]);have b9:M5 (λq=>q=T+1) O7 w8 O7 (w8.setRow yb #[nI x.1,nI x.2.1,x.2.2]):=L1 zo a8.tag rfl;have a4:=a5.J (b9.mono (λ_ h=>by rw[h];omega) a1);refine zh ?_
 refine aR rfl rfl c8.V (Mi _) (L4 _) ⟨aP a4 b1,a3,x,rfl,(a9.U b9).low a4⟩
def Gb{kn a0:Kn}{a b:Nat}(h:Jq kn l a b=some a0):∃a1 e nm k nd,a1=tw bA l a b/\e=tw ak l a1 b/\nm=jF l a1 e/\k=tw bA l e b/\ak (nth l a1)=true/\a1<b/\my nm=none/\wordsG.contains nm=false/\(∀j,j<kn.length->((nth kn j).1==nm)=false)/\k<b/\nth l k=61/\IJ kn (jF l (k+1) b)=some nd/\a0=kn++[(nm,nd)]:=by
 unfold Jq at h
 split at h
 ·rename_i h1
  split at h
  ·cases h
  rename_i h2
  split at h
  ·rename_i h3;refine⟨tw bA l a b,tw ak l (tw bA l a b) b,jF l (tw bA l a b) (tw ak l (tw bA l a b) b),tw bA l (tw ak l (tw bA l a b) b) b,?_⟩
   cases hp:IJ kn (jF l (tw bA l (tw ak l (tw bA l a b) b) b+1) b)with
   |none=>rw[hp]at h;cases h
   |some nd=>
    rw[hp]at h;refine⟨nd,rfl,rfl,rfl,rfl,h1.1,h1.2,?_,?_,λj hj=>?_,h3.1,h3.2,rfl,(L5 h).symm⟩
    ·cases hq:my (jF l (tw bA l a b) (tw ak l (tw bA l a b) b))with
     |none=>rfl
     |some c=>exact absurd (.inl (by rw[hq];rfl)) h2
    ·exact MU.2 λe=>h2 (.inr (.inl e))
    refine MU.2 λe=>h2 (.inr (.inr (List.any_eq_true.2 ⟨nth kn j,?_,e⟩)))
    rw[aD hj];exact List.getElem_mem _
  cases h
 cases h
def Fe{nm:List UInt8}(h:wordsG.contains nm=false):(nm==[108,101,116])=false/\(nm==[105,103,110,111,114,101])=false/\(nm==[107,101,101,112])=false/\(nm==[97,110,121])=false:=by
 unfold wordsG at h;simp only[List.contains_cons,MM]at h;exact⟨h.1,h.2.1,h.2.2.1,h.2.2.2.1⟩
def Vq(T:Nat)(q:Nat):Prop:=q=T+1\/q=T+2
def AY{kv:LX}{kn:Kn}{ms:List M3}(h:Nx O w kv kn ms):∀u∈ms,∀c∈eU u,c.oneCell'=true:=λu hu c hc=>by
 obtain⟨j,hj,rfl⟩:=cu hu;have:=(h.2.2.2 j hj).2.one;simp only[eU,N7,MW,or_false]at hc
 rcases hc with rfl|rfl|rfl|rfl
 ·rfl
 ·rfl
 ·rfl
 exact this
set_option maxHeartbeats 1000000 in
def Gc(l:List UInt8)(a b:Nat)(g0:a<=b)(hb:b<=l.length)(hl:l.length<=4096)(kn b8:Kn)(e2:∀j,j<kn.length->nsz (nth kn j).2<=2000)(j0:kn.length<=5000)(st:St)(i xb:Nat)(kv ig kp rv:LX)(pl:Int)(B:Nat)(O:Nat->Nat)(w:Mc)
  (g4:N6 B O w) (hi:i≠0) (h:Me O w i xb (stC ig kp rv kv st pl) stT) (d6:N4 O w kv kn) (hM:Jq kn l a b=some b8) :
  Ni Mw 70 [nP xb,.string (bs l),nI (a:Nat),nI (b:Nat)] w λ_ w'=>M5 (λq=>q=i) O w O w'/\(∀j,j<b8.length->nsz (nth b8 j).2<=2000)/\b8.length<=kn.length+1/\∃kv' pl',Me O w' i xb (stC ig kp rv kv' st pl') stT/\N4 O w' kv' b8:=by
 obtain⟨a1,en,nm,k,nd,g1,f',h0,hk,h5,e7,c7,g7,g',h6,i7,hP,rfl⟩:=Gb hM;clear hM;obtain⟨T,j3,hT⟩:=g4.bound;have j1:i<T:=by rw[<-h.tag];exact hT xb
 have b6:¬(λq:Nat=>T<=q) 0:=λe=>zo
 have b7:¬(λq:Nat=>q=i\/T<=q) 0:=λe=>by rcases e with e|e<;>omega
 have a4:¬Vq T 0:=λe=>by rcases e with e|e<;>omega
 have t1:=tV (p:=bA) g0 hb;rw[<-g1]at t1;have t2:=tV (p:=ak) t1.2 hb;have t3:=Ii (p:=ak) e7 hb h5;rw[<-f']at t2 t3;have t4:=tV (p:=bA) t2.2 hb;rw[<-hk]at t4;obtain⟨n1,n2,n3,n4⟩:=Fe g7;apply M1 func70 ntmps70 rfl rfl;refine zh ?_;apply zc MT (jl l a b g0 hb w hl);rintro v w9 ⟨rfl,b2⟩;rw[b2,<-g1];clear b2 w9;refine zh ?_;apply zc Nu (rL l a1 b t1.2 hb w hl);rintro v w9 ⟨rfl,b2⟩;rw[b2,<-f'];clear b2 w9;refine zh ?_;apply zv (cm L6 rfl rfl rfl a1 en rfl rfl t2.1 zo);rw[show(l.take en).drop a1=nm from h0.symm];refine zh ?_;apply ao (j:=6) h rfl (Mv _) rfl rfl rfl rfl;have h1:Me O (w.setCell ⟨xb,6,none⟩ (nI (a1:Nat))) i xb (stC ig kp rv kv st (a1:Nat)) stT:=h.set 6 (nI (a1:Nat));have e9:M5 (λq=>q=i) O w O (w.setCell ⟨xb,6,none⟩ (nI (a1:Nat))):=Mm (λe=>hi e.symm) h.tag rfl;have i4:=g4.U e9;have b0:=d6.U e9;generalize w.setCell ⟨xb,6,none⟩ (nI (a1:Nat))=w1 at *;refine zh ?_;refine zFH rfl ((by rw[beq_eq_false_iff_ne];omega)) ?_;apply zc call103 (oE nm w1);rintro v w2 ⟨rfl,i6⟩;rw[show qU namesL nm = -1 from by unfold my at c7;unfold qU;rw[c7]];have d7:M5 (λ_=>False) O w1 O w2:=ae (λh=>h) O i6;have h2:=h1.U d7 hi (λh=>h);have i0:=e9.J (d7.mono (λ_ h=>h.elim) (λe=>hi e.symm));have i3:=i4.U d7;have e6:=b0.U d7;obtain⟨ms,b4⟩:=id e6;have f9:=b4.2.2.1
 have i':=b4.1.len_le;have c3:w2.cell? (nA xb 3)=some kv:=h2.cell 3 rfl;refine zh ?_;apply ay (d:=40) rfl (b':=false) rfl;refine zh ?_;refine zvH (bP rfl rfl) ?_;apply ay (d:=44) rfl (b':=false) n1;refine zh ?_;refine zvH (bP rfl rfl) ?_;apply ay (d:=48) rfl (b':=false) n2;refine zh ?_;refine zvH (bP rfl rfl) ?_;apply ay (d:=52) rfl (b':=false) n3;refine zh ?_;refine zvH (bP rfl rfl) ?_;refine zFH rfl n4 ?_;apply zlp (λy:Nat=>[(0,nP xb),(1,.string (bs l)),(2,nI (a1:Nat)),(3,nI (b:Nat)),(8,nI (en:Nat)),(9,.string (bs nm)),(10,nI (y:Nat))]) (λy=>w2) (λy=>y<=ms.length) (λy=>ms.length-y) 0 (Mk _);intro y hy;refine zh ?_;refine zvH (Nc (by first|exact b4.1) Mh rfl) ?_;refine zC ?_ ?_
 ·intro c';replace c':y<ms.length:=by have:=of_decide_eq_true c';omega
  have cn:w2.cell? ((adr kv 4 y).add 0)=some (.string (bs (nth kn y).1)):=by rw[(b4.2.2.2 y c').1];exact b4.1.cell c' rfl
  refine zh ?_;refine zvH (M0 (by first|exact b4.1) Mh (MD _) rfl rfl _ rfl zo) ?_
  refine zvH (bP rfl rfl) ?_;refine zFH rfl ((g' y zo)) ?_
  refine zxd (y+1) c'
 intro j2;refine zh ?_;apply zc MT (jl l en b t2.2 hb w2 hl);rintro v w9 ⟨rfl,b2⟩;rw[b2,<-hk];clear b2 w9;refine zh ?_;apply ay (d:=88) rfl (b':=false) ((by rw[beq_eq_false_iff_ne];omega));refine zh ?_;refine zvH (bZ L6 rfl rfl _ rfl zo) ?_;apply aH rfl ((by rw[i7];rfl));have kE:∀O1 W,M5 (λq=>T<=q) O w2 O1 W->W.cell? (nA xb 3)=some kv:=λO1 W u=>(h2.U u hi zo).cell 3 rfl
 have hU:M5 (λq=>T<=q) O w2 O w2.drew:=(MO b6 O w2).drew;have hR:=i3.drew;have g6:=h2.drew;have h7:=e6;refine zh ?_;apply aO (λW=>W.cell? (nA xb 3)=some kv) 18 rfl zk;refine zin (kE _ _ hU) λzS=>?_
 apply zrm 0 rfl zS rfl;apply zrm 1 rfl zS rfl
 apply zr 2 rfl zS (λ_=>Nf rfl rfl (MZ zo));apply zrm 3 rfl zS rfl
 apply zr 4 rfl zS (λ_=>cm L6 rfl rfl rfl (k+1) b rfl rfl h6 hb);apply zrm 5 rfl zS rfl
 apply zr 6 rfl zS (λ_=>aq rfl);apply zrf 7 rfl zS rfl
 apply zt 8 rfl zS (λw1 e1=>RV.ld e1 rfl);refine ja (λz:Nat×N3×(Nat->Nat)×World=>[(0,nP xb),(9,.string (bs nm)),(11,nI (k:Nat)),(12,.pointer (some ⟨z.1,0,none⟩)),(112,nv z.2.1),(113,nI 0),(114,nI 0)]) (λz=>z.2.2.2) (λz=>Nt z.2.2.1 z.2.2.2 nd z.2.1/\Me z.2.2.1 z.2.2.2 T z.1 #[nI 0,nI 0,nS] 96/\Me z.2.2.1 z.2.2.2 i xb (stC ig kp rv kv st (a1:Nat)) stT/\M5 (λq=>T<=q) O w2 z.2.2.1 z.2.2.2/\N6 B z.2.2.1 z.2.2.2/\nsz nd<=2000) #[true,true,true,true,true,true,true,true,true,true,true,true,true,true,true,false,false,false] 3 ?_ ?_
 ·intro hN;have fY:=g6;have d6:=e6;refine bK 9 14 zk rfl rfl ?_ ?_ 
  ·apply zc Na (jq kn e2 _ kv nd B _ _ hR (d6.U hU) hP);rintro v wa ⟨f5,b9,x,rfl,fA⟩;have a3:=λO=>ae (S:=λ_=>False) (λh=>h) O f5
   have hU:=ix hU ((a3 _).mono (λ_ h=>h.elim) b6);have hR:=Mr hR (a3 _);have fY:=M7 fY (a3 _) zo (λh=>h)
   try have fB:=M7 fB (a3 _) zo (λh=>h)
   refine zh ?_;refine zaf (kE _ _ hU) λzS=>?_
   apply zrm 10 rfl zS rfl;apply zr 11 rfl zS (λ_=>Mb rfl rfl)
   apply zr 12 rfl zS (λ_=>Mb rfl rfl);apply zr 13 rfl zS (λ_=>Mb rfl rfl)
   apply L2 14 zk rfl;apply aw hR T zo (L9 _) rfl
   intro nb wb Ob fB a0 a5 i5;have hU:=ix hU (a0.mono (λ_ h=>by rw[h];exact L0 _) b6);have hR:=a5;have fY:=M7 fY a0 zo zo
   try have fA:=Ng fA a0
   refine zh ?_;apply af (kE _ _ hU)
   exact LZ (hN (nb,x,_,_) ⟨fA,fB,fY,hU,hR,b9⟩) zk ⟨rfl,rfl,rfl,rfl,rfl,rfl,rfl,trivial⟩ rfl
  apply aw hR T zo (L9 _) rfl;intro nb wb Ob fB a0 a5 i5;have hU:=ix hU (a0.mono (λ_ h=>by rw[h];exact L0 _) b6);have hR:=a5;have fY:=M7 fY a0 zo zo
  try have fA:=Ng fA a0
  refine zh ?_;apply af (kE _ _ hU)
  apply L2 9 zk rfl;apply zc Na (jq kn e2 _ kv nd B _ _ hR (d6.U hU) hP)
  rintro v wa ⟨f5,b9,x,rfl,fA⟩;have a3:=λO=>ae (S:=λ_=>False) (λh=>h) O f5
  have hU:=ix hU ((a3 _).mono (λ_ h=>h.elim) b6);have hR:=Mr hR (a3 _);have fY:=M7 fY (a3 _) zo (λh=>h)
  try have fB:=M7 fB (a3 _) zo (λh=>h)
  refine zh ?_;refine zaf (kE _ _ hU) λzS=>?_
  apply zrm 10 rfl zS rfl;apply zr 11 rfl zS (λ_=>Mb rfl rfl)
  apply zr 12 rfl zS (λ_=>Mb rfl rfl);apply zr 13 rfl zS (λ_=>Mb rfl rfl)
  exact LZ (hN (nb,x,_,_) ⟨fA,fB,fY,hU,hR,b9⟩) zk ⟨rfl,rfl,rfl,rfl,rfl,rfl,rfl,trivial⟩ rfl
 rintro⟨nb,x,O7,w7⟩ ⟨fA,fB,fY,g2,g3,b9⟩;dsimp only at fA fB fY g2 g3 ⊢;have f8:=fA.one;apply L2 15 zk rfl;apply zsb (us:=#[nI x.1,nI x.2.1,x.2.2]) fB (L4 _) (cj f8);have h4:=fB.setRow (us:=#[nI x.1,nI x.2.1,x.2.2]);have d9:M5 (λq=>q=T) O7 w7 O7 (w7.setRow nb #[nI x.1,nI x.2.1,x.2.2]):=L1 zo fB.tag rfl;have h8:=fY.U d9 hi zo;have b5:=g2.J (d9.mono (λ_ h=>by rw[h];exact L0 _) b6);have e4:=fA.U d9;have i2:=g3.U d9;generalize w7.setRow nb #[nI x.1,nI x.2.1,x.2.2]=w8 at *;refine zh ?_;refine zaf (kE _ _ b5) λzS=>?_
 apply zra 16 rfl zS rfl;apply zra 17 rfl zS rfl
 apply Mo zk;refine zh ?_
 apply ao (j:=6) h8 rfl (Mv _) rfl rfl rfl rfl;have h9:Me O7 (w8.setCell ⟨xb,6,none⟩ (nI ((k:Int)+1+0))) i xb (stC ig kp rv kv st ((k:Int)+1+0)) stT:=h8.set 6 (nI ((k:Int)+1+0));have d3:M5 (λq=>q=i) O7 w8 O7 (w8.setCell ⟨xb,6,none⟩ (nI ((k:Int)+1+0))):=Mm (λe=>hi e.symm) h8.tag rfl;have h3:=h4.U d3 zo zo;have e3:=e4.U d3;have i1:=i2.U d3;generalize w8.setCell ⟨xb,6,none⟩ (nI ((k:Int)+1+0))=w9 at *;refine zh ?_
 apply ao (j:=7) h9 rfl (Mv _) rfl rfl rfl rfl;have g5:Me O7 (w9.setCell ⟨xb,7,none⟩ (nI 0)) i xb (stC ig kp rv kv st ((k:Int)+1+0)) stT:=h9.set 7 (nI 0);have a':M5 (λq=>q=i) O7 w9 O7 (w9.setCell ⟨xb,7,none⟩ (nI 0)):=Mm (λe=>hi e.symm) h9.tag rfl;have c9:=h3.U a' zo zo;have c8:=e3.U a';have f4:=i1.U a';generalize w9.setCell ⟨xb,7,none⟩ (nI 0)=w10 at *;have h':M5 (λq=>q=i\/T<=q) O w O7 w10:=(((i0.mono (λ_ h=>.inl h) b7).J (b5.mono (λ_ h=>.inr h) b7)).J (d3.mono (λ_ h=>.inl h) b7)).J (a'.mono (λ_ h=>.inl h) b7);have a9:Nx O7 w10 kv kn ms:=((b4.U b5).U d3).U a';have b0:=AY a9;have b3:∀O1 W,M5 (Vq T) O7 w10 O1 W->Sl eU 4 W kv ms:=λO1 W u=>(a9.U u).1
 have d0:∀O1 W,M5 (Vq T) O7 w10 O1 W->W.cell? (nA xb 3)=some kv:=λO1 W u=>(g5.U u hi (λe=>by rcases e with e|e<;>omega)).cell 3 rfl
 have kE:∀O1 W,M5 (Vq T) O7 w10 O1 W->∀(j:Nat) (u:LX),(bu x)[j]? = some u->W.cell? (nA nb j)=some u:=λO1 W u=>(c9.U u zo (λe=>by rcases e with e|e<;>omega)).V
 have hV:M5 (Vq T) O7 w10 O7 w10.drew:=(MO a4 O7 w10).drew;have hR:=f4.drew;refine zh ?_;apply aO (λW=>∀(j:Nat) (u:LX),(bu x)[j]? = some u->W.cell? (nA nb j)=some u) 15 rfl zk;refine zin (kE _ _ hV) λzS=>?_
 apply zrm 0 rfl zS rfl;apply zrm 2 rfl zS rfl
 apply zr 3 rfl zS (λ_=>aq rfl);apply zrf 4 rfl zS rfl
 apply zrm 7 rfl zS rfl;apply zt 8 rfl zS (λw1 e1=>ai (us:=bu x) e1 (Mi _) (L4 _) rfl)
 apply zr 9 rfl zS (λ_=>MB (cells:=(eU ((nm,x):M3)).toArray) KU (zeroValue185 _) rfl rfl);refine ja (λz:LX×LX×(Nat->Nat)×World=>[(126,nP xb),(132,z.1),(136,z.2.1)]) (λz=>z.2.2.2) (λz=>Nk eU 185 4 z.2.2.1 z.2.2.2 (T+1) z.1 ([]++ms)/\Nk eU 185 4 z.2.2.1 z.2.2.2 (T+2) z.2.1 [(nm,x)]/\M5 (Vq T) O7 w10 z.2.2.1 z.2.2.2/\N6 B z.2.2.1 z.2.2.2) #[true,true,true,true,true,true,true,true,true,true,true,false,false,false,false] 4 ?_ ?_
 ·intro hN;refine pM 1 5 10 zk rfl rfl rfl ?_ ?_ ?_ 
  ·apply cA ql eU hR (T+1) zo rfl;intro d5 wa Oa fA a3 b1;have hV:=ix hV (a3.mono (λ_ h=>.inl h) a4);have hR:=b1
   try have fC:=ln fC a3 zo zo
   refine zh ?_;apply af (kE _ _ hV)
   refine bK 5 10 zk rfl rfl ?_ ?_ 
   ·refine zvH (RV.ld (d0 _ _ hV) rfl) ?_;apply af (kE _ _ hV)
    refine bK 6 10 zk rfl rfl ?_ ?_ 
    ·apply aL ql fA hR (b3 _ _ hV) rfl rfl (λ_ _=>rfl) b0 (by simp;omega) (by simp;omega) zo rfl;intro pv wb Ob fB a0 a5;have hV:=ix hV (a0.mono (λ_ h=>.inl h) a4);have hR:=a5
     try have fC:=ln fC a0 zo zo
     refine zh ?_;apply af (kE _ _ hV)
     apply L2 10 zk rfl;apply aN ql (enc:=eU) hR (T+2) zo ((nm,x):M3) rfl rfl rfl zd rfl
     intro cv wc Oc fC a2 a8;have hV:=ix hV (a2.mono (λ_ h=>.inr h) a4);have hR:=a8
     try have fA:=ln fA a2 zo zo
     try have fB:=ln fB a2 zo zo
     refine zh ?_;apply af (kE _ _ hV)
     exact LZ (hN (pv,cv,_,_) ⟨fB,fC,hV,hR⟩) zk ⟨rfl,rfl,rfl,trivial⟩ rfl
    apply aN ql (enc:=eU) hR (T+2) zo ((nm,x):M3) rfl rfl rfl zd rfl;intro cv wc Oc fC a2 a8;have hV:=ix hV (a2.mono (λ_ h=>.inr h) a4);have hR:=a8
    try have fA:=ln fA a2 zo zo
    try have fB:=ln fB a2 zo zo
    refine zh ?_;apply af (kE _ _ hV)
    apply L2 6 zk rfl;apply aL ql fA hR (b3 _ _ hV) rfl rfl (λ_ _=>rfl) b0 (by simp;omega) (by simp;omega) zo rfl
    intro pv wb Ob fB a0 a5;have hV:=ix hV (a0.mono (λ_ h=>.inl h) a4);have hR:=a5
    try have fC:=ln fC a0 zo zo
    refine zh ?_;apply af (kE _ _ hV)
    exact LZ (hN (pv,cv,_,_) ⟨fB,fC,hV,hR⟩) zk ⟨rfl,rfl,rfl,trivial⟩ rfl
   apply aN ql (enc:=eU) hR (T+2) zo ((nm,x):M3) rfl rfl rfl zd rfl;intro cv wc Oc fC a2 a8;have hV:=ix hV (a2.mono (λ_ h=>.inr h) a4);have hR:=a8
   try have fA:=ln fA a2 zo zo
   try have fB:=ln fB a2 zo zo
   refine zh ?_;apply af (kE _ _ hV)
   apply L2 5 zk rfl;refine zvH (RV.ld (d0 _ _ hV) rfl) ?_
   apply af (kE _ _ hV);apply L2 6 zk rfl
   apply aL ql fA hR (b3 _ _ hV) rfl rfl (λ_ _=>rfl) b0 (by simp;omega) (by simp;omega) zo rfl;intro pv wb Ob fB a0 a5;have hV:=ix hV (a0.mono (λ_ h=>.inl h) a4);have hR:=a5
   try have fC:=ln fC a0 zo zo
   refine zh ?_;apply af (kE _ _ hV)
   exact LZ (hN (pv,cv,_,_) ⟨fB,fC,hV,hR⟩) zk ⟨rfl,rfl,rfl,trivial⟩ rfl
  ·refine zvH (RV.ld (d0 _ _ hV) rfl) ?_;apply af (kE _ _ hV)
   refine bK 1 10 zk rfl rfl ?_ ?_ 
   ·apply cA ql eU hR (T+1) zo rfl;intro d5 wa Oa fA a3 b1;have hV:=ix hV (a3.mono (λ_ h=>.inl h) a4);have hR:=b1
    try have fC:=ln fC a3 zo zo
    refine zh ?_;apply af (kE _ _ hV)
    refine bK 6 10 zk rfl rfl ?_ ?_ 
    ·apply aL ql fA hR (b3 _ _ hV) rfl rfl (λ_ _=>rfl) b0 (by simp;omega) (by simp;omega) zo rfl;intro pv wb Ob fB a0 a5;have hV:=ix hV (a0.mono (λ_ h=>.inl h) a4);have hR:=a5
     try have fC:=ln fC a0 zo zo
     refine zh ?_;apply af (kE _ _ hV)
     apply L2 10 zk rfl;apply aN ql (enc:=eU) hR (T+2) zo ((nm,x):M3) rfl rfl rfl zd rfl
     intro cv wc Oc fC a2 a8;have hV:=ix hV (a2.mono (λ_ h=>.inr h) a4);have hR:=a8
     try have fA:=ln fA a2 zo zo
     try have fB:=ln fB a2 zo zo
     refine zh ?_;apply af (kE _ _ hV)
     exact LZ (hN (pv,cv,_,_) ⟨fB,fC,hV,hR⟩) zk ⟨rfl,rfl,rfl,trivial⟩ rfl
    apply aN ql (enc:=eU) hR (T+2) zo ((nm,x):M3) rfl rfl rfl zd rfl;intro cv wc Oc fC a2 a8;have hV:=ix hV (a2.mono (λ_ h=>.inr h) a4);have hR:=a8
    try have fA:=ln fA a2 zo zo
    try have fB:=ln fB a2 zo zo
    refine zh ?_;apply af (kE _ _ hV)
    apply L2 6 zk rfl;apply aL ql fA hR (b3 _ _ hV) rfl rfl (λ_ _=>rfl) b0 (by simp;omega) (by simp;omega) zo rfl
    intro pv wb Ob fB a0 a5;have hV:=ix hV (a0.mono (λ_ h=>.inl h) a4);have hR:=a5
    try have fC:=ln fC a0 zo zo
    refine zh ?_;apply af (kE _ _ hV)
    exact LZ (hN (pv,cv,_,_) ⟨fB,fC,hV,hR⟩) zk ⟨rfl,rfl,rfl,trivial⟩ rfl
   apply aN ql (enc:=eU) hR (T+2) zo ((nm,x):M3) rfl rfl rfl zd rfl;intro cv wc Oc fC a2 a8;have hV:=ix hV (a2.mono (λ_ h=>.inr h) a4);have hR:=a8
   try have fA:=ln fA a2 zo zo
   try have fB:=ln fB a2 zo zo
   refine zh ?_;apply af (kE _ _ hV)
   apply L2 1 zk rfl;apply cA ql eU hR (T+1) zo rfl
   intro d5 wa Oa fA a3 b1;have hV:=ix hV (a3.mono (λ_ h=>.inl h) a4);have hR:=b1
   try have fC:=ln fC a3 zo zo
   refine zh ?_;apply af (kE _ _ hV)
   apply L2 6 zk rfl;apply aL ql fA hR (b3 _ _ hV) rfl rfl (λ_ _=>rfl) b0 (by simp;omega) (by simp;omega) zo rfl
   intro pv wb Ob fB a0 a5;have hV:=ix hV (a0.mono (λ_ h=>.inl h) a4);have hR:=a5
   try have fC:=ln fC a0 zo zo
   refine zh ?_;apply af (kE _ _ hV)
   exact LZ (hN (pv,cv,_,_) ⟨fB,fC,hV,hR⟩) zk ⟨rfl,rfl,rfl,trivial⟩ rfl
  apply aN ql (enc:=eU) hR (T+2) zo ((nm,x):M3) rfl rfl rfl zd rfl;intro cv wc Oc fC a2 a8;have hV:=ix hV (a2.mono (λ_ h=>.inr h) a4);have hR:=a8
  try have fA:=ln fA a2 zo zo
  try have fB:=ln fB a2 zo zo
  refine zh ?_;apply af (kE _ _ hV)
  refine bK 1 5 zk rfl rfl ?_ ?_ 
  ·apply cA ql eU hR (T+1) zo rfl;intro d5 wa Oa fA a3 b1;have hV:=ix hV (a3.mono (λ_ h=>.inl h) a4);have hR:=b1
   try have fC:=ln fC a3 zo zo
   refine zh ?_;apply af (kE _ _ hV)
   apply L2 5 zk rfl;refine zvH (RV.ld (d0 _ _ hV) rfl) ?_
   apply af (kE _ _ hV);apply L2 6 zk rfl
   apply aL ql fA hR (b3 _ _ hV) rfl rfl (λ_ _=>rfl) b0 (by simp;omega) (by simp;omega) zo rfl;intro pv wb Ob fB a0 a5;have hV:=ix hV (a0.mono (λ_ h=>.inl h) a4);have hR:=a5
   try have fC:=ln fC a0 zo zo
   refine zh ?_;apply af (kE _ _ hV)
   exact LZ (hN (pv,cv,_,_) ⟨fB,fC,hV,hR⟩) zk ⟨rfl,rfl,rfl,trivial⟩ rfl
  refine zvH (RV.ld (d0 _ _ hV) rfl) ?_;apply af (kE _ _ hV)
  apply L2 1 zk rfl;apply cA ql eU hR (T+1) zo rfl
  intro d5 wa Oa fA a3 b1;have hV:=ix hV (a3.mono (λ_ h=>.inl h) a4);have hR:=b1
  try have fC:=ln fC a3 zo zo
  refine zh ?_;apply af (kE _ _ hV)
  apply L2 6 zk rfl;apply aL ql fA hR (b3 _ _ hV) rfl rfl (λ_ _=>rfl) b0 (by simp;omega) (by simp;omega) zo rfl
  intro pv wb Ob fB a0 a5;have hV:=ix hV (a0.mono (λ_ h=>.inl h) a4);have hR:=a5
  try have fC:=ln fC a0 zo zo
  refine zh ?_;apply af (kE _ _ hV)
  exact LZ (hN (pv,cv,_,_) ⟨fB,fC,hV,hR⟩) zk ⟨rfl,rfl,rfl,trivial⟩ rfl
 rintro⟨pv,cv,O11,i9⟩ ⟨f7,fC,d2,d4⟩;dsimp only at f7 fC d2 d4 ⊢;rw[Ma]at f7;have g9:∀u∈[((nm,x):M3)],∀c∈eU u,c.oneCell'=true:=λu hu c hc=>by
  rw[M6.1 hu]at hc;simp only[eU,N7,MW,or_false]at hc
  rcases hc with rfl|rfl|rfl|rfl
  ·rfl
  ·rfl
  ·rfl
  exact f8
 apply L2 11 zk rfl;apply aL ql f7 d4 fC.sl rfl rfl (λ_ _=>rfl) g9 (by simp;omega) (by simp;omega) zo rfl
 intro qv d' O12 c6 e8 f3;have a6:=d2.J (e8.mono (λ_ h=>.inl h) a4);have f6:=g5.U a6 hi (λe=>by rcases e with e|e<;>omega);have g8:=c6.one;refine zh ?_;refine zaf (kE _ _ a6) λzS=>?_
 apply zr 12 rfl zS (λ_=>aq rfl);apply zrf 13 rfl zS rfl
 apply L2 14 zk rfl;apply ao (j:=3) f6 rfl (sizeOf149 _) g8 rfl rfl rfl
 have i8:Me O12 (d'.setCell ⟨xb,3,none⟩ qv) i xb (stC ig kp rv qv st ((k:Int)+1+0)) stT:=f6.set 3 qv;have a7:M5 (λq=>q=i) O12 d' O12 (d'.setCell ⟨xb,3,none⟩ qv):=Mm (λe=>hi e.symm) f6.tag rfl;have d1:=(a9.U a6).U a7;have c5:=c6.U a7 zo zo;have e0:=(c8.U a6).U a7;have e':=f3.U a7;have d8:=(h'.J (a6.mono (λq h=>.inr (by rcases h with h|h<;>omega)) b7)).J (a7.mono (λ_ h=>.inl h) b7);have e5:=(c9.U a6 zo (λe=>by rcases e with e|e<;>omega)).U a7 zo zo;refine zh ?_;apply af e5.V;apply Mo zk;refine aK rfl ⟨d8.priv hT hi,λj hj=>?_,by simp,qv,_,i8.fgt h.tag,ms++[(nm,x)],c5.sl,c5.freeT zo (λb=>by have:=hT b;omega) e' d8,by simp[f9],λj hj=>?_⟩
 ·rw[aC]
  split
  ·rename_i e;exact e2 j e
  rename_i e;rw[show j-kn.length=0 from by simp at hj;omega,ar];exact b9
 rw[aC,aC,f9]
 split
 ·rename_i e;exact⟨(d1.2.2.2 j e).1,(d1.2.2.2 j e).2.low d8⟩
 rename_i e;rw[show j-ms.length=0 from by simp at hj;omega,ar,ar];exact⟨rfl,e0.low d8⟩
def Cg{kn:Kn}{ts a0:List R3}{a b:Nat}(h:Az kn ts l a b=some a0):ts.length≠40/\∃k x y,k=tw ny l a b/\k<b/\uf kn l a k=some x/\uf kn l (k+1) b=some y/\bz y=true/\du y=0/\a0=ts++[(x,y,nth l k==47)]:=by
 unfold Az at h
 split at h
 ·cases h
 rename_i h0;refine⟨h0,tw ny l a b,?_⟩
 split at h
 ·rename_i h1
  cases hx:uf kn l a (tw ny l a b)with
  |none=>rw[hx]at h;cases h
  |some x=>
   cases hy:uf kn l (tw ny l a b+1) b with
   |none=>rw[hx,hy]at h;cases h
   |some y=>
    rw[hx,hy]at h;dsimp only at h
    split at h
    ·rename_i h2;exact⟨x,y,rfl,h1,rfl,rfl,h2.1,h2.2,(L5 h).symm⟩
    cases h
 cases h
def Ay{ts:List R3}{zs:List X3}(h:∀i,i<zs.length->Rt O w (nth ts i) (nth zs i)):∀u∈zs,∀c∈cL u,c.oneCell'=true:=λu hu=>by
 obtain⟨j,hj,rfl⟩:=cu hu;exact cY (h j hj).1.one (h j hj).2.1.one
set_option maxHeartbeats 1000000 in
def Ch(l:List UInt8)(a b:Nat)(j3:a<=b)(hb:b<=l.length)(hl:l.length<=4096)(kn:Kn)(f9:∀j,j<kn.length->nsz (nth kn j).2<=2000)(st:St)(c8:List R3)(i xb:Nat)(kv ig kp rv:LX)(pl:Int)(B:Nat)(O:Nat->Nat)(w:Mc)
  (e4:N6 B O w) (hi:i≠0) (h:Me O w i xb (stC ig kp rv kv st pl) stT) (g2:N4 O w kv kn) (i5:Nj O w rv st.ts) (l4:st.ts.length<=40) (hM:Az kn st.ts l a b=some c8) :
  Ni Mw 72 [nP xb,.string (bs l),nI (a:Nat),nI (b:Nat)] w λ_ w'=>M5 (λq=>q=i) O w O w'/\c8.length<=40/\∃rv' pl',Me O w' i xb (stC ig kp rv' kv { st with ts:=c8 } pl') stT/\Nj O w' rv' c8:=by
 obtain⟨k9,k,n1,n2,hk,j1,i4,i3,i6,i9,rfl⟩:=Cg hM;clear hM;obtain⟨T,l1,hT⟩:=e4.bound;have k':i<T:=by rw[<-h.tag];exact hT xb
 have l0:=λb=>by have:=hT b;omega
 have d5:¬(λq:Nat=>T<=q) 0:=λe=>zo
 have c':¬(λq:Nat=>q=i\/T<=q) 0:=λe=>by rcases e with e|e<;>omega
 have a4:¬Vq T 0:=λe=>by rcases e with e|e<;>omega
 obtain⟨zs,e7,d8,e8,g'⟩:=id i5;have h0:=e7.len_le;have c2:w.cell? (nA xb 2)=some rv:=h.cell 2 rfl;have l5:w.cell? ((nA xb 0).add 2)=some rv:=h.cell 2 rfl;apply M1 func72 ntmps72 rfl rfl;refine zh ?_;refine zFH rfl ((by rw[beq_eq_false_iff_ne];omega)) ?_;apply zlp (λy:Nat=>[(0,nP xb),(1,.string (bs l)),(2,nI (a:Nat)),(3,nI (b:Nat)),(8,nI (y:Nat))]) (λy=>w) (λy=>a<=y/\y<=b/\∀j,a<=j->j<y->ny (nth l j)=true) (λy=>b-y) a ⟨L0 _,j3,λj h1 h2=>zo⟩;rintro y ⟨f5,h',f4⟩;refine zh ?_;refine aU (λw1=>_=w1) ((((nth l y).toNat:Int) != 33)) 4 rfl rfl rfl rfl rfl rfl ?_ ?_
 ·intro a1;have l7:y<b:=dT a1;refine zh ?_;refine zvH (bZ L6 rfl rfl _ rfl zo) ?_;refine nE 29 5 rfl a1
 rintro _ rfl;refine zh ?_;refine aU (λw1=>_=w1) ((((nth l y).toNat:Int) != 47)) 4 rfl rfl rfl rfl rfl rfl ?_ ?_
 ·intro a2;have l6:y<b:=by have:=of_decide_eq_true ((L3 _ _).mp a2).1;omega
  refine zh ?_;refine zvH (bZ L6 rfl rfl _ rfl zo) ?_
  refine nE 35 5 rfl a2
 rintro _ rfl;have g9:(((nth l y).toNat:Int)==33)=(nth l y==33):=fH _ 33 zd;have d3:(((nth l y).toNat:Int)==47)=(nth l y==47):=fH _ 47 zd;rw[show((decide ((y:Int)<(b:Int))&&(((nth l y).toNat:Int) != 33))&&(((nth l y).toNat:Int) != 47))=(decide ((y:Int)<(b:Int))&&ny (nth l y))from by unfold ny bne;rw[g9,d3,Bool.and_assoc]];refine zh ?_;refine zC ?_ ?_
 ·intro hc;rw[L3]at hc;have h4:y<b:=by have:=of_decide_eq_true hc.1;omega
  refine zh ?_;refine zxd (y+1) ⟨zo,h4,λj h1 h2=>(L8.1 h2).elim (f4 j h1) (λe=>by rw[e];exact hc.2)⟩
 intro hc;have f8:y=b\/ny (nth l y)=false:=by
  rcases M9.1 hc with h|h
  ·exact .inl (by have:=of_decide_eq_false h;omega)
  exact .inr h
 obtain rfl:k=y:=by rw[hk,xj f5 h' hb f4 f8]
 clear f8 hc g9 d3 hk;refine zh ?_;refine zFH rfl ((by rw[beq_eq_false_iff_ne];omega)) ?_;apply zc call106 (ug l a k f5 zo hl kn f9 st i xb kv ig kp rv pl n1 B O w e4 hi h g2 i4);rintro v w1 ⟨k4,k8,x,rfl,f7⟩;have g5:M5 (λ_=>False) O w O w1:=ae (λh=>h) O k4;have f6:=f7.one;apply aw (e4.U g5) (T+3) zo (L9 _) rfl;intro lb w2 O2 d1 j8 k1 l3;apply zsb (us:=#[nI x.1,nI x.2.1,x.2.2]) d1 (L4 _) (cj f6);have j0:Me O2 (w2.setRow lb #[nI x.1,nI x.2.1,x.2.2]) (T+3) lb #[nI x.1,nI x.2.1,x.2.2] 96:=d1.setRow;have g7:M5 (λq=>q=T+3) O w1 O2 (w2.setRow lb #[nI x.1,nI x.2.1,x.2.2]):=j8.J (L1 zo d1.tag rfl);have g8:=k1.U (L1 (S:=λq=>q=T+3) (us:=#[nI x.1,nI x.2.1,x.2.2]) zo d1.tag rfl);generalize w2.setRow lb #[nI x.1,nI x.2.1,x.2.2]=w3 at *;have b5:M5 (λq=>T<=q) O w O2 w3:=(g5.mono (λ_ h=>h.elim) d5).J (g7.mono (λ_ h=>by rw[h];omega) d5);have h3:=h.U b5 hi zo;have i2:=f7.U g7;have j2:=g2.U b5;refine zh ?_;apply zc call106 (ug l (k+1) b j1 hb hl kn f9 st i xb kv ig kp rv pl n2 B O2 w3 g8 hi h3 j2 i3);rintro v w4 ⟨k3,k7,y,rfl,f3⟩;have g4:M5 (λ_=>False) O2 w3 O2 w4:=ae (λh=>h) O2 k3;have e9:=f3.one;apply aw (g8.U g4) (T+4) zo (L9 _) rfl;intro rb w5 O5 d0 j7 k0 l2;apply zsb (us:=#[nI y.1,nI y.2.1,y.2.2]) d0 (L4 _) (cj e9)
 have g0:Me O5 (w5.setRow rb #[nI y.1,nI y.2.1,y.2.2]) (T+4) rb #[nI y.1,nI y.2.1,y.2.2] 96:=d0.setRow;have g6:M5 (λq=>q=T+4) O2 w4 O5 (w5.setRow rb #[nI y.1,nI y.2.1,y.2.2]):=j7.J (L1 zo d0.tag rfl);have j':=k0.U (L1 (S:=λq=>q=T+4) (us:=#[nI y.1,nI y.2.1,y.2.2]) zo d0.tag rfl);generalize w5.setRow rb #[nI y.1,nI y.2.1,y.2.2]=w6 at *;have b1:M5 (λq=>q=T+4) O2 w3 O5 w6:=(g4.mono (λ_ h=>h.elim) zo).J g6;have b0:=b5.J (b1.mono (λ_ h=>by rw[h];omega) d5);have h6:=h3.U b1 hi zo;have i':=j0.U b1 zo zo;have i1:=i2.U b1;have e':=f3.U g6;have c7:w6.cell? (nA xb 7)=some (nI 0):=h6.cell 7 rfl;refine zh ?_;refine zTH rfl rfl ?_;apply zv (ai (us:=bu y) g0.V (Mi _) (L4 _) rfl);apply zc call107 (uB n2 y w6 e'.zero i6);rintro v w7 ⟨rfl,k2⟩;rw[i9];have g3:M5 (λ_=>False) O5 w6 O5 w7:=ae (λh=>h) O5 k2;have h7:=h6.U g3 hi (λh=>h);refine zh ?_;apply ao (j:=6) h7 rfl (Mv _) rfl rfl rfl rfl;have h8:Me O5 (w7.setCell ⟨xb,6,none⟩ (nI ((k:Int)+1))) i xb (stC ig kp rv kv st ((k:Int)+1)) stT:=h7.set 6 (nI ((k:Int)+1));have j6:M5 (λq=>q=i) O5 w7 O5 (w7.setCell ⟨xb,6,none⟩ (nI ((k:Int)+1))):=Mm (λe=>hi e.symm) h7.tag rfl;generalize w7.setCell ⟨xb,6,none⟩ (nI ((k:Int)+1))=w8 at *;refine zh ?_;apply ao (j:=7) h8 rfl (Mv _) rfl rfl rfl rfl
 have h9:Me O5 (w8.setCell ⟨xb,7,none⟩ (nI 0)) i xb (stC ig kp rv kv st ((k:Int)+1)) stT:=h8.set 7 (nI 0);have j5:M5 (λq=>q=i) O5 w8 O5 (w8.setCell ⟨xb,7,none⟩ (nI 0)):=Mm (λe=>hi e.symm) h8.tag rfl;generalize w8.setCell ⟨xb,7,none⟩ (nI 0)=w9 at *;have a5:M5 (λq=>q=i) O5 w6 O5 w9:=((g3.mono (λ_ h=>h.elim) (λe=>hi e.symm)).J j6).J j5;have g1:=i'.U a5 zo zo;have f':=g0.U a5 zo zo;have i0:=i1.U a5;have h5:=e'.U a5;have j9:=j'.U a5;have j4:M5 (λq=>q=i\/T<=q) O w O5 w9:=(b0.mono (λ_ h=>.inr h) c').J (a5.mono (λ_ h=>.inl h) c');have b7:∀j,j<zs.length->Rt O5 w9 (nth st.ts j) (nth zs j):=λj hj=>((g' j hj).U b0).U a5
 have d7:=(d8.U b0).U a5;have d6:=(e7.U d8 b0).U (d8.U b0) a5;have b4:=Ay b7;have b3:∀O1 W,M5 (Vq T) O5 w9 O1 W->Sl cL 7 W rv zs:=λO1 W u=>d6.U d7 u
 have b':∀O1 W,M5 (Vq T) O5 w9 O1 W->W.cell? ((nA xb 0).add 2)=some rv:=λO1 W u=>(h9.U u hi (λe=>by rcases e with e|e<;>omega)).cell 2 rfl
 have kE:∀O1 W,M5 (Vq T) O5 w9 O1 W->(∀(j:Nat) (u:LX),(bu x)[j]? = some u->W.cell? (nA lb j)=some u)/\∀(j:Nat) (u:LX),(bu y)[j]? = some u->W.cell? (nA rb j)=some u:=λO1 W u=>⟨(g1.U u zo (λe=>by rcases e with e|e<;>omega)).V,(f'.U u zo (λe=>by rcases e with e|e<;>omega)).V⟩
 have hV:M5 (Vq T) O5 w9 O5 w9.drew:=(MO a4 O5 w9).drew;have hR:=j9.drew;have d3:(((nth l k).toNat:Int)==47)=(nth l k==47):=fH _ 47 zd;refine zh ?_;apply aO (λW=>(∀(j:Nat) (u:LX),(bu x)[j]? = some u->W.cell? (nA lb j)=some u)/\∀(j:Nat) (u:LX),(bu y)[j]? = some u->W.cell? (nA rb j)=some u) 21 rfl zk;refine zin (kE _ _ hV) λzS=>?_
 apply zrm 0 rfl zS rfl;apply zrm 2 rfl zS rfl
 apply zr 3 rfl zS (λ_=>aq rfl);apply zrf 4 rfl zS rfl
 apply zrf 5 rfl zS rfl;apply zt 8 rfl zS (λw1 d9=>ai (us:=bu x) d9.1 (Mi _) (L4 _) rfl)
 apply zt 9 rfl zS (λw1 d9=>ai (us:=bu y) d9.2 (Mi _) (L4 _) rfl);apply zrm 10 rfl zS rfl
 apply zrm 11 rfl zS rfl;apply zr 12 rfl zS (λ_=>bZ L6 rfl rfl _ rfl zo)
 apply zr 13 rfl zS (λ_=>RV.eql rfl rfl);rw[d3];apply zr 14 rfl (kE _ _ hV) (λ_=>MB (cells:=(cL ((x,y,(nth l k==47)):X3)).toArray) LG (zeroValue98 _) rfl rfl)
 refine ja (λz:LX×LX×(Nat->Nat)×World=>[(79,nP xb),(86,z.1),(94,z.2.1)]) (λz=>z.2.2.2) (λz=>Nk cL 98 7 z.2.2.1 z.2.2.2 (T+1) z.1 ([]++zs)/\Nk cL 98 7 z.2.2.1 z.2.2.2 (T+2) z.2.1 [(x,y,(nth l k==47))]/\M5 (Vq T) O5 w9 z.2.2.1 z.2.2.2/\N6 B z.2.2.1 z.2.2.2) #[true,true,true,true,true,true,true,true,true,true,true,true,true,true,true,true,false,false,false,false,false] 5 ?_ ?_
 ·intro hN;refine pM 1 6 15 zk rfl rfl rfl ?_ ?_ ?_ 
  ·apply cA qk cL hR (T+1) zo rfl;intro c9 wa Oa fA a7 b2;have hV:=ix hV (a7.mono (λ_ h=>.inl h) a4);have hR:=b2
   try have fC:=ln fC a7 zo zo
   refine zh ?_;apply af (kE _ _ hV)
   refine bK 6 15 zk rfl rfl ?_ ?_ 
   ·refine zvH (RV.ld (b' _ _ hV) rfl) ?_;apply af (kE _ _ hV)
    refine bK 7 15 zk rfl rfl ?_ ?_ 
    ·apply aL qk fA hR (b3 _ _ hV) rfl rfl (λ_ _=>rfl) b4 (by simp;omega) (by simp;omega) zo rfl;intro pv wb Ob fB a3 a6;have hV:=ix hV (a3.mono (λ_ h=>.inl h) a4);have hR:=a6
     try have fC:=ln fC a3 zo zo
     refine zh ?_;apply af (kE _ _ hV)
     apply L2 15 zk rfl;apply aN qk (enc:=cL) hR (T+2) zo ((x,y,(nth l k==47)):X3) rfl rfl rfl zd rfl
     intro cv wc Oc fC a0 a';have hV:=ix hV (a0.mono (λ_ h=>.inr h) a4);have hR:=a'
     try have fA:=ln fA a0 zo zo
     try have fB:=ln fB a0 zo zo
     refine zh ?_;apply af (kE _ _ hV)
     exact LZ (hN (pv,cv,_,_) ⟨fB,fC,hV,hR⟩) zk ⟨rfl,rfl,rfl,trivial⟩ rfl
    apply aN qk (enc:=cL) hR (T+2) zo ((x,y,(nth l k==47)):X3) rfl rfl rfl zd rfl;intro cv wc Oc fC a0 a';have hV:=ix hV (a0.mono (λ_ h=>.inr h) a4);have hR:=a'
    try have fA:=ln fA a0 zo zo
    try have fB:=ln fB a0 zo zo
    refine zh ?_;apply af (kE _ _ hV)
    apply L2 7 zk rfl;apply aL qk fA hR (b3 _ _ hV) rfl rfl (λ_ _=>rfl) b4 (by simp;omega) (by simp;omega) zo rfl
    intro pv wb Ob fB a3 a6;have hV:=ix hV (a3.mono (λ_ h=>.inl h) a4);have hR:=a6
    try have fC:=ln fC a3 zo zo
    refine zh ?_;apply af (kE _ _ hV)
    exact LZ (hN (pv,cv,_,_) ⟨fB,fC,hV,hR⟩) zk ⟨rfl,rfl,rfl,trivial⟩ rfl
   apply aN qk (enc:=cL) hR (T+2) zo ((x,y,(nth l k==47)):X3) rfl rfl rfl zd rfl;intro cv wc Oc fC a0 a';have hV:=ix hV (a0.mono (λ_ h=>.inr h) a4);have hR:=a'
   try have fA:=ln fA a0 zo zo
   try have fB:=ln fB a0 zo zo
   refine zh ?_;apply af (kE _ _ hV)
   apply L2 6 zk rfl;refine zvH (RV.ld (b' _ _ hV) rfl) ?_
   apply af (kE _ _ hV);apply L2 7 zk rfl
   apply aL qk fA hR (b3 _ _ hV) rfl rfl (λ_ _=>rfl) b4 (by simp;omega) (by simp;omega) zo rfl;intro pv wb Ob fB a3 a6;have hV:=ix hV (a3.mono (λ_ h=>.inl h) a4);have hR:=a6
   try have fC:=ln fC a3 zo zo
   refine zh ?_;apply af (kE _ _ hV)
   exact LZ (hN (pv,cv,_,_) ⟨fB,fC,hV,hR⟩) zk ⟨rfl,rfl,rfl,trivial⟩ rfl
  ·refine zvH (RV.ld (b' _ _ hV) rfl) ?_;apply af (kE _ _ hV)
   refine bK 1 15 zk rfl rfl ?_ ?_ 
   ·apply cA qk cL hR (T+1) zo rfl;intro c9 wa Oa fA a7 b2;have hV:=ix hV (a7.mono (λ_ h=>.inl h) a4);have hR:=b2
    try have fC:=ln fC a7 zo zo
    refine zh ?_;apply af (kE _ _ hV)
    refine bK 7 15 zk rfl rfl ?_ ?_ 
    ·apply aL qk fA hR (b3 _ _ hV) rfl rfl (λ_ _=>rfl) b4 (by simp;omega) (by simp;omega) zo rfl;intro pv wb Ob fB a3 a6;have hV:=ix hV (a3.mono (λ_ h=>.inl h) a4);have hR:=a6
     try have fC:=ln fC a3 zo zo
     refine zh ?_;apply af (kE _ _ hV)
     apply L2 15 zk rfl;apply aN qk (enc:=cL) hR (T+2) zo ((x,y,(nth l k==47)):X3) rfl rfl rfl zd rfl
     intro cv wc Oc fC a0 a';have hV:=ix hV (a0.mono (λ_ h=>.inr h) a4);have hR:=a'
     try have fA:=ln fA a0 zo zo
     try have fB:=ln fB a0 zo zo
     refine zh ?_;apply af (kE _ _ hV)
     exact LZ (hN (pv,cv,_,_) ⟨fB,fC,hV,hR⟩) zk ⟨rfl,rfl,rfl,trivial⟩ rfl
    apply aN qk (enc:=cL) hR (T+2) zo ((x,y,(nth l k==47)):X3) rfl rfl rfl zd rfl;intro cv wc Oc fC a0 a';have hV:=ix hV (a0.mono (λ_ h=>.inr h) a4);have hR:=a'
    try have fA:=ln fA a0 zo zo
    try have fB:=ln fB a0 zo zo
    refine zh ?_;apply af (kE _ _ hV)
    apply L2 7 zk rfl;apply aL qk fA hR (b3 _ _ hV) rfl rfl (λ_ _=>rfl) b4 (by simp;omega) (by simp;omega) zo rfl
    intro pv wb Ob fB a3 a6;have hV:=ix hV (a3.mono (λ_ h=>.inl h) a4);have hR:=a6
    try have fC:=ln fC a3 zo zo
    refine zh ?_;apply af (kE _ _ hV)
    exact LZ (hN (pv,cv,_,_) ⟨fB,fC,hV,hR⟩) zk ⟨rfl,rfl,rfl,trivial⟩ rfl
   apply aN qk (enc:=cL) hR (T+2) zo ((x,y,(nth l k==47)):X3) rfl rfl rfl zd rfl;intro cv wc Oc fC a0 a';have hV:=ix hV (a0.mono (λ_ h=>.inr h) a4);have hR:=a'
   try have fA:=ln fA a0 zo zo
   try have fB:=ln fB a0 zo zo
   refine zh ?_;apply af (kE _ _ hV)
   apply L2 1 zk rfl;apply cA qk cL hR (T+1) zo rfl
   intro c9 wa Oa fA a7 b2;have hV:=ix hV (a7.mono (λ_ h=>.inl h) a4);have hR:=b2
   try have fC:=ln fC a7 zo zo
   refine zh ?_;apply af (kE _ _ hV)
   apply L2 7 zk rfl;apply aL qk fA hR (b3 _ _ hV) rfl rfl (λ_ _=>rfl) b4 (by simp;omega) (by simp;omega) zo rfl
   intro pv wb Ob fB a3 a6;have hV:=ix hV (a3.mono (λ_ h=>.inl h) a4);have hR:=a6
   try have fC:=ln fC a3 zo zo
   refine zh ?_;apply af (kE _ _ hV)
   exact LZ (hN (pv,cv,_,_) ⟨fB,fC,hV,hR⟩) zk ⟨rfl,rfl,rfl,trivial⟩ rfl
  apply aN qk (enc:=cL) hR (T+2) zo ((x,y,(nth l k==47)):X3) rfl rfl rfl zd rfl;intro cv wc Oc fC a0 a';have hV:=ix hV (a0.mono (λ_ h=>.inr h) a4);have hR:=a'
  try have fA:=ln fA a0 zo zo
  try have fB:=ln fB a0 zo zo
  refine zh ?_;apply af (kE _ _ hV)
  refine bK 1 6 zk rfl rfl ?_ ?_ 
  ·apply cA qk cL hR (T+1) zo rfl;intro c9 wa Oa fA a7 b2;have hV:=ix hV (a7.mono (λ_ h=>.inl h) a4);have hR:=b2
   try have fC:=ln fC a7 zo zo
   refine zh ?_;apply af (kE _ _ hV)
   apply L2 6 zk rfl;refine zvH (RV.ld (b' _ _ hV) rfl) ?_
   apply af (kE _ _ hV);apply L2 7 zk rfl
   apply aL qk fA hR (b3 _ _ hV) rfl rfl (λ_ _=>rfl) b4 (by simp;omega) (by simp;omega) zo rfl;intro pv wb Ob fB a3 a6;have hV:=ix hV (a3.mono (λ_ h=>.inl h) a4);have hR:=a6
   try have fC:=ln fC a3 zo zo
   refine zh ?_;apply af (kE _ _ hV)
   exact LZ (hN (pv,cv,_,_) ⟨fB,fC,hV,hR⟩) zk ⟨rfl,rfl,rfl,trivial⟩ rfl
  refine zvH (RV.ld (b' _ _ hV) rfl) ?_;apply af (kE _ _ hV)
  apply L2 1 zk rfl;apply cA qk cL hR (T+1) zo rfl
  intro c9 wa Oa fA a7 b2;have hV:=ix hV (a7.mono (λ_ h=>.inl h) a4);have hR:=b2
  try have fC:=ln fC a7 zo zo
  refine zh ?_;apply af (kE _ _ hV)
  apply L2 7 zk rfl;apply aL qk fA hR (b3 _ _ hV) rfl rfl (λ_ _=>rfl) b4 (by simp;omega) (by simp;omega) zo rfl
  intro pv wb Ob fB a3 a6;have hV:=ix hV (a3.mono (λ_ h=>.inl h) a4);have hR:=a6
  try have fC:=ln fC a3 zo zo
  refine zh ?_;apply af (kE _ _ hV)
  exact LZ (hN (pv,cv,_,_) ⟨fB,fC,hV,hR⟩) zk ⟨rfl,rfl,rfl,trivial⟩ rfl
 rintro⟨pv,cv,O11,k6⟩ ⟨e6,fC,c5,c6⟩;dsimp only at e6 fC c5 c6 ⊢;rw[Ma]at e6;have i8:∀u∈[((x,y,(nth l k==47)):X3)],∀c∈cL u,c.oneCell'=true:=λu hu=>by
  rw[M6.1 hu];exact cY f6 e9
 apply L2 16 zk rfl;apply aL qk e6 c6 fC.sl rfl rfl (λ_ _=>rfl) i8 (by simp;omega) (by simp;omega) zo rfl
 intro qv d4 O12 b9 e1 e3;have a8:=c5.J (e1.mono (λ_ h=>.inl h) a4);have e5:=h9.U a8 hi (λe=>by rcases e with e|e<;>omega);have i7:=b9.one;refine zh ?_;refine zaf (kE _ _ a8) λzS=>?_
 apply zr 17 rfl zS (λ_=>aq rfl);apply zrf 18 rfl zS rfl
 apply zrf 19 rfl zS rfl;apply L2 20 zk rfl
 apply ao (j:=2) e5 rfl (sizeOf43 _) i7 rfl rfl rfl;have k5:Me O12 (d4.setCell ⟨xb,2,none⟩ qv) i xb (stC ig kp qv kv { st with ts:=st.ts++[(n1,n2,nth l k==47)] } ((k:Int)+1)) stT:=e5.set 2 qv;have a9:M5 (λq=>q=i) O12 d4 O12 (d4.setCell ⟨xb,2,none⟩ qv):=Mm (λe=>hi e.symm) e5.tag rfl;have b8:=b9.U a9 zo zo;have e2:=e3.U a9;have d2:=fun {t:Nd} {x:N3} (h:Nt O5 w9 t x)=>(h.U a8).U a9
 have b6:=(j4.J (a8.mono (λq h=>.inr (by rcases h with h|h<;>omega)) c')).J (a9.mono (λ_ h=>.inl h) c');have e0:=(g1.U a8 zo (λe=>by rcases e with e|e<;>omega)).U a9 zo zo;have d':=(f'.U a8 zo (λe=>by rcases e with e|e<;>omega)).U a9 zo zo;refine zh ?_;apply af ⟨e0.V,d'.V⟩;apply Mo zk;refine aK rfl ⟨b6.priv hT hi,by simp;omega,qv,_,k5.fgt h.tag,zs++[(x,y,(nth l k==47))],b8.sl,b8.freeT zo (λb=>by have:=hT b;omega) e2 b6,by simp[e8],λj hj=>?_⟩;rw[aC,aC,e8]
 split
 ·rename_i e;have:=b7 j e;exact⟨(d2 this.1).low b6,(d2 this.2.1).low b6,this.2.2⟩
 rename_i e;rw[show j-zs.length=0 from by simp at hj;omega,ar,ar];exact⟨(d2 i0).low b6,(d2 h5).low b6,rfl⟩
def KV:cI Mw 151 #[(0,3),(3,1),(4,1),(5,1),(6,1),(7,1)]:=⟨_,underlying151,λw=>by kernel_rfl⟩
structure LpG(B:Nat)(O0:Nat->Nat)(w0:Mc)(T rb xb:Nat)(l:List UInt8)(n:Nat)(kn:Kn)(st:St)(kv ig kp rv:LX)(pl:Int)(O:Nat->Nat)(w:Mc):Prop where
 res:Me O w T rb #[nS,nS,nS] 45
 blk:Me O w (T+1) xb (stC ig kp rv kv st pl) stT
 known:N4 O w kv kn
 sm:∀j,j<kn.length->nsz (nth kn j).2<=2000
 few:kn.length+n<=l.length+2
 ig:Sl encI 1 w ig st.li/\MH O w ig
 kp:Sl encI 1 w kp st.lk/\MH O w kp
 ru:Nj O w rv st.ts
 h40:st.ts.length<=40
 U:M5 (λq=>T<=q) O0 w0 O w
 rng:N6 B O w
def cB{O':Nat->Nat}{w':Mc}{S:Nat->Prop}{v:LX}{l:List Int}(h:Sl encI 1 w v l/\MH O w v)(u:M5 S O w O' w'):Sl encI 1 w' v l/\MH O' w' v:=⟨h.1.U h.2 u,h.2.U u⟩
def JQ(O:Nat->Nat)(w:Mc):Sl encI 1 w nS ([]:List Int)/\MH O w (nS):=⟨⟨⟨none,0,rfl,L0 _,zd,λh=>absurd rfl h⟩,λi hi=>absurd hi (by simp)⟩,λa n c e=>by cases e⟩
set_option maxHeartbeats 1000000 in
def AL(l:List UInt8)(a6:St)(a':AU l=some a6)(B:Nat)(O0:Nat->Nat)(w:Mc)(f8:N6 B O0 w):
  Ni Mw 35 [.string (bs l)] w λv w'=>MK w w'/\∃ig kp rv,v=.tuple #[D4 ig kp rv,nI 0,nI 0]/\(Sl encI 1 w' ig a6.li/\MH O0 w' ig)/\(Sl encI 1 w' kp a6.lk/\MH O0 w' kp)/\Nj O0 w' rv a6.ts:=by
 have hl:=Nat.not_lt.1 λh=>by unfold AU at a';rw[ap h]at a';cases a'
 replace a':jP l (l.length+2) [] st0 0=some a6:=by unfold AU at a';rwa[am zo]at a'
 obtain⟨T,a2,hT⟩:=f8.bound;have g4:∀b,¬T<=O0 b:=λb=>by have:=hT b;omega
 have b2:¬(λq:Nat=>T<=q) 0:=λe=>zo
 apply M1 func35 ntmps35 rfl rfl;refine zh ?_
 apply aw f8 T zo (N0 _) rfl;intro rb w1 O1 e8 f5 f7 g6;refine zh ?_
 refine zvH (bS L6 rfl) ?_;refine zFH rfl ((decide_eq_false zo)) ?_
 apply zv (aI KV (zeroValue151 _) rfl (by first|rfl|(simp only[L7,Mf];rfl)) rfl rfl);apply aQ f7 (T+1) zo rfl rfl
 intro xb w2 O2 e7 e4 f6 g5;have c8:M5 (λq=>T<=q) O0 w O2 w2:=(f5.mono (λ_ h=>by rw[h];exact L0 _) b2).J (e4.mono (λ_ h=>by rw[h];omega) b2);have f9:LpG B O0 w T rb xb l (l.length+2) [] st0 nS nS nS nS 0 O2 w2:=⟨e8.U e4 zo zo,e7,Known.nil O2 w2,λj hj=>absurd hj (Mj j),by simp,JQ O2 w2,JQ O2 w2,⟨[],⟨⟨none,0,rfl,L0 _,zd,λh=>absurd rfl h⟩,λi hi=>absurd hi (by simp)⟩,(λa n c e=>by cases e),rfl,λi hi=>absurd hi (Mj i)⟩,zd,c8,f6⟩
 clear e8 f5 f7 g6 e7 e4 f6 g5 c8;refine zh ?_;apply zlp (λy:Nat×Nat×Kn×St×LX×LX×LX×LX×Int×Mc=>[(0,.string (bs l)),(2,nP rb),(5,nP xb),(6,nI (y.2.1:Nat))]) (λy=>y.2.2.2.2.2.2.2.2.2) (λy=>y.2.1<=l.length+1/\jP l y.1 y.2.2.1 y.2.2.2.1 y.2.1=some a6/\LpG B O0 w T rb xb l y.1 y.2.2.1 y.2.2.2.1 y.2.2.2.2.1 y.2.2.2.2.2.1 y.2.2.2.2.2.2.1 y.2.2.2.2.2.2.2.1 y.2.2.2.2.2.2.2.2.1 O2 y.2.2.2.2.2.2.2.2.2) (λy=>y.1) (l.length+2,0,[],st0,nS,nS,nS,nS,0,w2) ⟨Mk _,a',f9⟩;clear a' f9 w1 O1 w2;rintro⟨n,f,kn,st,kv,ig,kp,rv,pl,w1⟩ ⟨hf,hM,hL⟩;dsimp only at hf hM hL ⊢
 obtain⟨n,rfl⟩:∃m,n=m+1:=⟨n-1,by
  cases n with
  |zero=>cases hM
  |succ n=>rfl⟩
 have c7:w1.cell? (nA xb 7)=some (nI 0):=hL.blk.cell 7 rfl;unfold jP at hM;refine zh ?_;refine zvH (bS L6 rfl) ?_;refine aU (λw1=>_=w1) true 5 rfl rfl rfl rfl rfl rfl ?_ ?_
 ·intro a0;refine zh ?_;refine nE 21 6 rfl a0
 rintro _ rfl;refine zh ?_;refine zC ?_ ?_
 ·intro hc;rw[MG]at hc;have d9:f<=l.length:=dT hc;rw[am zo]at hM;refine zh ?_;apply zlp (λk:Nat=>[(0,.string (bs l)),(2,nP rb),(5,nP xb),(6,nI (f:Nat)),(7,nI (k:Nat))]) (λk=>w1) (λk=>f<=k/\k<=l.length/\∀j,f<=j->j<k->pY (nth l j)=true) (λk=>l.length-k) f ⟨L0 _,d9,λj h1 h2=>zo⟩;rintro k ⟨e',e9,d7⟩;refine zh ?_;refine zvH (bS L6 rfl) ?_;refine aU (λw1=>_=w1) ((((nth l k).toNat:Int) != 10)) 4 rfl rfl rfl rfl rfl rfl ?_ ?_
  ·intro a1;have g7:k<l.length:=dT a1;refine zh ?_;refine zvH (bZ L6 rfl rfl _ rfl zo) ?_;refine nE 33 5 rfl a1
  rintro _ rfl;rw[show(((nth l k).toNat:Int) != 10)=pY (nth l k)from by unfold pY bne;rw[show(((nth l k).toNat:Int)==10)=(nth l k==10)from fH _ 10 zd]];refine zh ?_;refine zC ?_ ?_
  ·intro hc;rw[L3]at hc;have d6:k<l.length:=by have:=of_decide_eq_true hc.1;omega
   refine zh ?_;refine zxd (k+1) ⟨zo,d6,λj h1 h2=>(L8.1 h2).elim (d7 j h1) (λe=>by rw[e];exact hc.2)⟩
  intro f4;have b9:k=l.length\/pY (nth l k)=false:=by
   rcases M9.1 f4 with h|h
   ·exact .inl (by have:=of_decide_eq_false h;omega)
   exact .inr h
  rw[xj e' e9 (L0 _) d7 b9]at hM;clear b9 f4 d7;obtain⟨en,rfl⟩:∃en,k=en:=⟨k,rfl⟩
  refine zh ?_;apply zlp (λz:Nat=>[(0,.string (bs l)),(2,nP rb),(5,nP xb),(6,nI (f:Nat)),(7,nI (k:Nat)),(8,nI (z:Nat))]) (λz=>w1) (λz=>f<=z/\z<=k/\∀j,f<=j->j<z->uQ (nth l j)=true) (λz=>k-z) f ⟨L0 _,e',λj h1 h2=>zo⟩
  rintro z ⟨d0,g1,c'⟩;refine zh ?_;refine aU (λw1=>_=w1) ((((nth l z).toNat:Int) != 35)) 4 rfl rfl rfl rfl rfl rfl ?_ ?_
  ·intro a1;have g7:z<k:=dT a1;refine zh ?_;refine zvH (bZ L6 rfl rfl _ rfl zo) ?_;refine nE 45 5 rfl a1
  rintro _ rfl;rw[show(((nth l z).toNat:Int) != 35)=uQ (nth l z)from by unfold uQ bne;rw[show(((nth l z).toNat:Int)==35)=(nth l z==35)from fH _ 35 zd]];refine zh ?_;refine zC ?_ ?_
  ·intro hc;rw[L3]at hc;have d6:z<k:=by have:=of_decide_eq_true hc.1;omega
   refine zh ?_;refine zxd (z+1) ⟨zo,d6,λj h1 h2=>(L8.1 h2).elim (c' j h1) (λe=>by rw[e];exact hc.2)⟩
  intro f3;have b9:z=k\/uQ (nth l z)=false:=by
   rcases M9.1 f3 with h|h
   ·exact .inl (by have:=of_decide_eq_false h;omega)
   exact .inr h
  rw[xj d0 g1 e9 c' b9]at hM;clear b9 f3 c';have a9:z<=l.length:=zo;have hb:=tV (p:=bA) d0 a9;refine zh ?_;apply zc MT (jl l f z d0 a9 w1 hl);rintro v w9 ⟨rfl,b8⟩;rw[b8];clear b8 w9;generalize tw bA l f z=bg at *;refine zh ?_
  by_cases e0:bg=z
  ·rw[ap e0]at hM;refine zTH rfl ((by rw[e0];simp)) ?_;refine zxd (n,k+1,kn,st,kv,ig,kp,rv,pl,w1) ⟨by dsimp only;omega,hM,⟨hL.res,hL.blk,hL.known,hL.sm,by have:=hL.few;dsimp only;omega,hL.ig,hL.kp,hL.ru,hL.h40,hL.U,hL.rng⟩⟩
  rw[am e0]at hM;have hw:=tV (p:=ak) hb.2 a9;refine zFH rfl ((by rw[beq_eq_false_iff_ne];omega)) ?_;apply zc Nu (rL l bg z hb.2 a9 w1 hl);rintro v w9 ⟨rfl,b8⟩;rw[b8];clear b8 w9;unfold J6 at hM;generalize tw ak l bg z=wd at *;refine zh ?_;apply zv (cm L6 rfl rfl rfl bg wd rfl rfl hw.1 zo);rw[show(l.take wd).drop bg=jF l bg wd from rfl];generalize jF l bg wd=ky at *;refine zh ?_;refine zvH (bP rfl rfl) ?_
  by_cases e1:ky=[108,101,116]
  ·rw[ap e1]at hM;have b6:∃b1,Jq kn l wd z=some b1/\jP l n b1 st (k+1)=some a6:=by
    cases hq:Jq kn l wd z with
    |none=>rw[hq]at hM;cases hM
    |some b1=>rw[hq]at hM;exact⟨b1,rfl,hM⟩
   obtain⟨b1,hq,b7⟩:=b6;refine zTH rfl ((by rw[e1];rfl)) ?_;apply zc call70 (Gc l wd z hw.2 a9 hl kn b1 hL.sm (by have:=hL.few;omega) st (T+1) xb kv ig kp rv pl B O2 w1 hL.rng zo hL.blk hL.known hq);rintro v w9 ⟨a3,d2,g2,g0,c9,a7,g3⟩;refine zh ?_;refine zxd (n,k+1,b1,st,g0,ig,kp,rv,c9,w9) ⟨by dsimp only;omega,b7,⟨hL.res.U a3 zo zo,a7,g3,d2,by have:=hL.few;dsimp only;omega,cB hL.ig a3,cB hL.kp a3,hL.ru.U a3,hL.h40,hL.U.J (a3.mono (λ_ h=>by rw[h];omega) b2),hL.rng.U a3⟩⟩
  rw[am e1]at hM;refine zFH rfl ((by simpa using e1)) ?_;refine zvH (bP rfl rfl) ?_
  by_cases e2:ky=[105,103,110,111,114,101]
  ·rw[ap e2]at hM;have b6:st.hi=false/\∃a5,ve l wd z=some a5/\jP l n kn { st with li:=a5,hi:=true } (k+1)=some a6:=by
    cases hh:st.hi with
    |true=>rw[hh,ap rfl]at hM;cases hM
    |false=>
     rw[hh,am zd]at hM;refine⟨rfl,?_⟩
     cases ho:ve l wd z with
     |none=>rw[ho]at hM;cases hM
     |some a5=>rw[ho]at hM;exact⟨a5,rfl,hM⟩
   obtain⟨d8,a5,ho,b7⟩:=b6;have k0:w1.cell? ((nA xb 0).add 0)=some ig:=hL.blk.cell 0 rfl;have k1:w1.cell? (nA xb 4)=some (.bool false):=by rw[<-d8];exact hL.blk.cell 4 rfl
   have c5:M5 (λ_=>False) O2 w1 O2 w1.drew:=ae (λh=>h) O2 (Mp w1).drew;apply aM rfl ((by rw[e2];rfl));have a2:True:=trivial;refine zh ?_;apply aO (λ_=>True) 20 rfl zk;apply zrm 0 rfl a2 rfl;apply zrm 1 rfl a2 rfl;apply zrm 2 rfl a2 rfl;apply zrm 3 rfl a2 rfl;apply zrm 4 rfl a2 rfl;apply zrm 5 rfl a2 rfl;apply zrm 6 rfl a2 rfl;apply zr 7 rfl a2 (λ_=>aq rfl);apply zrf 8 rfl a2 rfl;apply zrf 9 rfl a2 rfl;apply zrm 11 rfl a2 rfl;apply zr 12 rfl a2 (λ_=>aq rfl);apply zrf 13 rfl a2 rfl;refine ja (λ_:Unit=>[(0,.string (bs l)),(2,nP rb),(5,nP xb),(6,nI ((k:Int)+1)),(84,nP xb),(85,nP xb),(86,.string (bs l)),(87,nI (bg:Nat)),(88,nI (wd:Nat)),(89,nI (z:Nat)),(94,ig),(98,.bool false)]) (λ_=>w1.drew) (λ_=>True) #[true,true,true,true,true,true,true,true,true,true,true,true,true,true,true,false,false,false,false,false] 5 ?_ ?_
   ·intro hN;refine bK 10 14 zk rfl rfl ?_ ?_ 
    ·refine zvH (RV.ld (show w1.drew.cell? _=_ from k0) rfl) ?_;apply af trivial
     apply L2 14 zk rfl;refine zvH (RV.ld (show w1.drew.cell? _=_ from k1) rfl) ?_
     apply af trivial;exact LZ (hN () trivial) zk ⟨rfl,rfl,rfl,rfl,rfl,rfl,rfl,rfl,rfl,rfl,rfl,rfl,trivial⟩ rfl
    refine zvH (RV.ld (show w1.drew.cell? _=_ from k1) rfl) ?_;apply af trivial
    apply L2 10 zk rfl;refine zvH (RV.ld (show w1.drew.cell? _=_ from k0) rfl) ?_
    apply af trivial;exact LZ (hN () trivial) zk ⟨rfl,rfl,rfl,rfl,rfl,rfl,rfl,rfl,rfl,rfl,rfl,rfl,trivial⟩ rfl
   rintro _ _;apply L2 15 zk rfl;apply zc call71 (zD l wd z bg hw.2 a9 hl (nP xb) ig B O2 w1.drew (hL.rng.U c5) a5 ho);rintro v w8 ⟨e5,b',d'⟩;have c6:M5 (λ_=>False) O2 w1 O2 w8:=c5.J (ae (λh=>h) O2 e5);have b4:=hL.blk.U c6 zo (λh=>h);have d1:=b'.one;refine zh ?_;refine zaf trivial λzS=>?_
   apply zr 16 rfl zS (λ_=>aq rfl);apply zrf 17 rfl zS rfl
   apply zrf 18 rfl zS rfl;apply L2 19 zk rfl
   apply ao (j:=0) b4 rfl (sizeOf22 _) d1 rfl rfl rfl;have a7:Me O2 (w8.setCell ⟨xb,0,none⟩ v) (T+1) xb (stC v kp rv kv st pl) stT:=b4.set 0 v;have a3:M5 (λq=>q=T+1) O2 w8 O2 (w8.setCell ⟨xb,0,none⟩ v):=Mm zo b4.tag rfl;have d3:=cB ⟨b',d'⟩ a3;generalize w8.setCell ⟨xb,0,none⟩ v=w9 at *;refine zh ?_
   apply af trivial;apply Mo zk
   refine zh ?_;apply ao (j:=4) a7 rfl (sizeOf4 _) rfl rfl rfl rfl
   have b5:Me O2 (w9.setCell ⟨xb,4,none⟩ (.bool true)) (T+1) xb (stC v kp rv kv { st with li:=a5,hi:=true } pl) stT:=a7.set 4 (.bool true);have a8:M5 (λq=>q=T+1) O2 w9 O2 (w9.setCell ⟨xb,4,none⟩ (.bool true)):=Mm zo a7.tag rfl;have b3:=cB d3 a8;generalize w9.setCell ⟨xb,4,none⟩ (.bool true)=w10 at *;have a4:M5 (λq=>q=T+1) O2 w1 O2 w10:=((c6.mono (λ_ h=>h.elim) zo).J a3).J a8;refine zh ?_;refine zxd (n,k+1,kn,{ st with li:=a5,hi:=true },kv,v,kp,rv,pl,w10) ⟨by dsimp only;omega,b7,⟨hL.res.U a4 zo zo,b5,hL.known.U a4,hL.sm,by have:=hL.few;dsimp only;omega,b3,cB hL.kp a4,hL.ru.U a4,hL.h40,hL.U.J (a4.mono (λ_ h=>by rw[h];omega) b2),hL.rng.U a4⟩⟩
  rw[am e2]at hM;refine zFH rfl ((by simpa using e2)) ?_;refine zvH (bP rfl rfl) ?_
  by_cases e3:ky=[107,101,101,112]
  ·rw[ap e3]at hM;have b6:st.hk=false/\∃a5,ve l wd z=some a5/\jP l n kn { st with lk:=a5,hk:=true } (k+1)=some a6:=by
    cases hh:st.hk with
    |true=>rw[hh,ap rfl]at hM;cases hM
    |false=>
     rw[hh,am zd]at hM;refine⟨rfl,?_⟩
     cases ho:ve l wd z with
     |none=>rw[ho]at hM;cases hM
     |some a5=>rw[ho]at hM;exact⟨a5,rfl,hM⟩
   obtain⟨d8,a5,ho,b7⟩:=b6;have k0:w1.cell? ((nA xb 0).add 1)=some kp:=hL.blk.cell 1 rfl;have k1:w1.cell? (nA xb 5)=some (.bool false):=by rw[<-d8];exact hL.blk.cell 5 rfl
   have c5:M5 (λ_=>False) O2 w1 O2 w1.drew:=ae (λh=>h) O2 (Mp w1).drew;apply aM rfl ((by rw[e3];rfl));have a2:True:=trivial;refine zh ?_;apply aO (λ_=>True) 20 rfl zk;apply zrm 0 rfl a2 rfl;apply zrm 1 rfl a2 rfl;apply zrm 2 rfl a2 rfl;apply zrm 3 rfl a2 rfl;apply zrm 4 rfl a2 rfl;apply zrm 5 rfl a2 rfl;apply zrm 6 rfl a2 rfl;apply zr 7 rfl a2 (λ_=>aq rfl);apply zrf 8 rfl a2 rfl;apply zrf 9 rfl a2 rfl;apply zrm 11 rfl a2 rfl;apply zr 12 rfl a2 (λ_=>aq rfl);apply zrf 13 rfl a2 rfl;refine ja (λ_:Unit=>[(0,.string (bs l)),(2,nP rb),(5,nP xb),(6,nI ((k:Int)+1)),(108,nP xb),(109,nP xb),(110,.string (bs l)),(111,nI (bg:Nat)),(112,nI (wd:Nat)),(113,nI (z:Nat)),(118,kp),(122,.bool false)]) (λ_=>w1.drew) (λ_=>True) #[true,true,true,true,true,true,true,true,true,true,true,true,true,true,true,false,false,false,false,false] 5 ?_ ?_
   ·intro hN;refine bK 10 14 zk rfl rfl ?_ ?_ 
    ·refine zvH (RV.ld (show w1.drew.cell? _=_ from k0) rfl) ?_;apply af trivial
     apply L2 14 zk rfl;refine zvH (RV.ld (show w1.drew.cell? _=_ from k1) rfl) ?_
     apply af trivial;exact LZ (hN () trivial) zk ⟨rfl,rfl,rfl,rfl,rfl,rfl,rfl,rfl,rfl,rfl,rfl,rfl,trivial⟩ rfl
    refine zvH (RV.ld (show w1.drew.cell? _=_ from k1) rfl) ?_;apply af trivial
    apply L2 10 zk rfl;refine zvH (RV.ld (show w1.drew.cell? _=_ from k0) rfl) ?_
    apply af trivial;exact LZ (hN () trivial) zk ⟨rfl,rfl,rfl,rfl,rfl,rfl,rfl,rfl,rfl,rfl,rfl,rfl,trivial⟩ rfl
   rintro _ _;apply L2 15 zk rfl;apply zc call71 (zD l wd z bg hw.2 a9 hl (nP xb) kp B O2 w1.drew (hL.rng.U c5) a5 ho);rintro v w8 ⟨e5,b',d'⟩;have c6:M5 (λ_=>False) O2 w1 O2 w8:=c5.J (ae (λh=>h) O2 e5);have b4:=hL.blk.U c6 zo (λh=>h);have d1:=b'.one;refine zh ?_;refine zaf trivial λzS=>?_
   apply zr 16 rfl zS (λ_=>aq rfl);apply zrf 17 rfl zS rfl
   apply zrf 18 rfl zS rfl;apply L2 19 zk rfl
   apply ao (j:=1) b4 rfl (sizeOf22 _) d1 rfl rfl rfl;have a7:Me O2 (w8.setCell ⟨xb,1,none⟩ v) (T+1) xb (stC ig v rv kv st pl) stT:=b4.set 1 v;have a3:M5 (λq=>q=T+1) O2 w8 O2 (w8.setCell ⟨xb,1,none⟩ v):=Mm zo b4.tag rfl;have d3:=cB ⟨b',d'⟩ a3;generalize w8.setCell ⟨xb,1,none⟩ v=w9 at *;refine zh ?_
   apply af trivial;apply Mo zk
   refine zh ?_;apply ao (j:=5) a7 rfl (sizeOf4 _) rfl rfl rfl rfl
   have b5:Me O2 (w9.setCell ⟨xb,5,none⟩ (.bool true)) (T+1) xb (stC ig v rv kv { st with lk:=a5,hk:=true } pl) stT:=a7.set 5 (.bool true);have a8:M5 (λq=>q=T+1) O2 w9 O2 (w9.setCell ⟨xb,5,none⟩ (.bool true)):=Mm zo a7.tag rfl;have b3:=cB d3 a8;generalize w9.setCell ⟨xb,5,none⟩ (.bool true)=w10 at *;have a4:M5 (λq=>q=T+1) O2 w1 O2 w10:=((c6.mono (λ_ h=>h.elim) zo).J a3).J a8;refine zh ?_;refine zxd (n,k+1,kn,{ st with lk:=a5,hk:=true },kv,ig,v,rv,pl,w10) ⟨by dsimp only;omega,b7,⟨hL.res.U a4 zo zo,b5,hL.known.U a4,hL.sm,by have:=hL.few;dsimp only;omega,cB hL.ig a4,b3,hL.ru.U a4,hL.h40,hL.U.J (a4.mono (λ_ h=>by rw[h];omega) b2),hL.rng.U a4⟩⟩
  rw[am e3]at hM;have b6:∃b0,Az kn st.ts l bg z=some b0/\jP l n kn { st with ts:=b0 } (k+1)=some a6:=by
   cases hq:Az kn st.ts l bg z with
   |none=>rw[hq]at hM;cases hM
   |some b0=>rw[hq]at hM;exact⟨b0,rfl,hM⟩
  obtain⟨b0,hq,b7⟩:=b6;refine zFH rfl ((by simpa using e3)) ?_;apply zc call72 (Ch l bg z hb.2 a9 hl kn hL.sm st b0 (T+1) xb kv ig kp rv pl B O2 w1 hL.rng zo hL.blk hL.known hL.ru hL.h40 hq);rintro v w9 ⟨a3,e6,f',c9,a7,d5⟩;refine zh ?_;refine zxd (n,k+1,kn,{ st with ts:=b0 },kv,ig,kp,f',c9,w9) ⟨by dsimp only;omega,b7,⟨hL.res.U a3 zo zo,a7,hL.known.U a3,hL.sm,by have:=hL.few;dsimp only;omega,cB hL.ig a3,cB hL.kp a3,d5,e6,hL.U.J (a3.mono (λ_ h=>by rw[h];omega) b2),hL.rng.U a3⟩⟩
 intro hc;rw[MG]at hc;have d9:l.length<f:=dF hc;rw[ap d9]at hM;obtain rfl:st=a6:=L5 hM;have cT:∀(j:Nat) (u:LX),[ig,kp,rv][j]? = some u->w1.cell? ((nA xb 0).add j)=some u:=λj u hu=>by
  obtain⟨hj,_⟩:=ME.1 hu;simp only[MY,N2]at hj;obtain rfl|rfl|rfl:j=0\/j=1\/j=2:=zo
  ·exact hL.blk.cell 0 hu
  ·exact hL.blk.cell 1 hu
  exact hL.blk.cell 2 hu
 refine zh ?_;refine zFH rfl rfl ?_
 apply zv (ai (us:=[ig,kp,rv]) cT (N9 _) (My _) rfl);apply zsb (us:=#[ig,kp,rv]) hL.res (My _) (by simp only[L7,hL.ig.1.one,hL.kp.1.one,hL.ru.one];rfl)
 have d5:=hL.res.setRow (us:=#[ig,kp,rv]);have a3:M5 (λq=>q=T) O2 w1 O2 (w1.setRow rb #[ig,kp,rv]):=L1 zo hL.res.tag rfl;have a4:=hL.U.J (a3.mono (λ_ h=>by rw[h];exact L0 _) b2);refine zh ?_;refine cH rfl rfl rfl rfl d5.V (N9 _) (My _) ⟨aP a4 g4,ig,kp,rv,rfl,⟨(cB hL.ig a3).1,(cB hL.ig a3).2.weak a4.z0⟩,⟨(cB hL.kp a3).1,(cB hL.kp a3).2.weak a4.z0⟩,?_⟩;obtain⟨zs,z1,z2,z3,z4⟩:=(hL.ru.U a3);exact⟨zs,z1,z2.weak a4.z0,z3,λj hj=>(z4 j hj).weak a4.z0⟩
def cd:List UInt8->List UInt8->List (List UInt8)
 |[],_=>[]
 |c::r,acc=>if c=10 then acc.reverse::cd r []else cd r (c::acc)
def Bz(L:List (List UInt8)):List UInt8:=L.flatMap λx=>x++[10]
def LU:Bz (cd kQ [])=kQ:=by decide +kernel
def LQ:Bz (cd kP [])=kP:=by decide +kernel
def LP:Bz (cd kO [])=kO:=by decide +kernel
def LO:Bz (cd iu [])=iu:=by decide +kernel
def Jr(L:List (List UInt8)):Bool:=decide (L.length<=40)&&L.all λx=>decide (x.length<=100)
def sY:Jr (cd kQ [])=true/\Jr (cd kP [])=true/\Jr (cd kO [])=true/\Jr (cd iu [])=true:=by decide +kernel
def Gw(L:List (List UInt8))(h:∀x∈L,x.length<=100):(Bz L).length<=101*L.length:=by
 unfold Bz
 induction L with
 |nil=>simp
 |cons a L ih=>
  have h1:=h a (List.mem_cons_self ..);have h2:=ih λx hx=>h x (List.mem_cons_of_mem _ hx)
  simp only[List.flatMap_cons,MQ,MY,N2]at h2 ⊢;omega
def Dy(L:List (List UInt8))(h:i<L.length):Bz (L.take (i+1))=Bz (L.take i)++nth L i++[10]:=by
 unfold Bz;rw[bd h,List.flatMap_append];simp
abbrev Kc(v:LX):List LX:=[v]
def GZ:Nat->List (List UInt8)
 |0=>cd kQ []
 |1=>cd kP []
 |2=>cd kO []
 |_=>cd iu []
def Dz:∀m,Bz (GZ m)=eX m
 |0=>LU
 |1=>LQ
 |2=>LP
 |_+3=>LO
def Gs:∀m,Jr (GZ m)=true
 |0=>sY.1
 |1=>sY.2.1
 |2=>sY.2.2.1
 |_+3=>sY.2.2.2
def B4(h:m<0\/4<=m):pS m=[]:=by
 unfold pS;rw[am zo,am zo,am zo,am zo]
def K6(a0 a1 a2 a3:Option Addr)(n0 n1 n2 n3 q0 q1 q2 q3:Nat):Instr.fill (λi=>some (i*1,1)) ((Array.range (4*1)).map ((nS).cells[· % (nS).cells.size]!)) [(0,.slice a0 n0 q0),(1,.slice a1 n1 q1),(2,.slice a2 n2 q2),(3,.slice a3 n3 q3)]=some (List.flatMap Kc [.slice a0 n0 q0,.slice a1 n1 q1,.slice a2 n2 q2,.slice a3 n3 q3]).toArray:=by kernel_rfl
set_option maxHeartbeats 1000000 in
theorem xE(m:Int)(w:Mc):Ni Mw 19 [nI m] w λv w'=>v=.string (bs (pS m))/\MK w w':=by
 apply M1 func19 ntmps19 rfl rfl;refine zh ?_
 apply cE MA (N8 _) (MI _) encS (cd kQ []) zk rfl rfl rfl zk (by simp) rfl;intro v0 w0 h0 b9;obtain⟨a0,q0,y0,_⟩:=h0.shape;apply cE MA (N8 _) (MI _) encS (cd kP []) zk rfl rfl rfl zk (by simp) rfl
 intro v1 w1 h1 b8;obtain⟨a1,q1,y1,_⟩:=h1.shape;apply cE MA (N8 _) (MI _) encS (cd kO []) zk rfl rfl rfl zk (by simp) rfl;intro v2 w2 h2 b7;obtain⟨a2,q2,y2,_⟩:=h2.shape;apply cE MA (N8 _) (MI _) encS (cd iu []) zk rfl rfl rfl zk (by simp) rfl;intro v3 w3 h3 b6;obtain⟨a3,q3,y3,_⟩:=h3.shape;subst y0 y1 y2 y3;apply cE underlying108 (sizeOf107 _) (zeroValue107 _) Kc [.slice a0 (cd kQ []).length q0,.slice a1 (cd kP []).length q1,.slice a2 (cd kO []).length q2,.slice a3 (cd iu []).length q3] rfl rfl rfl rfl (K6 ..) (by simp) rfl;intro lv w4 h4 b2;have a9:=b6.J b2;have a':=b7.J a9;have b0:=b8.J a';have b1:=b9.J b0;refine zh ?_;refine cx (λw1=>_=w1) (decide ((4:Int)<=m)) 4 rfl rfl rfl rfl rfl rfl ?_ ?_
 ·intro a1;refine zh ?_;refine nE 13 5 rfl a1
 rintro _ rfl;refine zh ?_;refine zC ?_ ?_
 ·intro hc;simp only[Bool.or_eq_true,decide_eq_true_eq]at hc;refine zh ?_;refine ah rfl rfl ⟨by rw[B4 hc];rfl,b1⟩
 intro hc;simp only[MM,decide_eq_false_iff_not]at hc;obtain⟨n,rfl⟩:∃n:Nat,m=(n:Int):=⟨m.toNat,zo⟩
 have hn:n<4:=zo;have a7:Sl encS 1 w4 (nth ([.slice a0 (cd kQ []).length q0,.slice a1 (cd kP []).length q1,.slice a2 (cd kO []).length q2,.slice a3 (cd iu []).length q3]:List LX) n) (GZ n):=by
  obtain rfl|rfl|rfl|rfl:n=0\/n=1\/n=2\/n=3:=zo
  ·exact(congrArg (λv=>Sl encS 1 w4 v (GZ 0)) (ar _ _)).mpr (h0.ext b0)
  ·exact(congrArg (λv=>Sl encS 1 w4 v (GZ 1)) ((aX _ _ 0).J (ar _ _))).mpr (h1.ext a')
  ·exact(congrArg (λv=>Sl encS 1 w4 v (GZ 2)) ((aX _ _ 1).J ((aX _ _ 0).J (ar _ _)))).mpr (h2.ext a9)
  exact(congrArg (λv=>Sl encS 1 w4 v (GZ 3)) ((aX _ _ 2).J ((aX _ _ 1).J ((aX _ _ 0).J (ar _ _))))).mpr (h3.ext b2)
 obtain⟨L,hL⟩:∃L,L=GZ n:=⟨_,rfl⟩
 rw[<-hL]at a7;have a4:=Gs n;have a8:=Dz n;rw[<-hL]at a4 a8;unfold Jr at a4;simp only[L3,decide_eq_true_eq,List.all_eq_true]at a4;obtain⟨b4,a5⟩:=a4;have mv:=h4.ld (val:=λv=>v) hn;generalize nth ([.slice a0 (cd kQ []).length q0,.slice a1 (cd kP []).length q1,.slice a2 (cd kO []).length q2,.slice a3 (cd iu []).length q3]:List LX) n=rowv at *;refine zh ?_;apply zlp (λi:Nat=>[(0,nI (n:Nat)),(3,lv),(4,.string (bs (Bz (L.take i)))),(5,nI (i:Nat))]) (λi=>w4) (λi=>i<=L.length) (λi=>L.length-i) 0 (Mk _);intro i hi;have b3:(Bz (L.take i)).length<=101*i:=by
  have:=Gw (L.take i) λx hx=>a5 x (List.mem_of_mem_take hx)
  rwa[List.length_take,Nat.min_eq_left hi]at this
 refine zh ?_;refine zC ?_ ?_
 ·intro a6;replace a6:i<L.length:=dT a6;have m1:=a7.ld (val:=λx=>.string (bs x)) a6;have hx:=a5 _ (aZ a6);refine zh ?_;apply zv (DZ rfl rfl zo);refine zvH (DZ (b:=[10]) rfl rfl (by simp;omega)) ?_;rw[<-Dy L a6];refine zxd (i+1) a6
 intro b5;obtain rfl:i=L.length:=dF b5;refine zh ?_;refine ah rfl rfl ⟨by rw[MV,a8,oo hn],b1⟩
def AT(h:xx l=true):∃st',AU l=some st'/\st'.li=(dw l).li/\st'.lk=(dw l).lk/\st'.ts=(dw l).ts:=by
 unfold xx at h
 cases hm:AU l with
 |none=>rw[hm]at h;cases h
 |some st'=>
  rw[hm]at h;simp only[L3,decide_eq_true_eq]at h;obtain⟨h1,h2,h3,h4⟩:=h;refine⟨st',rfl,zT.1 h1,zT.1 h2,?_⟩;refine List.ext_getElem h3 λi hi a0=>?_
  have:=vR.1 h4 i hi;unfold JS at this;simp only[L3,beq_iff_eq]at this;obtain⟨⟨k1,k2⟩,k3⟩:=this;rw[<-aD hi,<-aD a0];exact No (rY _ _ k2) (No (rY _ _ k3) k1)
def Cb:∀m,xx (eX m)=true
 |0=>JW
 |1=>JV
 |2=>JU
 |_+3=>JT
def xW(m:Nat)(hm:m<4)(w:Mc):Ni Mw 14 [nI (m:Nat)] w λv w'=>MK w w'/\Tx w' v (dw (eX m)).li (dw (eX m)).lk (dw (eX m)).ts/\∃ig kp rv,v=D4 ig kp rv:=by
 obtain⟨a7,hM,e1,e2,e3⟩:=AT (Cb m);apply M1 func14 ntmps14 rfl rfl;refine zh ?_;apply aw (aA w) 1 zo (N0 _) rfl;intro rb w1 O1 b0 b3 a5 b8;refine zh ?_;apply zc call19 (xE (m:Nat) w1);rintro v w2 ⟨rfl,a6⟩;rw[oo hm];apply zc call35 (AL (eX m) a7 hM w.heap.size O1 w2 (a5.ext a6));rintro v w3 ⟨b5,ig,kp,rv,rfl,h1,h2,h3⟩;have a4:M5 (λ_=>False) O1 w1 O1 w3:=ae (λh=>h) O1 (a6.J b5);have i1:=h1.1.one;have i2:=h2.1.one;have i3:=h3.one;refine zh ?_;apply aw (a5.U a4) 2 zo (N0 _) rfl;intro tb w4 O4 a2 b2 b6 b7;apply zsb (us:=#[ig,kp,rv]) a2 (My _) (by simp only[L7,i1,i2,i3];rfl);have a8:=a2.setRow (us:=#[ig,kp,rv]);have a0:M5 (λq=>q=2) O1 w3 O4 (w4.setRow tb #[ig,kp,rv]):=b2.J (L1 zd a2.tag rfl);have a3:=(b0.U a4 zd (λh=>h)).U a0 zd zd;generalize w4.setRow tb #[ig,kp,rv]=w5 at *;refine zh ?_;apply zv (ai (us:=[ig,kp,rv]) a8.V (N9 _) (My _) rfl);apply zsb (us:=#[ig,kp,rv]) a3 (My _) (by simp only[L7,i1,i2,i3];rfl);have a9:=a3.setRow (us:=#[ig,kp,rv]);have a1:M5 (λq=>q=1) O4 w5 O4 (w5.setRow rb #[ig,kp,rv]):=L1 zd a3.tag rfl
 have b1:M5 (λq=>1<=q) (λ_=>0) w O4 (w5.setRow rb #[ig,kp,rv]):=(((b3.mono (λ_ h=>zo) zd).J (a4.mono (λ_ h=>h.elim) zd)).J (a0.mono (λ_ h=>zo) zd)).J (a1.mono (λ_ h=>zo) zd);have j1:=(cB (cB h1 a0) a1).1;have j2:=(cB (cB h2 a0) a1).1;have j3:=(h3.U a0).U a1;rw[e1]at j1;rw[e2]at j2;rw[e3]at j3;obtain⟨zs,z1,z2,z3,z4⟩:=j3;refine zh ?_;refine aR rfl rfl a9.V (N9 _) (My _) ⟨b1.ext,⟨⟨ig,kp,rv,zs,rfl,j1,j2,z1,z3,λj hj=>⟨(z4 j hj).1.zero,(z4 j hj).2.1.zero,(z4 j hj).2.2⟩⟩⟩,ig,kp,rv,rfl⟩
def AO(h:jO m=true):∃n:Nat,m=(n:Int)/\n<4:=by
 unfold jO at h;simp only[L3,decide_eq_true_eq]at h;exact⟨m.toNat,zo,zo⟩
set_option maxHeartbeats 1000000 in
def ma(m:Int)(ids:List Int)(dv:LX)(w:Mc)(hd:Ints w dv ids)(hT:lP w):Ni Mw 3 [nI m,dv] w λv w'=>v=.bool true/\MK w w':=by
 have c6:=hd.len_le;apply M1 func3 ntmps3 rfl rfl;refine zh ?_;refine cx (MK w) (!true) 2 (Mp w) rfl rfl rfl rfl rfl ?_ ?_
 ·intro a1;refine zh ?_;apply zc call7 (pD w hT);rintro v w2 ⟨rfl,a5⟩;refine zh ?_;refine nE 10 3 a5 a1
 intro w2 a5;refine zh ?_;refine zC ?_ ?_
 ·intro hc;refine zh ?_;apply zc call7 (pD w2 (jD hT a5));rintro v w3 ⟨rfl,b9⟩;refine zh ?_;refine ah rfl rfl ⟨rfl,a5.J b9⟩
 intro hc;have e1:ids.length<=16:=by rw[Bool.not_true,Bool.or_false]at hc;have:=of_decide_eq_false hc;omega
 clear hc;refine zh ?_;apply zc call8 (mU w2.heap.size (λ_=>0) w2 1 zd (aA w2));rintro v w3 ⟨b,O3,cs,rfl,d2,c9,b6,b9⟩;have hz:¬(λq:Nat=>1<=q) 0:=zd;refine zh ?_;apply zc call9 (uj m w2.heap.size O3 w3 1 b cs b6 zd d2);rintro v w4 ⟨e2,t1,rfl,d9,b0,b5⟩;have a7:=b0.1;refine zh ?_;apply aw (b6.U b5) 2 zo (zeroValue31 _) rfl;intro tb wx Ox hx c8 d' e0;apply bL (us:=t1.toArray) hx (show t1.toArray.size=17 from by simpa using a7) (by rw[show t1.toArray.size=17 from by simpa using a7];exact N1 _) (by simpa using b0.2.1) rfl rfl rfl;have b2:=hx.setRow (us:=t1.toArray);have b4:M5 (λq=>q=2) O3 w4 Ox (wx.setRow tb t1.toArray):=c8.J (L1 zd hx.tag rfl);generalize wx.setRow tb t1.toArray=w5 at *;have a9:=((c9.mono (λ_ h=>zo) hz).J (b5.mono (λ_ h=>zo) hz)).J (b4.mono (λ_ h=>zo) hz);have a3:=a5.J a9.ext;refine zh ?_;refine cx (λw1=>_=w1) (decide ((3:Int)<m)) 2 rfl rfl rfl rfl rfl rfl ?_ ?_
 ·intro a2;refine zh ?_;refine nE 23 3 rfl a2
 rintro _ rfl;refine zh ?_
 rcases (b0.U b4).2.2 with⟨a4,d1⟩|⟨a4,rfl⟩
 ·obtain⟨n,rfl,hn⟩:=AO a4;rw[a4,Int.toNat_natCast]at *;obtain⟨a,bb,d7,d6,gv,lc,rc,hM,b1,k1,k2,k3⟩:=d1.made;have hi:=hM.inv;have c7:=hM.breaks ids zo;generalize cC (stS n).li (stS n).lk (stS n).ts a bb d7 d6=t at *;have d0:TabV w5 (.agg t1.toArray) t:=⟨gv,lc,rc,by rw[b1],k1,k2,k3⟩
  have tc:∀W,MK w5 W->∀(j:Nat) (u:LX),t1[j]? = some u->W.cell? (nA tb j)=some u:=λW e j u hu=>e.cell (by
   have:=b2.V j u
   simpa using this (by simpa using hu))
  refine zFH rfl ((by rw[decide_eq_false (show¬(n:Int)<0 by omega),decide_eq_false (show¬(3:Int)<(n:Int) by omega)];rfl)) ?_;apply ay (d:=35) rfl (b':=true) rfl
  refine zh ?_;refine zvH (ai (us:=t1) (tc w5 (Mp _)) (Nr _) (by rw[a7];exact N1 _) rfl) ?_
  apply zc call10 (iq t _ w5 d0);rintro v w6 ⟨rfl,a0⟩;rw[hi.right];refine zh ?_
  apply ay (d:=39) rfl (b':=true) rfl;refine zh ?_
  refine zvH (ai (us:=t1) (tc w6 a0) (Nr _) (by rw[a7];exact N1 _) rfl) ?_;rw[b1];refine zh ?_
  apply zc call11 (jQ w6 t gv lc rc (k1.ext a0) (k2.ext a0) (k3.ext a0) hi.ok hi.right (jD hT (a3.J a0)) ids dv (hd.ext (a3.J a0)) zo);rintro bv w7 ⟨b3,d4⟩;rw[c7]at b3;refine zh ?_
  apply zc call14 (xW n hn w7);rintro v w8 ⟨b8,c',ig,kp,rv,rfl⟩;have a6:=((a3.J a0).J d4).J b8;refine zh ?_
  apply zc call13 (so (stS n).li (stS n).lk (stS n).ts ids (D4 ig kp rv) dv w8 c' (hd.ext a6) zo);rintro rb w9 ⟨c5,b7,_⟩;refine zh ?_
  apply zc call12 (oX (iT (stS n).li (stS n).lk ids (stS n).ts) (iT (stS n).li (stS n).lk ids (stS n).ts) bv rb w9 (b3.ext (b8.J b7)) c5);rintro v d8 ⟨rfl,a'⟩;refine zh ?_
  refine ah rfl rfl ⟨by simp,(a6.J b7).J a'⟩
 have a8:m<0\/3<m:=by
  unfold jO at a4
  by_cases h0:0<=m
  ·rw[decide_eq_true h0,Bool.true_and]at a4;have:=of_decide_eq_false a4;omega
  omega
 rw[a4]at *;have tc:∀W,MK w5 W->∀(j:Nat) (u:LX),tab0.toList[j]? = some u->W.cell? (nA tb j)=some u:=λW e j u hu=>e.cell (b2.V j u hu)
 refine zTH rfl ((by simpa using a8)) ?_;apply ay (d:=29) rfl (b':=true) rfl
 refine zh ?_;refine zvH (ai (us:=tab0.toList) (tc w5 (Mp _)) (Nr _) (N1 _) rfl) ?_
 apply zc call10 (iq KL _ w5 (JO w5));rintro v w6 ⟨rfl,a0⟩;rw[show gD KL=false from by decide];refine zh ?_
 refine ah rfl rfl ⟨rfl,a3.J a0⟩
end Go.Proofs.YteolbhblkgjbhaaGreatDoor
