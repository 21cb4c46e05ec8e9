/- Texts that the proof of this statement needs, merged and shortened. -/
import Derived.Test.YtlehnbkknlpkbaaGreatDoorQTableStates5
open Go.VL.RV renaming move->ix,assign->th,add->x4,len->yJ,build->CR
open List renaming dropWhile_suffix->ln,mem_cons->oz,pairwise_cons->oD,mem_singleton->oU,mem_map->pR,takeWhile_prefix->rj,toArray_inj->rm,mem_filter->rU,replicate->sP,mem_range->sQ,all_cons->tq,mem_append->tR,all_nil->vg,length_map->vX,range->y3,length_append->y4,pairwise_map->yr,not_mem_nil->yP,nodup_range->yY,any_eq_true->z1,all_eq_true->z6
open Go.VL.WC renaming region->ow,seq->pN,tail->ze,skip->B1,block->C9
open Go.VL.WL renaming nil->ox
open Go.VL.Upd renaming setRow->pc,set->xK
open Go.VL.Ext renaming refl->ps
open Go.Value.tuple renaming injEq->pZ
open Go.Proofs.Tryz renaming sizeOf41->qy,underlying9->qN,sizeOf35->sx,underlying66->tp,zeroValue41->tG,zeroValue35->uM,call132->uY,isAgg41->x8,sizeOf3->y7,isAgg35->y8,sizeOf4->BV,prog->BW,call22->CY
open Go.Value.int renaming injEq->rf
open Go.Value.agg renaming injEq->ri
open List.cons renaming injEq->rk,inj->C2
open Nat renaming pow_le_pow_right->rI,le_of_eq->tJ,two_pow_pos->ug,lt_of_lt_of_le->uV,le_refl->vO,testBit_lt_two_pow->y1,zero_le->y2
open Array.mk renaming injEq->su
open Go renaming World->sN,Value->uh
open Go.VL.Ret renaming enter->uu
open Go.VL.Fit renaming i64->uw
open Go.Proofs.YtlehnbkknlpkbaaGreatDoor.LR renaming bad->z7
open Go.VL.WH renaming done->z8
open Go.Value renaming oneCell'->zf
open Go.Proofs.YtlehnbkknlpkbaaGreatDoor renaming PostC->zl
open Bool renaming eq_iff_iff->zI,true_and->Ae
open Go.VL.RowT renaming nil->zR
open Go.VL renaming Upd->A2,Ext->CZ
open Go.Proofs.YtlehnbkknlpkbaaGreatDoor.RowsT renaming push->As
open List.Pairwise renaming imp_of_mem->AK
open Go.VL.BlkO renaming setRow->AW,drew->BG,upd->BJ
open Go.VL.WS renaming go->Bh
open Iff renaming rfl->CX
set_option maxRecDepth 10000
open Go.VL Go.Proofs Go.Proofs.Tryz
namespace Go.Proofs.YtlehnbkknlpkbaaGreatDoor
section
variable{kn:Kn}
inductive RK where
 |go (kn:Kn) (st:St)
 |bad (p:Nat) (e:Int)
def pz(kn:Kn):RS->RK
 |.go st=>.go kn st
 |.bad p e=>.bad p e
 |.other=>.bad 0 0
def Ip(kn:Kn)(st:St)(d:Nat):ML->RK
 |.ok x=>.go (kn++[x]) st
 |.bad p e=>.bad (d-p) e
def cU(kn:Kn)(st:St)(seg:List UInt8):RK:=
 if(bp seg).length=0 then .go kn st
 else if((bp seg).takeWhile aj==[108,101,116])=true then Ip kn st (bC seg).length (tQ kn ((bp seg).dropWhile aj))
 else if((bp seg).takeWhile aj==[105,103,110,111,114,101])=true then
  (if st.hi=true then .bad ((bC seg).length-(bp seg).length) 11 else pz kn (IT st (bC seg).length (dt ((bp seg).dropWhile aj))))
 else if((bp seg).takeWhile aj==[107,101,101,112])=true then
  (if st.hk=true then .bad ((bC seg).length-(bp seg).length) 11 else pz kn (IS st (bC seg).length (dt ((bp seg).dropWhile aj))))
 else pz kn (IR st ((bC seg).length-(bp seg).length) (if st.ts.length=40 then z7 0 3 else jl kn (bp seg)))
def Ih(B:Nat)(O:Nat->Nat)(w w':sN)(j jr ji jk jm rb:Nat)(s:LS)(fr:Nat)(M:RK):Prop:=
 ∃O' s',A2 (fun k=>k=j\/k=jr\/k=ji\/k=jk\/k=jm) O w O' w'/\Rng B O' w'/\Rd6 O' w' j rb s'/\s'.l=s.l/\
  match M with
  |.go kn' st'=>s'.e=0/\Mem O' w' jr ji jk s' st'/\Mac O' w' jm s'.mc kn'
  |.bad p e=>e≠0/\s'.e=e/\s'.bad=(fr:Int)+(p:Int)
theorem Bn{r:List UInt8}{p:Nat}{e:Int}(h:tQ kn r=.bad p e):p<=r.length:=by
 have h1:=dy r;have h2:=(ln (l:=aw r) aj).length_le;have h3:=dy ((aw r).dropWhile aj);unfold tQ at h
 split at h
 ·cases h;omega
 split at h
 ·cases h;omega
 split at h
 ·cases hx:fz kn (aw ((aw r).dropWhile aj)).tail with
  |ok t=>rw[hx]at h;cases h
  |bad q f=>rw[hx]at h;cases h;omega
 cases h;omega
theorem tt(B:Nat)(O:Nat → Nat)(w:sN)(j jr ji jk jm rb:Nat)(s:LS)(fr to:Nat)(seg:List UInt8)(st:St)(hR:Rng B O w)(hj:j ≠ 0)(hjr:jr ≠ 0)(hji:ji ≠ 0)(hjk:jk ≠ 0)(hd1:j ≠ jr)(hd2:j ≠ ji)(hd3:j ≠ jk)(hd4:jr ≠ ji)(hd5:jr ≠ jk)(hd6:ji ≠ jk)(hjm:jm ≠ 0)(hd7:j ≠ jm)(hd8:jr ≠ jm)(hd9:ji ≠ jm)(hd10:jk ≠ jm)(hknl:kn.length ≤ 100000)(hft:fr ≤ to)(htl:to ≤ s.l.length)(hl':s.l.length ≤ 100000)(he:s.e = 0)
  (hseg:(s.l.take to).drop fr = seg) (hmem:Mem O w jr ji jk s st) (hmac:Mac O w jm s.mc kn) (h:Rd6 O w j rb s) :
  Ret BW 92 [nP rb, nI fr, nI to] w fun _ w' => Ih B O w w' j jr ji jk jm rb s fr (cU kn st seg) := by
 have hz4:¬(fun q:Nat => q = j ∨ q = jr ∨ q = ji ∨ q = jk ∨ q = jm) 0 := fun e => by rcases e with e | e | e | e | e; exact hj e.symm; exact hjr e.symm; exact hji e.symm; exact hjk e.symm; exact hjm e.symm
 have hz1:¬(fun q:Nat => q = j) 0 := fun e => hj e.symm
 have hsl:seg.length = to - fr := by rw[← hseg]; simp; omega
 have hRl:(bp seg).length ≤ (bC seg).length := dy _
 have hBl:(bC seg).length ≤ seg.length := (rj (l := seg) _).length_le
 obtain⟨m, hmd⟩:∃m, m = fr + (bC seg).length := ⟨_, rfl⟩
 have hm':m ≤ s.l.length := by omega
 have hbare:(s.l.take m).drop fr = bC seg := by
  have h1:bC seg = seg.take (bC seg).length := List.prefix_iff_eq_take.1 (rj _)
  have h2:(seg.take (bC seg).length) = (s.l.take m).drop fr := by
   conv => lhs; arg 2; rw[← hseg]
   rw[List.take_drop, List.take_take, Nat.min_eq_left (by omega), hmd]
  rw[← h2, ← h1]
 have hsufB:bC seg <:+ s.l.take m := by rw[← hbare]; exact List.drop_suffix _ _
 have hsufR:bp seg <:+ s.l.take m := (bn _).trans hsufB
 have hposB:(fr:Int) = (m:Int) - ((bC seg).length:Int) := by omega
 have hbgR:(m:Int) - ((aw (bC seg)).length:Int) = ((m - (bp seg).length:Nat):Int) := by
  have:(aw (bC seg)).length = (bp seg).length := rfl
  omega
 refine uu func92 ntmps92 rfl rfl ?_
 refine pN ?_
 refine ow ?_
 refine zv (ix rfl) ?_
 refine zv (ix rfl) ?_
 refine zv (ix rfl) ?_
 refine zv (ix rfl) ?_
 refine zv (aq rfl) ?_
 refine zv (RV.fa rfl) ?_
 refine zv (RV.fa rfl) ?_
 refine ak (j := 1) h rfl (y7 _) rfl rfl rfl rfl ?_
 have hb1 := h.s_pos (fr:Int)
 have hU1:A2 (fun k => k = j) O w O (w.setCell ⟨rb, 1, none⟩ (nI (fr:Int))) := xK hz1 h.tag rfl
 refine zv (aq rfl) ?_
 refine zv (RV.fa rfl) ?_
 refine zv (RV.fa rfl) ?_
 refine ak (j := 2) hb1 rfl (y7 _) rfl rfl rfl rfl ?_
 have hb2 := hb1.s_to (to:Int)
 have hU2:A2 (fun k => k = j) O (w.setCell ⟨rb, 1, none⟩ (nI (fr:Int))) O ((w.setCell ⟨rb, 1, none⟩ (nI (fr:Int))).setCell ⟨rb, 2, none⟩ (nI (to:Int))) := xK hz1 hb1.tag rfl
 have hU12 := hU1.trans hU2
 have hmem2 := hmem.upd hU12 hjr hji hjk (fun e => hd1 e.symm) (fun e => hd2 e.symm) (fun e => hd3 e.symm)
 have hmac2 := hmac.upd hU12 hjm (fun e => hd7 e.symm)
 have hR2 := hR.upd hU12
 generalize (w.setCell ⟨rb, 1, none⟩ (nI (fr:Int))).setCell ⟨rb, 2, none⟩ (nI (to:Int)) = w2 at *
 refine ox ?_
 refine az ?_
 refine pN ?_
 refine pN ?_
 refine ow ?_
 refine zv (ix rfl) ?_
 refine zv (aq rfl) ?_
 refine zv (RV.fa rfl) ?_
 refine zv (RV.fa rfl) ?_
 refine zv (RV.ld hb2.q0 rfl) ?_
 refine zv (ix rfl) ?_
 refine zv (ix rfl) ?_
 refine zv (dc qN rfl rfl rfl fr to rfl rfl hft htl) ?_
 rw[show({s with pos := (fr:Int), to := (to:Int)}:LS).l = s.l from rfl, hseg]
 refine zc call91 (dK seg 35 w2) ?_
 rintro v w9 ⟨rfl, hw9⟩
 rw[hw9]
 clear hw9 w9
 cases hf:seg.findIdx? (· == 35)with
 |none =>
  have hi:sH seg 35 = -1 := by unfold sH; rw[hf]
  have hbe := zY hf
  rw[hi]
  obtain rfl:m = to := by rw[hmd, hbe, hsl]; omega
  refine zv (th rfl) ?_
  refine ox ?_
  refine az ?_
  refine pN ?_
  refine ow ?_
  refine zv (ix rfl) ?_
  refine zv (RV.geq rfl rfl) ?_
  refine ox ?_
  refine az ?_
  refine aS rfl rfl ?_
  have hmem3 := hmem2
  have hmac3 := hmac2
  have hR3 := hR2
  have hUt3 := hU12.mono (S' := fun k => k = j ∨ k = jr ∨ k = ji ∨ k = jk ∨ k = jm) (fun _ h => .inl h) hz4
  refine B1 ?_
  refine az ?_
  refine pN ?_
  refine pN ?_
  refine ow ?_
  refine zv (ix rfl) ?_
  refine zv (aq rfl) ?_
  refine zv (RV.fa rfl) ?_
  refine zc call129 (dX O w2 j rb ({s with pos := (fr:Int), to := (m:Int)}:LS) m (bC seg) hj hm' hl' rfl hsufB hposB hb2) ?_
  rintro v w4 ⟨rfl, hb4, hU4⟩
  have hmem4 := hmem3.upd hU4 hjr hji hjk (fun e => hd1 e.symm) (fun e => hd2 e.symm) (fun e => hd3 e.symm)
  have hmac4 := hmac3.upd hU4 hjm (fun e => hd7 e.symm)
  have hR4 := hR3.upd hU4
  have hUt4 := hUt3.trans (hU4.mono (fun _ h => .inl h) hz4)
  refine zv (RV.not rfl) ?_
  refine ox ?_
  refine az ?_
  by_cases h0:(bp seg).length = 0
  ·have hM:cU kn st seg = .go kn st := by unfold cU; rw[if_pos h0]
   rw[hM]
   refine aZ rfl ((by have h0':(aw (bC seg)).length = 0 := h0; simp[h0'])) ?_
   refine WC.ret ?_
   refine bT ?_
   exact cA rfl ⟨O, _, hUt4, hR4, hb4, rfl, he, hmem4.with rfl rfl rfl rfl rfl, hmac4⟩
  ·have h0':(aw (bC seg)).length = (bp seg).length := rfl
   refine aS rfl ((by rw[h0', decide_eq_true (by omega)]; rfl)) ?_
   refine B1 ?_
   refine az ?_
   refine pN ?_
   refine ow ?_
   refine zv (ix rfl) ?_
   refine zv (ix rfl) ?_
   refine zv (aq rfl) ?_
   refine zv (RV.fa rfl) ?_
   refine zv (RV.fa rfl) ?_
   refine zv (RV.ld hb4.q1 rfl) ?_
   refine zv (aq rfl) ?_
   refine zv (RV.fa rfl) ?_
   refine zv (RV.fa rfl) ?_
   refine ak (j := 3) hb4 rfl (y7 _) rfl rfl rfl rfl ?_
   have hb5 := hb4.s_bg ((m:Int) - ((aw (bC seg)).length:Int))
   have hU5:A2 (fun k => k = j) O w4 O (w4.setCell ⟨rb, 3, none⟩ (nI ((m:Int) - ((aw (bC seg)).length:Int)))) := xK (fun e => hj e.symm) hb4.tag rfl
   have hmem5 := hmem4.upd hU5 hjr hji hjk (fun e => hd1 e.symm) (fun e => hd2 e.symm) (fun e => hd3 e.symm)
   have hmac5 := hmac4.upd hU5 hjm (fun e => hd7 e.symm)
   have hR5 := hR4.upd hU5
   have hUt5 := hUt4.trans (hU5.mono (fun _ h => .inl h) hz4)
   generalize w4.setCell ⟨rb, 3, none⟩ (nI ((m:Int) - ((aw (bC seg)).length:Int))) = w5 at *
   refine ox ?_
   refine az ?_
   refine pN ?_
   refine ow ?_
   refine zv (ix rfl) ?_
   refine zv (aq rfl) ?_
   refine zv (RV.fa rfl) ?_
   refine zc call130 (gV O w5 j rb ({s with pos := ((m:Int) - ((aw (bC seg)).length:Int)), to := (m:Int), bg := ((m:Int) - ((aw (bC seg)).length:Int))}:LS) m (bp seg) hj hm' hl' rfl hsufR rfl hb5) ?_
   rintro v w6 ⟨rfl, hb6, hU6⟩
   have hmem6 := hmem5.upd hU6 hjr hji hjk (fun e => hd1 e.symm) (fun e => hd2 e.symm) (fun e => hd3 e.symm)
   have hmac6 := hmac5.upd hU6 hjm (fun e => hd7 e.symm)
   have hR6 := hR5.upd hU6
   have hUt6 := hUt5.trans (hU6.mono (fun _ h => .inl h) hz4)
   have hdl := (ln (l := bp seg) aj).length_le
   refine ox ?_
   refine az ?_
   refine C9 ?_
   refine pN ?_
   refine ow ?_
   refine zv (cX rfl rfl) ?_
   refine zv (th rfl) ?_
   refine ox ?_
   refine az ?_
   cases hk1:((bp seg).takeWhile aj == [108, 101, 116])with
   |true =>
    have hM:cU kn st seg = Ip kn st (bC seg).length (tQ kn ((bp seg).dropWhile aj)) := by unfold cU; rw[if_neg h0, if_pos hk1]
    rw[hM]
    refine aZ rfl rfl ?_
    refine ow ?_
    refine zv (ix rfl) ?_
    refine zc call131 (Bm B O w6 j jm rb ({s with pos := (m:Int) - (((bp seg).dropWhile aj).length:Int), to := (m:Int), bg := ((m:Int) - ((aw (bC seg)).length:Int))}:LS) m ((bp seg).dropWhile aj) hR6 hj hjm hd7 hm' hl' rfl he ((ln _).trans hsufR) rfl hknl hmac6 hb6) ?_
    rintro u w7 ⟨O7, v7, pos, bad, e, hU7, hR7, hb7, hP7⟩
    have hUt7 := hUt6.trans (hU7.mono (S' := fun k => k = j ∨ k = jr ∨ k = ji ∨ k = jk ∨ k = jm) (fun _ h => by rcases h with h | h; exact .inl h; exact .inr (.inr (.inr (.inr h)))) hz4)
    have hmem7 := hmem6.upd hU7 hjr hji hjk (fun h => by rcases h with h | h; exact hd1 h.symm; exact hd8 h) (fun h => by rcases h with h | h; exact hd2 h.symm; exact hd9 h) (fun h => by rcases h with h | h; exact hd3 h.symm; exact hd10 h)
    refine ox ?_
    refine eh ?_
    cases hq:tQ kn ((bp seg).dropWhile aj)with
    |ok x =>
     rw[hq]at hP7
     obtain⟨he7, hmac7⟩ := hP7
     exact aH rfl ⟨O7, _, hUt7, hR7, hb7, rfl, he7, hmem7.with rfl rfl rfl rfl rfl, hmac7⟩
    |bad p e' =>
     rw[hq]at hP7
     obtain⟨he7, hne7, hbad7⟩ := hP7
     have hple := Bn hq
     exact aH rfl ⟨O7, _, hUt7, hR7, hb7, rfl, hne7, he7, by dsimp only; rw[hbad7]; omega⟩
   |false =>
   refine aS rfl rfl ?_
   refine pN ?_
   refine ow ?_
   refine zv (cX rfl rfl) ?_
   refine zv (th rfl) ?_
   refine ox ?_
   refine az ?_
   cases hk2:((bp seg).takeWhile aj == [105, 103, 110, 111, 114, 101])with
   |true =>
    refine aZ rfl rfl ?_
    have hb6d := hb6.drew
    have hmem6d := hmem6.upd (aa (S := fun _ => False) (fun h => h) O (ps w6).drew) hjr hji hjk (fun h => h) (fun h => h) (fun h => h)
    have hmac6d := hmac6.upd (aa (S := fun _ => False) (fun h => h) O (ps w6).drew) hjm (fun h => h)
    have hR6d := hR6.drew
    have hUt6d := hUt6.drew
    refine ze 8 rfl rfl (by kernel_rfl) (by kernel_rfl) ?_
    refine zw (ix rfl) ?_
    refine zw (ix rfl) ?_
    refine zw (aq rfl) ?_
    refine zw (RV.fa rfl) ?_
    refine zw (RV.fa rfl) ?_
    refine zw (ix rfl) ?_
    refine zw (aq rfl) ?_
    refine zw (RV.fa rfl) ?_
    refine Bh ?_
    cases hfl:st.hi with
    |true =>
     have hM:cU kn st seg = .bad ((bC seg).length - (bp seg).length) 11 := by unfold cU; rw[if_neg h0, if_neg (by rw[hk1]; decide), if_pos hk2, if_pos hfl]
     rw[hM]
     refine zc uY (qh O w6.drew j rb ({s with pos := (m:Int) - (((bp seg).dropWhile aj).length:Int), to := (m:Int), bg := ((m:Int) - ((aw (bC seg)).length:Int))}:LS) hj he (hmem6d.fi.trans hfl) hb6d) ?_
     rintro u w7 ⟨hb7, hU7⟩
     refine ox ?_
     refine eh ?_
     exact aH rfl ⟨O, _, hUt6d.trans (hU7.mono (fun _ h => .inl h) hz4), hR6d.upd hU7, hb7, rfl, by decide, rfl, by dsimp only; rw[h0']; omega⟩
    |false =>
     have hM:cU kn st seg = pz kn (IT st (bC seg).length (dt ((bp seg).dropWhile aj))) := by unfold cU; rw[if_neg h0, if_neg (by rw[hk1]; decide), if_pos hk2, if_neg (by rw[hfl]; decide)]
     rw[hM]
     refine zc uY (tN B O w6.drew j ji rb ({s with pos := (m:Int) - (((bp seg).dropWhile aj).length:Int), to := (m:Int), bg := ((m:Int) - ((aw (bC seg)).length:Int))}:LS) m ((bp seg).dropWhile aj) hR6d hj hji hd2 hm' hl' rfl he (hmem6d.fi.trans hfl) (hmem6d.ni hfl) ((ln _).trans hsufR) rfl hb6d) ?_
     rintro u w7 ⟨O7, lv, pos, bad, e, hU7, hR7, hb7, hP7⟩
     have hUt7 := hUt6d.trans (hU7.mono (S' := fun k => k = j ∨ k = jr ∨ k = ji ∨ k = jk ∨ k = jm) (fun _ h => by rcases h with h | h; exact .inl h; exact .inr (.inr (.inl h))) hz4)
     refine ox ?_
     refine eh ?_
     cases hq:dt ((bp seg).dropWhile aj)with
     |ok l =>
      rw[hq]at hP7
      obtain⟨he7, hrow7⟩ := hP7
      obtain⟨⟨xs, a1, a2, a3, a4⟩, mb, mc, md, me, mf, mg⟩ := hmem6d
      exact aH rfl ⟨O7, _, hUt7, hR7, hb7, rfl, he7, ⟨⟨xs, a1.upd hU7 hjr (fun h => by rcases h with h | h; exact hd1 h.symm; exact hd4 h), a2, a3, fun i hi => (a4 i hi).upd hU7⟩, hrow7, mc.upd hU7 hjk (fun h => by rcases h with h | h; exact hd3 h.symm; exact hd6 h.symm), rfl, me, (fun h => by cases h), mg⟩, hmac6d.upd hU7 hjm (fun h => by rcases h with h | h; exact hd7 h.symm; exact hd9 h.symm)⟩
     |bad p e' =>
      rw[hq]at hP7
      obtain⟨he7, hne7, hbad7⟩ := hP7
      have hple := ng hq
      exact aH rfl ⟨O7, _, hUt7, hR7, hb7, rfl, hne7, he7, by dsimp only; rw[hbad7]; omega⟩
   |false =>
    refine aS rfl rfl ?_
    refine pN ?_
    refine ow ?_
    refine zv (cX rfl rfl) ?_
    refine zv (th rfl) ?_
    refine ox ?_
    refine az ?_
    cases hk3:((bp seg).takeWhile aj == [107, 101, 101, 112])with
    |true =>
     refine aZ rfl rfl ?_
     have hb6d := hb6.drew
     have hmem6d := hmem6.upd (aa (S := fun _ => False) (fun h => h) O (ps w6).drew) hjr hji hjk (fun h => h) (fun h => h) (fun h => h)
     have hmac6d := hmac6.upd (aa (S := fun _ => False) (fun h => h) O (ps w6).drew) hjm (fun h => h)
     have hR6d := hR6.drew
     have hUt6d := hUt6.drew
     refine ze 8 rfl rfl (by kernel_rfl) (by kernel_rfl) ?_
     refine zw (ix rfl) ?_
     refine zw (ix rfl) ?_
     refine zw (aq rfl) ?_
     refine zw (RV.fa rfl) ?_
     refine zw (RV.fa rfl) ?_
     refine zw (ix rfl) ?_
     refine zw (aq rfl) ?_
     refine zw (RV.fa rfl) ?_
     refine Bh ?_
     cases hfl:st.hk with
     |true =>
      have hM:cU kn st seg = .bad ((bC seg).length - (bp seg).length) 11 := by unfold cU; rw[if_neg h0, if_neg (by rw[hk1]; decide), if_neg (by rw[hk2]; decide), if_pos hk3, if_pos hfl]
      rw[hM]
      refine zc uY (qg O w6.drew j rb ({s with pos := (m:Int) - (((bp seg).dropWhile aj).length:Int), to := (m:Int), bg := ((m:Int) - ((aw (bC seg)).length:Int))}:LS) hj he (hmem6d.fk.trans hfl) hb6d) ?_
      rintro u w7 ⟨hb7, hU7⟩
      refine ox ?_
      refine eh ?_
      exact aH rfl ⟨O, _, hUt6d.trans (hU7.mono (fun _ h => .inl h) hz4), hR6d.upd hU7, hb7, rfl, by decide, rfl, by dsimp only; rw[h0']; omega⟩
     |false =>
      have hM:cU kn st seg = pz kn (IS st (bC seg).length (dt ((bp seg).dropWhile aj))) := by unfold cU; rw[if_neg h0, if_neg (by rw[hk1]; decide), if_neg (by rw[hk2]; decide), if_pos hk3, if_neg (by rw[hfl]; decide)]
      rw[hM]
      refine zc uY (tM B O w6.drew j jk rb ({s with pos := (m:Int) - (((bp seg).dropWhile aj).length:Int), to := (m:Int), bg := ((m:Int) - ((aw (bC seg)).length:Int))}:LS) m ((bp seg).dropWhile aj) hR6d hj hjk hd3 hm' hl' rfl he (hmem6d.fk.trans hfl) (hmem6d.nk hfl) ((ln _).trans hsufR) rfl hb6d) ?_
      rintro u w7 ⟨O7, lv, pos, bad, e, hU7, hR7, hb7, hP7⟩
      have hUt7 := hUt6d.trans (hU7.mono (S' := fun k => k = j ∨ k = jr ∨ k = ji ∨ k = jk ∨ k = jm) (fun _ h => by rcases h with h | h; exact .inl h; exact .inr (.inr (.inr (.inl h)))) hz4)
      refine ox ?_
      refine eh ?_
      cases hq:dt ((bp seg).dropWhile aj)with
      |ok l =>
       rw[hq]at hP7
       obtain⟨he7, hrow7⟩ := hP7
       obtain⟨⟨xs, a1, a2, a3, a4⟩, mb, mc, md, me, mf, mg⟩ := hmem6d
       exact aH rfl ⟨O7, _, hUt7, hR7, hb7, rfl, he7, ⟨⟨xs, a1.upd hU7 hjr (fun h => by rcases h with h | h; exact hd1 h.symm; exact hd5 h), a2, a3, fun i hi => (a4 i hi).upd hU7⟩, mb.upd hU7 hji (fun h => by rcases h with h | h; exact hd2 h.symm; exact hd6 h), hrow7, md, rfl, mf, (fun h => by cases h)⟩, hmac6d.upd hU7 hjm (fun h => by rcases h with h | h; exact hd7 h.symm; exact hd10 h.symm)⟩
      |bad p e' =>
       rw[hq]at hP7
       obtain⟨he7, hne7, hbad7⟩ := hP7
       have hple := ng hq
       exact aH rfl ⟨O7, _, hUt7, hR7, hb7, rfl, hne7, he7, by dsimp only; rw[hbad7]; omega⟩
    |false =>
     have hM:cU kn st seg = pz kn (IR st ((bC seg).length - (bp seg).length) (if st.ts.length = 40 then z7 0 3 else jl kn (bp seg))) := by unfold cU; rw[if_neg h0, if_neg (by rw[hk1]; decide), if_neg (by rw[hk2]; decide), if_neg (by rw[hk3]; decide)]
     refine aS rfl rfl ?_
     obtain⟨xs, hrow6, hxe, hxl, hxr⟩ := hmem6.ru
     refine ow ?_
     refine zv (ix rfl) ?_
     refine zc call133 (tk B O w6 j jr rb ({s with pos := (m:Int) - (((bp seg).dropWhile aj).length:Int), to := (m:Int), bg := ((m:Int) - ((aw (bC seg)).length:Int))}:LS) m (bp seg) xs hR6 hj hjr hd1 hm' hl' rfl hbgR he hjm hd7 hd8 hmac6 hsufR hrow6 hxl hb6) ?_
     rintro v w7 ⟨O7, rv, hU7, hR7, hP7⟩
     have hUt7 := hUt6.trans (hU7.mono (S' := fun k => k = j ∨ k = jr ∨ k = ji ∨ k = jk ∨ k = jm) (fun _ h => by rcases h with h | h; exact .inl h; exact .inr (.inl h)) hz4)
     refine ox ?_
     refine eh ?_
     rw[hM, hxe]
     cases hq:(if xs.length = 40 then z7 0 3 else jl kn (bp seg))with
     |ok t =>
      rw[hq]at hP7
      obtain⟨x, hrow7, hRt7, hb7⟩ := hP7
      have h40:xs.length ≠ 40 := fun e => by rw[if_pos e]at hq; cases hq
      obtain⟨_, mb, mc, md, me, mf, mg⟩ := hmem6
      obtain⟨q1, q2, q3, q4⟩ := As (ts := st.ts) hrow7 hxe (by omega) (fun i hi => (hxr i hi).upd hU7) hRt7
      exact aH rfl ⟨O7, _, hUt7, hR7, hb7, rfl, he, ⟨⟨xs ++ [x], q1, q2, q3, q4⟩, mb.upd hU7 hji (fun h => by rcases h with h | h; exact hd2 h.symm; exact hd4 h.symm), mc.upd hU7 hjk (fun h => by rcases h with h | h; exact hd3 h.symm; exact hd5 h.symm), md, me, mf, mg⟩, hmac6.upd hU7 hjm (fun h => by rcases h with h | h; exact hd7 h.symm; exact hd8 h.symm)⟩
     |bad p e =>
      rw[hq]at hP7
      obtain⟨hne7, hb7⟩ := hP7
      exact aH rfl ⟨O7, _, hUt7, hR7, hb7, rfl, hne7, rfl, by dsimp only; rw[h0']; omega⟩
 |some k =>
  have hi:sH seg 35 = (k:Nat) := by unfold sH; rw[hf]
  obtain⟨hbe, hkl⟩ := zX hf
  rw[hi]
  have hmk:m = fr + k := by rw[hmd, hbe]; simp; omega
  refine zv (th rfl) ?_
  refine ox ?_
  refine az ?_
  refine pN ?_
  refine ow ?_
  refine zv (ix rfl) ?_
  refine zv (RV.geq rfl rfl) ?_
  refine ox ?_
  refine az ?_
  refine aZ rfl ((decide_eq_true (by omega))) ?_
  refine ow ?_
  refine zv (ix rfl) ?_
  refine zv (ix rfl) ?_
  refine zv (ix rfl) ?_
  refine zv (x4 rfl rfl (uw (by omega))) ?_
  refine zv (aq rfl) ?_
  refine zv (RV.fa rfl) ?_
  refine zv (RV.fa rfl) ?_
  refine ak (j := 2) hb2 rfl (y7 _) rfl rfl rfl rfl ?_
  rw[show(fr:Int) + ((k:Nat):Int) = (m:Int)from by omega]
  have hb3 := hb2.s_to (m:Int)
  have hU3:A2 (fun k => k = j) O w2 O (w2.setCell ⟨rb, 2, none⟩ (nI (m:Int))) := xK hz1 hb2.tag rfl
  have hmem3 := hmem2.upd hU3 hjr hji hjk (fun e => hd1 e.symm) (fun e => hd2 e.symm) (fun e => hd3 e.symm)
  have hmac3 := hmac2.upd hU3 hjm (fun e => hd7 e.symm)
  have hR3 := hR2.upd hU3
  have hUt3 := (hU12.trans hU3).mono (S' := fun k => k = j ∨ k = jr ∨ k = ji ∨ k = jk ∨ k = jm) (fun _ h => .inl h) hz4
  generalize w2.setCell ⟨rb, 2, none⟩ (nI (m:Int)) = w3 at *
  refine ox ?_
  refine az ?_
  refine pN ?_
  refine pN ?_
  refine ow ?_
  refine zv (ix rfl) ?_
  refine zv (aq rfl) ?_
  refine zv (RV.fa rfl) ?_
  refine zc call129 (dX O w3 j rb ({s with pos := (fr:Int), to := (m:Int)}:LS) m (bC seg) hj hm' hl' rfl hsufB hposB hb3) ?_
  rintro v w4 ⟨rfl, hb4, hU4⟩
  have hmem4 := hmem3.upd hU4 hjr hji hjk (fun e => hd1 e.symm) (fun e => hd2 e.symm) (fun e => hd3 e.symm)
  have hmac4 := hmac3.upd hU4 hjm (fun e => hd7 e.symm)
  have hR4 := hR3.upd hU4
  have hUt4 := hUt3.trans (hU4.mono (fun _ h => .inl h) hz4)
  refine zv (RV.not rfl) ?_
  refine ox ?_
  refine az ?_
  by_cases h0:(bp seg).length = 0
  ·have hM:cU kn st seg = .go kn st := by unfold cU; rw[if_pos h0]
   rw[hM]
   refine aZ rfl ((by have h0':(aw (bC seg)).length = 0 := h0; simp[h0'])) ?_
   refine WC.ret ?_
   refine bT ?_
   exact cA rfl ⟨O, _, hUt4, hR4, hb4, rfl, he, hmem4.with rfl rfl rfl rfl rfl, hmac4⟩
  ·have h0':(aw (bC seg)).length = (bp seg).length := rfl
   refine aS rfl ((by rw[h0', decide_eq_true (by omega)]; rfl)) ?_
   refine B1 ?_
   refine az ?_
   refine pN ?_
   refine ow ?_
   refine zv (ix rfl) ?_
   refine zv (ix rfl) ?_
   refine zv (aq rfl) ?_
   refine zv (RV.fa rfl) ?_
   refine zv (RV.fa rfl) ?_
   refine zv (RV.ld hb4.q1 rfl) ?_
   refine zv (aq rfl) ?_
   refine zv (RV.fa rfl) ?_
   refine zv (RV.fa rfl) ?_
   refine ak (j := 3) hb4 rfl (y7 _) rfl rfl rfl rfl ?_
   have hb5 := hb4.s_bg ((m:Int) - ((aw (bC seg)).length:Int))
   have hU5:A2 (fun k => k = j) O w4 O (w4.setCell ⟨rb, 3, none⟩ (nI ((m:Int) - ((aw (bC seg)).length:Int)))) := xK (fun e => hj e.symm) hb4.tag rfl
   have hmem5 := hmem4.upd hU5 hjr hji hjk (fun e => hd1 e.symm) (fun e => hd2 e.symm) (fun e => hd3 e.symm)
   have hmac5 := hmac4.upd hU5 hjm (fun e => hd7 e.symm)
   have hR5 := hR4.upd hU5
   have hUt5 := hUt4.trans (hU5.mono (fun _ h => .inl h) hz4)
   generalize w4.setCell ⟨rb, 3, none⟩ (nI ((m:Int) - ((aw (bC seg)).length:Int))) = w5 at *
   refine ox ?_
   refine az ?_
   refine pN ?_
   refine ow ?_
   refine zv (ix rfl) ?_
   refine zv (aq rfl) ?_
   refine zv (RV.fa rfl) ?_
   refine zc call130 (gV O w5 j rb ({s with pos := ((m:Int) - ((aw (bC seg)).length:Int)), to := (m:Int), bg := ((m:Int) - ((aw (bC seg)).length:Int))}:LS) m (bp seg) hj hm' hl' rfl hsufR rfl hb5) ?_
   rintro v w6 ⟨rfl, hb6, hU6⟩
   have hmem6 := hmem5.upd hU6 hjr hji hjk (fun e => hd1 e.symm) (fun e => hd2 e.symm) (fun e => hd3 e.symm)
   have hmac6 := hmac5.upd hU6 hjm (fun e => hd7 e.symm)
   have hR6 := hR5.upd hU6
   have hUt6 := hUt5.trans (hU6.mono (fun _ h => .inl h) hz4)
   have hdl := (ln (l := bp seg) aj).length_le
   refine ox ?_
   refine az ?_
   refine C9 ?_
   refine pN ?_
   refine ow ?_
   refine zv (cX rfl rfl) ?_
   refine zv (th rfl) ?_
   refine ox ?_
   refine az ?_
   cases hk1:((bp seg).takeWhile aj == [108, 101, 116])with
   |true =>
    have hM:cU kn st seg = Ip kn st (bC seg).length (tQ kn ((bp seg).dropWhile aj)) := by unfold cU; rw[if_neg h0, if_pos hk1]
    rw[hM]
    refine aZ rfl rfl ?_
    refine ow ?_
    refine zv (ix rfl) ?_
    refine zc call131 (Bm B O w6 j jm rb ({s with pos := (m:Int) - (((bp seg).dropWhile aj).length:Int), to := (m:Int), bg := ((m:Int) - ((aw (bC seg)).length:Int))}:LS) m ((bp seg).dropWhile aj) hR6 hj hjm hd7 hm' hl' rfl he ((ln _).trans hsufR) rfl hknl hmac6 hb6) ?_
    rintro u w7 ⟨O7, v7, pos, bad, e, hU7, hR7, hb7, hP7⟩
    have hUt7 := hUt6.trans (hU7.mono (S' := fun k => k = j ∨ k = jr ∨ k = ji ∨ k = jk ∨ k = jm) (fun _ h => by rcases h with h | h; exact .inl h; exact .inr (.inr (.inr (.inr h)))) hz4)
    have hmem7 := hmem6.upd hU7 hjr hji hjk (fun h => by rcases h with h | h; exact hd1 h.symm; exact hd8 h) (fun h => by rcases h with h | h; exact hd2 h.symm; exact hd9 h) (fun h => by rcases h with h | h; exact hd3 h.symm; exact hd10 h)
    refine ox ?_
    refine eh ?_
    cases hq:tQ kn ((bp seg).dropWhile aj)with
    |ok x =>
     rw[hq]at hP7
     obtain⟨he7, hmac7⟩ := hP7
     exact aH rfl ⟨O7, _, hUt7, hR7, hb7, rfl, he7, hmem7.with rfl rfl rfl rfl rfl, hmac7⟩
    |bad p e' =>
     rw[hq]at hP7
     obtain⟨he7, hne7, hbad7⟩ := hP7
     have hple := Bn hq
     exact aH rfl ⟨O7, _, hUt7, hR7, hb7, rfl, hne7, he7, by dsimp only; rw[hbad7]; omega⟩
   |false =>
   refine aS rfl rfl ?_
   refine pN ?_
   refine ow ?_
   refine zv (cX rfl rfl) ?_
   refine zv (th rfl) ?_
   refine ox ?_
   refine az ?_
   cases hk2:((bp seg).takeWhile aj == [105, 103, 110, 111, 114, 101])with
   |true =>
    refine aZ rfl rfl ?_
    have hb6d := hb6.drew
    have hmem6d := hmem6.upd (aa (S := fun _ => False) (fun h => h) O (ps w6).drew) hjr hji hjk (fun h => h) (fun h => h) (fun h => h)
    have hmac6d := hmac6.upd (aa (S := fun _ => False) (fun h => h) O (ps w6).drew) hjm (fun h => h)
    have hR6d := hR6.drew
    have hUt6d := hUt6.drew
    refine ze 8 rfl rfl (by kernel_rfl) (by kernel_rfl) ?_
    refine zw (ix rfl) ?_
    refine zw (ix rfl) ?_
    refine zw (aq rfl) ?_
    refine zw (RV.fa rfl) ?_
    refine zw (RV.fa rfl) ?_
    refine zw (ix rfl) ?_
    refine zw (aq rfl) ?_
    refine zw (RV.fa rfl) ?_
    refine Bh ?_
    cases hfl:st.hi with
    |true =>
     have hM:cU kn st seg = .bad ((bC seg).length - (bp seg).length) 11 := by unfold cU; rw[if_neg h0, if_neg (by rw[hk1]; decide), if_pos hk2, if_pos hfl]
     rw[hM]
     refine zc uY (qh O w6.drew j rb ({s with pos := (m:Int) - (((bp seg).dropWhile aj).length:Int), to := (m:Int), bg := ((m:Int) - ((aw (bC seg)).length:Int))}:LS) hj he (hmem6d.fi.trans hfl) hb6d) ?_
     rintro u w7 ⟨hb7, hU7⟩
     refine ox ?_
     refine eh ?_
     exact aH rfl ⟨O, _, hUt6d.trans (hU7.mono (fun _ h => .inl h) hz4), hR6d.upd hU7, hb7, rfl, by decide, rfl, by dsimp only; rw[h0']; omega⟩
    |false =>
     have hM:cU kn st seg = pz kn (IT st (bC seg).length (dt ((bp seg).dropWhile aj))) := by unfold cU; rw[if_neg h0, if_neg (by rw[hk1]; decide), if_pos hk2, if_neg (by rw[hfl]; decide)]
     rw[hM]
     refine zc uY (tN B O w6.drew j ji rb ({s with pos := (m:Int) - (((bp seg).dropWhile aj).length:Int), to := (m:Int), bg := ((m:Int) - ((aw (bC seg)).length:Int))}:LS) m ((bp seg).dropWhile aj) hR6d hj hji hd2 hm' hl' rfl he (hmem6d.fi.trans hfl) (hmem6d.ni hfl) ((ln _).trans hsufR) rfl hb6d) ?_
     rintro u w7 ⟨O7, lv, pos, bad, e, hU7, hR7, hb7, hP7⟩
     have hUt7 := hUt6d.trans (hU7.mono (S' := fun k => k = j ∨ k = jr ∨ k = ji ∨ k = jk ∨ k = jm) (fun _ h => by rcases h with h | h; exact .inl h; exact .inr (.inr (.inl h))) hz4)
     refine ox ?_
     refine eh ?_
     cases hq:dt ((bp seg).dropWhile aj)with
     |ok l =>
      rw[hq]at hP7
      obtain⟨he7, hrow7⟩ := hP7
      obtain⟨⟨xs, a1, a2, a3, a4⟩, mb, mc, md, me, mf, mg⟩ := hmem6d
      exact aH rfl ⟨O7, _, hUt7, hR7, hb7, rfl, he7, ⟨⟨xs, a1.upd hU7 hjr (fun h => by rcases h with h | h; exact hd1 h.symm; exact hd4 h), a2, a3, fun i hi => (a4 i hi).upd hU7⟩, hrow7, mc.upd hU7 hjk (fun h => by rcases h with h | h; exact hd3 h.symm; exact hd6 h.symm), rfl, me, (fun h => by cases h), mg⟩, hmac6d.upd hU7 hjm (fun h => by rcases h with h | h; exact hd7 h.symm; exact hd9 h.symm)⟩
     |bad p e' =>
      rw[hq]at hP7
      obtain⟨he7, hne7, hbad7⟩ := hP7
      have hple := ng hq
      exact aH rfl ⟨O7, _, hUt7, hR7, hb7, rfl, hne7, he7, by dsimp only; rw[hbad7]; omega⟩
   |false =>
    refine aS rfl rfl ?_
    refine pN ?_
    refine ow ?_
    refine zv (cX rfl rfl) ?_
    refine zv (th rfl) ?_
    refine ox ?_
    refine az ?_
    cases hk3:((bp seg).takeWhile aj == [107, 101, 101, 112])with
    |true =>
     refine aZ rfl rfl ?_
     have hb6d := hb6.drew
     have hmem6d := hmem6.upd (aa (S := fun _ => False) (fun h => h) O (ps w6).drew) hjr hji hjk (fun h => h) (fun h => h) (fun h => h)
     have hmac6d := hmac6.upd (aa (S := fun _ => False) (fun h => h) O (ps w6).drew) hjm (fun h => h)
     have hR6d := hR6.drew
     have hUt6d := hUt6.drew
     refine ze 8 rfl rfl (by kernel_rfl) (by kernel_rfl) ?_
     refine zw (ix rfl) ?_
     refine zw (ix rfl) ?_
     refine zw (aq rfl) ?_
     refine zw (RV.fa rfl) ?_
     refine zw (RV.fa rfl) ?_
     refine zw (ix rfl) ?_
     refine zw (aq rfl) ?_
     refine zw (RV.fa rfl) ?_
     refine Bh ?_
     cases hfl:st.hk with
     |true =>
      have hM:cU kn st seg = .bad ((bC seg).length - (bp seg).length) 11 := by unfold cU; rw[if_neg h0, if_neg (by rw[hk1]; decide), if_neg (by rw[hk2]; decide), if_pos hk3, if_pos hfl]
      rw[hM]
      refine zc uY (qg O w6.drew j rb ({s with pos := (m:Int) - (((bp seg).dropWhile aj).length:Int), to := (m:Int), bg := ((m:Int) - ((aw (bC seg)).length:Int))}:LS) hj he (hmem6d.fk.trans hfl) hb6d) ?_
      rintro u w7 ⟨hb7, hU7⟩
      refine ox ?_
      refine eh ?_
      exact aH rfl ⟨O, _, hUt6d.trans (hU7.mono (fun _ h => .inl h) hz4), hR6d.upd hU7, hb7, rfl, by decide, rfl, by dsimp only; rw[h0']; omega⟩
     |false =>
      have hM:cU kn st seg = pz kn (IS st (bC seg).length (dt ((bp seg).dropWhile aj))) := by unfold cU; rw[if_neg h0, if_neg (by rw[hk1]; decide), if_neg (by rw[hk2]; decide), if_pos hk3, if_neg (by rw[hfl]; decide)]
      rw[hM]
      refine zc uY (tM B O w6.drew j jk rb ({s with pos := (m:Int) - (((bp seg).dropWhile aj).length:Int), to := (m:Int), bg := ((m:Int) - ((aw (bC seg)).length:Int))}:LS) m ((bp seg).dropWhile aj) hR6d hj hjk hd3 hm' hl' rfl he (hmem6d.fk.trans hfl) (hmem6d.nk hfl) ((ln _).trans hsufR) rfl hb6d) ?_
      rintro u w7 ⟨O7, lv, pos, bad, e, hU7, hR7, hb7, hP7⟩
      have hUt7 := hUt6d.trans (hU7.mono (S' := fun k => k = j ∨ k = jr ∨ k = ji ∨ k = jk ∨ k = jm) (fun _ h => by rcases h with h | h; exact .inl h; exact .inr (.inr (.inr (.inl h)))) hz4)
      refine ox ?_
      refine eh ?_
      cases hq:dt ((bp seg).dropWhile aj)with
      |ok l =>
       rw[hq]at hP7
       obtain⟨he7, hrow7⟩ := hP7
       obtain⟨⟨xs, a1, a2, a3, a4⟩, mb, mc, md, me, mf, mg⟩ := hmem6d
       exact aH rfl ⟨O7, _, hUt7, hR7, hb7, rfl, he7, ⟨⟨xs, a1.upd hU7 hjr (fun h => by rcases h with h | h; exact hd1 h.symm; exact hd5 h), a2, a3, fun i hi => (a4 i hi).upd hU7⟩, mb.upd hU7 hji (fun h => by rcases h with h | h; exact hd2 h.symm; exact hd6 h), hrow7, md, rfl, mf, (fun h => by cases h)⟩, hmac6d.upd hU7 hjm (fun h => by rcases h with h | h; exact hd7 h.symm; exact hd10 h.symm)⟩
      |bad p e' =>
       rw[hq]at hP7
       obtain⟨he7, hne7, hbad7⟩ := hP7
       have hple := ng hq
       exact aH rfl ⟨O7, _, hUt7, hR7, hb7, rfl, hne7, he7, by dsimp only; rw[hbad7]; omega⟩
    |false =>
     have hM:cU kn st seg = pz kn (IR st ((bC seg).length - (bp seg).length) (if st.ts.length = 40 then z7 0 3 else jl kn (bp seg))) := by unfold cU; rw[if_neg h0, if_neg (by rw[hk1]; decide), if_neg (by rw[hk2]; decide), if_neg (by rw[hk3]; decide)]
     refine aS rfl rfl ?_
     obtain⟨xs, hrow6, hxe, hxl, hxr⟩ := hmem6.ru
     refine ow ?_
     refine zv (ix rfl) ?_
     refine zc call133 (tk B O w6 j jr rb ({s with pos := (m:Int) - (((bp seg).dropWhile aj).length:Int), to := (m:Int), bg := ((m:Int) - ((aw (bC seg)).length:Int))}:LS) m (bp seg) xs hR6 hj hjr hd1 hm' hl' rfl hbgR he hjm hd7 hd8 hmac6 hsufR hrow6 hxl hb6) ?_
     rintro v w7 ⟨O7, rv, hU7, hR7, hP7⟩
     have hUt7 := hUt6.trans (hU7.mono (S' := fun k => k = j ∨ k = jr ∨ k = ji ∨ k = jk ∨ k = jm) (fun _ h => by rcases h with h | h; exact .inl h; exact .inr (.inl h)) hz4)
     refine ox ?_
     refine eh ?_
     rw[hM, hxe]
     cases hq:(if xs.length = 40 then z7 0 3 else jl kn (bp seg))with
     |ok t =>
      rw[hq]at hP7
      obtain⟨x, hrow7, hRt7, hb7⟩ := hP7
      have h40:xs.length ≠ 40 := fun e => by rw[if_pos e]at hq; cases hq
      obtain⟨_, mb, mc, md, me, mf, mg⟩ := hmem6
      obtain⟨q1, q2, q3, q4⟩ := As (ts := st.ts) hrow7 hxe (by omega) (fun i hi => (hxr i hi).upd hU7) hRt7
      exact aH rfl ⟨O7, _, hUt7, hR7, hb7, rfl, he, ⟨⟨xs ++ [x], q1, q2, q3, q4⟩, mb.upd hU7 hji (fun h => by rcases h with h | h; exact hd2 h.symm; exact hd4 h.symm), mc.upd hU7 hjk (fun h => by rcases h with h | h; exact hd3 h.symm; exact hd5 h.symm), md, me, mf, mg⟩, hmac6.upd hU7 hjm (fun h => by rcases h with h | h; exact hd7 h.symm; exact hd8 h.symm)⟩
     |bad p e =>
      rw[hq]at hP7
      obtain⟨hne7, hb7⟩ := hP7
      exact aH rfl ⟨O7, _, hUt7, hR7, hb7, rfl, hne7, rfl, by dsimp only; rw[h0']; omega⟩
end
inductive TK where
 |ok (st:St)
 |bad (p:Nat) (e:Int)
def qi:Nat->Kn->St->Nat->List UInt8->TK
 |0,_,_,_,_=>.bad 0 3
 |n+1,kn,st,fr,r=>
  match cU kn st (eu r)with
  |.bad p e=>.bad (fr+p) e
  |.go kn' st'=>if(eu r).length=r.length then .ok st' else qi n kn' st' (fr+(eu r).length+1) (r.drop ((eu r).length+1))
def st0:St:=⟨[],[],[],false,false⟩
def kD(l:List UInt8):TK:=if 4096<l.length then .bad 0 3 else qi (l.length+1) [] st0 0 l
theorem A0{kn a0:Kn}{st a1:St}{seg:List UInt8}(h:cU kn st seg=.go a0 a1):a0.length<=kn.length+1:=by
 have hl:∀ {R:RS},pz kn R=.go a0 a1->a0.length<=kn.length+1:=fun {R} h=>by
  cases R with
  |go s=>cases h;omega
  |bad p e=>cases h
  |other=>cases h
 unfold cU at h
 split at h
 ·cases h;omega
 split at h
 ·unfold Ip at h
  split at h
  ·cases h;simp
  cases h
 split at h
 ·split at h
  ·cases h
  exact hl h
 split at h
 ·split at h
  ·cases h
  exact hl h
 exact hl h
def LoopK(l:List UInt8)(M:TK)(O:Nat->Nat)(w:sN)(jr ji jk jm:Nat)(n fr:Nat)(kn:Kn)(st:St)(s:LS):Prop:=
 (fr<=l.length/\s.e=0/\l.length-fr<n/\qi n kn st fr (l.drop fr)=M/\Mem O w jr ji jk s st/\Mac O w jm s.mc kn/\kn.length<=fr)\/(fr=l.length+1/\s.e=0/\M=.ok st/\Mem O w jr ji jk s st)\/
 (∃p e,e≠0/\s.e=e/\s.bad=((p:Nat):Int)/\M=.bad p e)
theorem LoopK.next{l:List UInt8}{M:TK}{B j jr ji jk jm rb n fr:Nat}{O:Nat->Nat}{w w':sN}{kn:Kn}{st:St}{s:LS}(a3:fr<=l.length)(hn:l.length-fr<n+1)(hM:qi (n+1) kn st fr (l.drop fr)=M)(a2:kn.length<=fr) 
  (hP:Ih B O w w' j jr ji jk jm rb s fr (cU kn st (eu (l.drop fr)))) :
  ∃O' s' n' kn' st',A2 (fun k=>k=j\/k=jr\/k=ji\/k=jk\/k=jm) O w O' w'/\Rng B O' w'/\Rd6 O' w' j rb s'/\s'.l=s.l/\n'<n+1/\LoopK l M O' w' jr ji jk jm n' (fr+(eu (l.drop fr)).length+1) kn' st' s':=by
 obtain⟨O',s',hU,hR,hb,e1,hq⟩:=hP;have a0:(eu (l.drop fr)).length<=l.length-fr:=by
  have:=(rj (l:=l.drop fr) (fun b=>!(b==10))).length_le;simpa[eu]using this
 have a4:(l.drop fr).length=l.length-fr:=by simp
 unfold qi at hM;refine⟨O',s',?_⟩
 cases hr:cU kn st (eu (l.drop fr))with
 |bad p e=>
  rw[hr]at hq hM;obtain⟨q1,q2,q3⟩:=hq;exact⟨0,kn,st,hU,hR,hb,e1,zo,.inr (.inr ⟨fr+p,e,q1,q2,by rw[q3];simp,hM.symm⟩)⟩
 |go kn' st'=>
  have a1:=A0 hr;rw[hr]at hq hM;dsimp only at hM;obtain⟨q1,q2,q3⟩:=hq
  split at hM
  ·rename_i he;exact⟨0,kn',st',hU,hR,hb,e1,zo,.inr (.inl ⟨zo,q1,hM.symm,q2⟩)⟩
  rename_i he;exact⟨n,kn',st',hU,hR,hb,e1,zo,.inl ⟨zo,q1,zo,by rw[<-hM,List.drop_drop,Nat.add_assoc],q2,q3,zo⟩⟩
def If(w:sN)(v:uh):TK->Prop
 |.ok st=>∃tv,v=.tuple #[tv,nI 0,nI 0]/\Tx w tv st.li st.lk st.ts
 |.bad p e=>v=.tuple #[sF sG sG sG,nI (p:Int),nI e]/\e≠0
theorem Mem.tx{O:Nat->Nat}{w:sN}{jr ji jk:Nat}{s:LS}{st:St}(h:Mem O w jr ji jk s st):Tx w (sF s.ig s.kp s.ru) st.li st.lk st.ts:=by
 obtain⟨xs,a1,a2,a3,a4⟩:=h.ru;exact⟨s.ig,s.kp,s.ru,xs,rfl,h.ig.sl,h.kp.sl,a1.sl,a2,fun i hi=>(a4 i hi).weak fun _ _=>rfl⟩
theorem vu(l:List UInt8)(B:Nat)(O:Nat->Nat)(w:sN)(hR:Rng B O w)(g0:l.length<=1000000000):Ret BW 50 [.string (bs l)] w fun v w'=>CZ w w'/\If w' v (kD l):=by
 obtain⟨T,g3,hT⟩:=hR.bound;have a6:¬(fun q:Nat=>T<=q) 0:=fun e=>by omega
 have c6:∀b,¬T<=O b:=fun b=>by have:=hT b;omega
 refine uu func50 ntmps50 rfl rfl ?_;refine zg ?_
 refine ax hR T zo (tG _) rfl ?_;intro xb w1 O1 b8 f6 f8 g5;have b6:A2 (fun q=>T<=q) O w O1 w1:=f6.mono (fun _ h=>tJ h.symm) a6;refine zg ?_
 refine zvG (cx qN rfl) ?_
 by_cases hl:4096<l.length
 ·have hM:kD l=.bad 0 3:=by unfold kD;rw[if_pos hl]
  rw[hM];refine zTG rfl ((decide_eq_true zo)) ?_;refine zv (aF Im (tG _) rfl (by first|rfl|(simp only[tq,vg];rfl)) rfl rfl) ?_;refine zsa (us:=(#[nS,nS,nS]:Array uh)) b8 (qy _) ?_;have a7:=b8.setRow (us:=(#[nS,nS,nS]:Array uh));have a4:A2 (fun k=>k=T) O1 w1 O1 (w1.setRow xb (#[nS,nS,nS]:Array uh)):=pc zo b8.tag rfl;refine zg ?_;refine cF rfl rfl rfl rfl a7.cellsAdd (x8 _) (qy _) ⟨aD (b6.trans (a4.mono (fun _ h=>tJ h.symm) a6)) c6,rfl,by decide⟩
 have f9:kD l=qi (l.length+1) [] st0 0 l:=by unfold kD;rw[if_neg hl]
 refine zFG rfl ((decide_eq_false zo)) ?_;refine zv (aF IC (zeroValue167 _) rfl (by first|rfl|(simp only[tq,vg];rfl)) rfl rfl) ?_
 refine zv (CR (vs:=[(0,.agg #[.string (bs l),nI 0,nI 0,nI 0,nI 0,nI 0])]) (cells:=(⟨l,0,0,0,0,0,nS,nS,nS,nS,false,false⟩:LS).cells) IB (zeroValue170 _) rfl zk) ?_;refine aE f8 (T+1) zo rfl rfl ?_
 intro rb w2 O2 d2 e5 f7 g4;have f5:Rd6 O2 w2 (T+1) rb ⟨l,0,0,0,0,0,nS,nS,nS,nS,false,false⟩:=d2;have e7:=b8.upd e5 zo zo;have d6:=b6.trans (e5.mono (fun _ h=>by rw[h];omega) a6);refine zg ?_;refine zlp (fun y:Nat×Nat×Kn×St×(Nat->Nat)×World×LS=>[(0,.string (bs l)),(2,nP xb),(5,nP rb),(6,nI (y.2.1:Nat))]) (fun y=>y.2.2.2.2.2.1) (fun y=>BlkO y.2.2.2.2.1 y.2.2.2.2.2.1 T xb (#[nS,nS,nS]:Array uh) 41/\Rd6 y.2.2.2.2.1 y.2.2.2.2.2.1 (T+1) rb y.2.2.2.2.2.2/\y.2.2.2.2.2.2.l=l/\A2 (fun q=>T<=q) O w y.2.2.2.2.1 y.2.2.2.2.2.1/\Rng B y.2.2.2.2.1 y.2.2.2.2.2.1/\y.2.1<=10000000/\LoopK l (kD l) y.2.2.2.2.1 y.2.2.2.2.2.1 (T+2) (T+3) (T+4) (T+5) y.1 y.2.1 y.2.2.1 y.2.2.2.1 y.2.2.2.2.2.2) (fun y=>y.1) (l.length+1,0,[],st0,O2,w2,⟨l,0,0,0,0,0,nS,nS,nS,nS,false,false⟩) (⟨e7,f5,rfl,d6,f7,by dsimp only;omega,.inl ⟨by dsimp only;omega,rfl,by dsimp only;omega,by rw[f9];rfl,⟨⟨[],zR _ _ _ _ _ _,rfl,by simp,fun i hi=>absurd hi (by simp)⟩,zR _ _ _ _ _ _,zR _ _ _ _ _ _,rfl,rfl,fun _=>rfl,fun _=>rfl⟩,Mac.nil _ _ _,y2 _⟩⟩) ?_;rintro⟨n,fr,kn,st,O1,w3,s⟩ ⟨a2,a3,a5,a1,d8,f4,e6⟩;dsimp only at a2 a3 a5 a1 d8 f4 e6 ⊢
 rcases e6 with⟨c5,he,e1,b1,a0,b4,e3⟩|⟨c5,he,b1,a0⟩|⟨p,e,b9,d0,a',b1⟩
 ·obtain⟨n,rfl⟩:∃m,n=m+1:=⟨n-1,by omega⟩
  have g2:(eu (l.drop fr)).length<=l.length-fr:=by
   have:=(rj (l:=l.drop fr) (fun b=>!(b==10))).length_le;simpa[eu]using this
  have q5:=a3.q5;rw[he]at q5;refine zg ?_;refine zvG (cx qN rfl) ?_;refine ay (d:=21) rfl (b':=true) ((decide_eq_true zo)) ?_;refine zg ?_;refine zvG (RV.ld q5 rfl) ?_;refine zTG rfl rfl ?_;refine zvG (cx qN rfl) ?_;refine zv (jV qN rfl rfl fr rfl c5) ?_;refine zc call91 (dK (l.drop fr) 10 w3) ?_;rintro v w9 ⟨rfl,e0⟩;rw[e0];clear e0 w9
  cases hf:(l.drop fr).findIdx? (· == 10)with
  |none=>
   have hi:sH (l.drop fr) 10 = -1:=by unfold sH;rw[hf]
   have e2:=congrArg List.length (zy hf);rw[List.length_drop]at e2;rw[hi,show((l.length:Nat):Int)=((fr+(eu (l.drop fr)).length:Nat):Int)from by omega];refine zg ?_;refine zFG rfl rfl ?_;refine zc call92 (tt B O1 w3 (T+1) (T+2) (T+3) (T+4) (T+5) rb s fr (fr+(eu (l.drop fr)).length) (eu (l.drop fr)) st d8 zo zo zo zo zo zo zo zo zo zo zo zo zo zo zo zo zo (by rw[a5];omega) (by rw[a5];omega) he (by rw[a5];exact tO l fr) a0 b4 a3) ?_;rintro v w4 d9;obtain⟨O4,s4,n4,c8,c7,b7,d7,d1,g1,a9,d'⟩:=LoopK.next c5 e1 b1 e3 d9;have c9:=BJ a2 b7 zo zo;have b0:=a1.trans (b7.mono (fun _ h=>by rcases h with h|h|h|h|h<;>rw[h]<;>omega) a6);refine zg ?_;refine zvG (x4 rfl rfl (uw zo)) ?_;refine zx (n4,fr+(eu (l.drop fr)).length+1,c8,c7,O4,w4,s4) (⟨c9,d1,g1.trans a5,b0,d7,by dsimp only;omega,d'⟩) (a9)
  |some k=>
   have hi:sH (l.drop fr) 10=(k:Nat):=by unfold sH;rw[hf]
   have e2:=zu hf;rw[hi];refine zg ?_;refine zTG rfl ((decide_eq_true zo)) ?_;refine zvG (x4 rfl rfl (uw zo)) ?_;rw[show(fr:Int)+((k:Nat):Int)=((fr+(eu (l.drop fr)).length:Nat):Int)from by omega];refine zc call92 (tt B O1 w3 (T+1) (T+2) (T+3) (T+4) (T+5) rb s fr (fr+(eu (l.drop fr)).length) (eu (l.drop fr)) st d8 zo zo zo zo zo zo zo zo zo zo zo zo zo zo zo zo zo (by rw[a5];omega) (by rw[a5];omega) he (by rw[a5];exact tO l fr) a0 b4 a3) ?_;rintro v w4 d9;obtain⟨O4,s4,n4,c8,c7,b7,d7,d1,g1,a9,d'⟩:=LoopK.next c5 e1 b1 e3 d9;have c9:=BJ a2 b7 zo zo;have b0:=a1.trans (b7.mono (fun _ h=>by rcases h with h|h|h|h|h<;>rw[h]<;>omega) a6);refine zg ?_;refine zvG (x4 rfl rfl (uw zo)) ?_;refine zx (n4,fr+(eu (l.drop fr)).length+1,c8,c7,O4,w4,s4) (⟨c9,d1,g1.trans a5,b0,d7,by dsimp only;omega,d'⟩) (a9)
 ·have q5:=a3.q5;rw[he]at q5;refine zg ?_;refine zvG (cx qN rfl) ?_;refine ay (d:=21) rfl (b':=false) ((decide_eq_false zo)) ?_;rw[b1];have q6:=a3.q6;have q7:=a3.q7;have q8:=a3.q8;have f':=a0.tx;have f3:=a0.ig.one;have e':=a0.kp.one;obtain⟨xs,e8,_,_,_⟩:=a0.ru;have e9:=e8.one;refine zg ?_;refine zFG rfl rfl ?_;refine zvG (RV.ld q5 rfl) ?_;refine zFG rfl rfl ?_;refine zv (ai (us:=[s.ig,s.kp,s.ru]) (Ap q6 q7 q8) (x8 _) (qy _) rfl) ?_;refine zsb (us:=#[s.ig,s.kp,s.ru]) a2 (qy _) (by simp only[tq,f3,e',e9];rfl) ?_;have a7:=a2.setRow (us:=#[s.ig,s.kp,s.ru]);have a4:A2 (fun k=>k=T) O1 w3 O1 (w3.setRow xb #[s.ig,s.kp,s.ru]):=pc zo a2.tag rfl;have d3:=a1.trans (a4.mono (fun _ h=>tJ h.symm) a6);have b3:=a0.upd a4 zo zo zo zo zo zo;refine zg ?_;refine cF rfl rfl rfl rfl a7.cellsAdd (x8 _) (qy _) ⟨aD d3 c6,_,rfl,b3.tx⟩
 rw[b1];have q5:=a3.q5;rw[d0]at q5;have q4:=a3.q4;rw[a']at q4;have c':((e==0):Bool)=false:=by simpa using b9
 have b2:((e != 0):Bool)=true:=by simpa using b9
 cases e4:decide ((fr:Int)<=(l.length:Int))with
 |false=>
  refine zg ?_;refine zvG (cx qN rfl) ?_
  refine ay (d:=21) rfl (b':=false) (e4) ?_;refine zg ?_
  refine zFG rfl rfl ?_;refine zvG (RV.ld q5 rfl) ?_
  refine aZ rfl (b2) ?_;have d4:w3.drew.cell? ⟨rb,4,none⟩=some (nI (p:Nat)):=q4;have d5:w3.drew.cell? ⟨rb,5,none⟩=some (nI e):=q5;refine zg ?_
  refine aI (fun W=>W.cell? ⟨rb,4,none⟩=some (nI (p:Nat))/\W.cell? ⟨rb,5,none⟩=some (nI e)) 14 rfl zk ?_;refine zin ⟨d4,d5⟩ fun zS=>?_
  refine zr 0 rfl zS (fun _=>aF Im (tG _) rfl (by first|rfl|(simp only[tq,vg];rfl)) rfl rfl) ?_;refine zrm 1 rfl zS rfl ?_
  refine zr 2 rfl zS (fun _=>aq rfl) ?_;refine zrf 3 rfl zS rfl ?_
  refine zrf 4 rfl zS rfl ?_;refine zt 5 rfl zS (fun w1 a8=>RV.ld a8.1 rfl) ?_
  refine zrm 6 rfl zS rfl ?_;refine zr 7 rfl zS (fun _=>aq rfl) ?_
  refine zrf 8 rfl zS rfl ?_;refine zrf 9 rfl zS rfl ?_
  refine zt 10 rfl zS (fun w1 a8=>RV.ld a8.2 rfl) ?_;refine WH.one 11 zk rfl ?_
  refine zsa (us:=#[nS,nS,nS]) a2.drew (qy _) ?_;have a7:=AW (us:=#[nS,nS,nS]) a2.drew;have a4:A2 (fun k=>k=T) O1 w3.drew O1 (w3.drew.setRow xb #[nS,nS,nS]):=pc zo a2.tag rfl;have b5:=(BG a3).upd a4 zo zo;have z5:=b5.q5;rw[d0]at z5;have z4:=b5.q4;rw[a']at z4;refine zg ?_
  refine zaf (⟨z4,z5⟩) fun zS=>?_
  refine zra 12 rfl zS rfl ?_;refine zra 13 rfl zS rfl ?_
  refine z8 zk ?_;refine zg ?_
  refine cF rfl rfl rfl rfl a7.cellsAdd (x8 _) (qy _) ⟨aD ((a1.drew).trans (a4.mono (fun _ h=>tJ h.symm) a6)) c6,rfl,b9⟩
 |true=>
  refine zg ?_;refine zvG (cx qN rfl) ?_
  refine ay (d:=21) rfl (b':=true) (e4) ?_;refine zg ?_
  refine zvG (RV.ld q5 rfl) ?_;refine zFG rfl (c') ?_
  refine zvG (RV.ld q5 rfl) ?_;refine aZ rfl (b2) ?_
  have d4:w3.drew.cell? ⟨rb,4,none⟩=some (nI (p:Nat)):=q4;have d5:w3.drew.cell? ⟨rb,5,none⟩=some (nI e):=q5;refine zg ?_;refine aI (fun W=>W.cell? ⟨rb,4,none⟩=some (nI (p:Nat))/\W.cell? ⟨rb,5,none⟩=some (nI e)) 14 rfl zk ?_;refine zin ⟨d4,d5⟩ fun zS=>?_
  refine zr 0 rfl zS (fun _=>aF Im (tG _) rfl (by first|rfl|(simp only[tq,vg];rfl)) rfl rfl) ?_;refine zrm 1 rfl zS rfl ?_
  refine zr 2 rfl zS (fun _=>aq rfl) ?_;refine zrf 3 rfl zS rfl ?_
  refine zrf 4 rfl zS rfl ?_;refine zt 5 rfl zS (fun w1 a8=>RV.ld a8.1 rfl) ?_
  refine zrm 6 rfl zS rfl ?_;refine zr 7 rfl zS (fun _=>aq rfl) ?_
  refine zrf 8 rfl zS rfl ?_;refine zrf 9 rfl zS rfl ?_
  refine zt 10 rfl zS (fun w1 a8=>RV.ld a8.2 rfl) ?_;refine WH.one 11 zk rfl ?_
  refine zsa (us:=#[nS,nS,nS]) a2.drew (qy _) ?_;have a7:=AW (us:=#[nS,nS,nS]) a2.drew;have a4:A2 (fun k=>k=T) O1 w3.drew O1 (w3.drew.setRow xb #[nS,nS,nS]):=pc zo a2.tag rfl;have b5:=(BG a3).upd a4 zo zo;have z5:=b5.q5;rw[d0]at z5;have z4:=b5.q4;rw[a']at z4;refine zg ?_
  refine zaf (⟨z4,z5⟩) fun zS=>?_
  refine zra 12 rfl zS rfl ?_;refine zra 13 rfl zS rfl ?_
  refine z8 zk ?_;refine zg ?_
  refine cF rfl rfl rfl rfl a7.cellsAdd (x8 _) (qy _) ⟨aD ((a1.drew).trans (a4.mono (fun _ h=>tJ h.symm) a6)) c6,rfl,b9⟩
theorem PostC.shape{B:Nat}{w:sN}{v:uh}{li lk:List Int}{ts:List R3}(h:zl B w v li lk ts):∃cs:List uh,∃e:Int,v=.tuple #[.agg cs.toArray,nI e]/\cs.length=17/\(cs.all zf=true):=by
 rcases h with⟨_,rfl⟩|⟨_,⟨a,b,a1,a0,u,_,_,_,_,_,_,rfl,hT,_⟩|⟨_,rfl⟩⟩
 ·exact⟨_,1,rfl,rfl,rfl⟩
 ·obtain⟨gv,lc,rc,rfl,h1,h2,h3⟩:=hT;obtain⟨ll,lo⟩:=h2.one;obtain⟨rl,ro⟩:=h3.one;refine⟨_,0,rfl,by simp[ll,rl],?_⟩;rw[z6];intro x hx;simp only[tR,oz,yP,or_false]at hx
  rcases hx with(hx|hx)|hx
  ·rcases hx with rfl|rfl|rfl|rfl|rfl
   ·rfl
   ·rfl
   ·rfl
   ·rfl
   exact h1.one
  ·exact lo x hx
  exact ro x hx
 exact⟨_,7,rfl,rfl,rfl⟩
theorem TabV.ext{w w':sN}{v:uh}{t:TabM}(h:TabV w v t)(e:CZ w w'):TabV w' v t:=by
 obtain⟨gv,lc,rc,rfl,h1,h2,h3⟩:=h;exact⟨gv,lc,rc,rfl,h1.ext e,h2.ext e,h3.ext e⟩
theorem TabN.mono{B B':Nat}{v:uh}(h:TabN B v)(hb:B'<=B):TabN B' v:=fun cs e x hx=>(h cs e x hx).mono hb
theorem PostC.ext{B B':Nat}{w w':sN}{v:uh}{li lk:List Int}{ts:List R3}(h:zl B w v li lk ts)(e:CZ w w')(hb:B'<=B):zl B' w' v li lk ts:=by
 rcases h with h|⟨h0,⟨a,b,a1,a0,u,h1,h2,h3,h4,h5,h6,h7,hT,hN⟩|h⟩
 ·exact .inl h
 ·exact .inr ⟨h0,.inl ⟨a,b,a1,a0,u,h1,h2,h3,h4,h5,h6,h7,hT.ext e,hN.mono hb⟩⟩
 exact .inr ⟨h0,.inr h⟩
theorem PostC.upd{B:Nat}{S:Nat->Prop}{O O':Nat->Nat}{w0 w w':sN}{v:uh}{li lk:List Int}{ts:List R3}(h:zl w0.heap.size w v li lk ts)(r:Rng B O w0)(u:A2 S O w O' w'):zl w0.heap.size w' v li lk ts:=by
 rcases h with h|⟨h0,⟨a,b,a1,a0,x,h1,h2,h3,h4,h5,h6,h7,hT,hN⟩|h⟩
 ·exact .inl h
 ·refine .inr ⟨h0,.inl ⟨a,b,a1,a0,x,h1,h2,h3,h4,h5,h6,h7,?_,hN⟩⟩;obtain⟨gv,lc,rc,rfl,k1,k2,k3⟩:=hT;have hn:=hN _ rfl;have n1:NewV w0.heap.size gv:=hn gv (by simp);exact⟨gv,lc,rc,rfl,k1.upd (n1.free k1 (fun x _=>by simp) r) u,k2.upd (fun x hx=>hn x (by simp[hx])) r u,k3.upd (fun x hx=>hn x (by simp[hx])) r u⟩
 exact .inr ⟨h0,.inr h⟩
def Ig(B:Nat)(w:sN)(v:uh):TK->Prop
 |.bad p e=>v=.tuple #[.agg tab0,nI (p:Int),nI e]/\e≠0
 |.ok st=>∃(cs:List uh) (e:Int),v=.tuple #[.agg cs.toArray,nI 0,nI e]/\zl B w (.tuple #[.agg cs.toArray,nI e]) st.li st.lk st.ts
theorem pd(l:List UInt8)(w:sN)(b9:l.length<=1000000000):Ret BW 18 [.string (bs l)] w fun v w'=>CZ w w'/\Ig w.heap.size w' v (kD l):=by
 refine uu func18 ntmps18 rfl rfl ?_;refine zh ?_
 refine ax (au w) 1 zo (uM _) rfl ?_;intro cb w1 O1 a8 b8 b5 d0;refine zh ?_
 refine zc call50 (vu l w.heap.size O1 w1 b5 b9) ?_;rintro v w2 ⟨a7,hP⟩;have d2:=b5.ext a7;have hz:¬(0=1):=zo
 cases hM:kD l with
 |bad p e=>
  rw[hM]at hP;obtain⟨rfl,he⟩:=hP;refine zh ?_;refine ax (au w2) 1 zo (tG _) rfl ?_;intro tb w3 O3 a1 b4 c8 c';refine zsa (us:=#[sG,sG,sG]) a1 (qy _) ?_;have a0:=(b4.trans (pc (us:=#[sG,sG,sG]) zd a1.tag rfl)).ext;generalize w3.setRow tb #[sG,sG,sG]=w4 at *;have c5:=aa (S:=fun q=>q=1) hz O1 (a7.trans a0);have a4:=a8.upd (aa (S:=fun _=>False) (fun h=>h) O1 (a7.trans a0)) zd (fun h=>h);refine zh ?_;refine zTH rfl ((by simpa using he)) ?_;refine zvH (CR (cells:=tab0) FM (uM _) rfl rfl) ?_;refine zsa (us:=tab0) a4 (sx _) ?_;have b3:=a4.setRow (us:=tab0);have c7:A2 (fun j=>j=1) O1 w4 O1 (w4.setRow cb tab0):=pc zd a4.tag rfl;refine zh ?_;refine cF rfl rfl rfl rfl (b3.cellsAdd) (y8 _) (sx _) (⟨((b8.trans c5).trans c7).ext,rfl,he⟩)
 |ok st=>
  rw[hM]at hP;obtain⟨tv,rfl,hx⟩:=hP;obtain⟨ta,a5,tc,xs,rfl,x1,x2,x3,_⟩:=hx.ex;have o1:=x1.one;have o2:=x2.one;have o3:=x3.one;refine zh ?_;refine ax (au w2) 1 zo (tG _) rfl ?_;intro tb w3 O3 a1 b4 c8 c';refine zsb (us:=#[ta,a5,tc]) a1 (qy _) (by simp[o1,o2,o3]) ?_;have b1:=a1.setRow (us:=#[ta,a5,tc]);have a0:=(b4.trans (pc (us:=#[ta,a5,tc]) zd a1.tag rfl)).ext;generalize w3.setRow tb #[ta,a5,tc]=w4 at *;refine zh ?_;refine zFH rfl rfl ?_;refine zv (ai (us:=[ta,a5,tc]) b1.cellsAdd (x8 _) (qy _) rfl) ?_;refine zc call9 (oG st.li st.lk st.ts (sF ta a5 tc) w4 (hx.ext a0)) ?_;rintro v w5 ⟨c9,hC⟩;obtain⟨cs,e,rfl,a6,b6⟩:=hC.shape;refine zh ?_;refine ax (au w5) 1 zo (uM _) rfl ?_;intro xb w6 O6 a2 c6 d1 d3;refine bE (us:=cs.toArray) a2 (show cs.toArray.size=17 from by simpa using a6) (by rw[show cs.toArray.size=17 from by simpa using a6];exact sx _) (by simpa using b6) rfl rfl rfl ?_;have b0:=a2.setRow (us:=cs.toArray);have a9:=(c6.trans (pc (us:=cs.toArray) zd a2.tag rfl)).ext;generalize w6.setRow xb cs.toArray=w7 at *;have a':=((a7.trans a0).trans c9).trans a9;have b':=aa (S:=fun q=>q=1) hz O1 a';have a3:=a8.upd (aa (S:=fun _=>False) (fun h=>h) O1 a') zd (fun h=>h);refine zh ?_;refine zvH (ai (us:=cs) (by simpa using b0.cellsAdd) (y8 _) (by rw[a6];exact sx _) rfl) ?_
  refine bE (us:=cs.toArray) a3 (show cs.toArray.size=17 from by simpa using a6) (by rw[show cs.toArray.size=17 from by simpa using a6];exact sx _) (by simpa using b6) rfl rfl rfl ?_;have b2:=a3.setRow (us:=cs.toArray);have b7:A2 (fun j=>j=1) O1 w7 O1 (w7.setRow cb cs.toArray):=pc zd a3.tag rfl;refine zh ?_
  refine cF rfl rfl rfl rfl (us:=cs) (by simpa using b2.cellsAdd) (y8 _) (by rw[a6];exact sx _) ⟨((b8.trans b').trans b7).ext,cs,e,rfl,((hC.ext a9 (vO _)).upd (b5.ext (a7.trans a0)) b7).ext (ps _) (((d0.trans a7).trans a0).size)⟩
theorem ot(l l':List Bool)(av bv:uh)(w:sN)(h:Sl cP 1 w av l)(h':Sl cP 1 w bv l'):Ret BW 23 [av,bv] w fun v w'=>v=.bool (decide (l=l'))/\CZ w w':=by
 have q1:=h.len_le;have q2:=h'.len_le;refine uu func23 ntmps23 rfl rfl ?_;refine zh ?_;refine zvH (yJ h' tp rfl) ?_;refine zC ?_ ?_
 ·intro a4;have a1:¬l=l':=fun e=>by subst e;simp at a4
  refine zh ?_;refine ae rfl rfl (⟨by rw[decide_eq_false a1],ps w⟩)
 intro a7;have a9:l.length=l'.length:=by have:=of_decide_eq_true (p:=((l.length:Int)=(l'.length:Int))) (by simpa using a7);omega
 refine zh ?_;refine zlp (fun z:Nat×sN=>[(0,av),(1,bv),(5,nI (z.1:Nat))]) (fun z=>z.2) (fun z=>z.1<=l.length/\CZ w z.2/\∀i,i<z.1->nth l i=nth l' i) (fun z=>l.length-z.1) (0,w) (⟨y2 _,ps w,fun i hi=>absurd hi (Nat.not_lt_zero i)⟩) ?_
 rintro⟨k,w1⟩ ⟨hk,hE,a0⟩;dsimp only at hk hE a0 ⊢;have h1:=h.ext hE;have h2:=h'.ext hE;refine zh ?_;refine zC ?_ ?_
 ·intro a2;replace a2:k<l.length:=dT a2;have e1:w1.cell? (adr av 1 k)=some (.bool (nth l k)):=by have:=h1.cell (i:=k) (j:=0) a2 rfl;rw[ao]at this;exact this
  have e2:w1.cell? (adr bv 1 k)=some (.bool (nth l' k)):=by have:=h2.cell (i:=k) (j:=0) zo rfl;rw[ao]at this;exact this
  refine zh ?_;refine aI (fun W=>W.cell? (adr av 1 k)=some (.bool (nth l k))/\W.cell? (adr bv 1 k)=some (.bool (nth l' k))) 9 rfl zk ?_
  refine zin ⟨e1,e2⟩ fun zS=>?_
  refine zrm 0 rfl zS rfl ?_;refine zrm 1 rfl zS rfl ?_
  refine zr 2 rfl zS (fun _=>ah h1.sh underlying69 (BV _) rfl rfl k rfl zo) ?_;refine zt 3 rfl zS (fun w1 a3=>RV.ld a3.1 rfl) ?_
  refine zrm 4 rfl zS rfl ?_;refine zrm 5 rfl zS rfl ?_
  refine zr 6 rfl zS (fun _=>ah h2.sh tp (BV _) rfl rfl k rfl zo) ?_;refine zt 7 rfl zS (fun w1 a3=>RV.ld a3.2 rfl) ?_
  refine zr 8 rfl zS (fun _=>Gm underlying4 rfl rfl) ?_;refine z8 zk ?_
  refine zh ?_;refine zC ?_ ?_
  ·intro a4;have a1:¬l=l':=fun e=>by subst e;simp at a4
   refine zh ?_;refine ae rfl rfl (⟨by rw[decide_eq_false a1],hE.drew⟩)
  intro a7;have a6:nth l k=nth l' k:=by simpa using a7
  refine zh ?_;have a8:∀i,i<k+1->nth l i=nth l' i:=fun i hi=>(Nat.lt_succ_iff_lt_or_eq.1 hi).elim (a0 i) (fun e=>by rw[e];exact a6)
  refine zxd (k+1,w1.drew) (⟨a2,hE.drew,a8⟩)
 intro b0;have a':k=l.length:=dF b0;subst a';have a5:l=l':=List.ext_getElem a9 fun i i1 i2=>by have:=a0 i i1;rwa[aB i1,aB i2]at this
 refine zh ?_;refine ae rfl rfl (⟨by rw[decide_eq_true a5],hE⟩)
def Dw(x:Int):List Int->List Int
 |[]=>[x]
 |y::r=>if x<y then x::y::r else if x=y then y::r else y::Dw x r
def uE(l:List Int):List Int:=l.foldr Dw []
theorem rR(x z:Int):∀l:List Int,z∈Dw x l↔z=x\/z∈l
 |[]=>by simp[Dw]
 |y::r=>by
  unfold Dw
  split
  ·simp
  split
  ·rename_i h;subst h;simp
  rw[oz,rR x z r,oz]
  constructor
  ·rintro(h|h|h)
   ·exact .inr (.inl h)
   ·exact .inl h
   exact .inr (.inr h)
  rintro(h|h|h)
  ·exact .inr (.inl h)
  ·exact .inl h
  exact .inr (.inr h)
theorem BA(x:Int):∀l:List Int,l.Pairwise (· < ·)->(Dw x l).Pairwise (· < ·)
 |[],_=>by simp[Dw]
 |y::r,h=>by
  obtain⟨h1,h2⟩:=oD.1 h;unfold Dw
  split
  ·rename_i hxy;refine oD.2 ⟨fun z hz=>?_,h⟩
   rcases oz.1 hz with rfl|hz
   ·exact hxy
   have:=h1 z hz;omega
  split
  ·exact h
  refine oD.2 ⟨fun z hz=>?_,BA x r h2⟩
  rcases(rR x z r).1 hz with rfl|hz
  ·omega
  exact h1 z hz
theorem oJ(l:List Int):(∀x,x∈uE l↔x∈l)/\(uE l).Pairwise (· < ·):=by
 induction l with
 |nil=>exact⟨fun x=>CX,.nil⟩
 |cons a l ih=>
  refine⟨fun x=>?_,BA a _ ih.2⟩;show x∈Dw a (uE l)↔_;rw[rR,ih.1,oz]
theorem D6:∀(a b:List Int),a.Pairwise (· < ·)->b.Pairwise (· < ·)->(∀x,x∈a↔x∈b)->a=b
 |[],[],_,_,_=>rfl
 |[],y::r,_,_,h=>absurd ((h y).2 (by simp)) (by simp)
 |x::a,[],_,_,h=>absurd ((h x).1 (by simp)) (by simp)
 |x::a,y::b,ha,hb,h=>by
  obtain⟨a1,a2⟩:=oD.1 ha;obtain⟨b1,b2⟩:=oD.1 hb;have a4:x=y:=by
   rcases oz.1 ((h x).1 (by simp))with e|e
   ·exact e
   rcases oz.1 ((h y).2 (by simp))with e'|e'
   ·exact e'.symm
   have:=a1 y e';have:=b1 x e;omega
  subst a4;congr 1;refine D6 a b a2 b2 fun z=>?_
  have hz:=h z;simp only[oz]at hz
  constructor
  ·intro a3
   rcases hz.1 (.inr a3)with e|e
   ·subst e;exact absurd (a1 z a3) zo
   exact e
  intro a0
  rcases hz.2 (.inr a0)with e|e
  ·subst e;exact absurd (b1 z a0) zo
  exact e
theorem DF(l:List Int):qC l=uE l:=D6 _ _ (yB l) (oJ l).2 fun x=>by rw[uC,(oJ l).1]
def GJ(se:Bool)(g:Gr)(s:List Int)(m:Int):List Int:=uE (GM se g s m)
theorem step_eq(se:Bool)(g:Gr):cM se g=GJ se g:=funext fun s=>funext fun m=>DF _
def stK(se:Bool)(ts:List Nd):Option (List (List Nat)×List Nat):=if dP ts=0 then DC (GJ se (jZ ts)) (dp (jZ ts))else none
theorem stM_eq(se:Bool)(ts:List Nd):stM se ts=stK se ts:=by unfold stM stK;rw[step_eq]
abbrev mE:List R3:=[(.mk 0 1 [],.mk 0 2 [],false)]
theorem uK:∃st,kD Fc=.ok st/\st.ts=mE/\st.li=[]/\st.lk=[]:=⟨⟨mE,[],[],false,false⟩,by kernel_rfl,rfl,rfl,rfl⟩
theorem xl:dE [] [] mE=true:=by decide +kernel
theorem Ce:(stM true (nZ mE)).isSome=true:=by rw[stM_eq];decide +kernel
theorem Cd:(stM false (fM mE)).isSome=true:=by rw[stM_eq];decide +kernel
theorem uL:jT [] [] [1,2,2] mE=[true,false,true,true]:=by decide +kernel
theorem PostC.made{B:Nat}{w:sN}{v:uh}{li lk:List Int}{ts:List R3}(h:zl B w v li lk ts):
  (∃e:Int,e≠0/\v=.tuple #[.agg tab0,nI e]/\((e=1/\dE li lk ts=false)\/(e=7/\dE li lk ts=true/\(stM true (nZ ts)=none\/stM false (fM ts)=none))))\/
  ∃a b a1 a0 gv lc rc,Made li lk ts a b a1 a0/\v=.tuple #[.agg (dq (bW li lk ts a b a1 a0).ig (bW li lk ts a b a1 a0).kp (bW li lk ts a b a1 a0).br (bW li lk ts a b a1 a0).rules gv lc rc).toArray,nI 0]/\
   Ints w gv (bW li lk ts a b a1 a0).groups/\PartV w lc (bW li lk ts a b a1 a0).left (bW li lk ts a b a1 a0).lt/\PartV w rc (bW li lk ts a b a1 a0).right (bW li lk ts a b a1 a0).rt/\Gx B (gv::(lc++rc)):=by
 rcases h with⟨h0,rfl⟩|⟨h0,⟨a,b,a1,a0,u,h1,h2,h3,h4,h5,h6,rfl,hT,hN⟩|⟨h1,rfl⟩⟩
 ·exact .inl ⟨1,zd,rfl,.inl ⟨rfl,h0⟩⟩
 ·obtain⟨gv,lc,rc,rfl,k1,k2,k3⟩:=hT;have hn:=hN _ rfl;exact .inr ⟨a,b,a1,a0,gv,lc,rc,⟨h0,h1,h2,h3,h4,h5,h6⟩,rfl,k1,k2,k3,fun x hx=>hn x (by simp only[tR,oz,yP,or_false]at hx ⊢;rcases hx with hx|hx|hx<;>simp[hx])⟩
 exact .inl ⟨7,zd,rfl,.inr ⟨rfl,h0,h1⟩⟩
theorem oO(w:sN)(hT:eF w):Ret BW 8 [] w fun v w'=>v=.bool true/\CZ w w':=by
 have hg:=oM hT;obtain⟨st,e6,e4,e9,e7⟩:=uK;refine uu func8 ntmps8 rfl rfl ?_;refine zh ?_;refine zc call18 (pd Fc w zd) ?_;rintro v w1 ⟨a2,hP⟩;rw[e6]at hP;obtain⟨cs,e,rfl,hC⟩:=hP;rw[e4,e9,e7]at hC
 rcases hC.made with⟨e',h',hv,c6⟩|⟨a,b,d8,d7,gv,lc,rc,hM,hv,k1,k2,k3,hn⟩
 ·exfalso
  rcases c6 with⟨_,h1⟩|⟨_,_,h1|h1⟩
  ·rw[xl]at h1;cases h1
  ·have:=Ce;rw[h1]at this;cases this
  have:=Cd;rw[h1]at this;cases this
 have hi:=hM.inv;have c5:=hM.breaks [1,2,2] zd;have d4:(bW [] [] mE a b d8 d7).ig=0:=rfl;rw[uL]at c5;obtain⟨e3,g'⟩:=k2.one;obtain⟨e2,g9⟩:=k3.one;generalize bW [] [] mE a b d8 d7=t at *;have f3:cs=dq t.ig t.kp t.br t.rules gv lc rc/\e=0:=by
  simp only[pZ,su,rk,ri,rf,and_true,true_and,rm]at hv;simpa using hv
 obtain⟨rfl,rfl⟩:=f3;have a1:(dq t.ig t.kp t.br t.rules gv lc rc).length=17:=by simp[e3,e2]
 have b9:(dq t.ig t.kp t.br t.rules gv lc rc).all zf=true:=by
  obtain⟨i5,e',h1,_,h3⟩:=hC.shape;simp only[pZ,su,rk,ri,rf,and_true,true_and,rm]at h1;rw[h1.1];exact h3
 have d0:(aK t (ed t) [1]).wait=[]:=rfl;have c':(aK t (ed t) [1,2]).wait=[(2,false)]:=by
  have e:(aK t (ed t) [1,2]).wait=[(2,t.ig.testBit 2&&(false || !(t.kp.testBit 1)))]:=rfl;rw[e,d4];rfl
 have e1:(aK t (ed t) [1,2,2]).wait=[(2,false),(2,false)]:=by
  have e:(aK t (ed t) [1,2,2]).wait=[(2,t.ig.testBit 2&&(false || !(t.kp.testBit 1))),(2,t.ig.testBit 2&&((t.ig.testBit 2&&(false || !(t.kp.testBit 1))) || !(t.kp.testBit 2)))]:=rfl;rw[e,d4];rfl
 have f4:closeL t (aK t (ed t) [1,2,2]).wait (aK t (ed t) [1,2,2]).row=[false,true]:=by
  have e:oN t [1,2,2]=true::closeL t (aK t (ed t) [1,2,2]).wait (aK t (ed t) [1,2,2]).row++[true]:=rfl;rw[e,List.cons_append]at c5;have h2:=(C2 c5).2;have:closeL t (aK t (ed t) [1,2,2]).wait (aK t (ed t) [1,2,2]).row++[true]=[false,true]++[true]:=h2;exact List.append_cancel_right this
 have hz:¬(0=7):=zd;refine zh ?_;refine ax (au w1) 7 zo (uM _) rfl ?_;intro tb w2 O2 a0 f8 i3 i4;refine bE (us:=(dq t.ig t.kp t.br t.rules gv lc rc).toArray) a0 (show(dq t.ig t.kp t.br t.rules gv lc rc).toArray.size=17 from by simpa using a1) (by rw[show(dq t.ig t.kp t.br t.rules gv lc rc).toArray.size=17 from by simpa using a1];exact sx _) b9 rfl rfl rfl ?_;have b8:=a0.setRow (us:=(dq t.ig t.kp t.br t.rules gv lc rc).toArray);have a':=f8.trans (pc (us:=(dq t.ig t.kp t.br t.rules gv lc rc).toArray) hz a0.tag rfl);generalize w2.setRow tb (dq t.ig t.kp t.br t.rules gv lc rc).toArray=w3 at *;have b0:=a'.ext;have g6:Rng w1.heap.size O2 w3:=(au w1).upd a';have i1:eF w3:=cH hT (a2.trans b0);have a8:G5<w1.heap.size:=uV hg a2.size;refine zh ?_;refine zv (ai (us:=dq t.ig t.kp t.br t.rules gv lc rc) (by simpa using b8.cellsAdd) (y8 _) (by rw[a1];exact sx _) rfl) ?_;refine zc call19 (jF w1.heap.size O2 w3 1 2 t gv lc rc (k1.ext b0) (k2.ext b0) (k3.ext b0) ((nz k1 k2 k3).upd a') zd zd zd zd hi.ok hi.right g6) ?_;rintro _ w4 ⟨O4,rb,rfl,h4,f7,g5⟩;have a3:¬(0=1\/0=2\/0=3\/0=4\/0=5\/0=6\/0=7\/0=1000):=zo;have a7:A2 (fun q=>q=1\/q=2\/q=3\/q=4\/q=5\/q=6\/q=7\/q=1000) (fun _=>0) w1 O4 w4:=(a'.mono (fun _ h=>zo) a3).trans (f7.mono (fun _ h=>zo) a3);have g1:eF w4:=cH hT (a2.trans a7.ext);have e5:=vq hi.ok;refine zh ?_
 refine zc CY (ib w1.heap.size O4 w4 1 2 3 rb t gv lc rc _ (ed t) h4 zd zd zd zd zd zd zd zd zd hi.ok e5 (by show 0+1<=_;decide) rfl g5 g1 a8 1 (aK t (ed t) [1]) rfl) ?_;rintro v5 w5 ⟨O5,e0,h5,d3,b7,f6,g4⟩;rw[iV t _ _ (by rw[d0];rfl)]at h5 d3 b7;have a6:=a7.trans (f6.mono (fun _ h=>zo) a3);have g0:eF w5:=cH hT (a2.trans a6.ext);refine zh ?_
 refine zc CY (ib w1.heap.size O5 w5 1 2 4 rb t gv lc rc e0 (aK t (ed t) [1]) h5 zd zd zd zd zd zd zd zd zd hi.ok d3 (by rw[d0];decide) rfl g4 g0 a8 2 (aK t (ed t) [1,2]) rfl) ?_;rintro v6 w6 ⟨O6,d',h6,d2,b5,d5,g3⟩;rw[iV t _ _ (by rw[c'];rfl)]at h6 d2 b5;have a5:=a6.trans (d5.mono (fun _ h=>zo) a3);have f':eF w6:=cH hT (a2.trans a5.ext);refine zh ?_
 refine zc CY (ib w1.heap.size O6 w6 1 2 5 rb t gv lc rc d' (aK t (ed t) [1,2]) h6 zd zd zd zd zd zd zd zd zd hi.ok d2 (by rw[c'];decide) rfl g3 f' a8 2 (aK t (ed t) [1,2,2]) rfl) ?_;rintro v7 w7 ⟨O7,d9,h7,d1,b3,c7,g2⟩;rw[iV t _ _ (by rw[e1];rfl)]at h7 d1 b3;have a4:=a5.trans (c7.mono (fun _ h=>zo) a3);have f9:eF w7:=cH hT (a2.trans a4.ext);refine zh ?_
 refine zc call25 (kY w1.heap.size O7 w7 1 2 6 rb t gv lc rc d9 (aK t (ed t) [1,2,2]) h7 zd zd zd zd zd zd zd zd zd hi.ok d1 rfl g2 f9 a8) ?_;rintro v8 w8 ⟨O8,g7,s8,h8,h9,h0,i0,b1,a9,i2⟩;have c8:=a4.trans (a9.mono (fun _ h=>zo) a3);have e8:closeL t (aK t (ed t) [1,2,2]).wait (aK t (ed t) [1,2,2]).row=[false,true]:=f4;replace b1:RowT cP 4 1 O8 w8 6 v8 [false,true]:=by rw[<-e8];exact b1
 dsimp only at b7 b5 b3;have b6:=((b7.upd d5 zd zd).upd c7 zd zd).upd a9 zd zd;have b4:=(b5.upd c7 zd zd).upd a9 zd zd;have b2:=b3.upd a9 zd zd;refine zh ?_;refine ay (d:=26) rfl (b':=true) (rfl) ?_;refine zh ?_;refine ay (d:=30) rfl (b':=true) (rfl) ?_;refine zh ?_;refine zvH (yJ b6.sl tp rfl) ?_;refine zvH (yJ b4.sl tp rfl) ?_;refine zvH (x4 rfl rfl (uw zd)) ?_;refine zvH (yJ b2.sl tp rfl) ?_;refine zvH (x4 rfl rfl (uw zd)) ?_;refine ay (d:=41) rfl (b':=true) (rfl) ?_;refine zh ?_;refine gb tp (BV _) (zeroValue4 _) cP [false,true] rfl rfl rfl rfl zk (by simp) rfl ?_;intro bv w9 f5 d6;refine zh ?_;refine zc call23 (ot [false,true] [false,true] v8 bv w9 (b1.sl.ext d6) f5) ?_;rintro _ g8 ⟨rfl,c9⟩;refine zh ?_;refine ae rfl rfl (⟨rfl,((a2.trans c8.ext).trans d6).trans c9⟩)
def anyN(k:Nat):Nd:=if k=0 then .mk 0 11 []else .mk 4 0 (.mk 0 11 []::sP k (.mk 1 0 []))
def nN(k:Nat):Bool:=
 dP [anyN k]==0&&((y3 (k+2)).all fun p=>cO (jZ [anyN k]) p==(if p<k+1 then [p+1]else [])&&jD (jZ [anyN k]) p==if p=k+1 then 1 else 0) &&
  ((y3 (k+1)).all fun j=>(nth (jZ [anyN k]).ls j).1==(if j=0 then 0 else 1)&&(nth (jZ [anyN k]).ls j).2.1==if j=0 then 11 else 0)
theorem ka:∀k,k<12->nN k=true:=by decide +kernel
structure Aut(g:Gr)(n:Nat):Prop where
 pos:0<n
 nx:∀p,p<=n->cO g p=if p<n then [p+1]else []
 tl:∀p,p<=n->jD g p=if p=n then 1 else 0
 lf0:(nth g.ls 0).1=0/\(nth g.ls 0).2.1=11
 lf:∀j,0<j->j<n->(nth g.ls j).1=1
theorem gQ{k:Nat}(h:k<12):dP [anyN k]=0/\Aut (jZ [anyN k]) (k+1):=by
 have hc:=ka k h;unfold nN at hc;simp only[Bool.and_eq_true,z6,sQ,beq_iff_eq]at hc;obtain⟨⟨h1,h2⟩,h3⟩:=hc;refine⟨h1,zo,fun p hp=>(h2 p zo).1,fun p hp=>(h2 p zo).2,?_,fun j h0 hj=>?_⟩
 ·have:=h3 0 zo
  rwa[if_pos rfl,if_pos rfl]at this
 have:=(h3 j hj).1
 rwa[if_neg zo]at this
def dv(n v:Nat):List Int:=0::((y3 n).filter fun i=>v.testBit i).map fun(i:Nat)=>(i:Int)+1
def nxV(n v m:Nat):Nat:=if m=36 then 0 else(2*v+if m=11 then 1 else 0) % 2^n
theorem lx(n v m:Nat):nxV n v m<2^n:=by
 unfold nxV
 split
 ·exact ug n
 exact Nat.mod_lt _ (ug n)
theorem jx{n v b i:Nat}(hb:b<=1)(hi:i<n):((2*v+b) % 2^n).testBit i=if i=0 then decide (b=1)else v.testBit (i-1):=by
 rw[Nat.testBit_mod_two_pow,decide_eq_true hi,Ae]
 cases i with
 |zero=>rw[if_pos rfl,Nat.testBit_zero];congr 1;apply propext;omega
 |succ i=>rw[if_neg zo,Nat.testBit_succ,show(2*v+b) / 2=v from by omega];rfl
theorem dG{n v m i:Nat}(hm:m≠36)(hi:i<n):(nxV n v m).testBit i=if i=0 then decide (m=11)else v.testBit (i-1):=by
 unfold nxV;rw[if_neg hm,jx (by split<;>omega) hi];congr 1
 split<;>simp_all
theorem cc{n v:Nat}{x:Int}:x∈dv n v↔x=0\/∃i:Nat,i<n/\v.testBit i=true/\x=(i:Int)+1:=by
 unfold dv;rw[oz,pR]
 constructor
 ·rintro(h|⟨i,hi,e⟩)
  ·exact .inl h
  obtain⟨h1,h2⟩:=rU.1 hi;exact .inr ⟨i,sQ.1 h1,h2,e.symm⟩
 rintro(h|⟨i,h1,h2,e⟩)
 ·exact .inl h
 exact .inr ⟨i,rU.2 ⟨sQ.2 h1,h2⟩,e.symm⟩
theorem lB(n v:Nat):(dv n v).Pairwise (· < ·):=by
 unfold dv;refine oD.2 ⟨fun x hx=>?_,yr.2 ((List.pairwise_lt_range.filter _).imp fun h=>zo)⟩;obtain⟨i,_,rfl⟩:=pR.1 hx;omega
theorem gY{n v u:Nat}(hv:v<2^n)(hu:u<2^n)(h:∀i,i<n->v.testBit i=u.testBit i):v=u:=by
 refine Nat.eq_of_testBit_eq fun i=>?_
 by_cases hi:i<n
 ·exact h i hi
 have hp:2^n<=2^i:=rI zd zo;rw[y1 (uV hv hp),y1 (uV hu hp)]
theorem gR{n v u:Nat}(hv:v<2^n)(hu:u<2^n)(h:dv n v=dv n u):v=u:=by
 have a0:∀v u:Nat,dv n v=dv n u->∀i,i<n->v.testBit i=true->u.testBit i=true:=fun v u h i hi hb=>by
  have:((i:Int)+1)∈dv n u:=by rw[<-h];exact cc.2 (.inr ⟨i,hi,hb,rfl⟩)
  rcases cc.1 this with e|⟨j,_,hj,e⟩
  ·omega
  obtain rfl:i=j:=zo;exact hj
 refine gY hv hu fun i hi=>?_
 rw[zI];exact⟨a0 v u h i hi,a0 u v h.symm i hi⟩
theorem eM{g:Gr}{n:Nat}(h:Aut g n)(v:Nat){m:Nat}(hm:m<37):cM true g (dv n v) (m:Int)=dv n (nxV n v m):=by
 have hp:=h.pos;refine gW (yB _) (lB _ _) fun x=>?_
 unfold cM GM;rw[uC,if_pos rfl,tR,oU,cc,List.mem_flatMap];have h0:cK (nth g.ls 0).1 (nth g.ls 0).2.1 (m:Int)=decide (m=11):=by
  rw[h.lf0.1,h.lf0.2];unfold cK;rw[if_pos rfl]
  by_cases e:m=11
  ·subst e;rfl
  rw[decide_eq_false e,show((m:Int)==11)=false from by rw[beq_eq_false_iff_ne];omega,Bool.and_false]
 have h1:∀j,0<j->j<n->cK (nth g.ls j).1 (nth g.ls j).2.1 (m:Int)=decide (m≠36):=fun j hj hn=>by
  rw[h.lf j hj hn];unfold cK;rw[if_neg zd,if_pos rfl,decide_eq_true zo,Ae];congr 1;apply propext;omega
 refine or_congr CX ⟨?_,?_⟩
 ·rintro⟨p,a1,hx⟩;obtain⟨j,hj,rfl⟩:=pR.1 hx;obtain⟨j1,j2⟩:=rU.1 hj
  rcases cc.1 a1 with rfl|⟨i,hi,hb,rfl⟩
  ·rw[show(0:Int).toNat=0 from rfl,h.nx 0 zo,if_pos hp,oU]at j1;subst j1;rw[show 0+1-1=0 from rfl,h0]at j2;have j2:=of_decide_eq_true j2;subst j2;exact⟨0,hp,by rw[dG zd hp];rfl,rfl⟩
  rw[show((i:Int)+1).toNat=i+1 from by omega,h.nx (i+1) zo]at j1
  split at j1
  ·rename_i hin;rw[oU]at j1;subst j1;rw[show i+1+1-1=i+1 from by omega,h1 (i+1) zo hin]at j2;exact⟨i+1,hin,by rw[dG (of_decide_eq_true j2) hin,if_neg zo];exact hb,rfl⟩
  cases j1
 rintro⟨i,hi,hb,rfl⟩;have a0:m≠36:=fun e=>by rw[e]at hb;simp[nxV]at hb
 rw[dG a0 hi]at hb
 by_cases e:i=0
 ·subst e;rw[if_pos rfl]at hb;exact⟨0,cc.2 (.inl rfl),pR.2 ⟨1,rU.2 ⟨by rw[show(0:Int).toNat=0 from rfl,h.nx 0 zo,if_pos hp];simp,by rw[show 1-1=0 from rfl,h0];exact hb⟩,rfl⟩⟩
 rw[if_neg e]at hb;exact⟨(i:Int),cc.2 (.inr ⟨i-1,zo,hb,zo⟩),pR.2 ⟨i+1,rU.2 ⟨by rw[show(i:Int).toNat=i from rfl,h.nx i zo,if_pos hi];simp,by rw[show i+1-1=i from rfl,h1 i zo hi];exact decide_eq_true a0⟩,zo⟩⟩
theorem gU{g:Gr}{n:Nat}(h:Aut g n)(v:Nat):(dp g (dv n v)).testBit 0=v.testBit (n-1):=by
 have hp:=h.pos;rw[Au,zI,z1]
 constructor
 ·rintro⟨p,a0,hb⟩
  rcases cc.1 a0 with rfl|⟨i,hi,hv,rfl⟩
  ·rw[show(0:Int).toNat=0 from rfl,h.tl 0 zo,if_neg zo]at hb;simp at hb
  rw[show((i:Int)+1).toNat=i+1 from by omega,h.tl (i+1) zo]at hb
  split at hb
  ·rename_i e;rw[show n-1=i from by omega];exact hv
  simp at hb
 intro hb;exact⟨((n-1:Nat):Int)+1,cc.2 (.inr ⟨n-1,zo,hb,rfl⟩),by rw[show(((n-1:Nat):Int)+1).toNat=n from by omega,h.tl n (vO _),if_pos rfl];decide⟩
def RepV(n:Nat)(S:List (List Int)):Prop:=∃V:List Nat,S=V.map (dv n)/\V.Nodup/\∀v∈V,v<2^n
theorem RepV.len{n:Nat}{S:List (List Int)}(h:RepV n S):S.length<=2^n:=by
 obtain⟨V,rfl,h1,h2⟩:=h;rw[vX];exact gu h1 h2
theorem RepV.num{n:Nat}{S:List (List Int)}(h:RepV n S){u:Nat}(hu:u<2^n):RepV n (rH S (dv n u)):=by
 unfold rH
 split
 ·exact h
 rename_i hn;obtain⟨V,rfl,h1,h2⟩:=h;refine⟨V++[u],by simp,?_,fun v hv=>?_⟩
 ·refine List.nodup_append.2 ⟨h1,by simp,fun a ha b hb e=>?_⟩;rw[oU]at hb;subst hb;subst e;refine hn ?_
  unfold CI;rw[List.findIdx?_isSome,z1];exact⟨dv n a,pR.2 ⟨a,ha,rfl⟩,by simp⟩
 rcases tR.1 hv with hv|hv
 ·exact h2 v hv
 rw[oU.1 hv];exact hu
theorem RepV.at{n:Nat}{S:List (List Int)}(h:RepV n S){i:Nat}(hi:i<S.length):∃v,nth S i=dv n v:=by
 obtain⟨V,rfl,_,_⟩:=h;rw[vX]at hi;exact⟨nth V i,dI hi⟩
theorem RepV.row{g:Gr}{n:Nat}(hg:Aut g n){S:List (List Int)}(h:RepV n S)(v:Nat):∀m,m<=37->RepV n (dC (cM true g) (dv n v) S m).1
 |0,_=>h
 |m+1,hm=>by
  unfold dC;have ih:=h.row hg v m zo;dsimp only;rw[eM hg v zo];exact ih.num (lx _ _ _)
theorem dW{g:Gr}{n:Nat}(hg:Aut g n){a0:List Int->Nat}:∀(f i:Nat) (S:List (List Int)) (rows:List (List Nat)) (a1:List Nat) (d:List (List Nat)×List Nat),DI (cM true g) a0 i S rows a1->RepV n S->Ge (cM true g) a0 f i S rows a1=some d->∃S',DI (cM true g) a0 S'.length S' d.1 d.2/\RepV n S'
 |0,_,_,_,_,_,_,_,h=>by cases h
 |f+1,i,S,rows,a1,d,hd,hr,h=>by
  unfold Ge at h
  split at h
  ·rename_i hi
   split at h
   ·cases h
   obtain⟨v,hv⟩:=hr.at hi;exact dW hg f _ _ _ _ d (hd.next hi zo) (by rw[hv];exact hr.row hg v 37 (vO _)) h
  rename_i hi
  cases h
  have:=hd.le;obtain rfl:i=S.length:=zo;exact⟨S,hd,hr⟩
theorem fK{g:Gr}{n:Nat}(hg:Aut g n)(hn:2^n<=1000){a0:List Int->Nat}:∀(f i:Nat) (S:List (List Int)) (rows:List (List Nat)) (a2:List Nat),RepV n S->i<=S.length->1001<f+i->∃d,Ge (cM true g) a0 f i S rows a2=some d
 |0,i,S,rows,a2,hr,hi,hf=>by have:=hr.len;omega
 |f+1,i,S,rows,a2,hr,hi,hf=>by
  unfold Ge
  split
  ·rename_i hlt;obtain⟨v,hv⟩:=hr.at hlt;have a1:RepV n (dC (cM true g) (nth S i) S 37).1:=by rw[hv];exact hr.row hg v 37 (vO _)
   have hl:=a1.len;obtain⟨q,hq⟩:=(kB (cM true g) (nth S i) S 37).pre;rw[if_neg zo];exact fK hg hn f (i+1) _ _ _ a1 (by rw[hq,y4];omega) zo
  exact⟨_,rfl⟩
theorem nw(n:Nat):RepV n [[0]]:=⟨[0],by simp[dv],by simp,fun v hv=>by rw[oU.1 hv];exact ug n⟩
structure StV(n:Nat)(V:List Nat)(nx:Nat->Nat->Nat)(tl:Nat->Nat):Prop where
 pos:0<V.length
 nd:V.Nodup
 lt:∀p,p<V.length->nth V p<2^n
 fst:nth V 0=0
 nxl:∀p m,p<V.length->m<37->nx p m<V.length/\nth V (nx p m)=nxV n (nth V p) m
 tel:∀p,p<V.length->(tl p).testBit 0=(nth V p).testBit (n-1)
theorem la{g:Gr}{n:Nat}(hg:Aut g n){S:List (List Int)}{d:List (List Nat)×List Nat}(h:DI (cM true g) (dp g) S.length S d.1 d.2)(hr:RepV n S):∃V,V.length=S.length/\StV n V (nxD d.1) (nth d.2):=by
 obtain⟨V,rfl,h1,h2⟩:=hr;have hl:(V.map (dv n)).length=V.length:=vX _;rw[hl]at h;have a0:∀p,p<V.length->nth (V.map (dv n)) p=dv n (nth V p):=fun p hp=>dI hp
 have a3:∀p,p<V.length->nth V p<2^n:=fun p hp=>h2 _ (aO hp)
 refine⟨V,hl.symm,by have:=h.p0;omega,h1,a3,?_,fun p m hp hm=>?_,fun p hp=>?_⟩
 ·have h0:0<V.length:=by have:=h.p0;omega
  have:=h.fst;rw[a0 0 h0]at this;exact gR (a3 0 h0) (ug n) (this.trans (by simp[dv]))
 ·obtain⟨a1,a2⟩:=(h.row p hp).2 m hm;rw[hl]at a1;refine⟨a1,gR (a3 _ a1) (lx _ _ _) ?_⟩;show dv n (nth V (nth (nth d.1 p) m))=_;rw[<-a0 _ a1];exact a2.trans (by rw[a0 p hp,eM hg _ hm])
 rw[h.tel p hp,a0 p hp,gU hg]
theorem StV.next{n:Nat}{V:List Nat}{nx:Nat->Nat->Nat}{tl:Nat->Nat}(h:StV n V nx tl){v p:Nat}(hv:v<2^n)(hp:p<V.length)(e:nth V p=v / 2):nth V (nx p (if v % 2=1 then 11 else 0))=v:=by
 rw[(h.nxl p _ hp (by split<;>omega)).2,e];unfold nxV;rw[if_neg (by split<;>omega)];have:(2*(v / 2)+if(if v % 2=1 then 11 else 0)=11 then 1 else 0)=v:=by
  by_cases hb:v % 2=1
  ·rw[if_pos hb,if_pos rfl];omega
  rw[if_neg hb,if_neg zd];omega
 rw[this,Nat.mod_eq_of_lt hv]
theorem StV.all{n:Nat}{V:List Nat}{nx:Nat->Nat->Nat}{tl:Nat->Nat}(h:StV n V nx tl){P:Nat->Prop}(h0:∃p,p<V.length/\P p/\nth V p=0) 
  (hs:∀p m,p<V.length->P p->m<37->∃q,q<V.length/\P q/\nth V q=nth V (nx p m)):∀v,v<2^n->∃p,p<V.length/\P p/\nth V p=v:=by
 intro v
 induction v using Nat.strongRecOn with
 |ind v ih=>
  intro hv
  by_cases e:v=0
  ·subst e;exact h0
  obtain⟨p,hp,hP,a1⟩:=ih (v / 2) zo zo;obtain⟨q,hq,hQ,a0⟩:=hs p (if v % 2=1 then 11 else 0) hp hP (by split<;>omega);exact⟨q,hq,hQ,by rw[a0,h.next hv hp a1]⟩
theorem StV.many{n:Nat}{V:List Nat}{nx:Nat->Nat->Nat}{tl:Nat->Nat}(h:StV n V nx tl):2^n<=V.length:=by
 have a0:=h.all (P:=fun _=>True) ⟨0,h.pos,trivial,h.fst⟩ fun p m hp _ hm=>⟨nx p m,(h.nxl p m hp hm).1,trivial,rfl⟩
 have:=(yY (n:=2^n)).length_le_of_subset (l₂:=V) fun v hv=>by
  obtain⟨p,hp,_,rfl⟩:=a0 v (sQ.1 hv);exact aO hp
 simpa using this
theorem StV.run{n:Nat}{V:List Nat}{nx:Nat->Nat->Nat}{tl:Nat->Nat}(h:StV n V nx tl):∀(j p:Nat),p<V.length->runN nx (sP j 0) p<V.length/\∀i,i+j<n->(nth V (runN nx (sP j 0) p)).testBit (i+j)=(nth V p).testBit i
 |0,p,hp=>⟨hp,fun i _=>rfl⟩
 |j+1,p,hp=>by
  obtain⟨a1,a2⟩:=h.nxl p 0 hp zd;obtain⟨b1,b2⟩:=h.run j (nx p 0) a1;refine⟨b1,fun i hi=>?_⟩;show(nth V (runN nx (sP j 0) (nx p 0))).testBit (i+(j+1))=_;rw[show i+(j+1)=(i+1)+j from by omega,b2 (i+1) zo,a2,dG zd zo,if_neg zo];rfl
theorem StV.alike{n:Nat}{V:List Nat}{nx:Nat->Nat->Nat}{tl:Nat->Nat}(h:StV n V nx tl){p q:Nat}(hp:p<V.length)(hq:q<V.length)(ha:Alike nx tl p q):nth V p=nth V q:=by
 refine gY (h.lt p hp) (h.lt q hq) fun i hi=>?_
 have e:=ha (sP (n-1-i) 0) fun m hm=>by rw[List.eq_of_mem_replicate hm];decide
 obtain⟨p1,p2⟩:=h.run (n-1-i) p hp;obtain⟨q1,q2⟩:=h.run (n-1-i) q hq;have e1:=p2 i zo;have e2:=q2 i zo;rw[show i+(n-1-i)=n-1 from by omega]at e1 e2;rw[<-e1,<-e2,<-h.tel _ p1,<-h.tel _ q1,e]
theorem StV.least{n:Nat}{V:List Nat}{d:List (List Nat)×List Nat}(h:StV n V (nxD d.1) (nth d.2))(hl:V.length=d.1.length){cl:Nat->Nat}(hc:Cls cl d):(aU cl d.1 d.2).1.length=2^n:=by
 obtain⟨F,hF⟩:=gx (cl:=cl) (tl:=nth d.2) (nx:=nxD d.1) (n:=V.length) (fun p m hp hm=>(h.nxl p m hp hm).1) (d.1.length+1) 0 [0] [] [] (nt h.pos) zo;have a4:=hF.rl
 change (aU cl d.1 d.2).1.length=F.length at a4
 rw[a4];have a0:∀j,j<F.length->nth F j<V.length:=fun j hj=>hF.reps.lt _ (aO hj)
 refine Nat.le_antisymm ?_ ?_
 ·have a5:(F.map (nth V)).Nodup:=by
   refine yr.2 (AK (fun {a b} ha hb a6 e=>a6 ?_) hF.reps.nd);have:a=b:=by
    have h1:=hF.reps.lt a ha;have h2:=hF.reps.lt b hb;rw[aB h1,aB h2]at e;exact(List.getElem_inj h.nd).1 e
   rw[this]
  have:=gu a5 (n:=2^n) fun x hx=>by
   obtain⟨p,hp,rfl⟩:=pR.1 hx;exact h.lt p (hF.reps.lt p hp)
  simpa using this
 have a3:=h.all (P:=fun p=>p∈F) ⟨0,h.pos,by have:=aO hF.p0;rwa[hF.fst]at this,h.fst⟩ fun p m hp hP hm=>by
  obtain⟨j,hj,rfl⟩:=cI hP;obtain⟨a1,a2⟩:=(hF.row j hj).2 m hm;have hn:=(h.nxl _ m hp hm).1;exact⟨_,a0 _ a1,aO a1,h.alike (a0 _ a1) hn ((hc _ _ (by have:=a0 _ a1;omega) zo).1 a2)⟩
 have:=(yY (n:=2^n)).length_le_of_subset (l₂:=F.map (nth V)) fun v hv=>by
  obtain⟨p,_,hp,rfl⟩:=a3 v (sQ.1 hv);exact pR.2 ⟨p,hp,rfl⟩
 simpa using this
theorem mw{k:Nat}(h:k<12){a:List (List Nat)×List Nat}(ha:stM true [anyN k]=some a):∃V,V.length=a.1.length/\StV (k+1) V (nxD a.1) (nth a.2):=by
 obtain⟨h1,h2⟩:=gQ h;unfold stM at ha;rw[if_pos h1]at ha;obtain⟨S,hS,hr⟩:=dW h2 _ _ _ _ _ a (yO _ _) (nw _) ha;obtain⟨V,e,hV⟩:=la h2 hS hr;exact⟨V,e.trans hS.rl.symm,hV⟩
theorem any_none{k:Nat}(h:k<12)(h9:10<=k+1):stM true [anyN k]=none:=by
 cases ha:stM true [anyN k]with
 |none=>rfl
 |some a=>
  obtain⟨h1,h2⟩:=gQ h;unfold stM at ha;rw[if_pos h1]at ha;obtain⟨S,hS,hr⟩:=dW h2 _ _ _ _ _ a (yO _ _) (nw _) ha;obtain⟨V,e,hV⟩:=la h2 hS hr;have hm:=hV.many;have hl:=hS.len;have:2^10<=2^(k+1):=rI zd h9;omega
theorem any_some{k:Nat}(h:k<9):∃a,stM true [anyN k]=some a:=by
 obtain⟨h1,h2⟩:=gQ (k:=k) zo;unfold stM;rw[if_pos h1];have:2^(k+1)<=2^9:=rI zd zo;exact fK h2 zo 1002 0 _ _ _ (nw _) (by simp) zo
theorem mo{k:Nat}(h:k<12){a:List (List Nat)×List Nat}(ha:stM true [anyN k]=some a){cl:Nat->Nat}(hc:Cls cl a):(aU cl a.1 a.2).1.length=2^(k+1):=by
 obtain⟨V,e,hV⟩:=mw h ha;exact hV.least e hc
def mq:Nat->List UInt8
 |0=>[76]
 |k+1=>mq k++[32,97,110,121]
theorem eC:∀k,(mq k).length=4*k+1
 |0=>rfl
 |k+1=>by rw[mq,y4,eC k];simp;omega
abbrev mR(k:Nat):List R3:=[(anyN k,.mk 9 0 [],false)]
theorem mO:∀k,k<12->kD (mq k++[32,33,32])=.ok ⟨mR k,[],[],false,false⟩
 |0,_=>by kernel_rfl
 |1,_=>by kernel_rfl
 |2,_=>by kernel_rfl
 |3,_=>by kernel_rfl
 |4,_=>by kernel_rfl
 |5,_=>by kernel_rfl
 |6,_=>by kernel_rfl
 |7,_=>by kernel_rfl
 |8,_=>by kernel_rfl
 |9,_=>by kernel_rfl
 |10,_=>by kernel_rfl
 |11,_=>by kernel_rfl
 |k+12,h=>absurd h zo
theorem jc(k:Nat)(h:k<12):∃st,kD (mq k++[32,33,32])=.ok st/\st.ts=mR k/\st.li=[]/\st.lk=[]:=⟨_,mO k h,rfl,rfl,rfl⟩
theorem gq:∀k,k<12->dE [] [] (mR k)=true:=by decide +kernel
theorem mn:(stM false [.mk 9 0 []]).isSome=true:=by rw[stM_eq];decide +kernel
abbrev ny:TabM:=⟨0,0,0,0,[],⟨0,[],[],[],[]⟩,[],⟨0,[],[],[],[]⟩,[]⟩
theorem mr(w:sN):TabV w (.agg tab0) ny:=
 ⟨nS,dO,dO,rfl,sl0 _,⟨_,_,_,_,_,rfl,sl0 _,sl0 _,sl0 _,sl0 _,sl0 _⟩,⟨_,_,_,_,_,rfl,sl0 _,sl0 _,sl0 _,sl0 _,sl0 _⟩⟩
theorem cy(n:Int)(w:sN)(h0:0<=n)(h1:n<=255)(hT:eF w):Ret BW 4 [.int .u8 n] w fun v w'=>v=.bool true/\CZ w w':=by
 have d3:n.tmod 12=n % 12:=Int.tmod_eq_emod_of_nonneg h0;obtain⟨q,a0,hq⟩:∃q:Nat,q<12/\n.tmod 12=(q:Int):=⟨(n % 12).toNat,zo,zo⟩
 obtain⟨st,b4,b3,b7,b6⟩:=jc q a0;have b8:=eC q;refine uu func4 ntmps4 rfl rfl ?_;refine zh ?_;refine zc call8 (oO w hT) ?_;rintro v w1 ⟨rfl,c'⟩;refine zh ?_;refine zFH rfl rfl ?_;refine zv (RV.rem rfl rfl zd) ?_;rw[hq];refine zvH (Cx underlying5 underlying3 rfl (uw zo)) ?_;refine zlp (fun x:Nat=>[(3,nI (q:Nat)),(4,.string (bs (mq x))),(5,nI x)]) (fun x=>w1) (fun x=>x<=q) (fun x=>q-x) 0 (y2 _) ?_;intro i hi;have d5:=eC i;refine zh ?_;refine zC ?_ ?_
 ·intro a7;replace a7:i<q:=dT a7;refine zh ?_;refine zvH (jv (b:=[32,97,110,121]) rfl rfl (by simp;omega)) ?_;refine zxd (i+1) (a7)
 intro b9;obtain rfl:i=q:=dF b9;refine zh ?_;refine zv (jv (b:=[32,33,32]) rfl rfl (by simp;omega)) ?_;refine zc call18 (pd (mq i++[32,33,32]) w1 (by simp;omega)) ?_;rintro v w2 ⟨c9,hP⟩;rw[b4]at hP;obtain⟨cs,e,rfl,hC⟩:=hP;rw[b3,b7,b6]at hC;obtain⟨d0,e',a6,b1,c6⟩:=hC.shape;have a8:cs=d0/\e=e':=by
  simp only[pZ,su,rk,ri,rf,and_true,true_and,rm]at a6;simpa using a6
 obtain⟨rfl,rfl⟩:=a8;clear a6;refine zh ?_;refine ax (au w2) 1 zo (uM _) rfl ?_;intro xb w3 O3 a4 c7 d6 d7;refine bE (us:=cs.toArray) a4 (show cs.toArray.size=17 from by simpa using b1) (by rw[show cs.toArray.size=17 from by simpa using b1];exact sx _) (by simpa using c6) rfl rfl rfl ?_;have a':=a4.setRow (us:=cs.toArray);have a3:CZ w2 (w3.setRow xb cs.toArray):=(c7.trans (pc zd a4.tag rfl)).ext;generalize w3.setRow xb cs.toArray=w4 at *;have a2:=(c'.trans c9).trans a3;have a1:=hC.made
 by_cases h9:10<=i+1
 ·have hn:=any_none a0 h9;have hv:cs=tab0.toList/\e=7:=by
   rcases a1 with⟨e',c5,hv,hb⟩|⟨a,b,a9,b2,gv,lc,rc,hM,_⟩
   ·rcases hb with⟨_,h2⟩|⟨rfl,_,_⟩
    ·rw[gq i a0]at h2;cases h2
    simp only[pZ,su,rk,ri,rf,and_true,true_and,rm]at hv;simpa using hv
   have h2:stM true [anyN i]=some a:=hM.sa;rw[hn]at h2;cases h2
  obtain⟨rfl,rfl⟩:=hv;refine zh ?_;refine zTH rfl ((decide_eq_true zo)) ?_;refine ay (d:=33) rfl (b':=true) (rfl) ?_;refine zh ?_;refine ay (d:=37) rfl (b':=true) (rfl) ?_;refine zh ?_;refine zvH (ai (us:=tab0.toList) (by simpa using a'.cellsAdd) (y8 _) (sx _) rfl) ?_;refine zc call12 (sT ny (.agg tab0) w4 (mr w4)) ?_;rintro _ w5 ⟨rfl,c8⟩;refine zh ?_;refine ae rfl rfl (⟨rfl,a2.trans c8⟩)
 rcases a1 with⟨e',c5,hv,hb⟩|⟨a,b,a9,b2,gv,lc,rc,hM,hv,k1,k2,k3,hn⟩
 ·exfalso
  rcases hb with⟨_,h2⟩|⟨_,_,h2|h2⟩
  ·rw[gq i a0]at h2;cases h2
  ·obtain⟨a,ha⟩:=any_some (k:=i) zo;have h3:stM true [anyN i]=none:=h2;rw[ha]at h3;cases h3
  have h3:stM false [.mk 9 0 []]=none:=h2;have:=mn;rw[h3]at this;cases this
 have b5:(aU a9 a.1 a.2).1.length=2^(i+1):=mo a0 hM.sa hM.ca;have b0:=hM.inv.ll;rw[b5]at b0;obtain⟨d1,d2⟩:=k2.one;generalize bW [] [] (mR i) a b a9 b2=t at *;have a8:cs=dq t.ig t.kp t.br t.rules gv lc rc/\e=0:=by
  simp only[pZ,su,rk,ri,rf,and_true,true_and,rm]at hv;simpa using hv
 obtain⟨rfl,rfl⟩:=a8;have hB:=xw (t:=t) a' (k1.ext a3) (k2.ext a3) (k3.ext a3);obtain⟨uv,bv,kv,nv,tv,rfl,hu,_⟩:=hB.left;have c1:w4.cell? (((nA xb 5).add 0).add 1)=some uv:=hB.cl 1 uv rfl;have d4:2^(i+1)<=2^9:=rI zd zo;refine zh ?_;refine zFH rfl ((decide_eq_false zo)) ?_;refine aI (fun W=>W.cell? (((nA xb 5).add 0).add 1)=some uv/\Ints W uv t.left.usual) 14 rfl zk ?_;refine zin ⟨c1,hu.ext (ps _).drew⟩ fun zS=>?_
 refine zrm 0 rfl zS rfl ?_;refine zr 1 rfl zS (fun _=>RV.eql rfl rfl) ?_
 refine zrm 2 rfl zS rfl ?_;refine bL (d:=44) rfl (b':=true) (rfl) ?_
 refine zin ⟨c1,hu.ext (ps _).drew⟩ fun zS=>?_
 refine zro 3 rfl zS (fun _=>RV.fa rfl) ?_;refine zro 4 rfl zS (fun _=>RV.fa rfl) ?_
 refine zro 5 rfl zS (fun _=>RV.fa rfl) ?_;refine zto 6 rfl zS (fun w1 a5=>RV.ld a5.1 rfl) ?_
 refine zto 7 rfl zS (fun w1 a5=>yJ (by first|exact a5.2) underlying22 rfl) ?_;refine zro 8 rfl zS (fun _=>ix rfl) ?_
 refine zro 9 rfl zS (fun _=>x4 rfl rfl (uw zo)) ?_;refine zro 10 rfl zS (fun _=>xB (a:=1) (b:=i+1) rfl rfl rfl zo (by show _<=64;omega) (by show _<=(9223372036854775807:Int);omega)) ?_
 refine zro 11 rfl zS (fun _=>RV.eql rfl rfl) ?_;refine zr 12 rfl zS (fun _=>aQ rfl rfl) ?_
 refine zra 13 rfl zS rfl ?_;refine z8 zk ?_
 refine zh ?_;refine ae rfl rfl (⟨by rw[b0];simp,a2.drew⟩)
end Go.Proofs.YtlehnbkknlpkbaaGreatDoor
