/- Texts that the proof of this statement needs, merged and shortened. -/
import Derived.Test.YteolbhblkgjbhaaGreatDoorQShippedTexts1
open Go.Proofs.Tryz renaming sizeOf120->ix,isAgg120->L2,zeroValue120->L5,prog->LZ,underlying9->Ma,underlying130->Mf,underlying276->Mj,sizeOf3->Mn,sizeOf170->Mt,underlying22->My,underlying118->MA,zeroValue170->MG,sizeOf280->MI,underlying275->MR,underlying213->N8,isAgg170->Nf,call178->Ng,call154->Nh,call153->Ni,sizeOf283->Nk,call177->Nv,sizeOf22->Nw,underlying293->NC,underlying285->ND,zeroValue255->NM,call179->NN,underlying5->NZ,underlying3->P1,sizeOf27->P2,call262->Pe,call198->Pf,call184->Pg,call165->Ph,sizeOf255->Pl,sizeOf197->Pm,sizeOf130->Pn,sizeOf118->Po,call83->Pw,underlying274->Pz,underlying273->PA,underlying255->PB,underlying112->PC,zeroValue283->PF,sizeOf9->PH,call230->PI,call163->PJ,call155->PK,call120->PL,zeroValue24->PN,zeroValue22->PO,zeroValue3->PS
open Go renaming World->ln,Value->L1,TypeId->Me,Program->Nj,Operand->NP,Oper->Pa,Exit->Px,Addr->Py,sizeOf->PT,Edge->PX,Code->PY
open Nat renaming le_refl->L0,zero_le->L7,not_lt_zero->M9,le_succ->Mp,le_of_eq->Mw,sub_self->MT,blt->MZ,or_lt_two_pow->N6,lt_succ_iff_lt_or_eq->Nu,pow_lt_pow_right->NF,le_zero->NG,lt_of_lt_of_le->NQ,le_trans->Pq
open Go.VL.Upd renaming setRow->L3,set->M4,refl->MD,putObj->MS,alloc->P3
open Go.VL.Ret renaming enter->L4
open List renaming all_cons->L6,all_nil->LP,mem_singleton->LV,length_set->M0,length_cons->M1,getElem_append_left->M5,length_append->M6,take_length->Mb,getElem_append_right->Mg,drop_of_length_le->Mk,length_reverse->Mq,findIdx?_eq_none_iff->MF,append_assoc->MH,getElem_cons_zero->MQ,length_nil->MU,length_singleton->MW,replicate->MX,findIdx?_eq_some_iff_getElem->N0,foldl_append->N4,takeWhile_append_dropWhile->N7,suffix_refl->Na,eq_nil_of_length_eq_zero->Nc,getElem?_eq_some_iff->No,drop_eq_getElem_cons->Np,dropWhile_suffix->Ny,getElem_of_mem->NH,flatMap_append->NI,findIdx?_cons->NK,find?_eq_none->NL,suffix_cons->NW,map_toArray->NX,getElem_mem->NY,mem_append->P5,find?_cons->P6,append_nil->P7,map_cons->Pb,map_nil->Pk,range->Pv
open Go.VL renaming Upd->L8,BlkO->Mc,Ext->Mr,Ret->MB,RowT->ME,Rng->MK,Free->Nq,MapO->NR,Elem->Pc
open Go.Value renaming oneCell'->L9,string->MN
open Go.World renaming setRow->LO,setCell->M8,putObj_heap_other->Mi,drew->MM,block_lt_of_cell?->Nr,putObj_heap_same->Ns,alloc_heap_new->Nx,size_alloc->NO
open Go.VL.Ext renaming refl->LQ
open Go.VL.WH renaming one->LU,done->Ml
open Go.VL.BlkO renaming setRow->LW,upd->LX,tag->LY,drew->Mx,fgt->PE
open Bool renaming and_eq_true->M7,not_eq_true'->NS,eq_false_iff->NT,eq_iff_iff->P8,and_true->Pd
open Classical renaming byContradiction->Md
open Go.VL.WI renaming region->Mh,seq->Mu,skip->Nl,block->NJ,ret->NU
open Go.Result renaming andThen_ok->Mm
open UInt8 renaming ofNat->Mo
open Go.VL.RowT renaming nil->Ms,upd->NA,freeT->Ps
open List.IsSuffix renaming trans->Mv,length_le->N5
open Go.VL.QF renaming dn->Mz
open Go.Sem renaming run_bind->MC,run_pure->Pp
open Go.VL.WS renaming nil->MJ
open Go.Fence renaming wide->MO
open Go.VL.WC renaming still->MP
open Go.VL.RV renaming indexAddr->MV,load->Nm,extract->PD,lookup->PM
open Int renaming le_refl->MY
open Go.Proofs.YteolbhblkgjbhaaGreatDoor renaming oneM->N1,layO->N2
open Go.VL.WL renaming push->N9,val->Pi
open Go.Ending.returned renaming inj->Nb
open Go.Proofs.YteolbhblkgjbhaaGreatDoor.Nd renaming kids->Nn,kind->P4,cls->Pj
open Go.Extern.BytealgIndexByte renaming indexByte->Nz
open Go.Addr renaming add->NB
open Go.VL.Rng renaming upd->NV
open Go.Instr renaming storeAt->P9
open Go.VL.Leave renaming mark->Pr
open Go.Proofs.YteolbhblkgjbhaaGreatDoor.Nt renaming leaf->Pu
open Go.Deferred renaming ofValue->PP
open Go.Act renaming put->PQ
open Go.RoundIn renaming mono->PU
open Go.IntKind renaming wrap_u8->PV,u8->PW
open Go.CallsIn renaming mono->PZ
set_option maxRecDepth 10000
open Go.VL Go.Proofs Go.Proofs.Tryz
variable {α:Type}{se:Bool}{a a0 c e m op:Int}{v:L1}{s:List Int}{us:List L1}{l:List UInt8}{E:Me}{B M T b i j k n nb q rb sz:Nat}{O O':Nat->Nat}{S:Nat->Prop}{w w' w0:ln}{enc:α->List L1}
section
namespace Go.VL
theorem Upd.priv(h:L8 (λk=>k=j\/T<=k) O w O' w')(hT:∀b,O b<T)(hj:j≠0):L8 (λk=>k=j) O w O w':=
 h.fgt (λb hb=>hb.resolve_right (by have:=hT b;omega)) (λe=>hj e.symm)
theorem Upd.pj(h:L8 (λk=>k=j) O w O' w')(hT:0<T):L8 (λk=>k=j\/T<=k) O w O' w':=
 h.mono (λ_ h=>.inl h) (λe=>by rcases e with e|e;exact h.z e;omega)
theorem Upd.pT{U:Nat}(h:L8 (λk=>k=U) O w O' w')(hj:j≠0)(hT:0<T)(hU:T<=U):L8 (λk=>k=j\/T<=k) O w O' w':=
 h.mono (λ_ h=>.inr (by rw[h];exact hU)) (λe=>by rcases e with e|e;exact hj e.symm;omega)
theorem jF(O:Nat->Nat)(h:Mr w w')(hj:j≠0)(hT:0<T):L8 (λk=>k=j\/T<=k) O w O w':=
 ae (λe=>by rcases e with e|e;exact hj e.symm;omega) O h
def rdr(kv:L1)(l:List UInt8)(a op a0 e:Int):Array L1:=#[.string (bs l),nI a,kv,nI op,nI a0,nI e]
variable{kv:L1}
theorem BlkO.rAt(h:Mc O w j rb (rdr kv l a op a0 e) E)(a':Int):Mc O (w.setCell ⟨rb,1,none⟩ (nI a')) j rb (rdr kv l a' op a0 e) E:=h.set 1 _
theorem BlkO.rOp(h:Mc O w j rb (rdr kv l a op a0 e) E)(a':Int):Mc O (w.setCell ⟨rb,3,none⟩ (nI a')) j rb (rdr kv l a a' a0 e) E:=h.set 3 _
theorem BlkO.rBad(h:Mc O w j rb (rdr kv l a op a0 e) E)(a':Int):Mc O (w.setCell ⟨rb,4,none⟩ (nI a')) j rb (rdr kv l a op a' e) E:=h.set 4 _
theorem BlkO.rE(h:Mc O w j rb (rdr kv l a op a0 e) E)(a':Int):Mc O (w.setCell ⟨rb,5,none⟩ (nI a')) j rb (rdr kv l a op a0 a') E:=h.set 5 _
theorem BlkO.r0(h:Mc O w j rb (rdr kv l a op a0 e) E):w.cell? ⟨rb,0,none⟩=some (.string (bs l)):=h.cell 0 rfl
theorem BlkO.r1(h:Mc O w j rb (rdr kv l a op a0 e) E):w.cell? ⟨rb,1,none⟩=some (nI a):=h.cell 1 rfl
theorem BlkO.r2(h:Mc O w j rb (rdr kv l a op a0 e) E):w.cell? ⟨rb,2,none⟩=some kv:=h.cell 2 rfl
theorem BlkO.r3(h:Mc O w j rb (rdr kv l a op a0 e) E):w.cell? ⟨rb,3,none⟩=some (nI op):=h.cell 3 rfl
theorem BlkO.r4(h:Mc O w j rb (rdr kv l a op a0 e) E):w.cell? ⟨rb,4,none⟩=some (nI a0):=h.cell 4 rfl
theorem BlkO.r5(h:Mc O w j rb (rdr kv l a op a0 e) E):w.cell? ⟨rb,5,none⟩=some (nI e):=h.cell 5 rfl
end Go.VL
namespace Go.Proofs.YteolbhblkgjbhaaGreatDoor
open Go.VL Go.Proofs
set_option maxRecDepth 10000
abbrev Rdr(kv:L1)(O:Nat->Nat)(w:ln)(j rb:Nat)(l:List UInt8)(a op a0 e:Int):Prop:=Mc O w j rb (rdr kv l a op a0 e) 250
variable{kv:L1}
theorem od{r:List UInt8}{b:UInt8}(h:(b::r) <:+ l):l[l.length-(r.length+1)]? = some b:=by
 obtain⟨p,rfl⟩:=h;rw[List.getElem?_append_right (by simp)];simp
theorem BT{a b:List UInt8}(h:(a++b) <:+ l):(l.take (l.length-b.length)).drop (l.length-(a++b).length)=a:=by
 obtain⟨p,rfl⟩:=h;rw[<-MH,List.take_left' (by simp;omega),List.drop_left' (by simp)]
theorem fE(b:UInt8)(k:Nat)(hk:k<256):((b.toNat:Int)==(k:Int))=decide (b=Mo k):=by
 by_cases h:b=Mo k
 ·subst h;simp;omega
 have:b.toNat≠k:=λe=>h (by rw[<-e];simp)
 simp[h];omega
theorem jd(c:UInt8)(w:ln):MB LZ 262 [.int .u8 (c.toNat:Int)] w λv w'=>v=.bool (aj c)/\w'=w:=by
 apply L4 func262 ntmps262 rfl rfl;refine zh ?_
 by_cases h1:65<=c.toNat
 ·apply au (d:=5) rfl (b':=true) (decide_eq_true zo);refine zh ?_
  by_cases h2:c.toNat<=90
  ·apply au (d:=9) rfl (b':=true) (decide_eq_true zo);refine zh ?_
   refine af rfl rfl ⟨by simp[aj,h1,h2],rfl⟩
  apply au (d:=9) rfl (b':=false) (decide_eq_false zo);refine zh ?_
  by_cases h3:97<=c.toNat
  ·apply au (d:=12) rfl (b':=true) (decide_eq_true zo);refine zh ?_
   have e:decide ((c.toNat:Int)<=122)=decide (c.toNat<=122):=decide_eq_decide.2 zo;refine af rfl rfl ⟨by rw[e];simp[aj,h1,h2,h3],rfl⟩
  apply au (d:=12) rfl (b':=false) (decide_eq_false zo);refine zh ?_
  refine af rfl rfl ⟨by simp[aj,h1,h2,h3],rfl⟩
 apply au (d:=5) rfl (b':=false) (decide_eq_false zo);refine zh ?_
 apply au (d:=12) rfl (b':=false) (decide_eq_false zo);refine zh ?_
 have h3:¬97<=c.toNat:=zo;refine af rfl rfl ⟨by simp[aj,h1,h3],rfl⟩
theorem Bb(O:Nat->Nat)(w:ln)(j rb:Nat)(l r:List UInt8)(op a4 e:Int)(hj:j≠0)(hr:r <:+ l)(hl:l.length<=100000)(h:Rdr kv O w j rb l ((l.length:Int)-(r.length:Int)) op a4 e):
  MB LZ 199 [nP rb] w λ_ w'=>Rdr kv O w' j rb l ((l.length:Int)-((aw r).length:Int)) op a4 e/\L8 (λk=>k=j) O w O w':=by
 have hz:¬(λk:Nat=>k=j) 0:=λe=>hj e.symm
 apply L4 func199 ntmps199 rfl rfl;refine zh ?_
 apply zlp (λx:List UInt8×ln=>[(0,nP rb)]) (λx=>x.2) (λx=>x.1 <:+ l/\aw x.1=aw r/\Rdr kv O x.2 j rb l ((l.length:Int)-(x.1.length:Int)) op a4 e/\L8 (λk=>k=j) O w O x.2) (λx=>x.1.length) (r,w) ⟨hr,rfl,h,MD hz _ _⟩;rintro⟨r1,w1⟩ ⟨a2,a1,a5,a3⟩;dsimp only at a2 a1 a5 a3 ⊢;have a0:=a5.drew;have a7:=a2.length_le;refine zh ?_
 apply MP zk zk;refine zh ?_
 refine zwH (RV.ld a0.r1 rfl) ?_;apply zw (RV.ld a0.r0 rfl)
 refine zwH (bO Ma rfl) ?_
 cases r1 with
 |nil=>
  apply cV (d:=12) rfl (b':=false) (decide_eq_false (by simp));refine zh ?_
  apply zw (aG rfl rfl);apply MJ
  refine zh ?_;refine zFH rfl rfl ?_
  refine aJ rfl ⟨by rw[<-a1];exact a0,a3.drew⟩
 |cons b r2=>
  simp only[M1]at a7 a0;apply cV (d:=12) rfl (b':=true) (decide_eq_true (by simp only[M1];omega));refine zh ?_;refine zwH (RV.ld a0.r0 rfl) ?_;refine zwH (RV.ld a0.r1 rfl) ?_;refine zwH (bD (c:=b) Ma rfl rfl (l.length-(r2.length+1)) zo (od a2)) ?_;apply zw (aV rfl rfl);apply MJ;refine zh ?_;refine zC ?_ ?_
  ·intro hb;replace hb:b=32:=by rw[show(32:Int)=((32:Nat):Int)from rfl,fE b 32 zd]at hb;simpa using hb
   subst hb;refine zh ?_;refine zvH (RV.ld a0.r1 rfl) ?_;apply ak (j:=1) a0 rfl (Mn _) rfl rfl rfl rfl;rw[show((l.length:Int)-((r2.length+1:Nat):Int))+1=(l.length:Int)-(r2.length:Int)from by omega];have a8:=a0.rAt ((l.length:Int)-(r2.length:Int));have a9:L8 (λk=>k=j) O w1.drew O (w1.drew.setCell ⟨rb,1,none⟩ (nI ((l.length:Int)-(r2.length:Int)))):=M4 hz a0.tag rfl;refine zh ?_;refine zx (r2,w1.drew.setCell ⟨rb,1,none⟩ (nI ((l.length:Int)-(r2.length:Int)))) ⟨(NW _ _).trans a2,by rw[<-a1];simp[aw],a8,a3.drew.trans a9⟩ (by dsimp only;simp)
  intro hb;replace hb:b≠32:=by rw[show(32:Int)=((32:Nat):Int)from rfl,fE b 32 zd]at hb;simpa using hb
  have a6:aw (b::r2)=b::r2:=by simp[aw,hb]
  refine zh ?_;refine aJ rfl ⟨by rw[<-a1,a6];exact a0,a3.drew⟩
theorem zM{r:List UInt8}(hr:r <:+ l)(h:r≠[]):l[l.length-r.length]? = some (r.headD 0):=by
 cases r with
 |nil=>exact absurd rfl h
 |cons b r=>exact od hr
theorem gC(O:Nat → Nat)(w:ln)(j rb:Nat)(l r:List UInt8)(op bad e:Int)(hj:j ≠ 0)(hr:r <:+ l)(hl:l.length ≤ 100000)(h:Rdr kv O w j rb l ((l.length:Int) - (r.length:Int)) op bad e):
    MB LZ 153 [.pointer (some ⟨rb, 0, none⟩)] w λv w' => v = .int .u8 (((aw r).headD 0).toNat:Int) ∧ Rdr kv O w' j rb l ((l.length:Int) - ((aw r).length:Int)) op bad e ∧ L8 (λk => k = j) O w O w' := by
  apply L4 func153 ntmps153 rfl rfl
  refine zh ?_
  apply zc call199 (Bb O w j rb l r op bad e hj hr hl h)
  rintro v w1 ⟨hb1, hU1⟩
  have hs := (bz r).trans hr
  have hsl := hs.length_le
  generalize aw r = q at *
  have hb2 := hb1.drew
  refine zh ?_
  apply MP (by kernel_rfl) (by kernel_rfl)
  refine zh ?_
  refine zwH (RV.ld hb2.r1 rfl) ?_
  apply zw (RV.ld hb2.r0 rfl)
  refine zwH (bO Ma rfl) ?_
  apply MJ
  refine zh ?_
  refine zC ?_ ?_
  · intro he
    replace he : q = [] := List.eq_nil_of_length_eq_zero (by have : (l.length : Int) - (q.length : Int) = l.length := by simpa using he
                                                             omega)
    subst he
    refine zh ?_
    refine af rfl rfl ⟨rfl, hb2, hU1.drew⟩
  · intro he
    replace he:q ≠ [] := λe => by subst e; simp at he
    have hb3 := hb2.drew
    refine zh ?_
    apply MP (by kernel_rfl) (by kernel_rfl)
    refine zh ?_
    refine zwH (RV.ld hb3.r0 rfl) ?_
    apply zw (RV.ld hb3.r1 rfl)
    refine zwH (bD (c := q.headD 0) Ma rfl rfl (l.length - q.length) (by omega) (zM hs he)) ?_
    apply MJ
    refine zh ?_
    refine af rfl rfl ⟨rfl, hb3, hU1.drew.drew⟩
theorem zy(O:Nat->Nat)(w:ln)(j rb:Nat)(l r:List UInt8)(op a6 e:Int)(hj:j≠0)(hr:r <:+ l)(hl:l.length<=100000)(h:Rdr kv O w j rb l ((l.length:Int)-(r.length:Int)) op a6 e):
  MB LZ 270 [nP rb] w λv w'=>v=.string (bs (r.takeWhile aj))/\Rdr kv O w' j rb l ((l.length:Int)-((r.dropWhile aj).length:Int)) op a6 e/\L8 (λk=>k=j) O w O w':=by
 have hz:¬(λk:Nat=>k=j) 0:=λe=>hj e.symm
 apply L4 func270 ntmps270 rfl rfl;refine zh ?_
 refine zvH (RV.ld h.r1 rfl) ?_;apply zlp (λx:List UInt8×ln=>[(0,nP rb),(3,nI ((l.length:Int)-(r.length:Int)))]) (λx=>x.2) (λx=>x.1 <:+ l/\x.1.dropWhile aj=r.dropWhile aj/\Rdr kv O x.2 j rb l ((l.length:Int)-(x.1.length:Int)) op a6 e/\L8 (λk=>k=j) O w O x.2) (λx=>x.1.length) (r,w) ⟨hr,rfl,h,MD hz _ _⟩
 rintro⟨r1,w1⟩ ⟨a4,a3,a7,a5⟩;dsimp only at a4 a3 a7 a5 ⊢;have a0:=a7.drew;have a':=a4.length_le;have a9:=hr.length_le;have a2:r1=r.dropWhile aj->(l.take (l.length-r1.length)).drop (l.length-r.length)=r.takeWhile aj:=λe=>by
  have:=BT (l:=l) (a:=r.takeWhile aj) (b:=r.dropWhile aj) (by rw[N7];exact hr);rw[N7,<-e]at this;exact this
 have b0:r1.length<=r.length\/r1≠r.dropWhile aj:=by
  by_cases e:r1=r.dropWhile aj
  ·left;rw[e];exact(Ny _).length_le
  right;exact e
 refine zh ?_;apply MP zk zk
 refine zh ?_;refine zwH (RV.ld a0.r1 rfl) ?_
 apply zw (RV.ld a0.r0 rfl);refine zwH (bO Ma rfl) ?_
 cases r1 with
 |nil=>
  have a1:=a0.drew;have hd:[]=r.dropWhile aj:=by rw[<-a3];rfl
  have h1:=a2 hd;apply cV (d:=18) rfl (b':=false) (decide_eq_false (by simp));refine zh ?_;apply zw (aG rfl rfl);apply MJ;refine zh ?_;refine zFH rfl rfl ?_;apply MP zk zk;refine zh ?_;refine zwH (RV.ld a1.r0 rfl) ?_;apply zw (RV.ld a1.r1 rfl);refine zwH (cf Ma rfl rfl rfl (l.length-r.length) (l.length-0) zo (by simp) zo zo) ?_;apply MJ;refine zh ?_;simp only[MU]at h1;refine af rfl rfl ⟨by rw[h1],by rw[<-hd];exact a1,a5.drew.drew⟩
 |cons b r2=>
  simp only[M1]at a' a0;apply cV (d:=18) rfl (b':=true) (decide_eq_true (by simp only[M1];omega));refine zh ?_;refine zwH (RV.ld a0.r0 rfl) ?_;refine zwH (RV.ld a0.r1 rfl) ?_;refine zwH (bD (c:=b) Ma rfl rfl (l.length-(r2.length+1)) zo (od a4)) ?_;apply WS.call Pe rfl (jd b w1.drew) rfl;apply zw (aV rfl rfl);apply MJ;refine zh ?_;refine zC ?_ ?_
  ·intro hb;replace hb:aj b=true:=hb;refine zh ?_;refine zvH (RV.ld a0.r1 rfl) ?_;apply ak (j:=1) a0 rfl (Mn _) rfl rfl rfl rfl;rw[show((l.length:Int)-((r2.length+1:Nat):Int))+1=(l.length:Int)-(r2.length:Int)from by omega];have a1:=a0.rAt ((l.length:Int)-(r2.length:Int));have b1:L8 (λk=>k=j) O w1.drew O (w1.drew.setCell ⟨rb,1,none⟩ (nI ((l.length:Int)-(r2.length:Int)))):=M4 hz a0.tag rfl;refine zh ?_;refine zx (r2,w1.drew.setCell ⟨rb,1,none⟩ (nI ((l.length:Int)-(r2.length:Int)))) ⟨(NW _ _).trans a4,by rw[<-a3,List.dropWhile_cons_of_pos hb],a1,a5.drew.trans b1⟩ (by dsimp only;simp)
  intro hb;replace hb:aj b=false:=hb;have a8:(b::r2).dropWhile aj=b::r2:=List.dropWhile_cons_of_neg (by rw[hb];decide);have hd:b::r2=r.dropWhile aj:=by rw[<-a3,a8]
  have h1:=a2 hd;have h2:=b0.resolve_right (λe=>e hd);simp only[M1]at h1 h2;have a1:=a0.drew;refine zh ?_;apply MP zk zk;refine zh ?_;refine zwH (RV.ld a1.r0 rfl) ?_;apply zw (RV.ld a1.r1 rfl);refine zwH (cf Ma rfl rfl rfl (l.length-r.length) (l.length-(r2.length+1)) zo zo zo zo) ?_;apply MJ;refine zh ?_;refine af rfl rfl ⟨by rw[h1],by rw[<-hd];exact a1,a5.drew.drew⟩
theorem kR:cE LZ 120 #[(0,1),(1,1),(2,1)]:=⟨_,underlying120,λw=>by kernel_rfl⟩
theorem gL(B:Nat)(O:Nat->Nat)(w:ln)(j rb:Nat)(l:List UInt8)(a op b3 p e:Int)(hj:j≠0)(hR:MK B O w)(h:Rdr kv O w j rb l a op b3 0):
  MB LZ 154 [nP rb,nI p,nI e] w λv w'=>v=.agg #[nI 0,nI 0,nS]/\Rdr kv O w' j rb l a op p e/\L8 (λk=>k=j) O w O w':=by
 obtain⟨T,a4,hT⟩:=hR.bound;have b4:j<T:=by rw[<-h.tag];exact hT rb
 apply L4 func154 ntmps154 rfl rfl;refine zh ?_
 apply ar hR T zo (L5 _) rfl;intro xb w1 O1 a8 a6 b5 b6;have a1:=h.upd a6 hj zo;refine zh ?_
 refine zvH (RV.ld a1.r5 rfl) ?_;refine zTH rfl rfl ?_
 apply ak (j:=4) a1 rfl (Mn _) rfl rfl rfl rfl;have a3:=a1.rBad p;have b2:L8 (λk=>k=j) O1 w1 O1 (w1.setCell ⟨rb,4,none⟩ (nI p)):=M4 (λe=>hj e.symm) a1.tag rfl;refine zh ?_
 apply ak (j:=5) a3 rfl (sizeOf57 _) rfl rfl rfl rfl;have a':=a3.rE e;have b1:L8 (λk=>k=j) O1 (w1.setCell ⟨rb,4,none⟩ (nI p)) O1 ((w1.setCell ⟨rb,4,none⟩ (nI p)).setCell ⟨rb,5,none⟩ (nI e)):=M4 (λe=>hj e.symm) a3.tag rfl;have a0:=b2.trans b1;have a2:=a8.upd a0 zo zo;generalize (w1.setCell ⟨rb,4,none⟩ (nI p)).setCell ⟨rb,5,none⟩ (nI e)=w3 at *;refine zh ?_
 apply zv (aF kR (L5 _) rfl (by first|rfl|(simp only[L6,LP];rfl)) rfl rfl);apply zsa (us:=#[nI 0,nI 0,nS]) a2 (ix _)
 have a7:=a2.setRow (us:=#[nI 0,nI 0,nS]);have a5:L8 (λk=>k=T) O1 w3 O1 (w3.setRow xb #[nI 0,nI 0,nS]):=L3 zo a2.tag rfl;have a9:=a'.upd a5 hj zo;have b0:=((a6.pT hj a4 (L0 _)).trans (a0.pj a4)).trans (a5.pT hj a4 (L0 _));refine zh ?_;refine aL rfl rfl a7.cellsAdd (L2 _) (ix _) ⟨rfl,a9.fgt h.tag,b0.priv hT hj⟩
end Go.Proofs.YteolbhblkgjbhaaGreatDoor
end
namespace Go.Proofs.YteolbhblkgjbhaaGreatDoor
section
def tG(l:List UInt8)(c:UInt8):Int:=match l.findIdx? (· == c)with|some i=>(i:Nat)|none=>-1
theorem yf(l:List UInt8)(c:UInt8):firstIdx (bs l) c=tG l c:=by
 have a0:∀i,i<l.length->(bs l)[i]! = nth l i:=λi hi=>by
  rw[aB hi,getElem!_pos (bs l) i (by rw[df];exact hi)];show l.toArray[i]=l[i];simp
 unfold firstIdx tG;rw[df]
 cases hf:l.findIdx? (· == c)with
 |none=>
  have h:=MF.1 hf;have:(Pv l.length).find? (λi=>(bs l)[i]! == c)=none:=by
   rw[NL];intro i hi;have a1:i<l.length:=by simpa using hi
   rw[a0 i a1,aB a1,h _ (NY a1)];decide
  rw[this]
 |some i=>
  obtain⟨hi,h1,h2⟩:=N0.1 hf;have:(Pv l.length).find? (λi=>(bs l)[i]! == c)=some i:=by
   rw[List.find?_eq_some_iff_getElem];refine⟨by rw[a0 i hi,aB hi];exact h1,i,by simpa using hi,by simp,λj hj=>?_⟩;have:=h2 j hj;simp only[List.getElem_range];rw[a0 j zo,aB zo];simpa using this
  rw[this]
theorem qf(l:List UInt8)(c:UInt8)(w:ln):(callFunc 108 #[.string (bs l),.int .u8 (c.toNat:Int)]).run LZ w=.ok (.value (nI (tG l c))) w:=by
 rw[run_callFunc_extern func108 zk zk zk (e:=Nz) zk,run_indexByte_string,yf];simp[Result.andThen]
theorem rR(l:List UInt8)(c:UInt8)(w:ln):MB LZ 75 [.string (bs l),.int .u8 (c.toNat:Int)] w λv w'=>v=nI (tG l c)/\w'=w:=by
 apply L4 func75 ntmps75 rfl rfl;refine zh ?_
 refine zvH (RV.ext (vs:=[.string (bs l),.int .u8 (c.toNat:Int)]) (qf l c w) rfl) ?_;refine af rfl rfl ⟨rfl,rfl⟩
theorem dW(l:List UInt8)(c:UInt8)(w:ln):MB LZ 44 [.string (bs l),.int .u8 (c.toNat:Int)] w λv w'=>v=nI (tG l c)/\w'=w:=by
 apply L4 func44 ntmps44 rfl rfl;refine zh ?_
 apply zc call75 (rR l c w);rintro v _ ⟨rfl,rfl⟩;refine zh ?_
 refine af rfl rfl ⟨rfl,rfl⟩
@[simp] def encS(x:List UInt8):List L1:=[.string (bs x)]
def eN(l:List (List UInt8))(s:List UInt8):Int:=match l.findIdx? (· == s)with|some i=>(i:Nat)|none=>-1
theorem iA(l:List (List UInt8))(s:List UInt8)(sv:L1)(w:ln)(h:Sl encS 1 w sv l):MB LZ 43 [sv,.string (bs s)] w λv w'=>v=nI (eN l s)/\w'=w:=by
 have hl:=h.len_le;apply L4 func43 ntmps43 rfl rfl;refine zh ?_;apply zlp (λx:Nat=>[(0,sv),(1,.string (bs s)),(7,nI l.length),(8,nI x)]) (λx=>w) (λx=>x<=l.length/\∀i,i<x->(nth l i==s)=false) (λx=>l.length-x) 0 ⟨L7 _,λi hi=>absurd hi (M9 i)⟩;rintro k ⟨hk,a1⟩;refine zh ?_;refine zC ?_ ?_
 ·intro a0;replace a0:k<l.length:=dT a0;refine zh ?_;apply zv (RV.ld (h.ld (val:=λx=>.string (bs x)) a0) rfl);refine zvH (bN rfl rfl) ?_;refine zC ?_ ?_
  ·intro hy;replace hy:s=nth l k:=by simpa using hy
   have hf:l.findIdx? (· == s)=some k:=N0.2 ⟨a0,by rw[<-aB a0,hy];simp,λj hj=>by rw[<-aB zo,a1 j hj];decide⟩;refine zh ?_;refine af rfl rfl ⟨by unfold eN;rw[hf],rfl⟩
  intro hy;replace hy:(nth l k==s)=false:=by
   rw[NT];intro e;rw[eq_of_beq e]at hy;simp at hy
  refine zh ?_;refine zxd (k+1) ⟨a0,λi hi=>(Nu.1 hi).elim (a1 i) (λe=>by rw[e];exact hy)⟩
 intro a2;replace a2:l.length<=k:=dF a2;have hf:l.findIdx? (· == s)=none:=MF.2 λx hx=>by
  obtain⟨j,hj,rfl⟩:=ck hx;exact a1 j zo
 refine zh ?_;refine af rfl rfl ⟨by unfold eN;rw[hf],rfl⟩
def il:Array L1:=(namesL.map λs=>MN (bs s)).toArray
theorem xI(h:Mc O w j b il 255):Sl encS 1 w (.slice (some ⟨b,0,none⟩) 36 36) namesL:=by
 refine⟨⟨_,36,rfl,L0 _,zd,λ_=>⟨_,_,rfl⟩⟩,λi hi j u hu=>?_⟩;obtain rfl:j=0:=by
  have:=(No.1 hu).1;simpa using this
 have a0:MN (bs namesL[i])=u:=by simpa using hu
 have:=h.cell i (u:=u) (by rw[<-a0];unfold il;simp[hi]);have e:((adr (.slice (some ⟨b,0,none⟩) 36 36) 1 i).add 0)=⟨b,i,none⟩:=by simp[adr,NB]
 exact(congrArg w.cell? e).trans this
theorem CB(w:ln):MB LZ 156 [] w λv w'=>v=.agg il/\Mr w w':=by
 apply L4 func156 ntmps156 rfl rfl;refine zh ?_
 apply ar (ax w) 1 zo (NM _) rfl;intro xb w1 O1 a0 a2 a4 a5;refine zh ?_
 apply zv (eu (cells:=il) PB (PH _) (NM _) rfl zk);apply bG (us:=il) a0 zk (Pl _) zk rfl rfl rfl
 have a1:=a0.setRow (us:=il);have a3:Mr w (w1.setRow xb il):=(a2.trans (L3 zd a0.tag rfl)).ext;refine zh ?_;refine aL rfl rfl a1.cellsAdd (isAgg255 _) (Pl _) ⟨rfl,a3⟩
def GH(s:List UInt8):Int:=match lZ s with|some c=>(c:Nat)|none=>0
theorem jc(s:List UInt8)(w:ln):MB LZ 112 [.string (bs s)] w λv w'=>v=.tuple #[nI (GH s),.bool (lZ s).isSome]/\Mr w w':=by
 apply L4 func112 ntmps112 rfl rfl;refine zh ?_
 apply zc call156 (CB w);rintro v w1 ⟨rfl,a5⟩;apply ar (ax w1) 1 zo (NM _) rfl
 intro xb w2 O2 a0 a3 a6 a7;apply bG (us:=il) a0 zk (Pl _) zk rfl rfl rfl;have a1:=a0.setRow (us:=il);have a4:Mr w1 (w2.setRow xb il):=(a3.trans (L3 zd a0.tag rfl)).ext;have a2:=xI a1;generalize w2.setRow xb il=w3 at *;refine zh ?_;refine zvH (pI PB (PH _) zd rfl) ?_;apply zc call43 (iA namesL s _ w3 a2);rintro v _ ⟨rfl,rfl⟩;refine zh ?_;refine zvH (gQ rfl rfl) ?_;have h:eN namesL s=match lZ s with|some c=>(c:Nat)|none=>-1:=rfl
 refine cc rfl rfl rfl ⟨?_,a5.trans a4⟩;rw[h];unfold GH
 cases lZ s with
 |none=>rfl
 |some c=>simp
def nv(x:N3):L1:=.agg #[nI x.1,nI x.2.1,x.2.2]
def PostE(kv:L1)(O:Nat->Nat)(w:ln)(j rb:Nat)(l:List UInt8)(op:Int)(x:N3):PR->Prop
 |.ok t r=>Rdr kv O w j rb l ((l.length:Int)-(r.length:Int)) op 0 0/\Nt O w t x
 |.bad p e=>x.2.2.oneCell'=true/\∃a op',Rdr kv O w j rb l a op' ((l.length:Int)-(p:Int)) e/\0<=a/\a<=l.length+20-op/\op<=op'/\op'<=20
abbrev M3:=List UInt8×N3
def eR(m:M3):List L1:=[.string (bs m.1),nI m.2.1,nI m.2.2.1,m.2.2.2]
abbrev Kn:=List (List UInt8×Nd)
def KnownM(O:Nat->Nat)(w:ln)(kv:L1)(kn:Kn)(ms:List M3):Prop:=
 Sl eR 4 w kv ms/\Nq O w kv/\kn.length=ms.length/\∀i,i<ms.length->(nth kn i).1=(nth ms i).1/\Nt O w (nth kn i).2 (nth ms i).2
def Known(O:Nat->Nat)(w:ln)(kv:L1)(kn:Kn):Prop:=∃ms:List M3,KnownM O w kv kn ms
theorem KnownM.upd{S:Nat->Prop}{O O':Nat->Nat}{w w':ln}{kv:L1}{kn:Kn}{ms:List M3}(h:KnownM O w kv kn ms)(u:L8 S O w O' w'):KnownM O' w' kv kn ms:=by
 obtain⟨h1,h2,h3,h4⟩:=h;exact⟨h1.upd h2 u,h2.upd u,h3,λi hi=>⟨(h4 i hi).1,(h4 i hi).2.upd u⟩⟩
theorem Known.upd{S:Nat->Prop}{O O':Nat->Nat}{w w':ln}{kv:L1}{kn:Kn}(h:Known O w kv kn)(u:L8 S O w O' w'):Known O' w' kv kn:=by
 obtain⟨ms,h⟩:=h;exact⟨ms,h.upd u⟩
theorem sl0[Inhabited α](w:ln):Sl enc sz w nS ([]:List α):=⟨⟨none,0,rfl,L0 _,zo,λh=>absurd rfl h⟩,λi hi=>absurd hi (by simp)⟩
theorem Known.nil(O:Nat->Nat)(w:ln):Known O w nS []:=⟨[],sl0 w,(λa n c e=>by cases e),rfl,λi hi=>absurd hi (by simp)⟩
variable{kv:L1}{kn:Kn}
theorem bX{x:N3}(h:x.2.2.oneCell'=true):(#[nI x.1,nI x.2.1,x.2.2]:Array L1).toList.all L9=true:=by
 simp only[L6,h];rfl
theorem elN:Pc LZ 118 120 3 40:=⟨MA,by kernel_rfl,zd⟩
theorem eI{x:N3}(h:x.2.2.oneCell'=true):∀c∈aX x,c.oneCell'=true:=λc hc=>by
 simp at hc
 rcases hc with rfl|rfl|rfl
 ·rfl
 ·rfl
 exact h
def Reads(kv:L1)(kn:Kn)(F:Nat)(ex:List L1)(op:Int)(M:List UInt8->PR)(Pre:List UInt8->Prop):Prop:=
 ∀(B:Nat) (O:Nat->Nat) (j rb:Nat) (l r:List UInt8) (w:ln),MK B O w->j≠0->r <:+ l->l.length<=4096->Pre r->Rdr kv O w j rb l ((l.length:Int)-(r.length:Int)) op 0 0->Known O w kv kn->
  MB LZ F (nP rb::ex) w λv w'=>∃x,v=nv x/\L8 (λk=>k=j) O w O w'/\PostE kv O w' j rb l op x (M r)
theorem vA(kind op:Int)(d1:0<=op/\op<=20):Reads kv kn 268 [nI kind] op (ee kind) (λ_=>True):=by
 intro B O j rb l r w hR hj hr hl _ h _;obtain⟨T,a0,hT⟩:=hR.bound;have d2:j<T:=by rw[<-h.tag];exact hT rb
 have hq:=(bz r).trans hr;have d0:=hq.length_le;apply L4 func268 ntmps268 rfl rfl;refine zh ?_;apply ar hR T zo (L5 _) rfl;intro xb w1 O1 b' b5 c' d3;have c7:=h.upd b5 hj zo;refine zh ?_;apply zc Ni (gC O1 w1 j rb l r op 0 0 hj hr zo c7);rintro v w2 ⟨rfl,a6,b0⟩;have b1:=b'.upd b0 zo zo;have b6:=c'.upd b0;have b3:=(b5.pT hj a0 (L0 _)).trans (b0.pj a0);apply zc Pe (jd ((aw r).headD 0) w2);rintro v _ ⟨rfl,rfl⟩;refine zh ?_
 cases hc:aj ((aw r).headD 0)with
 |false=>
  have hM:ee kind r=.bad (aw r).length 4:=by unfold ee;rw[if_neg (by rw[hc];decide)]
  refine zTH rfl rfl ?_;apply zv (RV.ld a6.r1 rfl)
  apply zc Nh (gL _ O1 _ j rb l _ _ 0 ((l.length:Int)-((aw r).length:Int)) 4 hj b6 a6);rintro v wf ⟨rfl,a8,a4⟩;have a1:=b1.upd a4 zo zo;apply zsa (us:=#[nI 0,nI 0,nS]) a1 (ix _)
  have a7:=a1.setRow (us:=#[nI 0,nI 0,nS]);have a3:L8 (λk=>k=T) O1 wf O1 (wf.setRow xb #[nI 0,nI 0,nS]):=L3 zo a1.tag rfl;have hbg:=a8.upd a3 hj zo;refine zh ?_;refine aL rfl rfl a7.cellsAdd (L2 _) (ix _) ⟨(0,0,nS),rfl,((b3.trans (a4.pj a0)).trans (a3.pT hj a0 (L0 _))).priv hT hj,?_⟩;rw[hM];exact⟨rfl,_,op,hbg.fgt h.tag,zo,zo,zo,zo⟩
 |true=>
  refine zFH rfl rfl ?_;refine zvH (RV.ld a6.r1 rfl) ?_
  apply zc call270 (zy O1 _ j rb l (aw r) op 0 0 hj hq zo a6);rintro v w3 ⟨rfl,c6,a'⟩;have b9:=b1.upd a' zo zo;have c9:=b6.upd a';apply zc call112 (jc ((aw r).takeWhile aj) w3)
  rintro v w4 ⟨rfl,b7⟩;have a9:L8 (λ_=>False) O1 w3 O1 w4:=ae (λh=>h) O1 b7;have b2:=c6.upd a9 hj (λh=>h);have a5:=b9.upd a9 zo (λh=>h);have c8:=c9.upd a9;have a2:=(b3.trans (a'.pj a0)).trans (jF O1 b7 hj a0);refine zh ?_
  cases hn:lZ ((aw r).takeWhile aj)with
  |none=>
   have hM:ee kind r=.bad (aw r).length 5:=by unfold ee;rw[if_pos hc,hn]
   refine zTH rfl rfl ?_;apply zc Nh (gL _ O1 _ j rb l _ _ 0 ((l.length:Int)-((aw r).length:Int)) 5 hj c8 b2)
   rintro v wf ⟨rfl,a8,a4⟩;have a1:=a5.upd a4 zo zo;apply zsa (us:=#[nI 0,nI 0,nS]) a1 (ix _);have a7:=a1.setRow (us:=#[nI 0,nI 0,nS]);have a3:L8 (λk=>k=T) O1 wf O1 (wf.setRow xb #[nI 0,nI 0,nS]):=L3 zo a1.tag rfl;have hbg:=a8.upd a3 hj zo;refine zh ?_;refine aL rfl rfl a7.cellsAdd (L2 _) (ix _) ⟨(0,0,nS),rfl,((a2.trans (a4.pj a0)).trans (a3.pT hj a0 (L0 _))).priv hT hj,?_⟩;rw[hM];exact⟨rfl,_,op,hbg.fgt h.tag,by have:=(Ny (l:=aw r) aj).length_le;omega,zo,zo,zo⟩
  |some c=>
   have hM:ee kind r=.ok (.mk kind (c:Nat) []) ((aw r).dropWhile aj):=by unfold ee;rw[if_pos hc,hn]
   have hv:GH ((aw r).takeWhile aj)=(c:Nat):=by unfold GH;rw[hn]
   rw[hv];refine zFH rfl rfl ?_;apply zv (aF kR (L5 _) rfl (by first|rfl|(simp only[L6,LP];rfl)) rfl rfl);apply zsa (us:=#[nI kind,nI (c:Nat),nS]) a5 (ix _);have b8:=a5.setRow (us:=#[nI kind,nI (c:Nat),nS]);have b4:L8 (λk=>k=T) O1 w4 O1 (w4.setRow xb #[nI kind,nI (c:Nat),nS]):=L3 zo a5.tag rfl;have c5:=b2.upd b4 hj zo;refine zh ?_;refine aL rfl rfl b8.cellsAdd (L2 _) (ix _) ⟨(kind,(c:Nat),nS),rfl,(a2.trans (b4.pT hj a0 (L0 _))).priv hT hj,?_⟩;rw[hM];exact⟨c5.fgt h.tag,Pu _ _ _ _⟩
end
theorem rS:∀(n:Nat) (t:Nd),nsz t<=n->∀(x:N3) (w:ln) (fJ:Nat),Nt (λ_=>0) w t x->fJ<=1000000->MB LZ 120 [nv x,nI (fJ:Int)] w λv w'=>v=nI ((min (nsz t) (fJ+1):Nat):Int)/\Mr w w'
 |0,t,hn=>by have:=dd t;omega
 |n+1,.mk k c kids,hn=>by
  intro x w fJ h hm;obtain⟨xs,hs,hf,hl,hk⟩:=h.kids;simp only[Nn]at hl hk;have b9:=ey kids;simp only[nsz]at hn ⊢;have b1:=hs.len_le;apply L4 func120 ntmps120 rfl rfl;refine zh ?_;apply aN (ax w) 1 zo rfl rfl;intro xb w1 O1 a9 b' c6 a7;have b0:=hs.ext a7;refine zh ?_;apply zv (RV.ld (a9.cell 2 rfl) rfl);apply zv (RV.len (by first|exact b0) MA rfl);apply zv (RV.move rfl);apply WL.nil;apply ah;apply WC.block;apply zlp (λy:Nat×ln=>[(1,nI (fJ:Int)),(5,nI ((min (dI (kids.take y.1)+1) (fJ+1):Nat):Int)),(9,x.2.2),(10,nI xs.length),(11,nI y.1)]) (λy=>y.2) (λy=>y.1<=xs.length/\Mr w y.2) (λy=>xs.length-y.1) (0,w1) ⟨L7 _,a7⟩;rintro⟨i,w2⟩ ⟨hi,a0⟩;dsimp only at hi a0 ⊢;have a':=hs.ext a0;refine zh ?_;refine zC ?_ ?_
  ·intro a1;replace a1:i<xs.length:=dT a1;have b7:=dV kids i zo;have b6:=cJ kids (i+1);have a5:=(hk i a1).ext a0;have a8:=a5.one;have b8:=bM kids i zo;refine zh ?_;apply zv (ai (us:=aX (nth xs i)) (λj u hu=>a'.cell a1 hu) (L2 _) (ix _) rfl);apply ar (ax w2) 1 zo (L5 _) rfl;intro kb w3 O3 a2 b4 c5 c7;apply zsb (us:=#[nI (nth xs i).1,nI (nth xs i).2.1,(nth xs i).2.2]) a2 (ix _) (bX a8);have b2:=a2.setRow (us:=#[nI (nth xs i).1,nI (nth xs i).2.1,(nth xs i).2.2]);have a3:Mr w2 (w3.setRow kb #[nI (nth xs i).1,nI (nth xs i).2.1,(nth xs i).2.2]):=(b4.trans (L3 zd a2.tag rfl)).ext;generalize w3.setRow kb #[nI (nth xs i).1,nI (nth xs i).2.1,(nth xs i).2.2]=w4 at *;refine zh ?_;refine zC ?_ ?_
   ·intro a6;replace a6:fJ<dI (kids.take i)+1:=dT a6;refine zh ?_;refine af rfl rfl ⟨by congr 2;omega,a0.trans a3⟩
   intro a4;replace a4:dI (kids.take i)+1<=fJ:=dF a4;refine zh ?_;refine zvH (ai (us:=aX (nth xs i)) b2.cellsAdd (L2 _) (ix _) rfl) ?_;rw[show(fJ:Int)-((min (dI (kids.take i)+1) (fJ+1):Nat):Int)=((fJ-(dI (kids.take i)+1):Nat):Int)from by omega];apply zc PL (rS n (nth kids i) zo (nth xs i) w4 (fJ-(dI (kids.take i)+1)) (a5.ext a3) zo);rintro v w5 ⟨rfl,b5⟩;refine zh ?_;rw[show((min (dI (kids.take i)+1) (fJ+1):Nat):Int)+((min (nsz (nth kids i)) (fJ-(dI (kids.take i)+1)+1):Nat):Int)=((min (dI (kids.take (i+1))+1) (fJ+1):Nat):Int)from by omega];refine zxd (i+1,w5) ⟨a1,(a0.trans a3).trans b5⟩
  intro b3;obtain rfl:i=xs.length:=dF b3;refine zh ?_;refine af rfl rfl ⟨by rw[<-hl,Mb],a0⟩
theorem az(h:L8 S O w O' w')(hS:∀b,¬S (O b)):Mr w w':=⟨h.os,h.tape,h.output,h.size,λb hb=>h.blk b hb (hS b)⟩
theorem Nt.ones{t:Nd}{x:N3}(h:Nt O w t x):x=(t.kind,t.cls,x.2.2):=by cases h;rfl
theorem vz:∀(n:Nat),n<=1000000->∀(t:Nd),nsz t<=n->∀(B:Nat) (O:Nat->Nat) (x:N3) (w:ln),MK B O w->Nt (λ_=>0) w t x->MB LZ 155 [nv x] w λv w'=>∃y,v=nv y/\Nt O w' t y/\Mr w w'
 |0,_,t,hn=>by have:=dd t;omega
 |n+1,hn6,.mk k c kids,hn=>by
  intro B O x w hR h;obtain⟨T,j5,hT⟩:=hR.bound;obtain⟨xs,hs,hf,hl,hk⟩:=h.kids;simp only[Nn]at hl hk;obtain⟨x0,x1,sv⟩:=x;obtain rfl:k=x0:=(congrArg Prod.fst h.ones).symm;obtain rfl:c=x1:=(congrArg (λq:N3=>q.2.1) h.ones).symm;dsimp only at hs hf;have j4:=ey kids;simp only[nsz]at hn;have a5:¬(λq:Nat=>T<=q) 0:=λe=>zo
  apply L4 func155 ntmps155 rfl rfl;refine zh ?_
  apply aN hR (T+1) zo rfl rfl;intro nb w1 O1 h7 i5 i' j8;apply ar i' T zo (L5 _) rfl
  intro xb w2 O2 h1 g8 i9 j7;have f':=h7.upd g8 zo zo;have n0:w2.cell? (nA nb 0)=some (nI k):=f'.cell 0 rfl;have n1:w2.cell? (nA nb 1)=some (nI c):=f'.cell 1 rfl;refine zh ?_;apply zv (aF kR (L5 _) rfl (by first|rfl|(simp only[L6,LP];rfl)) rfl rfl);apply ar i9 (T+2) zo (L5 _) rfl;intro ob w3 O3 f9 i4 i7 j6;apply zsa (us:=#[nI k,nI c,nS]) f9 (ix _);have h4:=f9.setRow (us:=#[nI k,nI c,nS]);have g7:L8 (λq=>q=T+2) O3 w3 O3 (w3.setRow ob #[nI k,nI c,nS]):=L3 zo f9.tag rfl;have d6:=i4.trans g7;have i6:=i7.upd g7;have h5:=f'.upd d6 zo zo;have h0:=h1.upd d6 zo zo;have e6:L8 (λq=>T<=q) O w O3 _:=((i5.mono (λ_ h=>by rw[h];omega) a5).trans (g8.mono (λ_ h=>by rw[h];omega) a5)).trans (d6.mono (λ_ h=>by rw[h];omega) a5);generalize w3.setRow ob #[nI k,nI c,nS]=w4 at *;have j0:=az e6 (λb=>by have:=hT b;omega);have j2:=hs.ext j0;have n2:w4.cell? (nA nb 2)=some sv:=h5.cell 2 rfl;refine zh ?_
  apply zlp (λy:Nat×(Nat->Nat)×World×L1×List N3=>[(2,nP xb),(3,nP ob),(12,sv),(13,nI xs.length),(14,nI y.1)]) (λy=>y.2.2.1) (λy=>y.1<=xs.length/\Mc y.2.1 y.2.2.1 T xb #[nI 0,nI 0,nS] 120/\Mc y.2.1 y.2.2.1 (T+2) ob #[nI k,nI c,y.2.2.2.1] 120/\ME aX 120 3 y.2.1 y.2.2.1 (T+3) y.2.2.2.1 y.2.2.2.2/\y.2.2.2.2.length=y.1/\(∀m,m<y.1->Nt y.2.1 y.2.2.1 (nth kids m) (nth y.2.2.2.2 m))/\L8 (λq=>T<=q) O w y.2.1 y.2.2.1/\MK B y.2.1 y.2.2.1) (λy=>xs.length-y.1) (0,O3,w4,nS,[]) ⟨L7 _,h0,h4,Ms _ _ _ _ _ _,rfl,λm hm=>absurd hm (M9 m),e6,i6⟩;rintro⟨i,O1',f7,lv,zs⟩ ⟨hi,b2,d2,a',d0,f8,b',c5⟩;dsimp only at hi b2 d2 a' d0 f8 b' c5 ⊢;have e':=az b' (λb=>by have:=hT b;omega);have h3:=hs.ext e';refine zh ?_
  refine zC ?_ ?_
  ·intro c9;replace c9:i<xs.length:=dT c9;have h9:=(hk i c9).ext e';have g9:=h9.one;have j3:=bM kids i zo;refine zh ?_;apply zv (ai (us:=aX (nth xs i)) (λj u hu=>h3.cell c9 hu) (L2 _) (ix _) rfl);apply ar c5 (T+4) zo (L5 _) rfl;intro kb d9 O2' g1 g3 i8 j1;apply zsb (us:=#[nI (nth xs i).1,nI (nth xs i).2.1,(nth xs i).2.2]) g1 (ix _) (bX g9);have h':=g1.setRow (us:=#[nI (nth xs i).1,nI (nth xs i).2.1,(nth xs i).2.2]);have g2:L8 (λq=>q=T+4) O2' d9 O2' (d9.setRow kb #[nI (nth xs i).1,nI (nth xs i).2.1,(nth xs i).2.2]):=L3 zo g1.tag rfl;have b0:=g3.trans g2;have g6:=(b2.upd b0 zo zo).drew;have d1:=(d2.upd b0 zo zo).drew;have c8:=(a'.upd b0 zo zo).drew;have d7:=(c5.upd b0).drew;have d':∀m,m<i->Nt O2' (d9.setRow kb #[nI (nth xs i).1,nI (nth xs i).2.1,(nth xs i).2.2]).drew (nth kids m) (nth zs m):=λm hm=>((f8 m hm).upd b0).drew
   have d5:=(b'.trans (b0.mono (λ_ h=>by rw[h];omega) a5)).drew;have g5:=az d5 (λb=>by have:=hT b;omega);have hk3d:=h'.drew;have g0:Nt (λ_=>0) (d9.setRow kb #[nI (nth xs i).1,nI (nth xs i).2.1,(nth xs i).2.2]).drew (nth kids i) (nth xs i):=(hk i c9).ext g5;refine zh ?_;apply aQ (λW=>∀(m:Nat) (u:L1),(aX (nth xs i))[m]? = some u->W.cell? (nA kb m)=some u) 8 rfl zk;generalize (d9.setRow kb #[nI (nth xs i).1,nI (nth xs i).2.1,(nth xs i).2.2]).drew=w3' at *;have i3:w3'.cell? (nA ob 2)=some lv:=d1.cell 2 rfl;refine zin hk3d.cellsAdd λzS=>?_
   apply zrf 0 rfl zS rfl;apply zt 2 rfl zS (λw1 h2=>ai (us:=aX (nth xs i)) h2 (L2 _) (ix _) rfl)
   have c':=vz n zo (nth kids i) zo B O2' (nth xs i) w3' d7 g0;refine bB 1 3 zk rfl rfl ?_ ?_
   ·refine zvH (RV.ld i3 rfl) ?_;apply aa hk3d.cellsAdd
    apply LU 3 zk rfl;apply zc PK c'
    rintro v w5 ⟨z,rfl,f3,g4⟩;have a8:L8 (λ_=>False) O2' w3' O2' w5:=ae (λh=>h) O2' g4;have f4:=g6.upd a8 zo (λh=>h);have e4:=d1.upd a8 zo (λh=>h);have a9:=c8.upd a8 zo (λh=>h);have f6:=d7.upd a8;have d3:=hk3d.upd a8 zo (λh=>h);have b7:∀m,m<i->Nt O2' w5 (nth kids m) (nth zs m):=λm hm=>(d' m hm).upd a8
    have b9:=d5.trans (a8.mono (λ_ h=>h.elim) a5);refine zh ?_;apply aa d3.cellsAdd;apply LU 4 zk rfl;apply aU elN (enc:=aX) z rfl rfl rfl zd rfl;intro w6 h6 e9;have a1:L8 (λ_=>False) O2' w5 O2' w6:=ae (λh=>h) O2' e9;have e1:=f4.upd a1 zo (λh=>h);have d8:=e4.upd a1 zo (λh=>h);have a6:=a9.upd a1 zo (λh=>h);have e8:=f6.upd a1;have b8:=d3.upd a1 zo (λh=>h);have b1:∀m,m<i->Nt O2' w6 (nth kids m) (nth zs m):=λm hm=>(b7 m hm).upd a1
    have c6:=f3.upd a1;have b6:=b9.trans (a1.mono (λ_ h=>h.elim) a5);refine zh ?_;apply aa b8.cellsAdd;have a7:∀u∈[z],∀c∈aX u,c.oneCell'=true:=λu hu=>by
     rw[LV.1 hu];exact eI c6.one
    apply LU 5 zk rfl;apply aD elN a6 e8 h6 (by simp) rfl rfl (λ_ _=>rfl) a7 (by simp;omega) (by simp;omega) zo rfl
    intro a3 w7 O7 a0 a4 e7;have e2:=a0.one;have b3:=LX d8 a4 zo zo;have e0:=LX e1 a4 zo zo;have b4:=LX b8 a4 zo zo;refine zh ?_;apply aa b4.cellsAdd;apply zrf 6 rfl b4.cellsAdd rfl;apply LU 7 zk rfl;apply ak (j:=2) b3 rfl (Po _) e2 rfl rfl rfl;have e3:Mc O7 (w7.setCell ⟨ob,2,none⟩ a3) (T+2) ob #[nI k,nI c,a3] 120:=b3.set 2 a3;have a2:L8 (λq=>q=T+2) O7 w7 O7 (w7.setCell ⟨ob,2,none⟩ a3):=M4 zo b3.tag rfl;have e5:=b4.upd a2 zo zo;refine zh ?_;apply aa e5.cellsAdd;have a5:¬(λq:Nat=>T<=q) 0:=λe=>zo
    have b5:=(b6.trans (a4.mono (λ_ h=>by rw[h];omega) a5)).trans (a2.mono (λ_ h=>by rw[h];omega) a5);apply Ml zk;refine zh ?_;refine zxd (i+1,O7,(w7.setCell ⟨ob,2,none⟩ a3),a3,zs++[z]) ⟨c9,e0.upd a2 zo zo,e3,a0.upd a2 zo zo,by simp[d0],λm hm=>?_,b5,e7.upd a2⟩;dsimp only at hm ⊢
    by_cases e:m<i
    ·rw[aB (xs:=zs++[z]) (by simp;omega),M5 zo,<-aB zo];exact((b1 m e).upd a4).upd a2
    obtain rfl:m=zs.length:=zo;rw[aB (xs:=zs++[z]) (by simp),Mg zo];simp only[MT,MQ];rw[d0];exact(c6.upd a4).upd a2
   apply zc PK c';rintro v w5 ⟨z,rfl,f3,g4⟩;have a8:L8 (λ_=>False) O2' w3' O2' w5:=ae (λh=>h) O2' g4;have f4:=g6.upd a8 zo (λh=>h);have e4:=d1.upd a8 zo (λh=>h);have a9:=c8.upd a8 zo (λh=>h);have f6:=d7.upd a8;have d3:=hk3d.upd a8 zo (λh=>h);have b7:∀m,m<i->Nt O2' w5 (nth kids m) (nth zs m):=λm hm=>(d' m hm).upd a8
   have b9:=d5.trans (a8.mono (λ_ h=>h.elim) a5);refine zh ?_;apply aa d3.cellsAdd;have i2:w5.cell? (nA ob 2)=some lv:=e4.cell 2 rfl;refine bB 1 4 zk rfl rfl ?_ ?_
   ·refine zvH (RV.ld i2 rfl) ?_;apply aa d3.cellsAdd
    apply LU 4 zk rfl;apply aU elN (enc:=aX) z rfl rfl rfl zd rfl
    intro w6 h6 e9;have a1:L8 (λ_=>False) O2' w5 O2' w6:=ae (λh=>h) O2' e9;have e1:=f4.upd a1 zo (λh=>h);have d8:=e4.upd a1 zo (λh=>h);have a6:=a9.upd a1 zo (λh=>h);have e8:=f6.upd a1;have b8:=d3.upd a1 zo (λh=>h);have b1:∀m,m<i->Nt O2' w6 (nth kids m) (nth zs m):=λm hm=>(b7 m hm).upd a1
    have c6:=f3.upd a1;have b6:=b9.trans (a1.mono (λ_ h=>h.elim) a5);refine zh ?_;apply aa b8.cellsAdd;have a7:∀u∈[z],∀c∈aX u,c.oneCell'=true:=λu hu=>by
     rw[LV.1 hu];exact eI c6.one
    apply LU 5 zk rfl;apply aD elN a6 e8 h6 (by simp) rfl rfl (λ_ _=>rfl) a7 (by simp;omega) (by simp;omega) zo rfl
    intro a3 w7 O7 a0 a4 e7;have e2:=a0.one;have b3:=LX d8 a4 zo zo;have e0:=LX e1 a4 zo zo;have b4:=LX b8 a4 zo zo;refine zh ?_;apply aa b4.cellsAdd;apply zrf 6 rfl b4.cellsAdd rfl;apply LU 7 zk rfl;apply ak (j:=2) b3 rfl (Po _) e2 rfl rfl rfl;have e3:Mc O7 (w7.setCell ⟨ob,2,none⟩ a3) (T+2) ob #[nI k,nI c,a3] 120:=b3.set 2 a3;have a2:L8 (λq=>q=T+2) O7 w7 O7 (w7.setCell ⟨ob,2,none⟩ a3):=M4 zo b3.tag rfl;have e5:=b4.upd a2 zo zo;refine zh ?_;apply aa e5.cellsAdd;have a5:¬(λq:Nat=>T<=q) 0:=λe=>zo
    have b5:=(b6.trans (a4.mono (λ_ h=>by rw[h];omega) a5)).trans (a2.mono (λ_ h=>by rw[h];omega) a5);apply Ml zk;refine zh ?_;refine zxd (i+1,O7,(w7.setCell ⟨ob,2,none⟩ a3),a3,zs++[z]) ⟨c9,e0.upd a2 zo zo,e3,a0.upd a2 zo zo,by simp[d0],λm hm=>?_,b5,e7.upd a2⟩;dsimp only at hm ⊢
    by_cases e:m<i
    ·rw[aB (xs:=zs++[z]) (by simp;omega),M5 zo,<-aB zo];exact((b1 m e).upd a4).upd a2
    obtain rfl:m=zs.length:=zo;rw[aB (xs:=zs++[z]) (by simp),Mg zo];simp only[MT,MQ];rw[d0];exact(c6.upd a4).upd a2
   apply aU elN (enc:=aX) z rfl rfl rfl zd rfl;intro w6 h6 e9;have a1:L8 (λ_=>False) O2' w5 O2' w6:=ae (λh=>h) O2' e9;have e1:=f4.upd a1 zo (λh=>h);have d8:=e4.upd a1 zo (λh=>h);have a6:=a9.upd a1 zo (λh=>h);have e8:=f6.upd a1;have b8:=d3.upd a1 zo (λh=>h);have b1:∀m,m<i->Nt O2' w6 (nth kids m) (nth zs m):=λm hm=>(b7 m hm).upd a1
   have c6:=f3.upd a1;have b6:=b9.trans (a1.mono (λ_ h=>h.elim) a5);refine zh ?_;apply aa b8.cellsAdd;have i1:w6.cell? (nA ob 2)=some lv:=d8.cell 2 rfl;apply LU 1 zk rfl;refine zvH (RV.ld i1 rfl) ?_;apply aa b8.cellsAdd;have a7:∀u∈[z],∀c∈aX u,c.oneCell'=true:=λu hu=>by
    rw[LV.1 hu];exact eI c6.one
   apply LU 5 zk rfl;apply aD elN a6 e8 h6 (by simp) rfl rfl (λ_ _=>rfl) a7 (by simp;omega) (by simp;omega) zo rfl
   intro a3 w7 O7 a0 a4 e7;have e2:=a0.one;have b3:=LX d8 a4 zo zo;have e0:=LX e1 a4 zo zo;have b4:=LX b8 a4 zo zo;refine zh ?_;apply aa b4.cellsAdd;apply zrf 6 rfl b4.cellsAdd rfl;apply LU 7 zk rfl;apply ak (j:=2) b3 rfl (Po _) e2 rfl rfl rfl;have e3:Mc O7 (w7.setCell ⟨ob,2,none⟩ a3) (T+2) ob #[nI k,nI c,a3] 120:=b3.set 2 a3;have a2:L8 (λq=>q=T+2) O7 w7 O7 (w7.setCell ⟨ob,2,none⟩ a3):=M4 zo b3.tag rfl;have e5:=b4.upd a2 zo zo;refine zh ?_;apply aa e5.cellsAdd;have a5:¬(λq:Nat=>T<=q) 0:=λe=>zo
   have b5:=(b6.trans (a4.mono (λ_ h=>by rw[h];omega) a5)).trans (a2.mono (λ_ h=>by rw[h];omega) a5);apply Ml zk;refine zh ?_;refine zxd (i+1,O7,(w7.setCell ⟨ob,2,none⟩ a3),a3,zs++[z]) ⟨c9,e0.upd a2 zo zo,e3,a0.upd a2 zo zo,by simp[d0],λm hm=>?_,b5,e7.upd a2⟩;dsimp only at hm ⊢
   by_cases e:m<i
   ·rw[aB (xs:=zs++[z]) (by simp;omega),M5 zo,<-aB zo];exact((b1 m e).upd a4).upd a2
   obtain rfl:m=zs.length:=zo;rw[aB (xs:=zs++[z]) (by simp),Mg zo];simp only[MT,MQ];rw[d0];exact(c6.upd a4).upd a2
  intro i0;obtain rfl:i=xs.length:=dF i0;have h8:=a'.one;refine zh ?_;apply zv (ai (us:=aX ((k,c,lv):N3)) d2.cellsAdd (L2 _) (ix _) rfl);apply zsb (us:=#[nI k,nI c,lv]) b2 (ix _) (bX (x:=(k,c,lv)) h8);have g':=b2.setRow (us:=#[nI k,nI c,lv]);have f5:L8 (λq=>q=T) O1' f7 O1' (f7.setRow xb #[nI k,nI c,lv]):=L3 zo b2.tag rfl;have c7:=a'.upd f5 zo zo;have d4:=b'.trans (f5.mono (λ_ h=>by rw[h];omega) a5);have hN:Nt O (f7.setRow xb #[nI k,nI c,lv]) (.mk k c kids) (k,c,lv):=
   .mk c7.sl (c7.freeT zo (λb=>by have:=hT b;omega) (c5.upd f5) d4) zo (λm hm=>((f8 m zo).upd f5).low d4)
  refine zh ?_;refine aL rfl rfl g'.cellsAdd (L2 _) (ix _) ⟨(k,c,lv),rfl,hN,az d4 (λb=>by have:=hT b;omega)⟩
theorem mu{F:FuncId}(hF:∀(args:Array L1) (w:ln),(callFunc F args).run LZ w=.ok (.enter F args) w)(cs:Array L1)(l:List N3)(sv:L1)(q:Nat->Bool)(w:ln)(h:Sl aX 3 w sv l) 
  (hq:∀i,i<l.length->∀w',Mr w w'->MB LZ F ([nv (nth l i)]++cs.toList) w' λv w''=>v=.bool (q i)/\Mr w' w'') :
  MB LZ 221 [sv,.func (.func F) #[] cs] w λv w'=>v=nI (ed q l.length)/\Mr w w':=by
 have hl:=h.len_le;apply L4 func221 ntmps221 rfl rfl;refine zh ?_;apply zlp (λx:Nat×ln=>[(0,sv),(1,.func (.func F) #[] cs),(7,nI l.length),(8,nI x.1)]) (λx=>x.2) (λx=>x.1<=l.length/\Mr w x.2/\∀i,i<x.1->q i=false) (λx=>l.length-x.1) (0,w) ⟨L7 _,LQ _,λi hi=>absurd hi (M9 i)⟩;rintro⟨k,w1⟩ ⟨hk,hE,a1⟩;dsimp only at hk hE a1 ⊢;have h1:=h.ext hE;refine zh ?_;refine zC ?_ ?_
 ·intro a0;replace a0:k<l.length:=dT a0;refine zh ?_;apply zv (ai (us:=aX (nth l k)) (λj u hu=>h1.cell a0 hu) (L2 _) (ix _) rfl);apply dk rfl hF rfl (hq k a0 w1 hE) rfl;rintro v w2 ⟨rfl,a3⟩;refine zh ?_;refine zC ?_ ?_
  ·intro hy;refine zh ?_;refine af rfl rfl ⟨by rw[cR a0 hy a1],hE.trans a3⟩
  intro hy;refine zh ?_;refine zxd (k+1,w2) ⟨a0,hE.trans a3,λi hi=>(Nu.1 hi).elim (a1 i) (λe=>by rw[e];exact hy)⟩
 intro a2;replace a2:l.length<=k:=dF a2;refine zh ?_;refine af rfl rfl ⟨by rw[cQ λi hi=>a1 i zo],hE⟩
theorem dp{F:FuncId}(hF:∀(args:Array L1) (w:ln),(callFunc F args).run LZ w=.ok (.enter F args) w)(cs:Array L1)(l:List N3)(sv:L1)(q:Nat->Bool)(w:ln)(h:Sl aX 3 w sv l) 
  (hq:∀i,i<l.length->∀w',Mr w w'->MB LZ F ([nv (nth l i)]++cs.toList) w' λv w''=>v=.bool (q i)/\Mr w' w'') :
  MB LZ 163 [sv,.func (.func F) #[] cs] w λv w'=>v=.bool (jj q l.length)/\Mr w w':=by
 apply L4 func163 ntmps163 rfl rfl;refine zh ?_
 apply zc call221 (mu hF cs l sv q w h hq);rintro v w1 ⟨rfl,hE⟩;refine zh ?_
 refine af rfl rfl ⟨by rw[firstN_any],hE⟩
def named(k:Int):Bool:=(k==0)||(k==2)
def least(k:Int):Int:=if k=4\/k=5 then 2 else if k=6\/k=7\/k=8 then 1 else 0
def fJ(k:Int):Int:=if k=4\/k=5 then 2000 else if k=6\/k=7\/k=8 then 1 else 0
def fz(k c:Int)(n:Nat)(a0:Bool):Bool:=
 !(decide (k<0)||decide (9<k)||((k==9)&&a0))&&(!(decide ((n:Int)<least k)||decide (fJ k<(n:Int))) &&
 !((named k&&(decide (c<0)||decide (36<=c)))||(!named k&&(c != 0))))
mutual
def bS:Nd->Bool->Bool | .mk k c l,wi=>fz k c l.length wi&&eO l
def eO:List Nd->Bool | []=>true|t::r=>bS t true&&eO r
end
def bp(t:Nd):Bool:=decide (nsz t<=2000)&&bS t false
theorem dE{k:Int}{wi:Bool}(h:fz k c n wi=true):
  (k=0/\n=0/\0<=c/\c<36)\/(k=1/\n=0/\c=0)\/(k=2/\n=0/\0<=c/\c<36)\/(k=3/\n=0/\c=0)\/(k=4/\2<=n/\c=0)\/(k=5/\2<=n/\c=0)\/(k=6/\n=1/\c=0)\/(k=7/\n=1/\c=0)\/(k=8/\n=1/\c=0)\/(k=9/\n=0/\c=0/\wi=false):=by
 have a0:k=0\/k=1\/k=2\/k=3\/k=4\/k=5\/k=6\/k=7\/k=8\/k=9:=by
  simp only[fz,M7,NS,Bool.or_eq_false_iff,decide_eq_false_iff_not]at h;omega
 rcases a0 with rfl|rfl|rfl|rfl|rfl|rfl|rfl|rfl|rfl|rfl<;>simp[fz,least,fJ,named]at h<;>(try simp)<;>(first|omega|(obtain⟨h1,h2⟩:=h;subst h1;simp;omega))
theorem oZ:∀(l:List Nd),eO l=true->∀t∈l,bS t true=true
 |[],_,t,h=>absurd h (by simp)
 |a::r,hf,t,h=>by
  rw[eO,M7]at hf
  rcases List.mem_cons.1 h with rfl|h
  ·exact hf.1
  exact oZ r hf.2 t h
theorem gi:∀(l:List Nd),(!(jj (λi=>!(bS (nth l i) true)) l.length))=eO l:=by
 intro l;rw[P8];rw[NS,NT,Ne,eD]
 induction l with
 |nil=>simp[eO]
 |cons t r ih=>
  simp only[eO,M7,<-ih,M1]
  constructor
  ·intro h;refine⟨?_,fun⟨i,hi,hq⟩=>h ⟨i+1,zo,by rw[aS];exact hq⟩⟩
   cases ht:bS t true with
   |true=>rfl
   |false=>exact absurd ⟨0,zo,by rw[ao,ht];rfl⟩ h
  rintro⟨h1,h2⟩ ⟨i,hi,hq⟩
  cases i with
  |zero=>rw[ao,h1]at hq;simp at hq
  |succ i=>rw[aS]at hq;exact h2 ⟨i,zo,hq⟩
theorem FQ(k:Int)(w:ln):MB LZ 162 [nI k] w λv w'=>v=.tuple #[nI (least k),nI (fJ k)]/\w'=w:=by
 apply L4 func162 ntmps162 rfl rfl;refine zh ?_
 by_cases h4:k=4
 ·subst h4;refine zTH rfl rfl ?_;refine zTH rfl rfl ?_;refine cc rfl rfl rfl ⟨rfl,rfl⟩
 refine zFH rfl ((beq_eq_false_iff_ne.2 h4)) ?_
 by_cases h5:k=5
 ·subst h5;refine zTH rfl rfl ?_;refine cc rfl rfl rfl ⟨rfl,rfl⟩
 refine zFH rfl ((beq_eq_false_iff_ne.2 h5)) ?_
 by_cases h6:k=6
 ·subst h6;refine zTH rfl rfl ?_;refine zTH rfl rfl ?_;refine cc rfl rfl rfl ⟨rfl,rfl⟩
 refine zFH rfl ((beq_eq_false_iff_ne.2 h6)) ?_
 by_cases h7:k=7
 ·subst h7;refine zTH rfl rfl ?_;refine zTH rfl rfl ?_;refine cc rfl rfl rfl ⟨rfl,rfl⟩
 refine zFH rfl ((beq_eq_false_iff_ne.2 h7)) ?_
 by_cases h8:k=8
 ·subst h8;refine zTH rfl rfl ?_;refine cc rfl rfl rfl ⟨rfl,rfl⟩
 refine zFH rfl ((beq_eq_false_iff_ne.2 h8)) ?_;refine cc rfl rfl rfl ⟨by simp[least,fJ,h4,h5,h6,h7,h8],rfl⟩
theorem Gb{b:Bool}{t:Nd}(ih:∀(y:N3) (W:ln),Nt (λ_=>0) W t y->MB LZ 121 [nv y,.bool true] W λv w'=>v=.bool b/\Mr W w')(x:N3)(w:ln)(h:Nt (λ_=>0) w t x):
  MB LZ 164 [nv x] w λv w'=>v=.bool (!b)/\Mr w w':=by
 apply L4 func164 ntmps164 rfl rfl;refine zh ?_
 apply aN (ax w) 1 zo rfl rfl;intro xb w1 O1 a1 a3 a4 a0;refine zh ?_
 apply zv (ai (us:=aX x) a1.cellsAdd (L2 _) (ix _) rfl);apply zc call121 (ih x w1 (h.ext a0))
 rintro v w2 ⟨rfl,a2⟩;refine zh ?_;refine af rfl rfl ⟨rfl,a0.trans a2⟩
theorem zO:∀(n:Nat) (t:Nd),nsz t<=n->∀(x:N3) (w:ln) (a0:Bool),Nt (λ_=>0) w t x->MB LZ 121 [nv x,.bool a0] w λv w'=>v=.bool (bS t a0)/\Mr w w'
 |0,t,hn=>by have:=dd t;omega
 |n+1,.mk k c kids,hn=>by
  intro x w a0 h;have b1:=h.ones;obtain⟨xs,hs,hf,hl,hk⟩:=h.kids;simp only[Nn]at hl hk;simp only[nsz]at hn;have hF:bS (.mk k c kids) a0=(fz k c kids.length a0&&eO kids):=rfl;rw[hF];generalize x.2.2=sv at *;subst b1;simp only[P4,Pj];apply L4 func121 ntmps121 rfl rfl;refine zh ?_;apply aN (ax w) 1 zo rfl rfl;intro xb w1 O1 a9 b4 b5 a4;have c0:w1.cell? (nA xb 0)=some (nI k):=a9.cell 0 rfl;have c1:w1.cell? (nA xb 1)=some (nI c):=a9.cell 1 rfl;have c2:w1.cell? (nA xb 2)=some sv:=a9.cell 2 rfl;have b2:=hs.ext a4;refine zh ?_;refine ct (λw1=>_=w1) ((k==2)) 3 rfl rfl rfl rfl rfl rfl ?_ ?_
  ·intro a1;refine zh ?_;refine nE 11 4 rfl a1
  rintro _ rfl;refine zh ?_;apply zc call162 (FQ k w1);rintro v w9 ⟨rfl,a'⟩;rw[a'];clear a' w9;refine zh ?_;refine ct (λw1=>_=w1) (decide (9<k)) 3 rfl rfl rfl rfl rfl rfl ?_ ?_
  ·intro a2;refine zh ?_;refine nE 26 4 rfl a2
  rintro _ rfl;refine zh ?_;refine ct (λw1=>_=w1) (((k==9)&&a0)) 6 rfl rfl rfl rfl rfl rfl ?_ ?_
  ·intro a3;refine zh ?_
   cases a7:(k==9)with
   |true=>
    apply au (d:=35) rfl (b':=true) rfl;refine zh ?_
    refine nE 31 8 rfl a3
   |false=>
    apply au (d:=35) rfl (b':=false) rfl;refine zh ?_
    refine nE 31 8 rfl a3
  rintro _ rfl;refine zh ?_
  cases h1:(decide (k<0)||decide (9<k)||((k==9)&&a0))with
  |true=>
   refine zTH rfl rfl ?_;refine af rfl rfl ⟨by simp only[fz,h1];rfl,a4⟩
  |false=>
   refine zFH rfl rfl ?_;refine ct (λw1=>_=w1) (decide (fJ k<(xs.length:Int))) 5 rfl rfl rfl rfl rfl rfl ?_ ?_
   ·intro a5;refine zh ?_;refine nE 45 6 rfl a5
   rintro _ rfl;refine zh ?_
   cases h2:(decide ((xs.length:Int)<least k)||decide (fJ k<(xs.length:Int)))with
   |true=>
    refine zTH rfl rfl ?_;refine af rfl rfl ⟨by simp only[fz,h1,hl,h2];rfl,a4⟩
   |false=>
    refine zFH rfl rfl ?_;refine aT (λw1=>_=w1) ((decide (c<0)||decide (36<=c))) 8 rfl rfl rfl rfl rfl rfl ?_ ?_
    ·intro a6;refine zh ?_
     cases a7:decide (c<0)with
     |true=>
      apply au (d:=58) rfl (b':=true) rfl;refine zh ?_
      refine nE 54 10 rfl a6
     |false=>
      apply au (d:=58) rfl (b':=false) rfl;refine zh ?_
      refine nE 54 10 rfl a6
    rintro _ rfl;refine zh ?_;refine ct (λw1=>_=w1) ((!((k==0)||(k==2))&&(c != 0))) 7 rfl rfl rfl rfl rfl rfl ?_ ?_
    ·intro a8;refine zh ?_
     cases a7:((k==0)||(k==2))with
     |true=>
      rw[a7]at a8;apply au (d:=67) rfl (b':=false) rfl;refine zh ?_;refine nE 64 9 rfl a8
     |false=>
      rw[a7]at a8;apply au (d:=67) rfl (b':=true) rfl;refine zh ?_;refine nE 64 9 rfl a8
    rintro _ rfl;refine zh ?_
    cases h3:(((((k==0)||(k==2))&&(decide (c<0)||decide (36<=c))))||(!((k==0)||(k==2))&&(c != 0)))with
    |true=>
     refine zTH rfl rfl ?_;refine af rfl rfl ⟨by simp only[fz,h1,hl,h2,named,h3];rfl,a4⟩
    |false=>
     refine zFH rfl rfl ?_;apply zc PJ (dp call164 #[] xs sv (λi=>!(bS (nth kids i) true)) w1 b2 (λi hi w' hE=>Gb (λy W hy=>zO n (nth kids i) (by have:=bM kids i zo;omega) y W true hy) (nth xs i) w' ((hk i hi).ext (a4.trans hE))))
     rintro v w2 ⟨rfl,b3⟩;refine zh ?_;have b0:=gi kids;rw[hl]at b0;refine af rfl rfl ⟨by rw[b0];simp only[fz,h1,hl,h2,named,h3];rfl,a4.trans b3⟩
theorem fZ(t:Nd)(x:N3)(w:ln)(h:Nt (λ_=>0) w t x):MB LZ 83 [nv x] w λv w'=>v=.bool (bp t)/\Mr w w':=by
 have hx:=h.ones;apply L4 func83 ntmps83 rfl rfl;refine zh ?_;apply aN (ax w) 1 zo rfl rfl;intro xb w1 O1 a5 a6 a7 a3;have a4:∀W,Mr w1 W->∀(j:Nat) (u:L1),(aX x)[j]? = some u->W.cell? (nA xb j)=some u:=λW hE j u hu=>hE.cell (a5.cellsAdd j u hu)
 refine zh ?_;apply zv (ai (us:=aX x) (a4 w1 (LQ _)) (L2 _) (ix _) rfl)
 apply zc PL (rS (nsz t) t (L0 _) x w1 2000 (h.ext a3) zo);rintro v w2 ⟨rfl,a0⟩;have hd:decide (((min (nsz t) (2000+1):Nat):Int)<=2000)=decide (nsz t<=2000):=decide_eq_decide.2 zo;refine zh ?_
 rw[hd];refine aT (Mr w1) (bS t false) 2 a0 rfl rfl rfl rfl rfl ?_ ?_
 ·intro a1;refine zh ?_;refine zvH (ai (us:=aX x) (a4 _ a0) (L2 _) (ix _) rfl) ?_;apply zc call121 (zO (nsz t) t (L0 _) x _ false (h.ext (a3.trans a0)));rintro v w3 ⟨rfl,a2⟩;refine zh ?_;refine nE 6 3 (a0.trans a2) a1
 intro w3 a2;refine zh ?_;refine af rfl rfl ⟨rfl,a3.trans a2⟩
structure Cell0(O:Nat->Nat)(w:ln)(a:Py)(v:L1):Prop where
 z:O a.block=0
 c:w.cell? a=some v
theorem Cell0.upd{a:Py}(h:Cell0 O w a v)(u:L8 S O w O' w'):Cell0 O' w' a v:=by
 have a1:=Nr w a h.c;refine⟨Md λa0=>?_,iE (u.blk _ a1 (by rw[h.z];exact u.z)) h.c⟩
 rcases u.new _ a0 with h1|h1
 ·exact h1 h.z
 omega
theorem Cell0.ext{a:Py}(h:Cell0 O w a v)(e:Mr w w'):Cell0 O w' a v:=⟨h.z,e.cell h.c⟩
theorem Jb{xb:Nat}{O1 O2:Nat->Nat}{w1 w2:ln}{us:Array L1}(_:0<T)(hT:∀b,O b<T)(u1:L8 (λq=>q=T) O w O1 w1)(u2:L8 (λq=>q=T) O1 w1 O2 w2)(hx:Mc O2 w2 T xb us E):
  Mr w w2/\∀j u,us.toList[j]? = some u->Cell0 O w2 (nA xb j) u:=by
 have hO:O xb=0:=Md λa0=>by
  have h1:=u1.tag xb a0;have h2:=u2.tag xb (by rw[h1];exact a0);have:=hT xb;have:=hx.tag;omega
 refine⟨az (u1.trans u2) λb e=>?_,λj u hu=>⟨?_,hx.cellsAdd j u hu⟩⟩
 ·have:=hT b;omega
 show O (nA xb j).block=0;have:(nA xb j).block=xb:=by simp only[NB];split<;>rfl
 rw[this];exact hO
abbrev sV(x:Lf):List L1:=[nI x.1,nI x.2.1,nI (x.2.2:Nat)]
abbrev K3:=L1×L1×Nat
abbrev J3(x:K3):List L1:=[x.1,x.2.1,nI (x.2.2:Nat)]
theorem Ln:Pc LZ 275 283 3 24:=⟨MR,by kernel_rfl,zd⟩
theorem LF:Pc LZ 276 280 3 56:=⟨Mj,by kernel_rfl,zd⟩
theorem lB:Pc LZ 22 3 1 8:=⟨My,by kernel_rfl,zd⟩
theorem KG:cE LZ 278 #[(0,1),(1,1),(2,1),(3,1),(4,1)]:=⟨_,underlying278,λw=>by kernel_rfl⟩
theorem KF:cE LZ 280 #[(0,1),(1,1),(2,1)]:=⟨_,underlying280,λw=>by kernel_rfl⟩
theorem KE:cE LZ 283 #[(0,1),(1,1),(2,1)]:=⟨_,underlying283,λw=>by kernel_rfl⟩
structure Ks(O:Nat->Nat)(w:ln)(i:Nat)(kv:L1)(g:Gr)(xs:List K3):Prop where
 row:ME J3 280 3 O w (i+2) kv xs
 len:xs.length=g.ks.length
 fr:∀k,k<xs.length->ME bm 3 1 O w (i+6+2*k) (nth xs k).1 (g.fr k)
 lv:∀k,k<xs.length->ME bm 3 1 O w (i+7+2*k) (nth xs k).2.1 (g.lv k)
 en:∀k,k<xs.length->(nth xs k).2.2=g.en k
theorem Ks.upd{S:Nat->Prop}{O O':Nat->Nat}{w w':ln}{i:Nat}{kv:L1}{g:Gr}{xs:List K3}(h:Ks O w i kv g xs)(u:L8 S O w O' w')(hS:∀q,i<=q->q<i+8+2*g.ks.length->¬S q):Ks O' w' i kv g xs:=
 have hl:=h.len
 ⟨h.row.upd u zo (hS _ zo zo),h.len,λk hk=>(h.fr k hk).upd u zo (hS _ zo zo),λk hk=>(h.lv k hk).upd u zo (hS _ zo zo),h.en⟩
abbrev nfC(se:Bool)(lv kv nv tv:L1):Array L1:=#[.bool se,lv,kv,nv,tv]
structure NfO(O:Nat->Nat)(w:ln)(i nb:Nat)(se:Bool)(g:Gr)(nv tv lv kv:L1)(xs:List K3):Prop where
 blk:Mc O w i nb (nfC se lv kv nv tv) 278
 ls:ME sV 283 3 O w (i+1) lv g.ls
 ks:Ks O w i kv g xs
theorem NfO.updT{g:Gr}{nv tv lv kv:L1}{xs:List K3}(h:NfO O w i nb se g nv tv lv kv xs)(u:L8 S O w O' w')(hi:i≠0)(hS:∀q,i<=q->q<i+8+2*g.ks.length->¬S q):NfO O' w' i nb se g nv tv lv kv xs:=
 ⟨h.blk.upd u hi (hS _ (L0 _) zo),h.ls.upd u zo (hS _ zo zo),h.ks.upd u hS⟩
theorem NfO.upd{g:Gr}{nv tv lv kv:L1}{xs:List K3}(h:NfO O w i nb se g nv tv lv kv xs)(u:L8 S O w O' w')(hi:i≠0)(hS:∀q,i<=q->¬S q):NfO O' w' i nb se g nv tv lv kv xs:=h.updT u hi λq h _=>hS q h
theorem NfO.ext{g:Gr}{nv tv lv kv:L1}{xs:List K3}(h:NfO O w i nb se g nv tv lv kv xs)(e:Mr w w')(hi:i≠0):NfO O w' i nb se g nv tv lv kv xs:=
 h.upd (ae (S:=λ_=>False) (λh=>h) O e) hi λ_ _ h=>h
def NfP(B:Nat)(O:Nat->Nat)(w w':ln)(i nb:Nat)(se:Bool)(g:Gr)(nv tv:L1):Prop:=
 ∃O' lv kv xs,L8 (λq=>i<=q) O w O' w'/\MK B O' w'/\NfO O' w' i nb se g nv tv lv kv xs
section
variable{O:Nat→Nat}{w:ln}{i nb:Nat}{se:Bool}{g:Gr}{nv tv lv kv:L1}{xs:List K3}
theorem NfO.c0(h:NfO O w i nb se g nv tv lv kv xs):w.cell? (nA nb 0)=some (.bool se):=h.blk.cell 0 rfl
theorem NfO.c1(h:NfO O w i nb se g nv tv lv kv xs):w.cell? (nA nb 1)=some lv:=h.blk.cell 1 rfl
theorem NfO.c2(h:NfO O w i nb se g nv tv lv kv xs):w.cell? (nA nb 2)=some kv:=h.blk.cell 2 rfl
theorem NfO.c3(h:NfO O w i nb se g nv tv lv kv xs):w.cell? (nA nb 3)=some nv:=h.blk.cell 3 rfl
theorem NfO.c4(h:NfO O w i nb se g nv tv lv kv xs):w.cell? (nA nb 4)=some tv:=h.blk.cell 4 rfl
theorem Ks.f0(h:Ks O w i kv g xs)(hk:k<xs.length):w.cell? ((adr kv 3 k).add 0)=some (nth xs k).1:=h.row.sl.cell (j:=0) hk rfl
theorem Ks.f1(h:Ks O w i kv g xs)(hk:k<xs.length):w.cell? ((adr kv 3 k).add 1)=some (nth xs k).2.1:=h.row.sl.cell (j:=1) hk rfl
end
structure Bd(g:Gr)(M:Nat):Prop where
 ks:g.ks.length<=M
 ls:g.ls.length<=M
 fr:∀k,(g.fr k).length<=M
 lv:∀k,(g.lv k).length<=M
theorem Bd.mono{g:Gr}{M':Nat}(h:Bd g M)(hm:M<=M'):Bd g M':=⟨by have:=h.ks;omega,by have:=h.ls;omega,λk=>by have:=h.fr k;omega,λk=>by have:=h.lv k;omega⟩
theorem Bd.knot{g:Gr}{M:Nat}(h:Bd g M):Bd g.knot (M+1):=⟨by rw[aR];have:=h.ks;omega,by have:=h.ls;show g.ls.length<=_;omega,λk=>by
 rw[oW];split
 ·have:=h.fr k;omega
 ·simp,λk=>by
 rw[oU];split
 ·have:=h.lv k;omega
 simp⟩
theorem Bd.free{g:Gr}{M:Nat}(h:Bd g M){a b:Nat}(ha:a<g.ks.length):Bd (g.free a b) (M+1):=⟨by rw[bf];have:=h.ks;omega,by have:=h.ls;show g.ls.length<=_;omega,λk=>by
 rw[dX ha];split
 ·have:=h.fr a;simp;omega
 ·have:=h.fr k;omega,λk=>by
 rw[oY ha];have:=h.lv k;omega⟩
theorem Bd.leaf{g:Gr}{M:Nat}(h:Bd g M){x c:Int}{a b:Nat}(ha:a<g.ks.length):Bd (g.leaf x c a b) (M+1):=⟨by rw[gI];have:=h.ks;omega,by have:=h.ls;rw[jV];simp;omega,λk=>by
 rw[oO ha];have:=h.fr k;omega,λk=>by
 rw[mn ha];split
 ·have:=h.lv a;simp;omega
 have:=h.lv k;omega⟩
theorem Bd.layO{g:Gr}{M:Nat}(h:Bd g M){k:Int}{i:Nat}(hi:i+1<g.ks.length):Bd (layO k g i) (M+2):=by
 unfold N2;split<;>split
 ·exact h.mono zo
 ·exact(h.free zo).mono zo
 ·exact(h.free hi).mono zo
 exact(h.free zo).free (by rw[bf];exact hi)
theorem Bd.often{g:Gr}(h:Bd g M){a:Nat}(ha:a<g.ks.length):Bd (bR g a b) (M+4):=by
 have h2:g.knot.knot.ks.length=g.ks.length+2:=by rw[aR,aR]
 unfold bR;exact(h.knot.knot.free zo).free (by rw[bf];omega)
mutual
theorem gJ:∀(t:Nd) (a b:Nat) (g:Gr) (M:Nat),WF g->a<g.ks.length->b<g.ks.length->Bd g M->Bd (fK t a b g) (M+(9*nsz t-1))
 |.mk k c l,a,b,g,M,h,ha,hb,hM=>by
  unfold fK
  simp only[nsz]
  split
  ·exact(CQ l a b g M h ha hb hM).mono zo
  split
  ·exact(CV l a b g M h ha hb hM).mono zo
  split
  ·have hl:=eo g a b
   have hwf:=eY h ha hb
   obtain⟨h1,h2⟩:=mq l g.ks.length (g.ks.length+1) (bR g a b) hwf zo zo
   have:=h2.len
   have h3:=IN l g.ks.length (g.ks.length+1) (bR g a b) (M+4) hwf zo zo (hM.often ha)
   exact(h3.layO zo).mono zo
  split
  ·exact(hM.free ha).mono zo
  exact(hM.leaf ha).mono zo
theorem CQ:∀(l:List Nd) (a b:Nat) (g:Gr) (M:Nat),WF g->a<g.ks.length->b<g.ks.length->Bd g M->Bd (nN l a b g) (M+9*dI l)
 |[],_,_,g,M,_,_,_,hM=>hM.mono zo
 |t::r,a,b,g,M,h,ha,hb,hM=>by
  unfold nN
  simp only[dI]
  have hp:=dd t
  split
  ·exact(gJ t a b g M h ha hb hM).mono zo
  have hl:=aR g
  obtain⟨h1,h2⟩:=cK t a g.ks.length g.knot h.knot zo zo
  have:=h2.len
  exact(CQ r g.ks.length b _ _ h1 zo zo (gJ t a g.ks.length g.knot (M+1) h.knot zo zo hM.knot)).mono zo
theorem CV:∀(l:List Nd) (a b:Nat) (g:Gr) (M:Nat),WF g->a<g.ks.length->b<g.ks.length->Bd g M->Bd (nQ l a b g) (M+9*dI l)
 |[],_,_,g,M,_,_,_,hM=>hM.mono zo
 |t::r,a,b,g,M,h,ha,hb,hM=>by
  unfold nQ
  simp only[dI]
  have hp:=dd t
  obtain⟨h1,h2⟩:=cK t a b g h ha hb
  have:=h2.len
  exact(CV r a b _ _ h1 zo zo (gJ t a b g M h ha hb hM)).mono zo
theorem IN:∀(l:List Nd) (a b:Nat) (g:Gr) (M:Nat),WF g->a<g.ks.length->b<g.ks.length->Bd g M->Bd (nO l a b g) (M+9*dI l)
 |[],_,_,g,M,_,_,_,hM=>hM.mono zo
 |t::_,a,b,g,M,h,ha,hb,hM=>by
  unfold nO
  simp only[dI]
  exact(gJ t a b g M h ha hb hM).mono zo
end
theorem Upd.hi{U i:Nat}{O O':Nat->Nat}{w w':ln}(h:L8 (λq=>q=U) O w O' w')(hi:i≠0)(hU:i<=U):L8 (λq=>i<=q) O w O' w':=h.mono (λq e=>by rw[e];exact hU) zo
theorem jf(B:Nat)(O:Nat->Nat)(w:ln)(i nb:Nat)(se:Bool)(g:Gr)(nv tv lv kv:L1)(xs:List K3)(hi:i≠0)(hR:MK B O w)(h:NfO O w i nb se g nv tv lv kv xs)(hM:g.ks.length<=100000000):
  MB LZ 177 [nP nb] w λv w'=>v=nI ((g.ks.length:Nat):Int)/\NfP B O w w' i nb se g.knot nv tv:=by
 have a0:=h.ks.len;apply L4 func177 ntmps177 rfl rfl;refine zh ?_;apply zv (RV.ld h.c2 rfl);apply zv (aF KF (zeroValue280 _) rfl (by first|rfl|(simp only[L6,LP];rfl)) rfl rfl);apply N9 LF h.ks.row hR (((nS,nS,0):K3)) (λ_=>rfl) rfl rfl rfl (by simp[L9]) zo zo zo zd rfl rfl;intro a3 w1 O1 a4 a5 a';have a6:=h.blk.upd a5 hi zo;refine zh ?_;apply ak (j:=2) a6 rfl (sizeOf276 _) a4.one rfl rfl rfl;have a8:=a6.set 2 a3;have a2:L8 (λq=>q=i) O1 w1 O1 (w1.setCell ⟨nb,2,none⟩ a3):=M4 (λe=>hi e.symm) a6.tag rfl;have a1:=a4.upd a2 zo zo;have a9:=a'.upd a2;generalize w1.setCell ⟨nb,2,none⟩ a3=w2 at *;have c2:w2.cell? (nA nb 2)=some a3:=a8.cell 2 rfl;have b0:=a1.sl;have b1:∀k,i+6<=k->¬(k=i+2):=λk hk=>zo
 have a7:(xs++[((nS,nS,0):K3)]).length=g.ks.length+1:=by simp[a0]
 refine zh ?_;refine af rfl rfl ⟨by rw[a7];congr 1;omega,O1,lv,a3,xs++[(nS,nS,0)],(Upd.hi a5 hi zo).trans (Upd.hi a2 hi (L0 _)),a9,⟨a8,(h.ls.upd a5 zo zo).upd a2 zo zo,⟨a1,by rw[a7,aR],λk hk=>?_,λk hk=>?_,λk hk=>?_⟩⟩⟩
 ·rw[ay,oW,a0]
  by_cases e:k<g.ks.length
  ·rw[if_pos e,if_pos e];exact((h.ks.fr k zo).upd a5 zo zo).upd a2 zo zo
  rw[if_neg e,if_neg e,show k-g.ks.length=0 from by omega,ao];exact Ms _ _ _ _ _ _
 ·rw[ay,oU,a0]
  by_cases e:k<g.ks.length
  ·rw[if_pos e,if_pos e];exact((h.ks.lv k zo).upd a5 zo zo).upd a2 zo zo
  rw[if_neg e,if_neg e,show k-g.ks.length=0 from by omega,ao];exact Ms _ _ _ _ _ _
 rw[ay,sJ,a0]
 by_cases e:k<g.ks.length
 ·rw[if_pos e,if_pos e];exact h.ks.en k zo
 rw[if_neg e,if_neg e,show k-g.ks.length=0 from by omega,ao]
theorem gK(B:Nat)(O:Nat->Nat)(w:ln)(i nb:Nat)(se:Bool)(g:Gr)(nv tv lv kv:L1)(xs:List K3)(a b:Nat)(hi:i≠0)(hR:MK B O w)(h:NfO O w i nb se g nv tv lv kv xs)(ha:a<g.ks.length)(hM:(g.fr a).length<=100000000)(b8:g.ks.length<=100000000):
  MB LZ 178 [nP nb,nI (a:Nat),nI (b:Nat)] w λ_ w'=>NfP B O w w' i nb se (g.free a b) nv tv:=by
 have a8:=h.ks.len;have a2:a<xs.length:=zo;have hs:=h.ks.row.sl;have f0:=h.ks.f0 a2;apply L4 func178 ntmps178 rfl rfl;have a0:w.drew.cell? (nA nb 2)=some kv:=h.c2;have b6:w.drew.cell? ((adr kv 3 a).add 0)=some (nth xs a).1:=f0;apply aQ (λW=>W.cell? (nA nb 2)=some kv) 19 rfl zk;apply zrm 0 rfl a0 rfl;apply zr 1 rfl a0 (λ_=>aq rfl);apply zrf 2 rfl a0 rfl;apply zt 3 rfl a0 (λw1 a7=>RV.ld a7 rfl);apply zrm 4 rfl a0 rfl;apply zrm 5 rfl a0 rfl;apply zr 6 rfl a0 (λ_=>aq rfl);apply zrf 7 rfl a0 rfl;apply zt 8 rfl a0 (λw1 a7=>RV.ld a7 rfl);apply zrm 9 rfl a0 rfl;apply zr 10 rfl a0 (λ_=>aC hs.sh Mj (MI _) rfl rfl a rfl a2);apply zrf 11 rfl a0 rfl;apply zrm 13 rfl a0 rfl;apply cC 12 14 lB (enc:=bm) b rfl rfl zk zk zk zk (λW hE=>Nm (hE.cell b6) (isAgg22 _) rfl) (λW hE=>hE.cell a0) rfl rfl rfl zd rfl rfl rfl rfl rfl;intro sv w0 b1 b5;have b0:L8 (λ_=>False) O w O w0:=ae (λh=>h) O ((LQ w).drew.trans b5);have h0:=h.upd b0 hi λ_ _ h=>h
 have b4:=hR.upd b0;apply LU 15 zk rfl;apply aD lB (h0.ks.fr a a2) b4 b1 (by simp) rfl rfl (by simp) (by simp[L9]) (by simp;omega) (by simp;omega) zo rfl;intro fv w1 O1 a6 a4 b3;have h1:=h0.blk.upd a4 hi zo;have a':=h0.ks.row.upd a4 zo zo;have d1:w1.cell? (nA nb 2)=some kv:=h1.cell 2 rfl;refine zh ?_;apply aa d1;apply zr 16 rfl d1 (λ_=>aC hs.sh Mj (MI _) rfl rfl a rfl a2);apply zrf 17 rfl d1 rfl;apply LU 18 zk rfl;apply pF a' a a2 0 zd ((fv,(nth xs a).2.1,(nth xs a).2.2):K3) (Nw _) a6.one zo rfl rfl rfl rfl;intro w2 a9 a3;have h2:=h1.upd a3 hi zo;have d2:w2.cell? (nA nb 2)=some kv:=h2.cell 2 rfl;refine zh ?_;apply aa d2;have b2:L8 (λq=>i<=q) O w O1 w2:=((b0.mono (λ_ h=>h.elim) zo).trans (Upd.hi a4 hi zo)).trans (Upd.hi a3 hi zo);have a5:∀k,k<xs.length->k≠a->ME bm 3 1 O1 w2 (i+6+2*k) (nth xs k).1 (g.fr k):=λk hk b7=>((h0.ks.fr k hk).upd a4 zo zo).upd a3 zo zo
 have a1:∀k,k<xs.length->ME bm 3 1 O1 w2 (i+7+2*k) (nth xs k).2.1 (g.lv k):=λk hk=>((h0.ks.lv k hk).upd a4 zo zo).upd a3 zo zo
 apply Ml zk;refine aJ rfl ⟨O1,lv,kv,xs.set a (fv,(nth xs a).2.1,(nth xs a).2.2),b2,b3.upd a3,⟨h2,(h0.ls.upd a4 zo zo).upd a3 zo zo,⟨a9,by rw[M0,bf];exact a8,λk hk=>?_,λk hk=>?_,λk hk=>?_⟩⟩⟩
 ·rw[M0]at hk;rw[bt a2,dX ha]
  by_cases e:k=a
  ·subst e;rw[if_pos rfl,if_pos rfl];exact a6.upd a3 zo zo
  rw[if_neg e,if_neg e];exact a5 k hk e
 ·rw[M0]at hk;rw[bt a2,oY ha]
  by_cases e:k=a
  ·subst e;rw[if_pos rfl];exact a1 k hk
  rw[if_neg e];exact a1 k hk
 rw[M0]at hk;rw[bt a2,ye ha]
 by_cases e:k=a
 ·subst e;rw[if_pos rfl];exact h.ks.en k hk
 rw[if_neg e];exact h.ks.en k hk
section
def Bp(s:List UInt8)(m:List UInt8×Nd):Bool:=(m.1==s&&bp m.2)&&(m.2.kind != 9)
def gU(kn:Kn)(r:List UInt8):PR:=
 if r.takeWhile aj=[97,110,121]then .ok (.mk 1 0 []) (r.dropWhile aj)
 else match kn.reverse.find? (Bp (r.takeWhile aj))with
  |some m=>.ok m.2 (r.dropWhile aj)
  |none=>ee 0 r
def jw(kn:Kn)(al:Option (List UInt8->PR))(r0:List UInt8):PR:=
 if aj ((aw r0).headD 0)=true then gU kn (aw r0)
 else if(aw r0).headD 0=126 then ee 2 (aw r0).tail
 else if(aw r0).headD 0=94 then .ok (.mk 3 0 []) (aw r0).tail
 else if(aw r0).headD 0=40 then cM al (aw r0)
 else .bad (aw r0).length 4
def fy(kn:Kn)(al:Option (List UInt8->PR))(r0:List UInt8):PR:=
 match jw kn al r0 with
 |.bad p e=>.bad p e
 |.ok t r1=>
  match opM ((aw r1).headD 0)with
  |some k=>.ok (.mk (6+(k:Nat)) 0 [t]) (aw r1).tail
  |none=>.ok t (aw r1)
def dN(kn:Kn)(al:Option (List UInt8->PR)):Nat->List Nd->List UInt8->PR
 |0,acc,r=>.ok (oneM 4 acc) r
 |n+1,acc,r=>
  if fN ((aw r).headD 0)=true then
   match fy kn al (aw r)with
   |.bad p e=>.bad p e
   |.ok t r2=>dN kn al n (acc++[t]) r2
  else .ok (oneM 4 acc) (aw r)
def DW(kn:Kn)(al:Option (List UInt8->PR))(r:List UInt8):PR:=
 match fy kn al r with
 |.bad p e=>.bad p e
 |.ok t r1=>dN kn al (r1.length+1) [t] r1
def dh(kn:Kn)(al:Option (List UInt8->PR)):Nat->List Nd->List UInt8->PR
 |0,acc,r=>.ok (oneM 5 acc) r
 |n+1,acc,r=>
  if(aw r).headD 0=124 then
   match DW kn al (aw r).tail with
   |.bad p e=>.bad p e
   |.ok t r2=>dh kn al n (acc++[t]) r2
  else .ok (oneM 5 acc) (aw r)
def pz(kn:Kn)(al:Option (List UInt8->PR))(r:List UInt8):PR:=
 match DW kn al r with
 |.bad p e=>.bad p e
 |.ok t r1=>dh kn al (r1.length+1) [t] r1
def yo(kn:Kn):Nat->List UInt8->PR
 |0=>pz kn none
 |d+1=>pz kn (some (yo kn d))
def fM(kn:Kn)(l:List UInt8):XR:=
 if 4096<l.length then .bad 0 3 else
 match yo kn 20 l with
 |.bad p e=>.bad (l.length-p) e
 |.ok t r=>if(aw r).length≠0 then .bad (l.length-(aw r).length) 4 else if 2000<nsz t then .bad 0 3 else .ok t
variable{kn:Kn}
theorem xL(r:List UInt8)(h:aj (r.headD 0)=true):Good r (gU kn r):=by
 unfold gU
 split
 ·exact jU h
 split
 ·exact jU h
 exact pg _ _
theorem rq{al:Option (List UInt8->PR)}(ha:nD al)(r:List UInt8):Good r (jw kn al r):=by
 refine Good.mono ?_ (bz r);unfold jw
 split
 ·rename_i h;exact xL _ h
 split
 ·rename_i h;obtain⟨g1,g2⟩:=cI (r:=aw r) (by rw[h];decide);exact(pg _ _).mono g1
 split
 ·rename_i h;obtain⟨g1,g2⟩:=cI (r:=aw r) (by rw[h];decide);exact⟨g1,zo⟩
 split
 ·rename_i h;exact ql ha _ (by rw[h];decide)
 exact⟨L0 _,zd⟩
theorem gD{al:Option (List UInt8->PR)}(ha:nD al)(r:List UInt8):Good r (fy kn al r):=by
 have h:=rq (kn:=kn) ha r;unfold fy
 cases hf:jw kn al r with
 |bad p e=>rw[hf]at h;exact h
 |ok t r1=>
  rw[hf]at h;have h2:=dL r1;dsimp only
  split
  ·rename_i k hk;obtain⟨g1,g2⟩:=cI (GF hk);exact⟨(g1.trans (bz r1)).trans h.1,by have:=h.2;omega⟩
  exact⟨(bz r1).trans h.1,by have:=h.2;omega⟩
theorem kI{al:Option (List UInt8->PR)}(ha:nD al):∀(n:Nat) (a0:List Nd) (r:List UInt8),Kl r (dN kn al n a0 r)
 |0,a0,r=>Na r
 |n+1,a0,r=>by
  unfold dN
  split
  ·have h:=(gD (kn:=kn) ha (aw r)).mono (bz r)
   cases hf:fy kn al (aw r)with
   |bad p e=>rw[hf]at h;exact h
   |ok t r2=>
    rw[hf]at h;have ih:=kI ha n (a0++[t]) r2;dsimp only
    cases hq:dN kn al n (a0++[t]) r2 with
    |bad p e=>rw[hq]at ih;exact⟨by have:=ih.1;have:=h.2;omega,ih.2⟩
    |ok t r3=>rw[hq]at ih;exact Mv ih h.1
  exact bz r
theorem kJ{al:Option (List UInt8->PR)}(ha:nD al)(r:List UInt8):Good r (DW kn al r):=by
 have h:=gD (kn:=kn) ha r;unfold DW
 cases hf:fy kn al r with
 |bad p e=>rw[hf]at h;exact h
 |ok t r1=>
  rw[hf]at h;have ih:=kI (kn:=kn) ha (r1.length+1) [t] r1;dsimp only
  cases hq:dN kn al (r1.length+1) [t] r1 with
  |bad p e=>rw[hq]at ih;exact⟨by have:=ih.1;have:=h.2;omega,ih.2⟩
  |ok t r3=>rw[hq]at ih;exact⟨Mv ih h.1,by have:=N5 ih;have:=h.2;omega⟩
theorem jD{al:Option (List UInt8->PR)}(ha:nD al):∀(n:Nat) (a0:List Nd) (r:List UInt8),Kl r (dh kn al n a0 r)
 |0,a0,r=>Na r
 |n+1,a0,r=>by
  unfold dh
  split
  ·rename_i hc;obtain⟨g1,g2⟩:=cI (r:=aw r) (by rw[hc];decide);have h:=((kJ (kn:=kn) ha (aw r).tail).mono g1).mono (bz r)
   cases hf:DW kn al (aw r).tail with
   |bad p e=>rw[hf]at h;exact h
   |ok t r2=>
    rw[hf]at h;have ih:=jD ha n (a0++[t]) r2;dsimp only
    cases hq:dh kn al n (a0++[t]) r2 with
    |bad p e=>rw[hq]at ih;exact⟨by have:=ih.1;have:=h.2;omega,ih.2⟩
    |ok t r3=>rw[hq]at ih;exact Mv ih h.1
  exact bz r
theorem py{al:Option (List UInt8->PR)}(ha:nD al)(r:List UInt8):Good r (pz kn al r):=by
 have h:=kJ (kn:=kn) ha r;unfold pz
 cases hf:DW kn al r with
 |bad p e=>rw[hf]at h;exact h
 |ok t r1=>
  rw[hf]at h;have ih:=jD (kn:=kn) ha (r1.length+1) [t] r1;dsimp only
  cases hq:dh kn al (r1.length+1) [t] r1 with
  |bad p e=>rw[hq]at ih;exact⟨by have:=ih.1;have:=h.2;omega,ih.2⟩
  |ok t r3=>rw[hq]at ih;exact⟨Mv ih h.1,by have:=N5 ih;have:=h.2;omega⟩
theorem jl:∀(d:Nat) (r:List UInt8),Good r (yo kn d r)
 |0,r=>py (λf e=>by cases e) r
 |d+1,r=>py (λf e r=>by cases e;exact jl d r) r
theorem xJ{r:List UInt8}{m:List UInt8×Nd}(ha:¬r.takeWhile aj=[97,110,121])(h:kn.reverse.find? (Bp (r.takeWhile aj))=some m):gU kn r=.ok m.2 (r.dropWhile aj):=by
 unfold gU;rw[if_neg ha,h]
theorem xK{r:List UInt8}(ha:¬r.takeWhile aj=[97,110,121])(h:kn.reverse.find? (Bp (r.takeWhile aj))=none):gU kn r=ee 0 r:=by
 unfold gU;rw[if_neg ha,h]
end
end Go.Proofs.YteolbhblkgjbhaaGreatDoor
namespace Go.VL
section
open Go.RowKit
section
variable{P:Nj}{N:Nat}{ro:Option Nat}{ds:List Deferred}{Q:Px→Act→ln→Prop}{st:St}{w:ln}
theorem Bk{ops:Array Pa}{a1:List Pa}{t:Me}{p:String}{e:Array PX}{d:Nat}{x y z:NP}{a3:Array Me}{l:Nat}{u u2:L1}{R:Ending->ln->Prop} 
  (hx:ev st x=some (.func (.yield l) #[] #[])) (hy:ev st y=some u) (hz:ev st z=some u2) (hc:YieldAt MO 0 P l #[u,u2] w R) (hd:MZ d N=true)
  (hR:∀e w',R e w'->∃v,e=.returned v)
  (h:∀v w',R (.returned v) w'->WLI none P N ds ops Q a1 ((d,v)::st) w'):WLI none P N ds ops Q (⟨some d,.call ⟨.value x,#[y,z],a3⟩,t,p,e,none⟩::a1) st w:=by
 intro a ha;unfold wpListIn;rw[if_pos (cZ rfl _)];refine⟨λ_ _=>trivial,?_⟩;obtain⟨fn,a0,assign,body,a4,hr⟩:=hc;have a2:(Oper.semAt (Fr none).round ({ a with defers:=ds }:Act).eval ⟨some d,.call ⟨.value x,#[y,z],a3⟩,t,p,e,none⟩).run P w=.ok (.round l fn a0 assign body) w:=by
  rw[jY];rw[show(Fr none).round=none from rfl,Oper.semAt_none];simp only[execOp,resolve,NX,Pb,Pk,ha.ev hx,ha.ev hy,ha.ev hz];simp[PP,invoke,a4]
 rw[a2];refine⟨λhh=>by simp[MO]at hh,?_⟩;apply PU (hr:RoundIn MO _ P l fn a0 assign body w _);intro e' w' q;obtain⟨v,rfl⟩:=hR _ _ q;have:=h v w' q _ (ha.put hd v);simpa[PQ]using this
end
def Kk(P:Nj)(gf:Nat)(lb:List L1)(ex:Nat->L1)(enc:α->L1)(xs:List α)(Rd:ln->Prop):Prop:=
 ∀(l:Nat) (J:Nat->ln->Prop) (Jx:ln->Prop) (W:ln),(∀i W,J i W->Rd W)->(∀i W W',J i W->Mr W W'->J i W')->
  (∀i (hi:i<xs.length) W W',J i W->Mr W W'->YieldAt MO 0 P l #[ex i,enc xs[i]] W' λe W2=>((e=.returned (.bool true)/\J (i+1) W2)\/(e=.returned (.bool false)/\Jx W2))/\∀b,W.heap.size<=b->b<W'.heap.size->W2.heap[b]? = W'.heap[b]?)->
  J 0 W->MB P gf (.func (.yield l) #[] #[]::lb) W λ_ W'=>J xs.length W'\/Jx W'
theorem tt{P:Nj}{N:Nat}{ds:List Deferred}{Q:Px->Act->ln->Prop}{st:St}{g:NP}{p0 p1 d0:Nat}{T:Me}{id:Nat}{e1 e2:Array PX}{q1 q2:String}{t1 t2:Me}{body:PY} 
  {gf:Nat} {lb:List L1} {ex:Nat->L1} {enc:α->L1} {xs:List α} {Rd:ln->Prop}
  (hg:ev st g=some (.func (.func gf) #[] lb.toArray)) (eg:∀args w,(callFunc gf args).run P w=.ok (.enter gf args) w) (it:Kk P gf lb ex enc xs Rd)
  (e':MZ p0 N=true) (e9:MZ p1 N=true) (f7:MZ d0 N=true) {z:L1} (hz:∀W:ln,(zeroValue T).run P W=.ok z W) 
    (r:MK B O w) (L K:Nat) (hL:L≠0) (hK:K≠0) (d3:L≠K)
  (b0:∀(W:ln) (O':Nat->Nat) (b:Nat) (y:L1) (x:α) (_:x∈xs) (ops:Array Pa) (Q':Px->Act->ln->Prop),Mc O' W K b z.cells T->
   (∀w2,Mc O' w2 K b (enc x).cells T->L8 (λj=>j=K) O' W O' w2->WL P N ops Q' [] ((d0,nP b)::(p1,enc x)::(p0,y)::st) w2)->
   WL P N ops Q' [⟨none,.store T (.tmp d0) (.tmp p1),t2,q2,e2,none⟩] ((d0,nP b)::(p1,enc x)::(p0,y)::st) W)
  (I:Nat->(Nat->Nat)->ln->Prop) (Ix:PY->(Nat->Nat)->ln->Prop)
  (hI:∀i O W O' W',I i O W->L8 (λj=>j=L\/j=K) O W O' W'->I i O' W') (d4:∀c O W O' W',Ix c O W->L8 (λj=>j=L) O W O' W'->Ix c O' W')
  (g1:∀i O W,I i O W->Rd W) (h0:I 0 O w)
  (b6:∀l i (hi:i<xs.length) b O' W,MK B O' W->I i O' W->Mc O' W K b (enc xs[i]).cells T->
   WI (some l) P N [] body (Cf O' W L (I (i+1)) Ix) ((d0,nP b)::(p1,enc xs[i])::(p0,ex i)::st) W)
  (b5:∀D O' W,MK B O' W->O' D=L->I xs.length O' W->W.heap[D]? = some (.deferred (some []))->QI N ({ target:=.collected D,args:=#[] }::ds) Q .normal st W)
  (hstop:∀D c O' W,MK B O' W->O' D=L->Ix c O' W->W.heap[D]? = some (.deferred (some []))->WI none P N ({ target:=.collected D,args:=#[] }::ds) c Q st W) :
  WI none P N ds (.rangeFunc g #[p0,p1] (.region id #[⟨some d0,.alloc T,t1,q1,e1,none⟩,⟨none,.store T (.tmp d0) (.tmp p1),t2,q2,e2,none⟩] false) body) Q st w:=by
 intro a ha;apply wpIn_rangeFunc;intro fn g7;rw[show(Fr none).round=none from rfl];obtain⟨D,hD⟩:∃D,D=w.heap.size:=⟨_,rfl⟩
 obtain⟨e8,b8⟩:∃c,c=Code.region id #[⟨some d0,.alloc T,t1,q1,e1,none⟩,⟨none,.store T (.tmp d0) (.tmp p1),t2,q2,e2,none⟩] false:=⟨_,rfl⟩
 rw[<-b8];obtain⟨a5,a2⟩:∃a5:LoopState->Option PY->Loop,a5=λst pe=>{ state:=st,pending:=pe,fn,tmps:=a.tmps,params:=#[p0,p1],assign:=e8,body,defers:=D }:=⟨_,rfl⟩
 obtain⟨W1,b'⟩:∃W1,(w.alloc (.deferred (some []))).alloc (.loop (a5 .ready none))=W1:=⟨_,rfl⟩
 obtain⟨O1,d2⟩:∃O1,lV (lV O D L) (D+1) L=O1:=⟨_,rfl⟩
 have d6:¬(λj=>j=L) 0:=λe=>hL e.symm
 have e5:L8 (λj=>j=L) O w (lV O D L) (w.alloc (.deferred (some []))):=by rw[hD];exact P3 d6 r _ L
 have e6:L8 (λj=>j=L) O w O1 W1:=by
  rw[<-b',<-d2];apply e5.trans;have:=P3 (S:=λj=>j=L) d6 (r.upd e5) (.loop (a5 .ready none)) L
  rwa[NO,<-hD]at this
 have g2:MK B O1 W1:=r.upd e6;have g3:W1.heap[D+1]? = some (.loop (a5 .ready none)):=by
  rw[<-b',hD];have:=Nx (w.alloc (.deferred (some []))) (.loop (a5 .ready none));rwa[NO]at this
 have g4:W1.heap[D]? = some (.deferred (some [])):=by
  rw[<-b',hD];exact(Below.heap_alloc _ _ _ (by simp)).trans (Nx w _)
 have hO1D:O1 D=L:=by rw[<-d2];unfold lV;rw[if_neg zo,if_pos rfl]
 have hO1L:O1 (D+1)=L:=by rw[<-d2];exact eG _ _ _
 have g5:I 0 O1 W1:=hI _ _ _ _ _ h0 (e6.mono (λ_ h=>.inl h) (by rintro(h|h);exact hL h.symm;exact hK h.symm))
 refine⟨D+1,[{ target:=.collected D,args:=#[] }],W1,{ target:=.fn (.func gf) lb.toArray,args:=#[.func (.yield (D+1)) #[] #[]] },W1,gf,
  #[.func (.yield (D+1)) #[] #[]]++lb.toArray,W1,?_,?_,λ_ _=>trivial,?_,λhh=>by simp[MO]at hh,?_⟩
 ·rw[<-b',a2,hD];exact run_enterLoop_outer _ _ _ _ _
 ·simp only[resolve,ha.evD hg ds];simp[go_sem]
 ·simp[invoke,go_sem,eg]
 have hJ:=it (D+1)
  (λi W=>∃O',MK B O' W/\O' D=L/\O' (D+1)=L/\I i O' W/\W.heap[D+1]? = some (.loop (a5 .ready none))/\W.heap[D]? = some (.deferred (some [])))
  (λW=>∃c O',MK B O' W/\O' D=L/\O' (D+1)=L/\Ix c O' W/\W.heap[D+1]? = some (.loop (a5 .done (some c)))/\W.heap[D]? = some (.deferred (some [])))
  W1 (λi W ⟨O',_,_,_,h,_⟩=>g1 i O' W h) (λi W W' ⟨O',h1,h2,h3,h4,h5,h6⟩ hE=>⟨O',h1.ext hE,h2,h3,hI _ _ _ _ _ h4 (ae (by rintro(h|h);exact hL h.symm;exact hK h.symm) _ hE),(hE.block _ (bL h5)).trans h5,(hE.block _ (bL h6)).trans h6⟩) ?_ ⟨O1,g2,hO1D,hO1L,g5,g3,g4⟩
 ·unfold MB at hJ;rw[show(Value.func (.yield (D+1)) #[] #[]::lb).toArray = #[.func (.yield (D+1)) #[] #[]]++lb.toArray from by simp]at hJ;apply PZ (callsIn_wide.2 hJ:CallsIn MO _ P gf _ W1 _);rintro e W2 q
  cases e with
  |returned v=>
   rcases q with⟨O',a7,b2,b1,hi,hl,hk⟩|⟨c,O',a7,b2,b1,hi,hl,hk⟩
   ·refine⟨none,_,by have:=run_endLoop (P:=P) hl (by rw[a2];simp);rw[a2]at this;exact this,?_⟩;have b3:=MS hL b1 (w:=W2) (.loop { a5 .ready none with state:=.exhausted });rw[a2]at b3;have:=b5 D O' _ (a7.upd b3) b2 (hI _ _ _ _ _ hi (b3.mono (λ_ h=>.inl h) (by rintro(h|h);exact hL h.symm;exact hK h.symm))) ((Mi zo).trans hk) a ha;exact this
   refine⟨some c,_,by have:=run_endLoop (P:=P) hl (by rw[a2];simp);rw[a2]at this;exact this,?_⟩;have b3:=MS hL b1 (w:=W2) (.loop { a5 .done (some c)with state:=.exhausted });rw[a2]at b3;exact hstop D c O' _ (a7.upd b3) b2 (d4 _ _ _ _ _ hi b3) ((Mi zo).trans hk) a ha
  |panicked c=>exact q.elim
  |outgrown=>exact q.elim
 rintro i hi W0 W ⟨O',e7,b2,b1,c8,c7,e0⟩ c5;have a7:=e7.ext c5;have f6:=hI _ _ _ _ _ c8 (ae (S:=λj=>j=L\/j=K) (by rintro(h|h);exact hL h.symm;exact hK h.symm) O' c5);have hl:=(c5.block _ (bL c7)).trans c7;have hk:=(c5.block _ (bL e0)).trans e0;have g6:=bL c7;have hy:=run_yield (P:=P) (args:=#[ex i,enc xs[i]]) hl (by rw[a2];rfl);rw[a2]at hy;refine⟨fn,_,e8,body,hy,roundIn_of_wpIn trivial ?_⟩;have c9:Fits N ((a.put (some p0) (ex i)).put (some p1) (enc xs[i])) ((p1,enc xs[i])::(p0,ex i)::st):=(ha.put e' _).put e9 _;have d1:({ tmps:=(#[p0,p1].zip #[ex i,enc xs[i]]).foldl (λtmps (t,a)=>tmps.setIfInBounds t a) a.tmps,defers:=[] }:Act) = { (a.put (some p0) (ex i)).put (some p1) (enc xs[i])with defers:=[] }:=by simp[PQ]
 rw[d1];rw[b8];refine(Mh (ro:=some (D+1)) (ds:=[]) (P:=P) (N:=N) (.inr rfl) (λ_ _ h=>h) ?_:WI (some (D+1)) P N [] _ _ ((p1,enc xs[i])::(p0,ex i)::st) W) _ c9;apply ar a7 K hK (hz W) f7;intro b w1 O2 hb g0 g9 g';apply b0 w1 O2 b (ex i) xs[i] (NY hi) _ _ hb;intro w2 b7 f';refine WL.nil (Mz ?_);intro a3 f9;have c6:D+1<W.heap.size:=(Array.getElem?_eq_some_iff.1 hl).1;have b9:L8 (λj=>j=K) O' W O2 w2:=g0.trans f';have d9:w2.heap[D+1]? = some (.loop (a5 .ready none)):=(b9.blk (D+1) c6 (by rw[b1];exact d3)).trans hl;have f5:w2.heap[D]? = some (.deferred (some [])):=(b9.blk D zo (by rw[b2];exact d3)).trans hk;have ho2L:O2 (D+1)=L:=(b9.tag (D+1) (by rw[b1];exact hL)).trans b1;have ho2D:O2 D=L:=(b9.tag D (by rw[b2];exact hL)).trans b2;refine⟨_,run_beginRound d9 (by rw[a2]),?_⟩;have e4:=MS hL ho2L (w:=w2) (.loop { a5 .ready none with state:=.busy });have a':¬(λj=>j=L\/j=K) 0:=by rintro(h|h);exact hL h.symm;exact hK h.symm
 have a1:L8 (λj=>j=L\/j=K) O' W O2 (w2.putObj (D+1) (.loop { a5 .ready none with state:=.busy })):=(b9.mono (λ_ h=>.inr h) a').trans (e4.mono (λ_ h=>.inl h) a');have d8:(w2.putObj (D+1) (.loop { a5 .ready none with state:=.busy })).heap[D+1]? = some (.loop { a5 .ready none with state:=.busy }):=Ns (bL d9);have d':(w2.putObj (D+1) (.loop { a5 .ready none with state:=.busy })).heap[D]? = some (.deferred (some [])):=(Mi zo).trans f5;have c':=b6 (D+1) i hi b O2 _ (a7.upd a1) (hI _ _ _ _ _ f6 a1) (b7.upd e4 hK (λe=>d3 e.symm)) a3 f9;generalize w2.putObj (D+1) (.loop { a5 .ready none with state:=.busy })=w3 at *;apply wpIn_mono c';have d5:∀(a0:Option PY) (O4:Nat->Nat) (w4:ln),L8 (λj=>j≠0/\j≠L) O2 w3 O4 w4->
   (Instr.endRound (D+1) a0).run P w4=.ok (.bool a0.isNone) (w4.putObj (D+1) (.loop (a5 (if a0.isNone then .ready else .done) a0)))/\
   L8 (λj=>j=L) O4 w4 O4 (w4.putObj (D+1) (.loop (a5 (if a0.isNone then .ready else .done) a0)))/\O4 D=L/\O4 (D+1)=L/\
   (w4.putObj (D+1) (.loop (a5 (if a0.isNone then .ready else .done) a0))).heap[D+1]? = some (.loop (a5 (if a0.isNone then .ready else .done) a0))/\
   (w4.putObj (D+1) (.loop (a5 (if a0.isNone then .ready else .done) a0))).heap[D]? = some (.deferred (some [])):=by
  intro a0 O4 w4 a6;have d7:=(a6.blk (D+1) (bL d8) (by rw[ho2L];exact λh=>h.2 rfl)).trans d8;have f4:=(a6.blk D (bL d') (by rw[ho2D];exact λh=>h.2 rfl)).trans d';have ho4D:O4 D=L:=(a6.tag D (by rw[ho2D];exact hL)).trans ho2D;have ho4L:O4 (D+1)=L:=(a6.tag (D+1) (by rw[ho2L];exact hL)).trans ho2L;have:=run_endRound (P:=P) a0 d7;rw[a2]at this ⊢;exact⟨this,MS hL ho4L _,ho4D,ho4L,Ns (bL d7),(Mi zo).trans f4⟩
 have a9:∀(O4:Nat->Nat) (w4:ln) (o:Obj),L8 (λj=>j≠0/\j≠L) O2 w3 O4 w4->∀b,W0.heap.size<=b->b<W.heap.size->(w4.putObj (D+1) o).heap[b]? = W.heap[b]?:=by
  intro O4 w4 o a6 b g8 b7;have e3:O' b=0:=Md λf3=>by have:=(e7.rng b f3).2;omega
  have f8:=a1.zero b7 e3;have e1:=a1.blk b b7 (by rw[e3];rintro(h|h);exact hL h.symm;exact hK h.symm);have e2:=a6.blk b (NQ b7 a1.size) (by rw[f8];exact λh=>h.1 rfl);rw[Mi zo,e2,e1]
 rintro e a4 w4 q
 cases e with
 |normal=>
  obtain⟨O4,a6,b4⟩:=q;obtain⟨hr,a8,h1,h2,h3,h4⟩:=d5 none O4 w4 a6;exact⟨_,_,hr,.inl ⟨rfl,O4,((a7.upd a1).upd a6).upd a8,h1,h2,hI _ _ _ _ _ b4 (a8.mono (λ_ h=>.inl h) a'),h3,h4⟩,a9 O4 w4 _ a6⟩
 |ret=>
  obtain⟨O4,a6,b4⟩:=q;obtain⟨hr,a8,h1,h2,h3,h4⟩:=d5 (some .ret) O4 w4 a6;exact⟨_,_,hr,.inr ⟨rfl,.ret,O4,((a7.upd a1).upd a6).upd a8,h1,h2,d4 _ _ _ _ _ b4 a8,h3,h4⟩,a9 O4 w4 _ a6⟩
 |exit id'=>
  obtain⟨O4,a6,b4⟩:=q;obtain⟨hr,a8,h1,h2,h3,h4⟩:=d5 (some (.exit id')) O4 w4 a6;exact⟨_,_,hr,.inr ⟨rfl,.exit id',O4,((a7.upd a1).upd a6).upd a8,h1,h2,d4 _ _ _ _ _ b4 a8,h3,h4⟩,a9 O4 w4 _ a6⟩
 |_=>exact q.elim
end
end Go.VL
section
namespace Go.VL
section
variable{P:Nj}{N:Nat}{ops:Array Pa}{Q:Px→Act→ln→Prop}{rest:List Pa}{st:St}{w:ln}
variable{t:Me}{p:String}{e:Array PX}{d:Nat}{x y z:NP}
theorem aM{T:Me}{a0:Nat}(he:Pc P T E sz a0)(r:MK B O w)(i:Nat)(a6:i≠0)(u:α){xv:L1}(hx:ev st x=some xv)(a2:xv.cells.toList=enc u)(a3:(enc u).length=sz)(hs:sz<=16777216)(hd:MZ d N=true) 
  (h:∀v w' O',ME enc E sz O' w' i v [u]->L8 (λk=>k=i) O w O' w'->MK B O' w'->WL P N ops Q rest ((d,v)::st) w'):WL P N ops Q (⟨some d,.buildSlice T 1 #[(0,x)],t,p,e,none⟩::rest) st w:=by
 obtain⟨a4,z,hi,hz,a1,a9,a8⟩:=he.parts;have a7:xv.cells.size=sz:=by rw[<-a3,<-a2];simp
 have a5:=he.pos;have u1:=P3 (S:=λk=>k=i) (λe=>a6 e.symm) r (.cells xv.cells E) i;refine Pi (v:=.slice (some ⟨w.heap.size,0,none⟩) 1 1) (w':=w.alloc (.cells xv.cells E)) hd (λa ha=>?_) (h _ _ (lV O w.heap.size i) ⟨⟨?_,λg hg=>?_⟩,λc hc=>by rw[LV.1 hc];exact a3⟩ u1 (r.upd u1))
 ·have:=run_buildSlice (P:=P) w T E 1 #[(0,xv)] xv.cells a4 z he.ht hi hz (by rw[a1];omega) (by rw[a1];omega) (by
   rw[a1]
   exact lj a7 (by simp))
  simp only[execOp,NX,Pb,Pk,ha.ev hx,MC,this,Mm];rfl
 ·have:=World.ownsRow_lit (base:=0) (size:=sz) (e:=E) w xv.cells 1 (L7 _) (by simp[maxLen]) zo;simpa[a2]using this
 simp[Value.ownBlock]at hg;subst hg;exact eG _ _ _
end
section
variable{P:Nj}{N:Nat}{st:St}{w:ln}{fn:Func}{R:L1→ln→Prop}
theorem iU{t:Tmp}{T:Me}{q:Py}(hr:fn.results = #[.cell t T])(hv:cO st t=some (.pointer (some q))) 
  (hc:∀j u,us[j]? = some u->w.cell? (q.add j)=some u) (hT:(isAgg T).run P w=.ok true w) (hn:(PT T).run P w=.ok us.length w) (h:R (.agg us.toArray) w):Leave P N fn R [] st w:=
 Leave.nil (λa ha=>by have h1:=ha.get _ _ hv;simp[results,hr,Array.getD_eq_getD_getElem?,h1,asAddr,dO hc hT hn]) h
end
end Go.VL
namespace Go.Proofs.YteolbhblkgjbhaaGreatDoor
open Go.VL Go.Proofs
set_option maxRecDepth 10000
theorem elM:Pc LZ 112 197 4 56:=⟨PC,by kernel_rfl,zd⟩
theorem vH(q:Option Py)(n c:Nat)(w:ln):MB LZ 271 [.slice q n c] w λv w'=>∃b,v=.func (.func 272) #[] #[nP b]/\w'.cell? ⟨b,0,none⟩=some (.slice q n c)/\w.heap.size<=b/\Mr w w':=by
 apply L4 func271 ntmps271 rfl rfl;refine zh ?_
 apply aN (ax w) 1 zo rfl rfl;intro b w1 O1 hb a2 a0 a1;refine zh ?_
 refine zvH (dY rfl rfl) ?_;refine af rfl rfl ⟨b,rfl,hb.cell 0 rfl,(a0.rng b (by rw[hb.tag];decide)).1,a1⟩
theorem Cg[Inhabited α]{l:List α}(h:i<l.reverse.length):l.reverse[i]=nth l (l.length-1-i):=by
 rw[Mq]at h;rw[List.getElem_reverse,aB zo]
theorem qm(kv:L1)(ms:List M3)(b:Nat):Kk LZ 272 [nP b] (λi=>nI ((ms.length:Int)-1-(i:Int))) (λm:M3=>.agg (eR m).toArray) ms.reverse (λW=>W.cell? ⟨b,0,none⟩=some kv/\Sl eR 4 W kv ms):=by
 intro lp J Jx W a3 a9 hY h0;obtain⟨a8,a4⟩:=a3 _ _ h0;have a6:=a4.len_le;have a5:ms.reverse.length=ms.length:=Mq;apply mH func272 ntmps272 rfl rfl;apply Mu;apply Mh (.inl rfl) (λ_ _ h=>h);refine zh ?_;apply Mz;apply aZ;apply NJ;apply WI.loop (λx:Nat×ln×Int=>[(0,.func (.yield lp) #[] #[]),(1,nP b),(3,nI x.2.2)]) (λx:Nat×ln×Int=>x.2.1) (λx:Nat×ln×Int=>x.1<=ms.length/\J x.1 x.2.1/\x.2.2=(ms.length:Int)-1-(x.1:Nat)) (λx:Nat×ln×Int=>ms.length-x.1) (0,W,(ms.length:Int)-1) ⟨L7 _,h0,by dsimp only;omega⟩ ⟨rfl,rfl,rfl,trivial⟩ rfl;rintro⟨i,w1,z⟩ ⟨hi,hJ,hz⟩;dsimp only at hi hJ hz ⊢;subst hz;obtain⟨hb,hs⟩:=a3 _ _ hJ;apply Mu;apply Mu;apply Mh (.inl rfl) (λ_ _ h=>h);refine zh ?_;apply Mz;apply aZ;refine WI.cond rfl ?_ ?_
 ·intro a0;replace a0:i<ms.length:=dT a0;have hy:=hY i zo w1 w1 hJ (LQ _);rw[Cg]at hy;dsimp only at hy;apply Nl;apply aZ;apply Mu;apply NJ;apply Mu;apply yw 6 (.inl rfl) (λ_ _ h=>h);refine zh ?_;apply zv (MV hs PC (Pm _) rfl rfl (ms.length-1-i) zo zo);refine zvH (ai (us:=eR (nth ms (ms.length-1-i))) (λj u hu=>hs.cell zo hu) (isAgg197 _) (Pm _) rfl) ?_;refine Mz (I8 ?_);apply Bk rfl rfl rfl hy rfl (by rintro e w' ⟨⟨rfl,_⟩|⟨rfl,_⟩,_⟩<;>exact⟨_,rfl⟩);rintro v w5 ⟨⟨e,a1⟩|⟨e,a1⟩,a7⟩
  ·obtain rfl:=Nb e;apply GV (.inl rfl) (λ_ _ h=>h);refine zh ?_;apply Mz;apply aZ;apply lJ rfl rfl;apply Nl;apply du;apply aZ;apply Mh (.inl rfl) (λ_ _ h=>h);refine zh ?_;apply Mz;refine QI.next ((i+1,w5,(ms.length:Int)-1-(i:Int)-1)) ⟨a0,a1,by dsimp only;omega⟩ (by dsimp only;omega) ⟨rfl,rfl,rfl,trivial⟩ rfl
  obtain rfl:=Nb e;apply GV (.inl rfl) (λ_ _ h=>h);refine zh ?_;apply Mz;apply aZ;apply nV rfl rfl;apply NU;apply gR;apply js;apply js;apply gR;exact lM (kj rfl (.inr a1))
 intro a2;replace a2:¬i<ms.length:=dF a2;obtain rfl:i=ms.length:=zo;apply WI.exit;apply pJ;apply pJ;apply yJ;exact lM (kj rfl (.inl (by rw[a5];exact hJ)))
end Go.Proofs.YteolbhblkgjbhaaGreatDoor
end
namespace Go.Proofs.YteolbhblkgjbhaaGreatDoor
section
variable{kv:L1}{kn:Kn}
theorem cells_from{vs:List L1}(k:Nat)(h:∀(j:Nat) (u:L1),us[j]? = some u->w.cell? (nA b j)=some u)(hv:∀(q:Nat) (u:L1),vs[q]? = some u->us[k+q]? = some u):∀(q:Nat) (u:L1),vs[q]? = some u->w.cell? ((nA b k).add q)=some u:=λq u hu=>by
 have h1:=h (k+q) u (hv q u hu);have e:((nA b k).add q)=((⟨b,0,none⟩:Py).add (k+q)):=by
  simp only[NB];(repeat' split)<;>simp_all[]
 rw[e];exact h1
theorem KnownM.ex{ms:List M3}(h:KnownM O w kv kn ms):Known O w kv kn:=⟨ms,h⟩
theorem IL{ms:List M3}(h:KnownM O w kv kn ms){x:M3}(hx:x∈ms.reverse):(eR x).toArray.toList.all L9=true:=by
 obtain⟨i,hi,e⟩:=NH (List.mem_reverse.1 hx);have h1:=(h.2.2.2 i hi).2.one;rw[aB hi,e]at h1;simp only[eR,L6,h1];rfl
theorem Dg[Inhabited α]{p:α->Bool}{l:List α}(h:∀q,q<l.length->p (nth l q)=false):l.find? p=none:=by
 rw[NL];intro x hx;obtain⟨i,hi,rfl⟩:=NH hx;have:=h i hi;rw[aB hi]at this;rw[this];decide
theorem Dh{α:Type}[Inhabited α]{p:α->Bool}:∀ {l:List α} {k:Nat},k<l.length->(∀q,q<k->p (nth l q)=false)->p (nth l k)=true->l.find? p=some (nth l k)
 |[],k,hk,_,_=>absurd hk (by simp)
 |a::l,0,_,_,hp=>by rw[ao]at hp ⊢;rw[P6,hp]
 |a::l,k+1,hk,h,hp=>by
  have h0:=h 0 zo;rw[ao]at h0;rw[aS]at hp ⊢;rw[P6,h0];exact Dh (by simpa using hk) (λq hq=>by have:=h (q+1) zo;rwa[aS]at this) hp
theorem IE[Inhabited α]{l:List α}(h:i<l.length):nth l.reverse i=nth l (l.length-1-i):=by
 rw[aB (by rw[Mq];exact h),Cg]
theorem CC(op:Int)(h':0<=op/\op<=20):Reads kv kn 267 [] op (gU kn) (λr=>aj (r.headD 0)=true):=by
 intro B O j rb l r w hR hj hr hl h9 h i3;obtain⟨T,a1,hT⟩:=hR.bound;have j5:j<T:=by rw[<-h.tag];exact hT rb
 have j4:=hr.length_le;apply mH func267 ntmps267 rfl rfl;apply Mu;apply Mh (.inl rfl) (λ_ _ h=>h);apply ar hR T zo (L5 _) rfl;intro xb w1 O1 h0 g0 j3 k0;have f9:=h.upd g0 hj zo;refine zh ?_;apply Mz;apply aZ;apply Mu;apply Mh (.inl rfl) (λ_ _ h=>h);refine zh ?_;refine zvH (RV.ld f9.r1 rfl) ?_;apply Mz;apply aZ;apply Mu;apply Mh (.inl rfl) (λ_ _ h=>h);refine zh ?_;apply zc call270 (zy O1 w1 j rb l r op 0 0 hj hr zo f9);rintro v w2 ⟨rfl,i9,e1⟩;have g':=h0.upd e1 zo zo;have g5:=j3.upd e1;have i':=(g0.pT hj a1 (L0 _)).trans (e1.pj a1);apply ar g5 (T+1) zo (zeroValue9 _) rfl;intro sb w3 O3 d5 j1 j9 j';apply ak (j:=0) d5 rfl (PH _) rfl rfl rfl rfl;have e4:=d5.set 0 (.string (bs (r.takeWhile aj)));have j0:L8 (λk=>k=T+1) O3 w3 O3 (w3.setCell ⟨sb,0,none⟩ (.string (bs (r.takeWhile aj)))):=M4 zo d5.tag rfl;have a8:=j1.trans j0;have c6:=g'.upd a8 zo zo;have d9:=i9.upd a8 hj zo;have g4:=g5.upd a8;have b0:=i'.trans (a8.pT hj a1 (Mp _));generalize w3.setCell ⟨sb,0,none⟩ (.string (bs (r.takeWhile aj)))=w4 at *;refine zh ?_;apply Mz;apply aZ;apply Mu;apply Mu;apply Mh (.inl rfl) (λ_ _ h=>h);apply zv (RV.ld (e4.cell 0 rfl) rfl);refine zvH (bN rfl rfl) ?_;apply Mz;apply aZ
 by_cases ha:r.takeWhile aj=[97,110,121]
 ·have hM:gU kn r=.ok (.mk 1 0 []) (r.dropWhile aj):=by unfold gU;rw[if_pos ha]
  apply nV rfl ((by rw[ha];rfl));apply Mu
  apply Mh (.inl rfl) (λ_ _ h=>h);apply zv (aF kR (L5 _) rfl (by first|rfl|(simp only[L6,LP];rfl)) rfl rfl)
  apply zsa (us:=(#[nI 1,nI 0,nS])) c6 (ix _);have d3:=LW (us:=(#[nI 1,nI 0,nS])) c6;have f':L8 (λk=>k=T) O3 w4 O3 (LO w4 xb (#[nI 1,nI 0,nS])):=L3 zo (LY c6) rfl;have d8:=LX d9 f' hj zo;refine zh ?_
  apply Mz;apply aZ
  apply NU;apply js
  refine lM (iU rfl rfl d3.cellsAdd (L2 _) (ix _) ⟨(1,0,nS),rfl,(b0.trans (f'.pT hj a1 (L0 _))).priv hT hj,?_⟩);rw[hM];exact⟨d8.fgt h.tag,Pu _ _ _ _⟩
 obtain⟨ms,c9⟩:=i3.upd b0;obtain⟨qa,qc,f3,_⟩:=c9.1.shape;have i2:=c9.1.len_le;have i4:kn.length=ms.length:=c9.2.2.1;apply lJ rfl ((by simpa using ha));subst f3;apply Nl;apply aZ;apply Mu;apply Mu;apply Mh (.inl rfl) (λ_ _ h=>h);refine zh ?_;apply zv (RV.ld d9.r2 rfl);apply zc call271 (vH qa ms.length qc w4);rintro v w5 ⟨b,rfl,i8,j8,g7⟩;have b8:L8 (λ_=>False) O3 w4 O3 w5:=ae (λh=>h) O3 g7;have d3:=c6.upd b8 zo (λh=>h);have h8:=e4.upd b8 zo (λh=>h);have d8:=d9.upd b8 hj (λh=>h);have j2:=g4.upd b8;have f7:=c9.upd b8;have e0:=b0.trans (jF O3 g7 hj a1);have i7:Fixed O3 w5 ⟨b,0,none⟩ (.slice qa ms.length qc):=⟨i8,Md λi0=>by have:=(g4.rng b i0).2;omega⟩
 generalize f3:Value.slice qa ms.length qc=kv at *;generalize c7:r.takeWhile aj=sw at *;have e5:∀ {S:Nat->Prop} {O' O2:Nat->Nat} {W W':ln},L8 S O' W O2 W'->(∀k,S k->T<=k)->L8 (λk=>k=j\/T<=k) O' W O2 W':=λh hS=>h.mono (λk hk=>.inr (hS k hk)) (λe=>by rcases e with e|e;exact hj e.symm;omega)
 refine zh ?_;apply Mz
 apply aZ;apply NJ
 refine tt (L:=T+2) (K:=T+3) rfl call272 (qm kv ms b) rfl rfl rfl (λW=>zeroValue197 W) j2 zo zo zo (λW O' pb y x hx ops Q' hb h=>bG (us:=(eR x).toArray) hb rfl (Pm _) (IL f7 hx) rfl rfl rfl (h _ hb.setRow (L3 zo hb.tag rfl))) (λk O' W=>L8 (λp=>p=j\/T<=p) O w O' W/\Mc O' W T xb #[nI 0,nI 0,nS] 120/\Mc O' W (T+1) sb #[.string (bs sw)] 9/\Rdr kv O' W j rb l ((l.length:Int)-((r.dropWhile aj).length:Int)) op 0 0/\Fixed O' W ⟨b,0,none⟩ kv/\KnownM O' W kv kn ms/\∀q,q<k->Bp sw (nth kn.reverse q)=false) (λc O' W=>c=.ret/\L8 (λp=>p=j\/T<=p) O w O' W/\Rdr kv O' W j rb l ((l.length:Int)-((r.dropWhile aj).length:Int)) op 0 0/\∃m x,kn.reverse.find? (Bp sw)=some m/\Nt O' W m.2 x/\Mc O' W T xb #[nI x.1,nI x.2.1,x.2.2] 120) (λi O' W O2 W' ⟨h1,h2,h3,h4,h5,h6,h7⟩ hU=>⟨h1.trans (e5 hU (λk hk=>zo)),h2.upd hU zo zo,h3.upd hU zo zo,h4.upd hU hj zo,h5.upd hU,h6.upd hU,h7⟩) (λc O' W O2 W' ⟨h1,h2,h3,m,x,h4,h5,h6⟩ hU=>⟨h1,h2.trans (e5 hU (λk hk=>zo)),h3.upd hU hj zo,m,x,h4,h5.upd hU,h6.upd hU zo zo⟩) (λi O' W ⟨_,_,_,_,h5,h6,_⟩=>⟨h5.cell,h6.1⟩) ⟨e0,d3,h8,d8,i7,f7,λq hq=>absurd hq zo⟩ ?_ ?_ ?_
 ·rintro lp i hi pb O6 w6 d0 ⟨b3,b1,c8,a',d6,b6,a3⟩ b2;rw[Mq]at hi;have i5:ms.length-1-i<ms.length:=zo;obtain⟨m,e8⟩:∃m,m=nth ms (ms.length-1-i):=⟨_,rfl⟩
  obtain⟨g1,g2⟩:=b6.2.2.2 _ i5;replace b2:Mc O6 w6 (T+3) pb (eR m).toArray 197:=by have:=b2;rw[Cg,<-e8]at this;exact this
  rw[<-e8]at g1 g2;have f4:nth kn.reverse i=nth kn (ms.length-1-i):=by rw[IE zo,i4]
  have b5:Bp sw (nth kn.reverse i)=false->∀q,q<i+1->Bp sw (nth kn.reverse q)=false:=λh q hq=>by
   by_cases e:q=i
   ·rw[e];exact h
   exact a3 q zo
  have a0:Bp sw (nth kn.reverse i)=((m.1==sw&&bp (nth kn (ms.length-1-i)).2)&&((nth kn (ms.length-1-i)).2.kind != 9)):=by
   unfold Bp;rw[f4,g1]
  have f5:m.2.1=(nth kn (ms.length-1-i)).2.kind:=g2.kind;generalize nth kn (ms.length-1-i)=km at *;have j7:=b2.cell 0 rfl;have hz:L8 (λp=>p≠0/\p≠T+2) O6 w6 O6 w6:=MD zo _ _;apply NJ;apply Mu;apply Mh (.inr rfl) (λ_ _ h=>h);refine zh ?_;apply zv (RV.ld (b2.cell 0 rfl) rfl);apply zv (RV.ld (c8.cell 0 rfl) rfl);refine zvH (bN rfl rfl) ?_
  cases h1:(m.1==sw)with
  |false=>
   rw[h1]at a0;apply au (d:=30) rfl (b':=false) rfl;refine zh ?_;apply Mz;apply aZ;apply lJ rfl rfl;apply Nl;apply du;exact iS O6 hz ⟨b3,b1,c8,a',d6,b6,b5 (by rw[a0];rfl)⟩
  |true=>
   rw[h1]at a0;apply au (d:=30) rfl (b':=true) rfl;have d7:∀W:ln,(∀(j:Nat) (u:L1),(eR m)[j]? = some u->W.cell? (nA pb j)=some u)->∀(q:Nat) (u:L1),(aX m.2)[q]? = some u->W.cell? ((nA pb 1).add q)=some u:=λW h=>cells_from (us:=eR m) 1 h (λq u hu=>by rw[Nat.add_comm];exact hu)
   refine zh ?_;refine zvH (ai (us:=aX m.2) (d7 _ b2.cellsAdd) (L2 _) (ix _) rfl) ?_
   apply zc Pw (fZ km.2 m.2 w6 g2.zero);rintro v w7 ⟨rfl,g6⟩;have a4:L8 (λ_=>False) O6 w6 O6 w7:=ae (λh=>h) O6 g6;have a2:=b1.upd a4 zo (λh=>h);have e3:=c8.upd a4 zo (λh=>h);have b7:=a'.upd a4 hj (λh=>h);have e6:=b2.upd a4 zo (λh=>h);have g3:=d0.upd a4;have f6:=b6.upd a4;have f8:=d6.upd a4;have e7:=g2.upd a4;have a7:=b3.trans (jF O6 g6 hj a1);have d1:L8 (λp=>p≠0/\p≠T+2) O6 w6 O6 w7:=a4.mono (λ_ h=>h.elim) zo;refine zh ?_
   cases h2:bp km.2 with
   |false=>
    rw[h2]at a0;apply au (d:=35) rfl (b':=false) rfl;refine zh ?_;apply Mz;apply aZ;apply lJ rfl rfl;apply Nl;apply du;exact iS O6 d1 ⟨a7,a2,e3,b7,f8,f6,b5 (by rw[a0];rfl)⟩
   |true=>
    rw[h2]at a0;apply au (d:=35) rfl (b':=true) rfl;have j6:w7.cell? ((nA pb 1).add 0)=some (nI m.2.1):=d7 _ e6.cellsAdd 0 _ rfl;refine zh ?_;apply Mz;apply aZ
    cases h3:(km.2.kind != 9)with
    |false=>
     rw[h3]at a0;apply lJ rfl ((by rw[f5];exact h3));apply Nl;apply du;exact iS O6 d1 ⟨a7,a2,e3,b7,f8,f6,b5 (by rw[a0];rfl)⟩
    |true=>
     rw[h3]at a0;apply nV rfl ((by rw[f5];exact h3));have d2:=e7.one;apply Mu;apply Mh (.inr rfl) (λ_ _ h=>h);refine zh ?_;apply zv (ai (us:=aX m.2) (d7 _ e6.cellsAdd) (L2 _) (ix _) rfl);apply zsb (us:=#[nI m.2.1,nI m.2.2.1,m.2.2.2]) a2 (ix _) (bX d2);have b4:=a2.setRow (us:=#[nI m.2.1,nI m.2.2.1,m.2.2.2]);have a6:L8 (λk=>k=T) O6 w7 O6 (w7.setRow xb #[nI m.2.1,nI m.2.2.1,m.2.2.2]):=L3 zo a2.tag rfl;refine zh ?_;apply Mz;apply aZ;apply NU;apply gR;exact yI O6 (d1.trans (a6.mono (λ_ h=>zo) zo)) ⟨rfl,a7.trans (a6.pT hj a1 (L0 _)),b7.upd a6 hj zo,_,m.2,by rw[Dh (by rw[Mq];omega) a3 (by rw[a0];rfl),f4],e7.upd a6,b4⟩
 ·rintro D O6 w6 d0 e2 ⟨b3,b1,c8,a',d6,b6,a3⟩ hm;have hM:gU kn r=ee 0 r:=by
   exact xK (by rw[c7];exact ha) (by rw[c7];exact Dg (λq hq=>a3 q (by simp at hq ⊢;omega)))
  have d':=b3;apply du;apply aZ;apply Mu;apply Mh (.inl rfl) (λ_ _ h=>h);refine zh ?_;apply ak (j:=1) a' rfl (Mn _) rfl rfl rfl rfl;have b7:=a'.rAt ((l.length:Int)-(r.length:Int));have a7:L8 (λk=>k=j) O6 w6 O6 (w6.setCell ⟨rb,1,none⟩ (nI ((l.length:Int)-(r.length:Int)))):=M4 (λe=>hj e.symm) a'.tag rfl;have a2:=b1.upd a7 zo zo;have g3:=d0.upd a7;have e':=(a7.blk D (bL hm) zo).trans hm;have b9:=d'.trans (a7.pj a1);generalize w6.setCell ⟨rb,1,none⟩ (nI ((l.length:Int)-(r.length:Int)))=w7 at *;refine zh ?_;apply Mz;apply aZ;apply Mu;apply Mh (.inl rfl) (λ_ _ h=>h);refine zh ?_;apply zc call268 (vA 0 op h' B O6 j rb l r w7 g3 hj hr hl trivial b7 (b6.upd a7).ex);rintro v w8 ⟨x,rfl,a6,a9⟩;have b4:=a2.upd a6 zo zo;have e9:=(a6.blk D (bL e') zo).trans e';have d2:x.2.2.oneCell'=true:=by
   cases hc:ee 0 r with
   |ok t r'=>rw[hc]at a9;exact a9.2.one
   |bad p e=>rw[hc]at a9;exact a9.1
  apply zsb (us:=#[nI x.1,nI x.2.1,x.2.2]) b4 (ix _) (bX d2);have g9:=b4.setRow (us:=#[nI x.1,nI x.2.1,x.2.2]);have c':L8 (λk=>k=T) O6 w8 O6 (w8.setRow xb #[nI x.1,nI x.2.1,x.2.2]):=L3 zo b4.tag rfl;have i1:=(c'.blk D (bL e9) zo).trans e9;have a5:L8 (λk=>k=T+2) O6 (w8.setRow xb #[nI x.1,nI x.2.1,x.2.2]) O6 ((w8.setRow xb #[nI x.1,nI x.2.1,x.2.2]).putObj D (.deferred none)):=MS zo e2 _;have c5:=(c'.pT hj a1 (L0 _)).trans (a5.pT hj a1 zo);have d4:=g9.upd a5 zo zo;refine zh ?_
  apply Mz;apply aZ
  apply NU;refine lM (Pr i1 (iU rfl rfl d4.cellsAdd (L2 _) (ix _) ⟨x,rfl,((b9.trans (a6.pj a1)).trans c5).priv hT hj,?_⟩))
  rw[hM]
  cases hc:ee 0 r with
  |ok t r'=>
   rw[hc]at a9;exact⟨((a9.1.upd c' hj zo).upd a5 hj zo).fgt h.tag,(a9.2.upd c5).low (b9.trans (a6.pj a1))⟩
  |bad p e=>
   rw[hc]at a9;obtain⟨h1,a,g8,h2,h3⟩:=a9;exact⟨h1,a,g8,((h2.upd c' hj zo).upd a5 hj zo).fgt h.tag,h3⟩
 rintro D c O6 w6 d0 e2 ⟨rfl,b3,a',m,x,i6,b5,b1⟩ hm;have a5:L8 (λk=>k=T+2) O6 w6 O6 (w6.putObj D (.deferred none)):=MS zo e2 _;have c5:=b3.trans (a5.pT hj a1 zo);have a2:=b1.upd a5 zo zo;apply NU;apply gR;apply js;refine lM (Pr hm (iU rfl rfl a2.cellsAdd (L2 _) (ix _) ⟨x,rfl,c5.priv hT hj,?_⟩));rw[xJ (by rw[c7];exact ha) (by rw[c7];exact i6)];exact⟨(a'.upd a5 hj zo).fgt h.tag,(b5.upd a5).low c5⟩
end
section
variable{kv:L1}{kn:Kn}
theorem sZ(b:UInt8)(k:Nat)(hk:k<256)(h:¬b=Mo k):((b.toNat:Int) != (k:Int))=true:=by rw[bne,fE b k hk,decide_eq_false h];rfl
theorem eJ(b:UInt8)(k:Nat)(hk:k<256)(h:¬b=Mo k):((b.toNat:Int)==(k:Int))=false:=by rw[fE b k hk,decide_eq_false h]
theorem PostE.one{O:Nat->Nat}{w:ln}{j rb:Nat}{l:List UInt8}{op:Int}{x:N3}{M:PR}(h:PostE kv O w j rb l op x M):x.2.2.oneCell'=true:=by
 cases M with
 |ok t r=>exact h.2.one
 |bad p e=>exact h.1
theorem PostE.upd{S:Nat->Prop}{O O':Nat->Nat}{w w':ln}{j rb:Nat}{l:List UInt8}{op:Int}{x:N3}{M:PR}(h:PostE kv O w j rb l op x M)(u:L8 S O w O' w')(hj:j≠0)(hS:¬S j):PostE kv O' w' j rb l op x M:=by
 cases M with
 |ok t r=>exact⟨LX h.1 u hj hS,h.2.upd u⟩
 |bad p e=>obtain⟨h1,a,o,h2,h3⟩:=h;exact⟨h1,a,o,LX h2 u hj hS,h3⟩
theorem PostE.low{S:Nat->Prop}{O O':Nat->Nat}{w w0 w':ln}{j rb:Nat}{l:List UInt8}{op:Int}{x:N3}{M:PR}(h:PostE kv O' w' j rb l op x M)(u:L8 S O w O' w0)(a0:O rb=j):PostE kv O w' j rb l op x M:=by
 cases M with
 |ok t r=>exact⟨PE h.1 a0,h.2.low u⟩
 |bad p e=>obtain⟨h1,a,o,h2,h3⟩:=h;exact⟨h1,a,o,PE h2 a0,h3⟩
theorem so(k:Int)(xs:List N3)(lv:L1)(w:ln)(h:Sl aX 3 w lv xs)(h1:∀i,i<xs.length->(nth xs i).2.2.oneCell'=true):
  MB LZ 198 [nI k,lv] w λv w'=>v=nv (if xs.length=1 then nth xs 0 else(k,0,lv))/\Mr w w':=by
 apply L4 func198 ntmps198 rfl rfl;refine zh ?_
 apply ar (ax w) 1 zo (L5 _) rfl;intro xb w1 O1 a0 a3 a6 a5;have a2:=h.ext a5;refine zh ?_
 by_cases hl:xs.length=1
 ·have a4:=h1 0 zo;rw[if_pos hl];refine zTH rfl ((by rw[hl];rfl)) ?_;apply zv (MV a2 MA (ix _) rfl rfl 0 rfl zo);apply zv (ai (us:=aX (nth xs 0)) (λj u hu=>a2.cell zo hu) (L2 _) (ix _) rfl);apply zsb (us:=#[nI (nth xs 0).1,nI (nth xs 0).2.1,(nth xs 0).2.2]) a0 (ix _) (bX a4);have a1:=a0.setRow (us:=#[nI (nth xs 0).1,nI (nth xs 0).2.1,(nth xs 0).2.2]);refine zh ?_;refine aL rfl rfl a1.cellsAdd (L2 _) (ix _) ⟨rfl,(a3.trans (L3 zd a0.tag rfl)).ext⟩
 rw[if_neg hl];refine zFH rfl ((by simp;omega)) ?_;apply zv (aF kR (L5 _) rfl (by first|rfl|(simp only[L6,h.one];rfl)) rfl rfl);apply zsb (us:=#[nI k,nI 0,lv]) a0 (ix _) (bX (x:=(k,0,lv)) h.one);have a1:=a0.setRow (us:=#[nI k,nI 0,lv]);refine zh ?_;refine aL rfl rfl a1.cellsAdd (L2 _) (ix _) ⟨rfl,(a3.trans (L3 zd a0.tag rfl)).ext⟩
def vQ(kv:L1)(kn:Kn)(al:Option (List UInt8->PR))(op:Int):Prop:=
 match al with
 |none=>op=20
 |some f=>op<20/\Reads kv kn 152 [] (op+1) f (λ_=>True)
theorem vE(al:Option (List UInt8->PR))(op:Int)(h7:0<=op/\op<=20)(ha:vQ kv kn al op)(hg:nD al):Reads kv kn 269 [] op (cM al) (λr=>r.headD 0≠0):=by
 intro B O j rb l r w hR hj hr hl d1 h g7;obtain⟨T,a0,hT⟩:=hR.bound;have h8:j<T:=by rw[<-h.tag];exact hT rb
 have h6:=hr.length_le;apply L4 func269 ntmps269 rfl rfl;refine zh ?_;apply ar hR T zo (L5 _) rfl;intro xb w1 O1 e6 e' f5 i1;have a7:=h.upd e' hj zo;have b4:=e'.pT hj a0 (L0 _);obtain⟨f',h5⟩:=cI d1;have e7:=f'.trans hr;refine zh ?_;refine zvH (RV.ld a7.r3 rfl) ?_
 cases al with
 |none=>
  have hM:cM none r=.bad r.length 6:=rfl;replace ha:op=20:=ha;refine zTH rfl ((by rw[ha];rfl)) ?_;apply zv (RV.ld a7.r1 rfl);apply zc Nh (gL _ O1 w1 j rb l _ _ 0 ((l.length:Int)-(r.length:Int)) 6 hj f5 a7);rintro v wf ⟨rfl,d8,b6⟩;have a6:=e6.upd b6 zo zo;apply zsa (us:=#[nI 0,nI 0,nS]) a6 (ix _);have c9:=a6.setRow (us:=#[nI 0,nI 0,nS]);have b5:L8 (λk=>k=T) O1 wf O1 (wf.setRow xb #[nI 0,nI 0,nS]):=L3 zo a6.tag rfl;have hbg:=d8.upd b5 hj zo;refine zh ?_;refine aL rfl rfl c9.cellsAdd (L2 _) (ix _) ⟨(0,0,nS),rfl,((b4.trans (b6.pj a0)).trans (b5.pT hj a0 (L0 _))).priv hT hj,?_⟩;rw[hM];exact⟨rfl,_,op,hbg.fgt h.tag,zo,zo,zo,zo⟩
 |some f=>
  obtain⟨h9,g'⟩:=ha;have b9:=hg f rfl r.tail;refine zFH rfl ((by simp;omega)) ?_;refine zvH (RV.ld a7.r1 rfl) ?_;apply ak (j:=1) a7 rfl (Mn _) rfl rfl rfl rfl;rw[show((l.length:Int)-(r.length:Int))+1=(l.length:Int)-(r.tail.length:Int)from by omega];have c5:=BlkO.rAt a7 ((l.length:Int)-(r.tail.length:Int));have e4:L8 (λk=>k=j) O1 w1 O1 (M8 w1 ⟨rb,1,none⟩ (nI ((l.length:Int)-(r.tail.length:Int)))):=M4 (λe=>hj e.symm) (LY a7) rfl;have f9:=e6.upd e4 zo zo;have h4:=f5.upd e4;generalize M8 w1 ⟨rb,1,none⟩ (nI ((l.length:Int)-(r.tail.length:Int)))=w2 at *;refine zh ?_;refine zvH (RV.ld c5.r3 rfl) ?_;apply ak (j:=3) c5 rfl (Mn _) rfl rfl rfl rfl;have g9:=c5.rOp (op+1);have e3:L8 (λk=>k=j) O1 w2 O1 (w2.setCell ⟨rb,3,none⟩ (nI (op+1))):=M4 (λe=>hj e.symm) c5.tag rfl;have f8:=f9.upd e3 zo zo;have f4:=h4.upd e3;have b3:=(b4.trans (e4.pj a0)).trans (e3.pj a0);generalize w2.setCell ⟨rb,3,none⟩ (nI (op+1))=w3 at *;refine zh ?_;apply zc call152 (g' B O1 j rb l r.tail w3 f4 hj e7 hl trivial g9 (g7.upd b3));rintro v w4 ⟨x,rfl,e2,f6⟩;have b7:=f6.one;have f7:=f8.upd e2 zo zo;have f3:=f4.upd e2;have e1:=b3.trans (e2.pj a0);apply ar f3 (T+1) zo (L5 _) rfl;intro nb w5 O5 d7 h1 h' i0;apply zsb (us:=#[nI x.1,nI x.2.1,x.2.2]) d7 (ix _) (bX b7);have e9:=d7.setRow (us:=#[nI x.1,nI x.2.1,x.2.2])
  have h0:L8 (λk=>k=T+1) O5 w5 O5 (w5.setRow nb #[nI x.1,nI x.2.1,x.2.2]):=L3 zo d7.tag rfl;have a4:=h1.trans h0;have e5:=f7.upd a4 zo zo;have c8:=f6.upd a4 hj zo;have h3:=f3.upd a4;have b2:=e1.trans (a4.pT hj a0 (Mp _));generalize w5.setRow nb #[nI x.1,nI x.2.1,x.2.2]=w6 at *
  cases hf:f r.tail with
  |bad p e=>
   rw[hf]at b9 c8;have hM:cM (some f) r=.bad p e:=by unfold cM;dsimp only;rw[hf]
   obtain⟨g1,a,a',a1,g2,g3,g4,g5⟩:=c8;replace a1:Mc O5 w6 j rb (rdr kv l a a' ((l.length:Int)-(p:Int)) e) 250:=a1;refine zh ?_;refine zvH (RV.ld a1.r5 rfl) ?_;apply au (d:=39) rfl (b':=false) ((by simpa using b9.2));refine zh ?_;refine zFH rfl rfl ?_;refine zvH (RV.ld a1.r1 rfl) ?_;apply ak (j:=1) a1 rfl (Mn _) rfl rfl rfl rfl;have a2:=a1.rAt (a+1);have a3:L8 (λk=>k=j) O5 w6 O5 (w6.setCell ⟨rb,1,none⟩ (nI (a+1))):=M4 (λe=>hj e.symm) a1.tag rfl;have b8:=e5.upd a3 zo zo;have d6:=e9.upd a3 zo zo;generalize w6.setCell ⟨rb,1,none⟩ (nI (a+1))=w7 at *;refine zh ?_;refine zvH (RV.ld a2.r3 rfl) ?_;apply ak (j:=3) a2 rfl (Mn _) rfl rfl rfl rfl;have a8:=a2.rOp (a'-1);have a5:L8 (λk=>k=j) O5 w7 O5 (w7.setCell ⟨rb,3,none⟩ (nI (a'-1))):=M4 (λe=>hj e.symm) a2.tag rfl;have b0:=b8.upd a5 zo zo;have d5:=d6.upd a5 zo zo;generalize w7.setCell ⟨rb,3,none⟩ (nI (a'-1))=w8 at *;have e0:=(b2.trans (a3.pj a0)).trans (a5.pj a0);refine zh ?_;apply zv (ai (us:=aX x) d5.cellsAdd (L2 _) (ix _) rfl);apply zsb (us:=#[nI x.1,nI x.2.1,x.2.2]) b0 (ix _) (bX b7);have c':=LW (us:=#[nI x.1,nI x.2.1,x.2.2]) b0;have a9:L8 (λk=>k=T) O5 w8 O5 (LO w8 xb #[nI x.1,nI x.2.1,x.2.2]):=L3 zo (LY b0) rfl;have d9:=a8.upd a9 hj zo;have c6:=e0.trans (a9.pT hj a0 (L0 _));refine zh ?_
   refine aL rfl rfl c'.cellsAdd (L2 _) (ix _) ⟨x,rfl,c6.priv hT hj,?_⟩;rw[hM];exact⟨b7,a+1,a'-1,d9.fgt h.tag,zo,zo,zo,zo⟩
  |ok t r2=>
   rw[hf]at b9 c8;obtain⟨a1,hn⟩:=c8;replace a1:Mc O5 w6 j rb (rdr kv l ((l.length:Int)-(r2.length:Int)) (op+1) 0 0) 250:=a1;have e8:=b9.1.trans e7;have g0:=(bz r2).trans e8;have hq2l:=g0.length_le;refine zh ?_;refine zvH (RV.ld a1.r5 rfl) ?_;apply au (d:=39) rfl (b':=true) rfl;refine zh ?_;apply zc Ni (gC O5 w6 j rb l r2 (op+1) 0 0 hj e8 zo a1);rintro v w7 ⟨rfl,a2,a3⟩;have b8:=e5.upd a3 zo zo;have d6:=e9.upd a3 zo zo;have h2:=h3.upd a3;have b1:=b2.trans (a3.pj a0);have d4:=hn.upd a3;refine zh ?_
   by_cases hc:(aw r2).headD 0=41
   ·have hM:cM (some f) r=.ok t (aw r2).tail:=by unfold cM;dsimp only;rw[hf];dsimp only;rw[if_pos hc]
    obtain⟨g1,g2⟩:=cI (r:=aw r2) (by rw[hc];decide);refine zFH rfl ((by rw[hc];rfl)) ?_;refine zvH (RV.ld a2.r1 rfl) ?_;apply ak (j:=1) a2 rfl (Mn _) rfl rfl rfl rfl;rw[show((l.length:Int)-((aw r2).length:Int))+1=(l.length:Int)-((aw r2).tail.length:Int)from by omega];have a8:=BlkO.rAt a2 ((l.length:Int)-((aw r2).tail.length:Int));have a5:L8 (λk=>k=j) O5 w7 O5 (M8 w7 ⟨rb,1,none⟩ (nI ((l.length:Int)-((aw r2).tail.length:Int)))):=M4 (λe=>hj e.symm) (LY a2) rfl;have b0:=b8.upd a5 zo zo;have d5:=d6.upd a5 zo zo;have d3:=d4.upd a5;generalize M8 w7 ⟨rb,1,none⟩ (nI ((l.length:Int)-((aw r2).tail.length:Int)))=w8 at *;refine zh ?_;refine zvH (RV.ld a8.r3 rfl) ?_;apply ak (j:=3) a8 rfl (Mn _) rfl rfl rfl rfl;rw[show op+1-1=op from by omega];have g8:=a8.rOp op;have c7:L8 (λk=>k=j) O5 w8 O5 (w8.setCell ⟨rb,3,none⟩ (nI op)):=M4 (λe=>hj e.symm) a8.tag rfl;have d0:=b0.upd c7 zo zo;have g6:=d5.upd c7 zo zo;have d2:=d3.upd c7;generalize w8.setCell ⟨rb,3,none⟩ (nI op)=w9 at *;have d':=(b1.trans (a5.pj a0)).trans (c7.pj a0);refine zh ?_;apply zv (ai (us:=aX x) g6.cellsAdd (L2 _) (ix _) rfl);apply zsb (us:=#[nI x.1,nI x.2.1,x.2.2]) d0 (ix _) (bX b7);have c':=LW (us:=#[nI x.1,nI x.2.1,x.2.2]) d0;have a9:L8 (λk=>k=T) O5 w9 O5 (LO w9 xb #[nI x.1,nI x.2.1,x.2.2]):=L3 zo (LY d0) rfl
    have d9:=g8.upd a9 hj zo;have c6:=d'.trans (a9.pT hj a0 (L0 _));refine zh ?_;refine aL rfl rfl c'.cellsAdd (L2 _) (ix _) ⟨x,rfl,c6.priv hT hj,?_⟩;rw[hM];exact⟨d9.fgt h.tag,(d2.upd a9).low c6⟩
   have hM:cM (some f) r=.bad (aw r2).length 4:=by unfold cM;dsimp only;rw[hf];dsimp only;rw[if_neg hc]
   refine zTH rfl ((sZ _ 41 zd hc)) ?_;apply zv (RV.ld a2.r1 rfl)
   apply zc Nh (gL _ O5 w7 j rb l _ _ 0 ((l.length:Int)-((aw r2).length:Int)) 4 hj h2 a2);rintro v wf ⟨rfl,d8,b6⟩;have a6:=b8.upd b6 zo zo;apply zsa (us:=#[nI 0,nI 0,nS]) a6 (ix _)
   have c9:=a6.setRow (us:=#[nI 0,nI 0,nS]);have b5:L8 (λk=>k=T) O5 wf O5 (wf.setRow xb #[nI 0,nI 0,nS]):=L3 zo a6.tag rfl;have hbg:=d8.upd b5 hj zo;refine zh ?_;refine aL rfl rfl c9.cellsAdd (L2 _) (ix _) ⟨(0,0,nS),rfl,((b1.trans (b6.pj a0)).trans (b5.pT hj a0 (L0 _))).priv hT hj,?_⟩;rw[hM];exact⟨rfl,_,op+1,hbg.fgt h.tag,zo,zo,zo,zo⟩
theorem Gm(al:Option (List UInt8->PR))(op:Int)(b4:0<=op/\op<=20)(ha:vQ kv kn al op)(hg:nD al):Reads kv kn 261 [] op (jw kn al) (λ_=>True):=by
 intro B O j rb l r w hR hj hr hl c9 h b5;obtain⟨T,a1,hT⟩:=hR.bound;have d6:j<T:=by rw[<-h.tag];exact hT rb
 have d4:=hr.length_le;apply L4 func261 ntmps261 rfl rfl;refine zh ?_;apply ar hR T zo (L5 _) rfl;intro xb w1 O1 c8 c6 d3 d7;have d1:=h.upd c6 hj zo;have b7:=c6.pT hj a1 (L0 _);have hq:=(bz r).trans hr;have d5:=hq.length_le;refine zh ?_;apply zc Ni (gC O1 w1 j rb l r op 0 0 hj hr zo d1);rintro v w2 ⟨rfl,a2,b8⟩;have b1:=c8.upd b8 zo zo;have b2:=d3.upd b8;have a0:=b7.trans (b8.pj a1);refine zh ?_;apply zc Pe (jd ((aw r).headD 0) w2);rintro v w9 ⟨rfl,b9⟩;rw[b9];clear b9 w9;refine zh ?_
 by_cases h1:aj ((aw r).headD 0)=true
 ·have hM:jw kn al r=gU kn (aw r):=by unfold jw;rw[if_pos h1]
  rw[hM];refine zTH rfl h1 ?_;apply zc call267 (CC op b4 B O1 j rb l (aw r) w2 b2 hj hq hl h1 a2 (b5.upd a0));rintro v wc ⟨x,rfl,a6,a7⟩;have a8:=a7.one;have a3:=LX b1 a6 zo zo;apply zsb (us:=#[nI x.1,nI x.2.1,x.2.2]) a3 (ix _) (bX a8);have a9:=LW (us:=#[nI x.1,nI x.2.1,x.2.2]) a3;have a4:L8 (λk=>k=T) O1 wc O1 (LO wc xb #[nI x.1,nI x.2.1,x.2.2]):=L3 zo (LY a3) rfl;have a5:=(a0.trans (a6.pj a1)).trans (a4.pT hj a1 (L0 _));refine zh ?_;refine aL rfl rfl a9.cellsAdd (L2 _) (ix _) ⟨x,rfl,a5.priv hT hj,(a7.upd a4 hj zo).low a5 h.tag⟩
 refine zFH rfl ((by simpa using h1)) ?_
 by_cases h2:(aw r).headD 0=126
 ·have hM:jw kn al r=ee 2 (aw r).tail:=by unfold jw;rw[if_neg h1,if_pos h2]
  obtain⟨k1,k2⟩:=cI (r:=aw r) (by rw[h2];decide);rw[hM];refine zTH rfl ((by rw[h2];rfl)) ?_;refine zvH (RV.ld a2.r1 rfl) ?_;apply ak (j:=1) a2 rfl (Mn _) rfl rfl rfl rfl;rw[show((l.length:Int)-((aw r).length:Int))+1=(l.length:Int)-((aw r).tail.length:Int)from by omega];have b6:=BlkO.rAt a2 ((l.length:Int)-((aw r).tail.length:Int));have a':L8 (λk=>k=j) O1 w2 O1 (M8 w2 ⟨rb,1,none⟩ (nI ((l.length:Int)-((aw r).tail.length:Int)))):=M4 (λe=>hj e.symm) (LY a2) rfl;have b0:=b1.upd a' zo zo;have d2:=b2.upd a';refine zh ?_;apply zc call268 (vA 2 op b4 B O1 j rb l (aw r).tail _ d2 hj (k1.trans hq) hl trivial b6 (b5.upd (a0.trans (a'.pj a1))));rintro v wc ⟨x,rfl,a6,a7⟩;have a8:=a7.one;have a3:=LX b0 a6 zo zo;apply zsb (us:=#[nI x.1,nI x.2.1,x.2.2]) a3 (ix _) (bX a8);have a9:=LW (us:=#[nI x.1,nI x.2.1,x.2.2]) a3;have a4:L8 (λk=>k=T) O1 wc O1 (LO wc xb #[nI x.1,nI x.2.1,x.2.2]):=L3 zo (LY a3) rfl;have a5:=((a0.trans (a'.pj a1)).trans (a6.pj a1)).trans (a4.pT hj a1 (L0 _));refine zh ?_;refine aL rfl rfl a9.cellsAdd (L2 _) (ix _) ⟨x,rfl,a5.priv hT hj,(a7.upd a4 hj zo).low a5 h.tag⟩
 refine zFH rfl ((eJ _ 126 zd h2)) ?_
 by_cases h3:(aw r).headD 0=94
 ·have hM:jw kn al r=.ok (.mk 3 0 []) (aw r).tail:=by unfold jw;rw[if_neg h1,if_neg h2,if_pos h3]
  obtain⟨k1,k2⟩:=cI (r:=aw r) (by rw[h3];decide);rw[hM];refine zTH rfl ((by rw[h3];rfl)) ?_;refine zvH (RV.ld a2.r1 rfl) ?_;apply ak (j:=1) a2 rfl (Mn _) rfl rfl rfl rfl;rw[show((l.length:Int)-((aw r).length:Int))+1=(l.length:Int)-((aw r).tail.length:Int)from by omega];have b6:=BlkO.rAt a2 ((l.length:Int)-((aw r).tail.length:Int));have a':L8 (λk=>k=j) O1 w2 O1 (M8 w2 ⟨rb,1,none⟩ (nI ((l.length:Int)-((aw r).tail.length:Int)))):=M4 (λe=>hj e.symm) (LY a2) rfl;have b0:=b1.upd a' zo zo;have a8:((3,0,nS):N3).2.2.oneCell'=true:=rfl;refine zh ?_;apply zv (aF kR (L5 _) rfl (by first|rfl|(simp only[L6,h.one];rfl)) rfl rfl);apply zsb (us:=#[nI ((3,0,nS):N3).1,nI ((3,0,nS):N3).2.1,((3,0,nS):N3).2.2]) b0 (ix _) (bX a8);have a9:=LW (us:=#[nI ((3,0,nS):N3).1,nI ((3,0,nS):N3).2.1,((3,0,nS):N3).2.2]) b0;have a4:L8 (λk=>k=T) O1 (M8 w2 ⟨rb,1,none⟩ (nI ((l.length:Int)-((aw r).tail.length:Int)))) O1 (LO (M8 w2 ⟨rb,1,none⟩ (nI ((l.length:Int)-((aw r).tail.length:Int)))) xb #[nI ((3,0,nS):N3).1,nI ((3,0,nS):N3).2.1,((3,0,nS):N3).2.2]):=L3 zo (LY b0) rfl;have d0:=b6.upd a4 hj zo;have a5:=(a0.trans (a'.pj a1)).trans (a4.pT hj a1 (L0 _));refine zh ?_;refine aL rfl rfl a9.cellsAdd (L2 _) (ix _) ⟨(3,0,nS),rfl,a5.priv hT hj,d0.fgt h.tag,Pu _ _ _ _⟩
 refine zFH rfl ((eJ _ 94 zd h3)) ?_
 by_cases h4:(aw r).headD 0=40
 ·have hM:jw kn al r=cM al (aw r):=by unfold jw;rw[if_neg h1,if_neg h2,if_neg h3,if_pos h4]
  rw[hM];refine zTH rfl ((by rw[h4];rfl)) ?_;apply zc call269 (vE al op b4 ha hg B O1 j rb l (aw r) w2 b2 hj hq hl (show(aw r).headD 0≠0 by rw[h4];decide) a2 (b5.upd a0));rintro v wc ⟨x,rfl,a6,a7⟩;have a8:=a7.one;have a3:=LX b1 a6 zo zo;apply zsb (us:=#[nI x.1,nI x.2.1,x.2.2]) a3 (ix _) (bX a8);have a9:=LW (us:=#[nI x.1,nI x.2.1,x.2.2]) a3;have a4:L8 (λk=>k=T) O1 wc O1 (LO wc xb #[nI x.1,nI x.2.1,x.2.2]):=L3 zo (LY a3) rfl;have a5:=(a0.trans (a6.pj a1)).trans (a4.pT hj a1 (L0 _));refine zh ?_;refine aL rfl rfl a9.cellsAdd (L2 _) (ix _) ⟨x,rfl,a5.priv hT hj,(a7.upd a4 hj zo).low a5 h.tag⟩
 have hM:jw kn al r=.bad (aw r).length 4:=by unfold jw;rw[if_neg h1,if_neg h2,if_neg h3,if_neg h4]
 rw[hM];refine zFH rfl ((eJ _ 40 zd h4)) ?_;apply zv (RV.ld a2.r1 rfl);apply zc Nh (gL _ O1 w2 j rb l _ _ 0 ((l.length:Int)-((aw r).length:Int)) 4 hj b2 a2);rintro v wf ⟨rfl,c',c5⟩;have b3:=b1.upd c5 zo zo;apply zsa (us:=#[nI 0,nI 0,nS]) b3 (ix _);have c7:=b3.setRow (us:=#[nI 0,nI 0,nS]);have b':L8 (λk=>k=T) O1 wf O1 (wf.setRow xb #[nI 0,nI 0,nS]):=L3 zo b3.tag rfl;have hbg:=c'.upd b' hj zo;refine zh ?_;refine aL rfl rfl c7.cellsAdd (L2 _) (ix _) ⟨(0,0,nS),rfl,((a0.trans (c5.pj a1)).trans (b'.pT hj a1 (L0 _))).priv hT hj,?_⟩;exact⟨rfl,_,op,hbg.fgt h.tag,zo,zo,zo,zo⟩
end
section
variable{kv:L1}{kn:Kn}
theorem Iz(c:UInt8):tG [42,43,63] c=match opM c with|some k=>(k:Nat)|none=>-1:=by
 unfold tG opM
 by_cases h1:c=42
 ·subst h1;rfl
 by_cases h2:c=43
 ·subst h2;rfl
 by_cases h3:c=63
 ·subst h3;rfl
 rw[if_neg h1,if_neg h2,if_neg h3];have:[(42:UInt8),43,63].findIdx? (· == c)=none:=by
  rw[MF];intro x hx;simp at hx
  rcases hx with rfl|rfl|rfl<;>simp<;>intro e<;>first|exact h1 e.symm|exact h2 e.symm|exact h3 e.symm
 rw[this]
theorem uI(al:Option (List UInt8 → PR))(op:Int)(hop:0 ≤ op ∧ op ≤ 20)(ha:vQ kv kn al op)(hg:nD al): Reads kv kn 244 [] op (fy kn al) (fun _ => True) := by
  intro B O j rb l r w hR hj hr hl hpre h hkn
  obtain⟨T, hT0, hT⟩ := hR.bound
  have hjT:j < T := by rw[← h.tag]; exact hT rb
  have hrl := hr.length_le
  refine L4 func244 ntmps244 rfl rfl ?_
  refine zh ?_
  refine ar hR T (by omega) (L5 _) rfl ?_
  intro xb w1 O1 hx1 hU1 hR1 hE1
  have hb1 := h.upd hU1 hj (by omega)
  have hUt1 := hU1.pT hj hT0 (L0 _)
  have hga := rq (kn := kn) hg r
  refine zh ?_
  refine zc call261 (Gm al op hop ha hg B O1 j rb l r w1 hR1 hj hr hl trivial hb1 (hkn.upd hUt1)) ?_
  rintro v w2 ⟨x, rfl, hU2, hP2⟩
  have hxo := hP2.one
  have hx2 := hx1.upd hU2 (by omega) (by omega)
  have hR2 := hR1.upd hU2
  have hUt2 := hUt1.trans (hU2.pj hT0)
  refine ar hR2 (T + 1) (by omega) (L5 _) rfl ?_
  intro nb w3 O3 hn3 hU3 hR3 hE3
  refine zsb (us := #[.int .i64 x.1, .int .i64 x.2.1, x.2.2]) hn3 (ix _) (bX hxo) ?_
  have hn4 := hn3.setRow (us := #[.int .i64 x.1, .int .i64 x.2.1, x.2.2])
  have hU4:L8 (fun k => k = T + 1) O3 w3 O3 (w3.setRow nb #[.int .i64 x.1, .int .i64 x.2.1, x.2.2]) := L3 (by omega) hn3.tag rfl
  have hU34 := hU3.trans hU4
  have hx4 := hx2.upd hU34 (by omega) (by omega)
  have hP4 := hP2.upd hU34 hj (by omega)
  have hR4 := hR2.upd hU34
  have hUt4 := hUt2.trans (hU34.pT hj hT0 (Mp _))
  generalize w3.setRow nb #[.int .i64 x.1, .int .i64 x.2.1, x.2.2] = w4 at *
  cases hf:jw kn al r with
  |bad p e =>
    rw[hf]at hga hP4
    have hM:fy kn al r = .bad p e := by unfold fy; rw[hf]
    have hP5 := hP4
    obtain⟨g1, a, op', hb4, g2, g3, g4, g5⟩ := hP4
    replace hb4:Mc O3 w4 j rb (rdr kv l a op' ((l.length:Int) - (p:Int)) e) 250 := hb4
    refine zh ?_
    refine zvH (RV.ld hb4.r5 rfl) ?_
    refine zTH rfl ((by simpa using hga.2)) ?_
    refine zv (ai (us := aX x) hn4.cellsAdd (L2 _) (ix _) rfl) ?_
    refine zsb (us := #[.int .i64 x.1, .int .i64 x.2.1, x.2.2]) hx4 (ix _) (bX hxo) ?_
    have hxd := LW (us := #[.int .i64 x.1, .int .i64 x.2.1, x.2.2]) hx4
    have hUd:L8 (fun k => k = T) O3 w4 O3 (LO w4 xb #[.int .i64 x.1, .int .i64 x.2.1, x.2.2]) := L3 (by omega) (LY hx4) rfl
    have hUz := hUt4.trans (hUd.pT hj hT0 (L0 _))
    refine zh ?_
    refine aL rfl rfl (hxd.cellsAdd) (L2 _) (ix _) (⟨x, rfl, hUz.priv hT hj, ?_⟩)
    rw[hM]
    exact(hP5.upd hUd hj (by omega)).low hUz h.tag
  |ok t r1 =>
    rw[hf]at hga hP4
    obtain⟨hb4, hnt4⟩ := hP4
    replace hb4:Mc O3 w4 j rb (rdr kv l ((l.length:Int) - (r1.length:Int)) op 0 0) 250 := hb4
    have hr1 := hga.1.trans hr
    have hq1 := (bz r1).trans hr1
    have hql := hq1.length_le
    refine zh ?_
    refine zvH (RV.ld hb4.r5 rfl) ?_
    refine zFH rfl rfl ?_
    refine zc Ni (gC O3 w4 j rb l r1 op 0 0 hj hr1 (by omega) hb4) ?_
    rintro v w5 ⟨rfl, hb5, hU5⟩
    have hx5 := hx4.upd hU5 (by omega) (by omega)
    have hn5 := hn4.upd hU5 (by omega) (by omega)
    have hR5 := hR4.upd hU5
    have hUt5 := hUt4.trans (hU5.pj hT0)
    have hnt5 := hnt4.upd hU5
    refine zc call44 (dW [42, 43, 63] ((aw r1).headD 0) w5) ?_
    rintro v w9 ⟨rfl, hw9⟩
    rw[hw9, Iz]
    clear hw9 w9
    have hb6 := hb5.drew
    have hx6 := hx5.drew
    have hn6 := hn5.drew
    have hnt6 := hnt5.drew
    have hUt6 := hUt5.drew
    have hR6 := hR5.drew
    refine zh ?_
    refine MP (by kernel_rfl) (by kernel_rfl) ?_
    refine zh ?_
    refine zwH (RV.ld hb6.r1 rfl) ?_
    refine zw (RV.ld hb6.r0 rfl) ?_
    refine zwH (bO Ma rfl) ?_
    cases hk:opM ((aw r1).headD 0)with
    |none =>
      have hM:fy kn al r = .ok t (aw r1) := by unfold fy; rw[hf]; dsimp only; rw[hk]
      by_cases hq0:(aw r1).length = 0
      · skip
        refine cV (d := 30) rfl (b' := true) ((beq_iff_eq.2 (by omega))) ?_
        generalize w5.drew = w6 at *
        refine zh ?_
        refine zw (aV rfl rfl) ?_
        refine MJ ?_
        refine zh ?_
        refine zTH rfl rfl ?_
        refine zv (ai (us := aX x) hn6.cellsAdd (L2 _) (ix _) rfl) ?_
        refine zsb (us := #[.int .i64 x.1, .int .i64 x.2.1, x.2.2]) hx6 (ix _) (bX hxo) ?_
        have hxd := LW (us := #[.int .i64 x.1, .int .i64 x.2.1, x.2.2]) hx6
        have hUd:L8 (fun k => k = T) O3 w6 O3 (LO w6 xb #[.int .i64 x.1, .int .i64 x.2.1, x.2.2]) := L3 (by omega) (LY hx6) rfl
        have hUz := hUt6.trans (hUd.pT hj hT0 (L0 _))
        have hbd := hb6.upd hUd hj (by omega)
        refine zh ?_
        refine aL rfl rfl (hxd.cellsAdd) (L2 _) (ix _) (⟨x, rfl, hUz.priv hT hj, ?_⟩)
        rw[hM]
        exact⟨hbd.fgt h.tag, (hnt6.upd hUd).low hUz⟩
      · skip
        refine cV (d := 30) rfl (b' := false) ((beq_eq_false_iff_ne.2 (by omega))) ?_
        refine zh ?_
        refine zw (aG rfl rfl) ?_
        refine MJ ?_
        refine zh ?_
        refine aP rfl rfl ?_
        generalize w5.drew = w6 at *
        refine zh ?_
        refine zv (ai (us := aX x) hn6.cellsAdd (L2 _) (ix _) rfl) ?_
        refine zsb (us := #[.int .i64 x.1, .int .i64 x.2.1, x.2.2]) hx6 (ix _) (bX hxo) ?_
        have hxd := LW (us := #[.int .i64 x.1, .int .i64 x.2.1, x.2.2]) hx6
        have hUd:L8 (fun k => k = T) O3 w6 O3 (LO w6 xb #[.int .i64 x.1, .int .i64 x.2.1, x.2.2]) := L3 (by omega) (LY hx6) rfl
        have hUz := hUt6.trans (hUd.pT hj hT0 (L0 _))
        have hbd := hb6.upd hUd hj (by omega)
        refine zh ?_
        refine aL rfl rfl (hxd.cellsAdd) (L2 _) (ix _) (⟨x, rfl, hUz.priv hT hj, ?_⟩)
        rw[hM]
        exact⟨hbd.fgt h.tag, (hnt6.upd hUd).low hUz⟩
    |some k =>
      have hM:fy kn al r = .ok (.mk (6 + (k:Nat)) 0 [t]) (aw r1).tail := by unfold fy; rw[hf]; dsimp only; rw[hk]
      obtain⟨k1, k2⟩ := cI (GF hk)
      have hk3:k ≤ 2 := by
        unfold opM at hk
        (repeat' split at hk) <;> simp at hk <;> omega
      refine cV (d := 30) rfl (b' := false) ((beq_eq_false_iff_ne.2 (by omega))) ?_
      refine zh ?_
      refine zw (aG rfl rfl) ?_
      refine MJ ?_
      refine zh ?_
      refine aI rfl ((decide_eq_false (by simp))) ?_
      generalize w5.drew = w6 at *
      refine zh ?_
      refine zvH (RV.ld hb6.r1 rfl) ?_
      refine ak (j := 1) hb6 rfl (Mn _) rfl rfl rfl rfl ?_
      rw[show((l.length:Int) - ((aw r1).length:Int)) + 1 = (l.length:Int) - ((aw r1).tail.length:Int)from by omega]
      have hb7 := BlkO.rAt hb6 ((l.length:Int) - ((aw r1).tail.length:Int))
      have hU7:L8 (fun k => k = j) O3 w6 O3 (M8 w6 ⟨rb, 1, none⟩ (.int .i64 ((l.length:Int) - ((aw r1).tail.length:Int)))) := M4 (fun e => hj e.symm) (LY hb6) rfl
      have hx7 := hx6.upd hU7 (by omega) (by omega)
      have hn7 := hn6.upd hU7 (by omega) (by omega)
      have hR7 := hR6.upd hU7
      have hUt7 := hUt6.trans (hU7.pj hT0)
      have hnt7 := hnt6.upd hU7
      generalize M8 w6 ⟨rb, 1, none⟩ (.int .i64 ((l.length:Int) - ((aw r1).tail.length:Int))) = w7 at *
      refine zh ?_
      refine zv (RV.add rfl rfl (Fit.i64 (by dsimp only; omega))) ?_
      refine zv (ai (us := aX x) hn7.cellsAdd (L2 _) (ix _) rfl) ?_
      refine aU elN (enc := aX) x rfl rfl rfl (by decide) rfl ?_
      intro w8 h8 hE8
      have hX8:L8 (fun _ => False) O3 w7 O3 w8 := ae (fun h => h) O3 hE8
      have hx8 := hx7.upd hX8 (by omega) (fun h => h)
      have hb8 := hb7.upd hX8 hj (fun h => h)
      have hUt8 := hUt7.trans (jF O3 hE8 hj hT0)
      have hnt8 := hnt7.upd hX8
      have hfr:Nq O3 w8 (.slice (some ⟨w7.heap.size, 0, none⟩) 1 1) := fun a n c e _ => by
        cases e
        refine⟨Md fun hne => by have := (hR7.rng _ hne).2; simp at this, ?_⟩
        obtain⟨_, _, e, _, _, hh⟩ := h8.shape
        have hc := Nr _ _ (h8.cells 0 (by simp) 0 _ rfl)
        simpa[adr, NB]using hc
      have hN:Nt O3 w8 (.mk (6 + (k:Nat)) 0 [t]) (6 + (k:Nat), 0, .slice (some ⟨w7.heap.size, 0, none⟩) 1 1) :=
        .mk (xs := [x]) h8 hfr rfl (fun i hi => by obtain rfl : i = 0 := by simpa using hi
                                                   rw[ao, ao]; exact hnt8)
      have hxo2:((6 + (k:Nat), 0, .slice (some ⟨w7.heap.size, 0, none⟩) 1 1):N3).2.2.oneCell' = true := rfl
      clear hxo
      have hxo := hxo2
      refine zv (aF kR (L5 _) rfl (by first | rfl | (simp only[L6, LP]; rfl)) rfl rfl) ?_
      refine zsb (us := #[.int .i64 ((6 + (k:Nat), 0, .slice (some ⟨w7.heap.size, 0, none⟩) 1 1):N3).1, .int .i64 ((6 + (k:Nat), 0, .slice (some ⟨w7.heap.size, 0, none⟩) 1 1):N3).2.1, ((6 + (k:Nat), 0, .slice (some ⟨w7.heap.size, 0, none⟩) 1 1):N3).2.2]) hx8 (ix _) (bX hxo) ?_
      have hxd := LW (us := #[.int .i64 ((6 + (k:Nat), 0, .slice (some ⟨w7.heap.size, 0, none⟩) 1 1):N3).1, .int .i64 ((6 + (k:Nat), 0, .slice (some ⟨w7.heap.size, 0, none⟩) 1 1):N3).2.1, ((6 + (k:Nat), 0, .slice (some ⟨w7.heap.size, 0, none⟩) 1 1):N3).2.2]) hx8
      have hUd:L8 (fun k => k = T) O3 w8 O3 (LO w8 xb #[.int .i64 ((6 + (k:Nat), 0, .slice (some ⟨w7.heap.size, 0, none⟩) 1 1):N3).1, .int .i64 ((6 + (k:Nat), 0, .slice (some ⟨w7.heap.size, 0, none⟩) 1 1):N3).2.1, ((6 + (k:Nat), 0, .slice (some ⟨w7.heap.size, 0, none⟩) 1 1):N3).2.2]) := L3 (by omega) (LY hx8) rfl
      have hUz := hUt8.trans (hUd.pT hj hT0 (L0 _))
      have hbd := hb8.upd hUd hj (by omega)
      refine zh ?_
      refine aL rfl rfl (hxd.cellsAdd) (L2 _) (ix _) (⟨_, rfl, hUz.priv hT hj, ?_⟩)
      rw[hM]
      exact⟨hbd.fgt h.tag, (hN.upd hUd).low hUz⟩
end
section
variable{kv:L1}{kn:Kn}
theorem Bc(c:UInt8)(w:ln):MB LZ 245 [.int .u8 (c.toNat:Int)] w λv w'=>v=.bool (fN c)/\w'=w:=by
 apply L4 func245 ntmps245 rfl rfl;refine zh ?_
 apply zc Pe (jd c w);rintro v w9 ⟨rfl,a0⟩;rw[a0];clear a0 w9;refine zh ?_
 cases h1:aj c with
 |true=>
  apply au (d:=5) rfl (b':=true) rfl;refine zh ?_
  refine af rfl rfl ⟨by simp[fN,h1],rfl⟩
 |false=>
  apply au (d:=5) rfl (b':=false) rfl;refine zh ?_
  by_cases h2:c=126
  ·apply au (d:=9) rfl (b':=true) ((by rw[h2];rfl));refine zh ?_
   refine af rfl rfl ⟨by simp[fN,h2],rfl⟩
  apply au (d:=9) rfl (b':=false) ((eJ _ 126 zd h2));refine zh ?_
  by_cases h3:c=94
  ·apply au (d:=13) rfl (b':=true) ((by rw[h3];rfl));refine zh ?_
   refine af rfl rfl ⟨by simp[fN,h3],rfl⟩
  apply au (d:=13) rfl (b':=false) ((eJ _ 94 zd h3));refine zh ?_
  have e:=fE c 40 zd;refine af rfl rfl ⟨?_,rfl⟩;have e2:fN c=decide (c=40):=by simp[fN,h1,h2,h3]
  rw[e2];exact congrArg Value.bool e
def PR.andThen(M:PR)(f:Nd->List UInt8->PR):PR:=match M with | .bad p e=>.bad p e | .ok t r=>f t r
def LoopS(kv:L1)(op:Int)(l:List UInt8)(j rb:Nat)(F:Nat->List Nd->List UInt8->PR)(M:PR)(O:Nat->Nat)(w:ln)(n:Nat)(r1:List UInt8)(ts:List Nd)(xs:List N3):Prop:=
 (Rdr kv O w j rb l ((l.length:Int)-(r1.length:Int)) op 0 0/\r1 <:+ l/\r1.length<n/\xs.length+n<=5000/\ts.length=xs.length/\(∀i,i<xs.length->Nt O w (nth ts i) (nth xs i))/\F n ts r1=M)\/
 (∃p e a op',M=.bad p e/\e≠0/\Rdr kv O w j rb l a op' ((l.length:Int)-(p:Int)) e/\0<=a/\a<=l.length+20-op/\op<=op'/\op'<=20)
theorem LoopS.upd{op:Int}{l:List UInt8}{j rb:Nat}{F:Nat->List Nd->List UInt8->PR}{M:PR}{O O':Nat->Nat}{w w':ln}{n:Nat}{r1:List UInt8}{ts:List Nd}{xs:List N3}{S:Nat->Prop}(h:LoopS kv op l j rb F M O w n r1 ts xs)(u:L8 S O w O' w')(hj:j≠0)(hS:¬S j):LoopS kv op l j rb F M O' w' n r1 ts xs:=by
 rcases h with⟨h1,h2,h3,h4,h5,h6,h7⟩|⟨p,e,a,o,h1,h2,h3,h4⟩
 ·exact .inl ⟨LX h1 u hj hS,h2,h3,h4,h5,λi hi=>(h6 i hi).upd u,h7⟩
 exact .inr ⟨p,e,a,o,h1,h2,LX h3 u hj hS,h4⟩
theorem LoopS.next{F:Nat->List Nd->List UInt8->PR}{M M':PR}{q r1:List UInt8}{ts:List Nd}{xs:List N3}{x:N3}(hP:PostE kv O w j rb l op x M')(hG:Good q M')(hq:q <:+ l)(a0:q.length<=r1.length)(h3:r1.length<n+1)(h4:xs.length+(n+1)<=5000)(h5:ts.length=xs.length) 
  (h6:∀i,i<xs.length->Nt O w (nth ts i) (nth xs i)) (h7:F (n+1) ts r1=M) (hF:F (n+1) ts r1=M'.andThen λt r2=>F n (ts++[t]) r2):∃n' r' ts',n'<n+1/\LoopS kv op l j rb F M O w n' r' ts' (xs++[x]):=by
 cases M' with
 |bad p e=>
  obtain⟨g1,a,o,g2,g3⟩:=hP;exact⟨0,[],[],zo,.inr ⟨p,e,a,o,by rw[<-h7,hF];rfl,hG.2,g2,g3⟩⟩
 |ok t r2=>
  refine⟨n,r2,ts++[t],zo,.inl ⟨hP.1,hG.1.trans hq,by have:=hG.2;omega,by simp;omega,by simp[h5],λi hi=>?_,by rw[<-h7,hF];rfl⟩⟩;simp only[M6,MW]at hi
  by_cases e:i<xs.length
  ·rw[aB (by simp;omega),aB (by simp;omega),M5 zo,M5 e,<-aB zo,<-aB e];exact h6 i e
  obtain rfl:i=xs.length:=zo;rw[aB (by simp;omega),aB (by simp),Mg zo,Mg zo];simp[h5];exact hP.2
theorem pL{F:Nat->List Nd->List UInt8->PR}{M M':PR}{r:List UInt8}{x:N3}(hP:PostE kv O w j rb l op x M')(hG:Good r M')(hr:r <:+ l)(hl:l.length<=4096)(hF:M=M'.andThen λt r2=>F (r2.length+1) [t] r2):∃n' r' ts',LoopS kv op l j rb F M O w n' r' ts' [x]:=by
 cases M' with
 |bad p e=>
  obtain⟨g1,a,o,g2,g3⟩:=hP;exact⟨0,[],[],.inr ⟨p,e,a,o,hF,hG.2,g2,g3⟩⟩
 |ok t r2=>
  have:=hr.length_le;refine⟨r2.length+1,r2,[t],.inl ⟨hP.1,hG.1.trans hr,zo,by have:=hG.2;simp;omega,rfl,λi hi=>?_,hF.symm⟩⟩;obtain rfl:i=0:=by simpa using hi
  rw[ao,ao];exact hP.2
theorem Nt.oneM{O O':Nat->Nat}{w w':ln}{k:Int}{ts:List Nd}{xs:List N3}{lv:L1}{T U B:Nat}{S:Nat->Prop}(a0:ME aX 120 3 O' w' U lv xs)(a1:T<=U)(a2:0<T)(hT:∀b,O b<T)(r:MK B O' w')(u:L8 S O w O' w')(h5:ts.length=xs.length)(h6:∀i,i<xs.length->Nt O' w' (nth ts i) (nth xs i))(_:1<=xs.length):
  Nt O w' (oneM k ts) (if xs.length=1 then nth xs 0 else(k,0,lv)):=by
 unfold N1
 by_cases e:xs.length=1
 ·rw[if_pos zo,if_pos e];exact(h6 0 zo).low u
 rw[if_neg zo,if_neg e];exact .mk a0.sl (a0.freeT zo (λb=>NQ (hT b) a1) r u) h5 (λi hi=>(h6 i hi).low u)
theorem BZ(al:Option (List UInt8->PR))(op:Int)(f3:0<=op/\op<=20)(ha:vQ kv kn al op)(hg:nD al):Reads kv kn 197 [] op (DW kn al) (λ_=>True):=by
 intro B O j rb l r w hR hj hr hl h0 h f5;obtain⟨T,a6,hT⟩:=hR.bound;have i2:j<T:=by rw[<-h.tag];exact hT rb
 have i1:=hr.length_le;apply L4 func197 ntmps197 rfl rfl;refine zh ?_;apply ar hR T zo (L5 _) rfl;intro xb w1 O1 g9 f7 f' i3;have h4:=h.upd f7 hj zo;have b6:=f7.pT hj a6 (L0 _);refine zh ?_;apply zc call244 (uI al op f3 ha hg B O1 j rb l r w1 f' hj hr hl trivial h4 (f5.upd b6));rintro v w2 ⟨x,rfl,e2,g1⟩;have c8:=g1.one;have g8:=g9.upd e2 zo zo;have h':=f'.upd e2;have d9:=b6.trans (e2.pj a6);apply aM elN (enc:=aX) h' (T+1) zo x rfl rfl rfl zd rfl;intro lv w3 O3 b4 e1 h9;have g7:=g8.upd e1 zo zo;have i0:=g1.upd e1 hj zo;have d8:=d9.trans (e1.pT hj a6 (Mp _));have b5:∀i,i<[x].length->(nth [x] i).2.2.oneCell'=true:=λi hi=>by
  obtain rfl:i=0:=by simpa using hi
  rw[ao];exact c8
 obtain⟨n0,r0,g3,h6⟩:=pL (F:=dN kn al) (M:=DW kn al r) i0 (gD (kn:=kn) hg r) hr hl rfl;refine zh ?_;apply zlp (λy:Nat×List UInt8×List Nd×List N3×(Nat->Nat)×World×L1=>[(0,nP rb),(2,nP xb),(3,y.2.2.2.2.2.2)]) (λy=>y.2.2.2.2.2.1) (λy=>Mc y.2.2.2.2.1 y.2.2.2.2.2.1 T xb #[nI 0,nI 0,nS] 120/\ME aX 120 3 y.2.2.2.2.1 y.2.2.2.2.2.1 (T+1) y.2.2.2.2.2.2 y.2.2.2.1/\1<=y.2.2.2.1.length/\(∀i,i<y.2.2.2.1.length->(nth y.2.2.2.1 i).2.2.oneCell'=true)/\L8 (λk=>k=j\/T<=k) O w y.2.2.2.2.1 y.2.2.2.2.2.1/\MK B y.2.2.2.2.1 y.2.2.2.2.2.1/\LoopS kv op l j rb (dN kn al) (DW kn al r) y.2.2.2.2.1 y.2.2.2.2.2.1 y.1 y.2.1 y.2.2.1 y.2.2.2.1) (λy=>y.1) (n0,r0,g3,[x],O3,w3,lv) ⟨g7,b4,L0 _,b5,d8,h9,h6⟩;rintro⟨n,r1,ts,xs,O4,w4,a0⟩ ⟨c',a4,a8,a1,e0,e4,f8⟩;dsimp only at c' a4 a8 a1 e0 e4 f8 ⊢
 rcases f8 with⟨a',e9,h1,h3,f4,g',g2⟩|⟨p,e,a,e5,hM,he,a',d5,d4,d3,d2⟩
 ·have e':=(bz r1).trans e9;have d0:=dL r1;obtain⟨m,rfl⟩:∃m,n=m+1:=⟨n-1,zo⟩
  have c7:dN kn al (m+1) ts r1=if fN ((aw r1).headD 0)=true then((fy kn al (aw r1)).andThen λt r2=>dN kn al m (ts++[t]) r2)else .ok (oneM 4 ts) (aw r1):=rfl
  refine zh ?_;refine zvH (RV.ld a'.r5 rfl) ?_
  apply au (d:=12) rfl (b':=true) rfl;refine zh ?_
  apply zc Ni (gC O4 w4 j rb l r1 op 0 0 hj e9 zo a');rintro v w5 ⟨rfl,f6,b8⟩;have e6:=c'.upd b8 zo zo;have a5:=a4.upd b8 zo zo;have e3:=e4.upd b8;have b0:=e0.trans (b8.pj a6);have e8:∀i,i<xs.length->Nt O4 w5 (nth ts i) (nth xs i):=λi hi=>(g' i hi).upd b8
  refine zh ?_;apply zc call245 (Bc ((aw r1).headD 0) w5)
  rintro v w9 ⟨rfl,e7⟩;rw[e7];clear e7 w9;refine zh ?_
  by_cases hc:fN ((aw r1).headD 0)=true
  ·rw[if_pos hc]at c7;refine zTH rfl hc ?_;apply zc call244 (uI al op f3 ha hg B O4 j rb l (aw r1) w5 e3 hj e' hl trivial f6 (f5.upd b0));rintro v w6 ⟨x6,rfl,b7,g0⟩;have b1:=g0.one;have g6:=e6.upd b7 zo zo;have b3:=a5.upd b7 zo zo;have h8:=e3.upd b7;have d7:=b0.trans (b7.pj a6);apply N9 elN b3 h8 x6 (λ_=>rfl) rfl rfl rfl (eI b1) zo zo zo zd rfl rfl;intro g5 w7 O7 b2 d' h7;obtain⟨n',r',g4,h2,h5⟩:=LoopS.next (F:=dN kn al) g0 (gD (kn:=kn) hg _) e' d0 h1 h3 f4 (λi hi=>(e8 i hi).upd b7) g2 c7;refine zh ?_;refine zx (n',r',g4,xs++[x6],O7,w7,g5) ⟨g6.upd d' zo zo,b2,by simp,λi hi=>?_,d7.trans (d'.pT hj a6 (Mp _)),h7,h5.upd d' hj zo⟩ h2;simp only[M6,MW]at hi
   by_cases e:i<xs.length
   ·rw[aB (by simp;omega),M5 e,<-aB e];exact a1 i e
   obtain rfl:i=xs.length:=zo;rw[aB (by simp)];simpa using b1
  rw[if_neg hc]at c7;refine zFH rfl ((by simpa using hc)) ?_;apply zc Pf (so 4 xs a0 w5 a5.sl a1);rintro v wo ⟨rfl,b9⟩;have a7:L8 (λ_=>False) O4 w5 O4 wo:=ae (λh=>h) O4 b9;have a2:=LX e6 a7 zo (λh=>h);have a3:=NA a5 a7 zo (λh=>h);have f9:=NV e3 a7;have c5:(if xs.length=1 then nth xs 0 else(4,0,a0):N3).2.2.oneCell'=true:=by
   split
   ·exact a1 0 zo
   exact a3.one
  apply zsb (us:=#[nI (if xs.length=1 then nth xs 0 else(4,0,a0):N3).1,nI (if xs.length=1 then nth xs 0 else(4,0,a0):N3).2.1,(if xs.length=1 then nth xs 0 else(4,0,a0):N3).2.2]) a2 (ix _) (bX c5);have c9:=LW (us:=#[nI (if xs.length=1 then nth xs 0 else(4,0,a0):N3).1,nI (if xs.length=1 then nth xs 0 else(4,0,a0):N3).2.1,(if xs.length=1 then nth xs 0 else(4,0,a0):N3).2.2]) a2;have a9:L8 (λk=>k=T) O4 wo O4 (LO wo xb #[nI (if xs.length=1 then nth xs 0 else(4,0,a0):N3).1,nI (if xs.length=1 then nth xs 0 else(4,0,a0):N3).2.1,(if xs.length=1 then nth xs 0 else(4,0,a0):N3).2.2]):=L3 zo (LY a2) rfl;have d6:=b0.trans (jF O4 b9 hj a6);have c6:=d6.trans (a9.pT hj a6 (L0 _));refine zh ?_
  refine aL rfl rfl c9.cellsAdd (L2 _) (ix _) ⟨(if xs.length=1 then nth xs 0 else(4,0,a0)),rfl,c6.priv hT hj,?_⟩;have d1:=(LX f6 a7 hj (λh=>h)).upd a9 hj zo;rw[<-g2,c7];exact⟨d1.fgt h.tag,Nt.oneM (a3.upd a9 zo zo) (Mp T) a6 hT (f9.upd a9) c6 f4 (λi hi=>((e8 i hi).upd a7).upd a9) a8⟩
 replace a':Mc O4 w4 j rb (rdr kv l a e5 ((l.length:Int)-(p:Int)) e) 250:=a';refine zh ?_;refine zvH (RV.ld a'.r5 rfl) ?_;apply au (d:=12) rfl (b':=false) ((by simpa using he));refine zh ?_;refine zFH rfl rfl ?_;apply zc Pf (so 4 xs a0 w4 a4.sl a1);rintro v wo ⟨rfl,b9⟩;have a7:L8 (λ_=>False) O4 w4 O4 wo:=ae (λh=>h) O4 b9;have a2:=LX c' a7 zo (λh=>h);have a3:=NA a4 a7 zo (λh=>h);have f9:=NV e4 a7;have c5:(if xs.length=1 then nth xs 0 else(4,0,a0):N3).2.2.oneCell'=true:=by
  split
  ·exact a1 0 zo
  exact a3.one
 apply zsb (us:=#[nI (if xs.length=1 then nth xs 0 else(4,0,a0):N3).1,nI (if xs.length=1 then nth xs 0 else(4,0,a0):N3).2.1,(if xs.length=1 then nth xs 0 else(4,0,a0):N3).2.2]) a2 (ix _) (bX c5);have c9:=LW (us:=#[nI (if xs.length=1 then nth xs 0 else(4,0,a0):N3).1,nI (if xs.length=1 then nth xs 0 else(4,0,a0):N3).2.1,(if xs.length=1 then nth xs 0 else(4,0,a0):N3).2.2]) a2;have a9:L8 (λk=>k=T) O4 wo O4 (LO wo xb #[nI (if xs.length=1 then nth xs 0 else(4,0,a0):N3).1,nI (if xs.length=1 then nth xs 0 else(4,0,a0):N3).2.1,(if xs.length=1 then nth xs 0 else(4,0,a0):N3).2.2]):=L3 zo (LY a2) rfl;have d6:=e0.trans (jF O4 b9 hj a6);have c6:=d6.trans (a9.pT hj a6 (L0 _));refine zh ?_
 refine aL rfl rfl c9.cellsAdd (L2 _) (ix _) ⟨(if xs.length=1 then nth xs 0 else(4,0,a0)),rfl,c6.priv hT hj,?_⟩;have d1:=(LX a' a7 hj (λh=>h)).upd a9 hj zo;rw[hM];exact⟨c5,a,e5,d1.fgt h.tag,d5,d4,d3,d2⟩
theorem Aa(al:Option (List UInt8->PR))(op:Int)(e9:0<=op/\op<=20)(ha:vQ kv kn al op)(hg:nD al):Reads kv kn 152 [] op (pz kn al) (λ_=>True):=by
 intro B O j rb l r w hR hj hr hl g' h f3;obtain⟨T,a5,hT⟩:=hR.bound;have i1:j<T:=by rw[<-h.tag];exact hT rb
 have i0:=hr.length_le;apply L4 func152 ntmps152 rfl rfl;refine zh ?_;apply ar hR T zo (L5 _) rfl;intro xb w1 O1 g7 f4 f8 i2;have h3:=h.upd f4 hj zo;have b7:=f4.pT hj a5 (L0 _);refine zh ?_;apply zc call197 (BZ al op e9 ha hg B O1 j rb l r w1 f8 hj hr hl trivial h3 (f3.upd b7));rintro v w2 ⟨x,rfl,e3,f'⟩;have c9:=f'.one;have g6:=g7.upd e3 zo zo;have h9:=f8.upd e3;have d':=b7.trans (e3.pj a5);apply aM elN (enc:=aX) h9 (T+1) zo x rfl rfl rfl zd rfl;intro lv w3 O3 b3 e2 h8;have g5:=g6.upd e2 zo zo;have h':=f'.upd e2 hj zo;have d9:=d'.trans (e2.pT hj a5 (Mp _));have b4:∀i,i<[x].length->(nth [x] i).2.2.oneCell'=true:=λi hi=>by
  obtain rfl:i=0:=by simpa using hi
  rw[ao];exact c9
 obtain⟨n0,r0,g1,h5⟩:=pL (F:=dh kn al) (M:=pz kn al r) h' (kJ (kn:=kn) hg r) hr hl rfl;refine zh ?_;apply zlp (λy:Nat×List UInt8×List Nd×List N3×(Nat->Nat)×World×L1=>[(0,nP rb),(2,nP xb),(3,y.2.2.2.2.2.2)]) (λy=>y.2.2.2.2.2.1) (λy=>Mc y.2.2.2.2.1 y.2.2.2.2.2.1 T xb #[nI 0,nI 0,nS] 120/\ME aX 120 3 y.2.2.2.2.1 y.2.2.2.2.2.1 (T+1) y.2.2.2.2.2.2 y.2.2.2.1/\1<=y.2.2.2.1.length/\(∀i,i<y.2.2.2.1.length->(nth y.2.2.2.1 i).2.2.oneCell'=true)/\L8 (λk=>k=j\/T<=k) O w y.2.2.2.2.1 y.2.2.2.2.2.1/\MK B y.2.2.2.2.1 y.2.2.2.2.2.1/\LoopS kv op l j rb (dh kn al) (pz kn al r) y.2.2.2.2.1 y.2.2.2.2.2.1 y.1 y.2.1 y.2.2.1 y.2.2.2.1) (λy=>y.1) (n0,r0,g1,[x],O3,w3,lv) ⟨g5,b3,L0 _,b4,d9,h8,h5⟩;rintro⟨n,r1,ts,xs,O4,w4,a0⟩ ⟨d0,a4,a8,a1,e1,e4,f5⟩;dsimp only at d0 a4 a8 a1 e1 e4 f5 ⊢
 rcases f5 with⟨a',e8,h0,h2,e',g8,g0⟩|⟨p,e,a,e5,hM,he,a',d6,d5,d4,d3⟩
 ·have d1:=(bz r1).trans e8;have g9:=dL r1;obtain⟨m,rfl⟩:∃m,n=m+1:=⟨n-1,zo⟩
  have c8:dh kn al (m+1) ts r1=if(aw r1).headD 0=124 then((DW kn al (aw r1).tail).andThen λt r2=>dh kn al m (ts++[t]) r2)else .ok (oneM 5 ts) (aw r1):=rfl
  refine zh ?_;refine zvH (RV.ld a'.r5 rfl) ?_
  apply au (d:=12) rfl (b':=true) rfl;refine zh ?_
  apply zc Ni (gC O4 w4 j rb l r1 op 0 0 hj e8 zo a');rintro v w5 ⟨rfl,b5,b9⟩;have e6:=d0.upd b9 zo zo;have a6:=a4.upd b9 zo zo;have f7:=e4.upd b9;have b6:=e1.trans (b9.pj a5);have e7:∀i,i<xs.length->Nt O4 w5 (nth ts i) (nth xs i):=λi hi=>(g8 i hi).upd b9
  refine zh ?_
  by_cases hc:(aw r1).headD 0=124
  ·rw[if_pos hc]at c8;obtain⟨k1,k2⟩:=cI (r:=aw r1) (by rw[hc];decide);have hq4l:=d1.length_le;refine zTH rfl ((by rw[hc];rfl)) ?_;refine zvH (RV.ld b5.r1 rfl) ?_;apply ak (j:=1) b5 rfl (Mn _) rfl rfl rfl rfl;rw[show((l.length:Int)-((aw r1).length:Int))+1=(l.length:Int)-((aw r1).tail.length:Int)from by omega];have hb5a:=BlkO.rAt b5 ((l.length:Int)-((aw r1).tail.length:Int));have hU5a:L8 (λk=>k=j) O4 w5 O4 (M8 w5 ⟨rb,1,none⟩ (nI ((l.length:Int)-((aw r1).tail.length:Int)))):=M4 (λe=>hj e.symm) (LY b5) rfl;have hx5a:=e6.upd hU5a zo zo;have hrow5a:=a6.upd hU5a zo zo;have hR5a:=f7.upd hU5a;have hUt5a:=b6.trans (hU5a.pj a5);generalize M8 w5 ⟨rb,1,none⟩ (nI ((l.length:Int)-((aw r1).tail.length:Int)))=w5a at *;refine zh ?_;apply zc call197 (BZ al op e9 ha hg B O4 j rb l (aw r1).tail w5a hR5a hj (k1.trans d1) hl trivial hb5a (f3.upd hUt5a));rintro v w6 ⟨x6,rfl,b8,f9⟩;have b0:=f9.one;have g4:=hx5a.upd b8 zo zo;have b2:=hrow5a.upd b8 zo zo;have h7:=hR5a.upd b8;have d8:=hUt5a.trans (b8.pj a5);apply N9 elN b2 h7 x6 (λ_=>rfl) rfl rfl rfl (eI b0) zo zo zo zd rfl rfl;intro g3 w7 O7 b1 e0 h6;obtain⟨n',r',g2,h1,h4⟩:=LoopS.next (F:=dh kn al) f9 (kJ (kn:=kn) hg _) (k1.trans d1) zo h0 h2 e' (λi hi=>((e7 i hi).upd hU5a).upd b8) g0 c8;refine zh ?_
   refine zx (n',r',g2,xs++[x6],O7,w7,g3) ⟨g4.upd e0 zo zo,b1,by simp,λi hi=>?_,d8.trans (e0.pT hj a5 (Mp _)),h6,h4.upd e0 hj zo⟩ h1;simp only[M6,MW]at hi
   by_cases e:i<xs.length
   ·rw[aB (by simp;omega),M5 e,<-aB e];exact a1 i e
   obtain rfl:i=xs.length:=zo;rw[aB (by simp)];simpa using b0
  rw[if_neg hc]at c8;refine zFH rfl ((eJ _ 124 zd hc)) ?_;apply zc Pf (so 5 xs a0 w5 a6.sl a1);rintro v wo ⟨rfl,c5⟩;have a7:L8 (λ_=>False) O4 w5 O4 wo:=ae (λh=>h) O4 c5;have a2:=LX e6 a7 zo (λh=>h);have a3:=NA a6 a7 zo (λh=>h);have f6:=NV f7 a7;have c6:(if xs.length=1 then nth xs 0 else(5,0,a0):N3).2.2.oneCell'=true:=by
   split
   ·exact a1 0 zo
   exact a3.one
  apply zsb (us:=#[nI (if xs.length=1 then nth xs 0 else(5,0,a0):N3).1,nI (if xs.length=1 then nth xs 0 else(5,0,a0):N3).2.1,(if xs.length=1 then nth xs 0 else(5,0,a0):N3).2.2]) a2 (ix _) (bX c6);have c':=LW (us:=#[nI (if xs.length=1 then nth xs 0 else(5,0,a0):N3).1,nI (if xs.length=1 then nth xs 0 else(5,0,a0):N3).2.1,(if xs.length=1 then nth xs 0 else(5,0,a0):N3).2.2]) a2;have a9:L8 (λk=>k=T) O4 wo O4 (LO wo xb #[nI (if xs.length=1 then nth xs 0 else(5,0,a0):N3).1,nI (if xs.length=1 then nth xs 0 else(5,0,a0):N3).2.1,(if xs.length=1 then nth xs 0 else(5,0,a0):N3).2.2]):=L3 zo (LY a2) rfl;have d7:=b6.trans (jF O4 c5 hj a5);have c7:=d7.trans (a9.pT hj a5 (L0 _));refine zh ?_
  refine aL rfl rfl c'.cellsAdd (L2 _) (ix _) ⟨(if xs.length=1 then nth xs 0 else(5,0,a0)),rfl,c7.priv hT hj,?_⟩;have d2:=(LX b5 a7 hj (λh=>h)).upd a9 hj zo;rw[<-g0,c8];exact⟨d2.fgt h.tag,Nt.oneM (a3.upd a9 zo zo) (Mp T) a5 hT (f6.upd a9) c7 e' (λi hi=>((e7 i hi).upd a7).upd a9) a8⟩
 replace a':Mc O4 w4 j rb (rdr kv l a e5 ((l.length:Int)-(p:Int)) e) 250:=a';refine zh ?_;refine zvH (RV.ld a'.r5 rfl) ?_;apply au (d:=12) rfl (b':=false) ((by simpa using he));refine zh ?_;refine zFH rfl rfl ?_;apply zc Pf (so 5 xs a0 w4 a4.sl a1);rintro v wo ⟨rfl,c5⟩;have a7:L8 (λ_=>False) O4 w4 O4 wo:=ae (λh=>h) O4 c5;have a2:=LX d0 a7 zo (λh=>h);have a3:=NA a4 a7 zo (λh=>h);have f6:=NV e4 a7;have c6:(if xs.length=1 then nth xs 0 else(5,0,a0):N3).2.2.oneCell'=true:=by
  split
  ·exact a1 0 zo
  exact a3.one
 apply zsb (us:=#[nI (if xs.length=1 then nth xs 0 else(5,0,a0):N3).1,nI (if xs.length=1 then nth xs 0 else(5,0,a0):N3).2.1,(if xs.length=1 then nth xs 0 else(5,0,a0):N3).2.2]) a2 (ix _) (bX c6);have c':=LW (us:=#[nI (if xs.length=1 then nth xs 0 else(5,0,a0):N3).1,nI (if xs.length=1 then nth xs 0 else(5,0,a0):N3).2.1,(if xs.length=1 then nth xs 0 else(5,0,a0):N3).2.2]) a2;have a9:L8 (λk=>k=T) O4 wo O4 (LO wo xb #[nI (if xs.length=1 then nth xs 0 else(5,0,a0):N3).1,nI (if xs.length=1 then nth xs 0 else(5,0,a0):N3).2.1,(if xs.length=1 then nth xs 0 else(5,0,a0):N3).2.2]):=L3 zo (LY a2) rfl;have d7:=e1.trans (jF O4 c5 hj a5);have c7:=d7.trans (a9.pT hj a5 (L0 _));refine zh ?_
 refine aL rfl rfl c'.cellsAdd (L2 _) (ix _) ⟨(if xs.length=1 then nth xs 0 else(5,0,a0)),rfl,c7.priv hT hj,?_⟩;have d2:=(LX a' a7 hj (λh=>h)).upd a9 hj zo;rw[hM];exact⟨c6,a,e5,d2.fgt h.tag,d6,d5,d4,d3⟩
theorem rz:∀(d:Nat),d<=20->Reads kv kn 152 [] (20-(d:Int)) (yo kn d) (λ_=>True)
 |0,h=>Aa none _ zo (show(20:Int)-((0:Nat):Int)=20 by omega) (λf e=>by cases e)
 |d+1,h=>by
  have ih:=rz d zo;rw[show(20:Int)-(d:Int)=(20-((d+1:Nat):Int))+1 from by omega]at ih;exact Aa (some (yo kn d)) _ zo ⟨zo,ih⟩ (λf e r=>by cases e;exact jl (kn:=kn) d r)
end
end Go.Proofs.YteolbhblkgjbhaaGreatDoor
section
namespace Go.VL
def mix(A C:Nat->Nat)(b:Nat):Nat:=if A b=0 then C b else A b
theorem IH{A C:Nat->Nat}(h:A b=i)(hi:i≠0):mix A C b=i:=by unfold mix;rw[if_neg zo];exact h
theorem KQ{A C:Nat->Nat}(h:mix A C b=0):C b=0:=by
 unfold mix at h
 split at h
 ·exact h
 rename_i h1;exact absurd h h1
theorem Rng.mix{B:Nat}{A C:Nat->Nat}{w:ln}(h:MK B A w)(k:MK B C w):MK B (mix A C) w:=⟨h.le,λb hb=>by
 unfold VL.mix at hb
 split at hb
 ·exact k.rng b hb
 rename_i h1;exact h.rng b h1⟩
end Go.VL
namespace Go.Proofs.YteolbhblkgjbhaaGreatDoor
open Go.VL Go.Proofs
set_option maxRecDepth 10000
variable{kn:Kn}
def PostX(O:Nat->Nat)(w:ln)(v:L1):XR->Prop
 |.ok t=>∃x,v=.tuple #[nv x,nI 0,nI 0]/\Nt O w t x
 |.bad p e=>v=.tuple #[nv (0,0,nS),nI (p:Int),nI e]/\e≠0
theorem KI:cE LZ 248 #[(0,1),(1,1)]:=⟨_,underlying248,λw=>by kernel_rfl⟩
theorem KH:cE LZ 250 #[(0,2),(2,1),(3,1),(4,1),(5,1)]:=⟨_,underlying250,λw=>by kernel_rfl⟩
theorem lT(kv:L1)(l:List UInt8)(B:Nat)(O O':Nat->Nat)(w:ln)(h4:MK B O w)(hR:MK B O' w)(d4:Known O' w kv kn):MB LZ 111 [.string (bs l),kv] w λv w'=>Mr w w'/\PostX O w' v (fM kn l):=by
 obtain⟨T,h8,hT⟩:=hR.bound;have a0:¬(λq:Nat=>T<=q) 0:=λe=>zo
 have hA:=rz (kv:=kv) (kn:=kn) 20 (L0 _);rw[show(20:Int)-((20:Nat):Int)=0 from by omega]at hA;have b5:=jl (kn:=kn) 20 l;obtain⟨ms,e3⟩:=d4;obtain⟨qa,qc,g0,_⟩:=e3.1.shape;replace d4:Known O' w kv kn:=⟨ms,e3⟩
 subst g0;apply L4 func111 ntmps111 rfl rfl;refine zh ?_;apply ar hR T zo (L5 _) rfl;intro xb w1 O1 c9 h0 h3 i1;have b9:L8 (λq=>T<=q) O' w O1 w1:=h0.mono (λ_ h=>Mw h.symm) a0;refine zh ?_;refine zvH (bO Ma rfl) ?_
 by_cases hl:4096<l.length
 ·have hM:fM kn l=.bad 0 3:=by unfold fM;rw[if_pos hl]
  rw[hM];refine zTH rfl ((decide_eq_true zo)) ?_;apply zv (aF kR (L5 _) rfl (by first|rfl|(simp only[L6,LP];rfl)) rfl rfl);apply zsa (us:=#[nI 0,nI 0,nS]) c9 (ix _);have a7:=LW (us:=#[nI 0,nI 0,nS]) c9;have a3:L8 (λk=>k=T) O1 w1 O1 (LO w1 xb #[nI 0,nI 0,nS]):=L3 zo (LY c9) rfl;refine zh ?_;refine cD rfl rfl rfl rfl a7.cellsAdd (L2 _) (ix _) ⟨az (b9.trans (a3.mono (λ_ h=>Mw h.symm) a0)) (λb=>by have:=hT b;omega),rfl,zd⟩
 refine zFH rfl ((decide_eq_false zo)) ?_;refine zvH (aF KI (zeroValue248 _) rfl (by first|rfl|(simp only[L6,LP];rfl)) rfl rfl) ?_
 apply zv (RV.build (cells:=rdr (.slice qa ms.length qc) l 0 0 0 0) KH (zeroValue250 _) rfl rfl);apply aN h3 (T+1) zo rfl rfl
 intro rb w2 O2 d5 e5 e7 i0;have g7:Rdr (.slice qa ms.length qc) O2 w2 (T+1) rb l ((l.length:Int)-(l.length:Int)) 0 0 0:=by
  rw[show(l.length:Int)-(l.length:Int)=0 from by omega];exact d5
 have f7:=c9.upd e5 zo zo;have b8:=b9.trans (e5.mono (λ_ h=>by rw[h];omega) a0);refine zh ?_;apply zc call152 (hA B O2 (T+1) rb l l w2 e7 zo (Na l) zo trivial g7 (d4.upd b8));rintro v w3 ⟨x,rfl,d',e8⟩;have f4:=e8.one;have f6:=f7.upd d' zo zo;have e6:=e7.upd d';have d8:=b8.trans (d'.mono (λ_ h=>by rw[h];omega) a0);apply ar e6 (T+2) zo (L5 _) rfl;intro nb w4 O4 d3 g' h9 h';apply zsb (us:=#[nI x.1,nI x.2.1,x.2.2]) d3 (ix _) (bX f4);have f':=d3.setRow (us:=#[nI x.1,nI x.2.1,x.2.2]);have g9:L8 (λk=>k=T+2) O4 w4 O4 (w4.setRow nb #[nI x.1,nI x.2.1,x.2.2]):=L3 zo d3.tag rfl;have a':=g'.trans g9;have c8:=f6.upd a' zo zo;have c':=e8.upd a' zo zo;have h2:=e6.upd a';have b7:=d8.trans (a'.mono (λ_ h=>by rw[h];omega) a0);generalize w4.setRow nb #[nI x.1,nI x.2.1,x.2.2]=w5 at *
 cases hf:yo kn 20 l with
 |bad p e=>
  rw[hf]at b5 c';have hM:fM kn l=.bad (l.length-p) e:=by unfold fM;rw[if_neg hl,hf]
  have g6:=b5.1;have a8:=b5.2;obtain⟨g1,a,e',a6,g2,g3,g4,g5⟩:=c';replace a6:Mc O4 w5 (T+1) rb (rdr (.slice qa ms.length qc) l a e' ((l.length:Int)-(p:Int)) e) 250:=a6;rw[hM];refine zh ?_;refine zvH (RV.ld a6.r5 rfl) ?_;apply au (d:=25) rfl (b':=false) ((by simpa using a8));refine zh ?_;refine zFH rfl rfl ?_;refine zvH (RV.ld a6.r5 rfl) ?_;apply au (d:=44) rfl (b':=false) ((by simpa using a8));refine zh ?_;refine zFH rfl rfl ?_;refine zvH (RV.ld a6.r5 rfl) ?_;apply aP rfl ((by simpa using a8));have a5:=Mx a6;refine zh ?_;apply aQ (λW=>W.cell? ⟨rb,4,none⟩=some (nI ((l.length:Int)-(p:Int)))/\W.cell? ⟨rb,5,none⟩=some (nI e)) 12 rfl zk;refine zin ⟨a5.r4,a5.r5⟩ λzS=>?_
  apply zr 0 rfl zS (λ_=>aF kR (L5 _) rfl (by first|rfl|(simp only[L6,LP];rfl)) rfl rfl);apply zrm 1 rfl zS rfl
  apply zr 2 rfl zS (λ_=>aq rfl);apply zrf 3 rfl zS rfl
  apply zt 4 rfl zS (λw1 a4=>RV.ld a4.1 rfl);apply zrm 5 rfl zS rfl
  apply zr 6 rfl zS (λ_=>aq rfl);apply zrf 7 rfl zS rfl
  apply zt 8 rfl zS (λw1 a4=>RV.ld a4.2 rfl);apply LU 9 zk rfl
  apply zsa (us:=#[nI 0,nI 0,nS]) (Mx c8) (ix _);have a7:=LW (us:=#[nI 0,nI 0,nS]) (Mx c8);have a3:L8 (λk=>k=T) O4 (MM w5) O4 (LO (MM w5) xb #[nI 0,nI 0,nS]):=L3 zo (LY c8) rfl;have b0:=LX a5 a3 zo zo;refine zh ?_
  refine zaf ⟨b0.r4,b0.r5⟩ λzS=>?_
  apply zra 10 rfl zS rfl;apply zra 11 rfl zS rfl
  apply Ml zk;refine zh ?_
  refine cD rfl rfl rfl rfl a7.cellsAdd (L2 _) (ix _) ⟨az ((b7.drew).trans (a3.mono (λ_ h=>Mw h.symm) a0)) (λb=>by have:=hT b;omega),?_⟩;exact⟨by rw[show(l.length:Int)-(p:Int)=((l.length-p:Nat):Int)from by omega];rfl,a8⟩
 |ok t r=>
  rw[hf]at b5 c';obtain⟨a6,d2⟩:=c';replace a6:Mc O4 w5 (T+1) rb (rdr (.slice qa ms.length qc) l ((l.length:Int)-(r.length:Int)) 0 0 0) 250:=a6;have hr:=b5.1;have hq:=(bz r).trans hr;have h7:=hq.length_le;refine zh ?_;refine zvH (RV.ld a6.r5 rfl) ?_;apply au (d:=25) rfl (b':=true) rfl;refine zh ?_;apply zc Ni (gC O4 w5 (T+1) rb l r 0 0 0 zo hr zo a6);rintro v w6 ⟨rfl,a9,c6⟩;have d0:=c8.upd c6 zo zo;have e2:=f'.upd c6 zo zo;have e0:=h2.upd c6;have b4:=d2.upd c6;have b1:=b7.trans (c6.mono (λ_ h=>by rw[h];omega) a0);refine zh ?_
  by_cases e1:(aw r).length=0
  ·have f8:aw r=[]:=Nc e1;have e9:fM kn l=if 2000<nsz t then .bad 0 3 else .ok t:=by unfold fM;rw[if_neg hl,hf];dsimp only;rw[if_neg zo]
   refine zFH rfl ((by rw[f8];rfl)) ?_;refine zvH (RV.ld a9.r5 rfl) ?_
   apply au (d:=44) rfl (b':=true) rfl;refine zh ?_
   refine zvH (RV.ld a9.r1 rfl) ?_;refine zvH (bO Ma rfl) ?_
   refine zFH rfl ((decide_eq_false zo)) ?_;refine zvH (RV.ld a9.r5 rfl) ?_
   refine zFH rfl rfl ?_;apply zv (ai (us:=aX x) e2.cellsAdd (L2 _) (ix _) rfl)
   apply zc PL (rS (nsz t) t (L0 _) x w6 2000 b4.zero zo);rintro v w7 ⟨rfl,h6⟩;have b6:L8 (λ_=>False) O4 w6 O4 w7:=ae (λh=>h) O4 h6;have a2:=d0.upd b6 zo (λh=>h);have f9:=e2.upd b6 zo (λh=>h);have a1:=b1.trans (b6.mono (λ_ h=>h.elim) a0);have d1:=b4.upd b6;have h1:=e0.upd b6;refine zh ?_
   by_cases hz:2000<nsz t
   ·have hM:fM kn l=.bad 0 3:=by rw[e9,if_pos hz]
    rw[hM];refine zTH rfl ((decide_eq_true zo)) ?_;apply zv (aF kR (L5 _) rfl (by first|rfl|(simp only[L6,LP];rfl)) rfl rfl);apply zsa (us:=#[nI 0,nI 0,nS]) a2 (ix _);have a7:=LW (us:=#[nI 0,nI 0,nS]) a2;have a3:L8 (λk=>k=T) O4 w7 O4 (LO w7 xb #[nI 0,nI 0,nS]):=L3 zo (LY a2) rfl;refine zh ?_;refine cD rfl rfl rfl rfl a7.cellsAdd (L2 _) (ix _) ⟨az (a1.trans (a3.mono (λ_ h=>Mw h.symm) a0)) (λb=>by have:=hT b;omega),rfl,zd⟩
   have hM:fM kn l=.ok t:=by rw[e9,if_neg hz]
   rw[hM];refine zFH rfl ((decide_eq_false zo)) ?_;apply zv (ai (us:=aX x) f9.cellsAdd (L2 _) (ix _) rfl);apply zc PK (vz (nsz t) zo t (L0 _) B (mix O4 O) x w7 (h1.mix (h4.ext (az a1 (λb=>by have:=hT b;omega)))) d1.zero);rintro v w8 ⟨y,rfl,b3,h5⟩;have e4:L8 (λ_=>False) O4 w7 O4 w8:=ae (λh=>h) O4 h5;have c7:=a2.upd e4 zo (λh=>h);have d7:=a1.trans (e4.mono (λ_ h=>h.elim) a0);have f3:=b3.one;apply zsb (us:=#[nI y.1,nI y.2.1,y.2.2]) c7 (ix _) (bX f3);have f5:=c7.setRow (us:=#[nI y.1,nI y.2.1,y.2.2]);have g8:L8 (λk=>k=T) O4 w8 O4 (w8.setRow xb #[nI y.1,nI y.2.1,y.2.2]):=L3 zo c7.tag rfl;have d9:L8 (λk=>k=T) (mix O4 O) w8 (mix O4 O) (w8.setRow xb #[nI y.1,nI y.2.1,y.2.2]):=L3 zo (IH c7.tag zo) rfl;have d6:=d7.trans (g8.mono (λ_ h=>Mw h.symm) a0);refine zh ?_;refine cD rfl rfl rfl rfl f5.cellsAdd (L2 _) (ix _) ⟨az d6 (λb=>by have:=hT b;omega),y,rfl,(b3.upd d9).weak (λb hb=>KQ hb)⟩
  have hM:fM kn l=.bad (l.length-(aw r).length) 4:=by unfold fM;rw[if_neg hl,hf];dsimp only;rw[if_pos e1]
  rw[hM]
  by_cases hc:(aw r).headD 0=0
  ·refine zFH rfl ((by rw[hc];rfl)) ?_;refine zvH (RV.ld a9.r5 rfl) ?_
   apply au (d:=44) rfl (b':=true) rfl;refine zh ?_
   refine zvH (RV.ld a9.r1 rfl) ?_;refine zvH (bO Ma rfl) ?_
   refine zTH rfl ((decide_eq_true zo)) ?_;apply zv (RV.ld a9.r1 rfl)
   apply zc Nh (gL _ O4 w6 (T+1) rb l _ _ 0 ((l.length:Int)-((aw r).length:Int)) 4 zo e0 a9);rintro v w7 ⟨_,b2,c5⟩;have a2:=d0.upd c5 zo zo;have a1:=b1.trans (c5.mono (λ_ h=>by rw[h];omega) a0);refine zh ?_
   refine zvH (RV.ld b2.r5 rfl) ?_;apply aP rfl rfl
   have a5:=Mx b2;refine zh ?_;apply aQ (λW=>W.cell? ⟨rb,4,none⟩=some (nI ((l.length:Int)-((aw r).length:Int)))/\W.cell? ⟨rb,5,none⟩=some (nI 4)) 12 rfl zk;refine zin ⟨a5.r4,a5.r5⟩ λzS=>?_
   apply zr 0 rfl zS (λ_=>aF kR (L5 _) rfl (by first|rfl|(simp only[L6,LP];rfl)) rfl rfl);apply zrm 1 rfl zS rfl
   apply zr 2 rfl zS (λ_=>aq rfl);apply zrf 3 rfl zS rfl
   apply zt 4 rfl zS (λw1 a4=>RV.ld a4.1 rfl);apply zrm 5 rfl zS rfl
   apply zr 6 rfl zS (λ_=>aq rfl);apply zrf 7 rfl zS rfl
   apply zt 8 rfl zS (λw1 a4=>RV.ld a4.2 rfl);apply LU 9 zk rfl
   apply zsa (us:=#[nI 0,nI 0,nS]) (Mx a2) (ix _);have a7:=LW (us:=#[nI 0,nI 0,nS]) (Mx a2);have a3:L8 (λk=>k=T) O4 (MM w7) O4 (LO (MM w7) xb #[nI 0,nI 0,nS]):=L3 zo (LY a2) rfl;have b0:=LX a5 a3 zo zo;refine zh ?_
   refine zaf ⟨b0.r4,b0.r5⟩ λzS=>?_
   apply zra 10 rfl zS rfl;apply zra 11 rfl zS rfl
   apply Ml zk;refine zh ?_
   refine cD rfl rfl rfl rfl a7.cellsAdd (L2 _) (ix _) ⟨az ((a1.drew).trans (a3.mono (λ_ h=>Mw h.symm) a0)) (λb=>by have:=hT b;omega),?_⟩;exact⟨by rw[show(l.length:Int)-((aw r).length:Int)=((l.length-(aw r).length:Nat):Int)from by omega];rfl,zd⟩
  refine zTH rfl ((sZ _ 0 zd hc)) ?_;apply zv (RV.ld a9.r1 rfl)
  apply zc Nh (gL _ O4 w6 (T+1) rb l _ _ 0 ((l.length:Int)-((aw r).length:Int)) 4 zo e0 a9);rintro v w7 ⟨_,b2,c5⟩;have a2:=d0.upd c5 zo zo;have a1:=b1.trans (c5.mono (λ_ h=>by rw[h];omega) a0);refine zh ?_
  refine zvH (RV.ld b2.r5 rfl) ?_;apply au (d:=44) rfl (b':=false) rfl
  refine zh ?_;refine zFH rfl rfl ?_
  refine zvH (RV.ld b2.r5 rfl) ?_;apply aP rfl rfl
  have a5:=Mx b2;refine zh ?_;apply aQ (λW=>W.cell? ⟨rb,4,none⟩=some (nI ((l.length:Int)-((aw r).length:Int)))/\W.cell? ⟨rb,5,none⟩=some (nI 4)) 12 rfl zk;refine zin ⟨a5.r4,a5.r5⟩ λzS=>?_
  apply zr 0 rfl zS (λ_=>aF kR (L5 _) rfl (by first|rfl|(simp only[L6,LP];rfl)) rfl rfl);apply zrm 1 rfl zS rfl
  apply zr 2 rfl zS (λ_=>aq rfl);apply zrf 3 rfl zS rfl
  apply zt 4 rfl zS (λw1 a4=>RV.ld a4.1 rfl);apply zrm 5 rfl zS rfl
  apply zr 6 rfl zS (λ_=>aq rfl);apply zrf 7 rfl zS rfl
  apply zt 8 rfl zS (λw1 a4=>RV.ld a4.2 rfl);apply LU 9 zk rfl
  apply zsa (us:=#[nI 0,nI 0,nS]) (Mx a2) (ix _);have a7:=LW (us:=#[nI 0,nI 0,nS]) (Mx a2);have a3:L8 (λk=>k=T) O4 (MM w7) O4 (LO (MM w7) xb #[nI 0,nI 0,nS]):=L3 zo (LY a2) rfl;have b0:=LX a5 a3 zo zo;refine zh ?_
  refine zaf ⟨b0.r4,b0.r5⟩ λzS=>?_
  apply zra 10 rfl zS rfl;apply zra 11 rfl zS rfl
  apply Ml zk;refine zh ?_
  refine cD rfl rfl rfl rfl a7.cellsAdd (L2 _) (ix _) ⟨az ((a1.drew).trans (a3.mono (λ_ h=>Mw h.symm) a0)) (λb=>by have:=hT b;omega),?_⟩;exact⟨by rw[show(l.length:Int)-((aw r).length:Int)=((l.length-(aw r).length:Nat):Int)from by omega];rfl,zd⟩
end Go.Proofs.YteolbhblkgjbhaaGreatDoor
end
namespace Go.Proofs.YteolbhblkgjbhaaGreatDoor
mutual
def cz:Nd->Int | .mk k _ l=>if k=6\/k=7 then -1 else if k=9 then 0 else if k=4\/k=5\/k=8 then cP (k==4) 0 l else 1
def cP:Bool->Int->List Nd->Int
 |_,acc,[]=>acc
 |s,acc,t::r=>if cz t<0 then -1 else cP s (if s=true then acc+cz t else max acc (cz t)) r
end
mutual
def Br(q:Int):Nd->Bool | .mk k _ l=>(k==q)||D3 q l
def D3(q:Int):List Nd->Bool | []=>false|t::r=>Br q t||D3 q r
end
theorem sP(q:Int):∀(l:List Nd),jj (λi=>Br q (nth l i)) l.length=D3 q l:=by
 intro l;rw[P8,eD]
 induction l with
 |nil=>simp[D3]
 |cons t r ih=>
  simp only[D3,Bool.or_eq_true,<-ih,M1]
  constructor
  ·rintro⟨i,hi,hq⟩
   cases i with
   |zero=>rw[ao]at hq;exact .inl hq
   |succ i=>rw[aS]at hq;exact .inr ⟨i,zo,hq⟩
  rintro(h|⟨i,hi,hq⟩)
  ·exact⟨0,zo,by rw[ao];exact h⟩
  exact⟨i+1,zo,by rw[aS];exact hq⟩
mutual
theorem kW:∀(t:Nd),cz t<=nsz t
 |.mk k c l=>by
  have h:=sE l (k==4) 0 (MY 0)
  unfold cz
  simp only[nsz]
  (repeat' split)<;>omega
theorem sE:∀(l:List Nd) (s:Bool) (acc:Int),0<=acc->cP s acc l<=acc+dI l
 |[],s,acc,h=>by simp[cP,dI]
 |t::r,s,acc,h=>by
  have h1:=kW t
  unfold cP
  simp only[dI]
  split
  ·omega
  split
  ·have h2:=sE r s (acc+cz t) zo
   omega
  have h2:=sE r s (max acc (cz t)) zo
  omega
end
theorem jZ{l:List Nd}(h:i<l.length):l.drop i=nth l i::l.drop (i+1):=by
 rw[Np h,aB h]
theorem gG:∀(n:Nat),n<=1000000->∀(t:Nd),nsz t<=n->∀(x:N3) (w:ln),Nt (λ_=>0) w t x->MB LZ 165 [nv x] w λv w'=>v=nI (cz t)/\Mr w w'
 |0,_,t,hn=>by have:=dd t;omega
 |n+1,hm,.mk k c kids,hn=>by
  intro x w h;have c9:=h.ones;obtain⟨xs,hs,hf,hl,hk⟩:=h.kids;simp only[Nn]at hl hk;simp only[nsz]at hn;have c':=ey kids;generalize x.2.2=sv at *;subst c9;simp only[P4,Pj];have hM:cz (.mk k c kids)=if k=6\/k=7 then -1 else if k=9 then 0 else if k=4\/k=5\/k=8 then cP (k==4) 0 kids else 1:=rfl
  rw[hM];apply L4 func165 ntmps165 rfl rfl;refine zh ?_;apply aN (ax w) 1 zo rfl rfl;intro xb w1 O1 b7 d0 d1 a4;have c0:w1.cell? (nA xb 0)=some (nI k):=b7.cell 0 rfl;have c2:w1.cell? (nA xb 2)=some sv:=b7.cell 2 rfl;have b6:=hs.ext a4;refine zh ?_
  by_cases h6:k=6
  ·subst h6;refine zTH rfl rfl ?_;refine zTH rfl rfl ?_;refine af rfl rfl ⟨rfl,a4⟩
  refine zFH rfl ((beq_eq_false_iff_ne.2 h6)) ?_
  by_cases h7:k=7
  ·subst h7;refine zTH rfl rfl ?_;refine af rfl rfl ⟨rfl,a4⟩
  rw[if_neg zo];refine zFH rfl ((beq_eq_false_iff_ne.2 h7)) ?_
  by_cases h9:k=9
  ·subst h9;refine zTH rfl rfl ?_;refine af rfl rfl ⟨rfl,a4⟩
  rw[if_neg h9];refine zFH rfl ((beq_eq_false_iff_ne.2 h9)) ?_
  by_cases h4:k=4
  ·subst h4;rw[if_pos zo];refine zTH rfl rfl ?_;refine zTH rfl rfl ?_;apply zlp (λy:Nat×Int×ln=>[(2,nI 0),(3,nI y.2.1),(1,nP xb),(19,sv),(20,nI xs.length),(21,nI y.1)]) (λy=>y.2.2) (λy=>y.1<=xs.length/\0<=y.2.1/\y.2.1<=dI (kids.take y.1)/\cP ((4:Int)==4) y.2.1 (kids.drop y.1)=cP ((4:Int)==4) 0 kids/\Mr w1 y.2.2) (λy=>xs.length-y.1) (0,0,w1) ⟨L7 _,MY _,by simp[dI],rfl,LQ _⟩;rintro⟨i,a7,w2⟩ ⟨hi,b2,ha,hL,a3⟩;dsimp only at hi b2 ha hL a3 ⊢;have b0:=b6.ext a3;refine zh ?_;refine zC ?_ ?_
   ·intro a2;replace a2:i<xs.length:=dT a2;have a8:=(hk i a2).ext (a4.trans a3);have a':=a8.one;have c5:=bM kids i zo;have b9:=dV kids i zo;have b8:=cJ kids (i+1);have b':=kW (nth kids i);rw[jZ zo]at hL;have b4:cP ((4:Int)==4) a7 (nth kids i::kids.drop (i+1))=if cz (nth kids i)<0 then -1 else cP ((4:Int)==4) (if((4:Int)==4)=true then a7+cz (nth kids i)else max a7 (cz (nth kids i))) (kids.drop (i+1)):=rfl
    rw[b4]at hL;refine zh ?_;apply zv (ai (us:=aX (nth xs i)) (λj u hu=>b0.cell a2 hu) (L2 _) (ix _) rfl);apply ar (ax w2) 1 zo (L5 _) rfl;intro kb w3 O3 a6 b3 c6 c7;apply zsb (us:=#[nI (nth xs i).1,nI (nth xs i).2.1,(nth xs i).2.2]) a6 (ix _) (bX a');have a5:=a6.setRow (us:=#[nI (nth xs i).1,nI (nth xs i).2.1,(nth xs i).2.2]);have a9:Mr w2 (w3.setRow kb #[nI (nth xs i).1,nI (nth xs i).2.1,(nth xs i).2.2]):=(b3.trans (L3 zd a6.tag rfl)).ext;generalize w3.setRow kb #[nI (nth xs i).1,nI (nth xs i).2.1,(nth xs i).2.2]=w4 at *;refine zh ?_;apply zv (ai (us:=aX (nth xs i)) a5.cellsAdd (L2 _) (ix _) rfl);apply zc Ph (gG n zo (nth kids i) zo (nth xs i) w4 (a8.ext a9));rintro v w5 ⟨rfl,b5⟩;have a1:=(a3.trans a9).trans b5;have c8:w5.cell? (nA xb 0)=some (nI 4):=a1.cell c0;refine zh ?_
    by_cases a0:cz (nth kids i)<0
    ·rw[if_pos a0]at hL;refine zTH rfl ((decide_eq_true a0)) ?_;refine af rfl rfl ⟨by rw[<-hL],a4.trans a1⟩
    rw[if_neg a0]at hL;refine zFH rfl ((decide_eq_false a0)) ?_;refine zTH rfl rfl ?_;refine zxd (i+1,_,w5) ⟨a2,by dsimp only;omega,by dsimp only;omega,hL,a1⟩
   intro b1;obtain rfl:i=xs.length:=dF b1;rw[Mk zo]at hL;refine zh ?_;refine af rfl rfl ⟨by rw[<-hL];rfl,a4.trans a3⟩
  apply aI rfl ((beq_eq_false_iff_ne.2 h4));have hk4b:(k==4)=false:=beq_eq_false_iff_ne.2 h4;refine zh ?_
  by_cases h5:k=5
  ·subst h5;rw[if_pos zo];refine zTH rfl rfl ?_;refine zTH rfl rfl ?_;apply zlp (λy:Nat×Int×ln=>[(2,nI 0),(3,nI y.2.1),(1,nP xb),(19,sv),(20,nI xs.length),(21,nI y.1)]) (λy=>y.2.2) (λy=>y.1<=xs.length/\0<=y.2.1/\y.2.1<=dI (kids.take y.1)/\cP ((5:Int)==4) y.2.1 (kids.drop y.1)=cP ((5:Int)==4) 0 kids/\Mr w1 y.2.2) (λy=>xs.length-y.1) (0,0,w1) ⟨L7 _,MY _,by simp[dI],rfl,LQ _⟩;rintro⟨i,a7,w2⟩ ⟨hi,b2,ha,hL,a3⟩;dsimp only at hi b2 ha hL a3 ⊢;have b0:=b6.ext a3;refine zh ?_;refine zC ?_ ?_
   ·intro a2;replace a2:i<xs.length:=dT a2;have a8:=(hk i a2).ext (a4.trans a3);have a':=a8.one;have c5:=bM kids i zo;have b9:=dV kids i zo;have b8:=cJ kids (i+1);have b':=kW (nth kids i);rw[jZ zo]at hL;have b4:cP ((5:Int)==4) a7 (nth kids i::kids.drop (i+1))=if cz (nth kids i)<0 then -1 else cP ((5:Int)==4) (if((5:Int)==4)=true then a7+cz (nth kids i)else max a7 (cz (nth kids i))) (kids.drop (i+1)):=rfl
    rw[b4]at hL;refine zh ?_;apply zv (ai (us:=aX (nth xs i)) (λj u hu=>b0.cell a2 hu) (L2 _) (ix _) rfl);apply ar (ax w2) 1 zo (L5 _) rfl;intro kb w3 O3 a6 b3 c6 c7;apply zsb (us:=#[nI (nth xs i).1,nI (nth xs i).2.1,(nth xs i).2.2]) a6 (ix _) (bX a');have a5:=a6.setRow (us:=#[nI (nth xs i).1,nI (nth xs i).2.1,(nth xs i).2.2]);have a9:Mr w2 (w3.setRow kb #[nI (nth xs i).1,nI (nth xs i).2.1,(nth xs i).2.2]):=(b3.trans (L3 zd a6.tag rfl)).ext;generalize w3.setRow kb #[nI (nth xs i).1,nI (nth xs i).2.1,(nth xs i).2.2]=w4 at *;refine zh ?_;apply zv (ai (us:=aX (nth xs i)) a5.cellsAdd (L2 _) (ix _) rfl);apply zc Ph (gG n zo (nth kids i) zo (nth xs i) w4 (a8.ext a9));rintro v w5 ⟨rfl,b5⟩;have a1:=(a3.trans a9).trans b5;have c8:w5.cell? (nA xb 0)=some (nI 5):=a1.cell c0;refine zh ?_
    by_cases a0:cz (nth kids i)<0
    ·rw[if_pos a0]at hL;refine zTH rfl ((decide_eq_true a0)) ?_;refine af rfl rfl ⟨by rw[<-hL],a4.trans a1⟩
    rw[if_neg a0]at hL;refine zFH rfl ((decide_eq_false a0)) ?_;refine zFH rfl rfl ?_;refine zvH (gQ rfl rfl) ?_;refine zxd (i+1,_,w5) ⟨a2,by dsimp only;omega,by dsimp only;omega,hL,a1⟩
   intro b1;obtain rfl:i=xs.length:=dF b1;rw[Mk zo]at hL;refine zh ?_;refine af rfl rfl ⟨by rw[<-hL];rfl,a4.trans a3⟩
  refine zFH rfl ((beq_eq_false_iff_ne.2 h5)) ?_
  by_cases h8:k=8
  ·subst h8;rw[if_pos zo];refine zTH rfl rfl ?_;apply zlp (λy:Nat×Int×ln=>[(2,nI 0),(3,nI y.2.1),(1,nP xb),(19,sv),(20,nI xs.length),(21,nI y.1)]) (λy=>y.2.2) (λy=>y.1<=xs.length/\0<=y.2.1/\y.2.1<=dI (kids.take y.1)/\cP ((8:Int)==4) y.2.1 (kids.drop y.1)=cP ((8:Int)==4) 0 kids/\Mr w1 y.2.2) (λy=>xs.length-y.1) (0,0,w1) ⟨L7 _,MY _,by simp[dI],rfl,LQ _⟩;rintro⟨i,a7,w2⟩ ⟨hi,b2,ha,hL,a3⟩;dsimp only at hi b2 ha hL a3 ⊢;have b0:=b6.ext a3;refine zh ?_;refine zC ?_ ?_
   ·intro a2;replace a2:i<xs.length:=dT a2;have a8:=(hk i a2).ext (a4.trans a3);have a':=a8.one;have c5:=bM kids i zo;have b9:=dV kids i zo;have b8:=cJ kids (i+1);have b':=kW (nth kids i);rw[jZ zo]at hL;have b4:cP ((8:Int)==4) a7 (nth kids i::kids.drop (i+1))=if cz (nth kids i)<0 then -1 else cP ((8:Int)==4) (if((8:Int)==4)=true then a7+cz (nth kids i)else max a7 (cz (nth kids i))) (kids.drop (i+1)):=rfl
    rw[b4]at hL;refine zh ?_;apply zv (ai (us:=aX (nth xs i)) (λj u hu=>b0.cell a2 hu) (L2 _) (ix _) rfl);apply ar (ax w2) 1 zo (L5 _) rfl;intro kb w3 O3 a6 b3 c6 c7;apply zsb (us:=#[nI (nth xs i).1,nI (nth xs i).2.1,(nth xs i).2.2]) a6 (ix _) (bX a');have a5:=a6.setRow (us:=#[nI (nth xs i).1,nI (nth xs i).2.1,(nth xs i).2.2]);have a9:Mr w2 (w3.setRow kb #[nI (nth xs i).1,nI (nth xs i).2.1,(nth xs i).2.2]):=(b3.trans (L3 zd a6.tag rfl)).ext;generalize w3.setRow kb #[nI (nth xs i).1,nI (nth xs i).2.1,(nth xs i).2.2]=w4 at *;refine zh ?_;apply zv (ai (us:=aX (nth xs i)) a5.cellsAdd (L2 _) (ix _) rfl);apply zc Ph (gG n zo (nth kids i) zo (nth xs i) w4 (a8.ext a9));rintro v w5 ⟨rfl,b5⟩;have a1:=(a3.trans a9).trans b5;have c8:w5.cell? (nA xb 0)=some (nI 8):=a1.cell c0;refine zh ?_
    by_cases a0:cz (nth kids i)<0
    ·rw[if_pos a0]at hL;refine zTH rfl ((decide_eq_true a0)) ?_;refine af rfl rfl ⟨by rw[<-hL],a4.trans a1⟩
    rw[if_neg a0]at hL;refine zFH rfl ((decide_eq_false a0)) ?_;refine zFH rfl rfl ?_;refine zvH (gQ rfl rfl) ?_;refine zxd (i+1,_,w5) ⟨a2,by dsimp only;omega,by dsimp only;omega,hL,a1⟩
   intro b1;obtain rfl:i=xs.length:=dF b1;rw[Mk zo]at hL;refine zh ?_;refine af rfl rfl ⟨by rw[<-hL];rfl,a4.trans a3⟩
  rw[if_neg zo];refine zFH rfl ((beq_eq_false_iff_ne.2 h8)) ?_;refine af rfl rfl ⟨rfl,a4⟩
def uP(t:Nd):Int:=if bp t=true then max (cz t) 0 else 0
def uQ(t:Nd):Bool:=bp t&&decide (0<=cz t)
theorem pX(t:Nd)(x:N3)(w:ln)(h:Nt (λ_=>0) w t x):MB LZ 122 [nv x] w λv w'=>v=.tuple #[nI (uP t),.bool (uQ t)]/\Mr w w':=by
 apply L4 func122 ntmps122 rfl rfl;refine zh ?_
 apply aN (ax w) 1 zo rfl rfl;intro xb w1 O1 a3 a5 a6 a1;have a2:∀W,Mr w1 W->∀(j:Nat) (u:L1),(aX x)[j]? = some u->W.cell? (nA xb j)=some u:=λW hE j u hu=>hE.cell (a3.cellsAdd j u hu)
 refine zh ?_;apply zv (ai (us:=aX x) (a2 w1 (LQ _)) (L2 _) (ix _) rfl)
 apply zc Pw (fZ t x w1 (h.ext a1));rintro v w2 ⟨rfl,a0⟩;refine zh ?_
 cases hr:bp t with
 |false=>
  refine zTH rfl rfl ?_;refine cc rfl rfl rfl ⟨by simp[uP,uQ,hr],a1.trans a0⟩
 |true=>
  have hz:nsz t<=2000:=by
   simp only[bp,M7,decide_eq_true_eq]at hr;exact hr.1
  refine zFH rfl rfl ?_;apply zv (ai (us:=aX x) (a2 w2 a0) (L2 _) (ix _) rfl)
  apply zc Ph (gG (nsz t) zo t (L0 _) x w2 (h.ext (a1.trans a0)));rintro v w3 ⟨rfl,a4⟩;refine zh ?_
  refine zvH (gQ rfl rfl) ?_;refine cc rfl rfl rfl ⟨by simp[uP,uQ,hr],(a1.trans a0).trans a4⟩
theorem IR{b:Bool}{q:Int}{t:Nd}{kb:Nat}(ih:∀(y:N3) (W:ln),Nt (λ_=>0) W t y->MB LZ 166 [nv y,nI q] W λv w'=>v=.bool b/\Mr W w')(x:N3)(w:ln)(h:Nt (λ_=>0) w t x)(hq:w.cell? ⟨kb,0,none⟩=some (nI q)):
  MB LZ 222 [nv x,nP kb] w λv w'=>v=.bool b/\Mr w w':=by
 apply L4 func222 ntmps222 rfl rfl;refine zh ?_
 apply aN (ax w) 1 zo rfl rfl;intro xb w1 O1 a1 a4 a5 a0;have a3:=a0.cell hq;refine zh ?_
 refine zvH (ai (us:=aX x) a1.cellsAdd (L2 _) (ix _) rfl) ?_;apply zc call166 (ih x w1 (h.ext a0))
 rintro v w2 ⟨rfl,a2⟩;refine zh ?_;refine af rfl rfl ⟨rfl,a0.trans a2⟩
theorem C3:∀(n:Nat) (t:Nd),nsz t<=n->∀(x:N3) (w:ln) (q:Int),Nt (λ_=>0) w t x->MB LZ 166 [nv x,nI q] w λv w'=>v=.bool (Br q t)/\Mr w w'
 |0,t,hn=>by have:=dd t;omega
 |n+1,.mk k c kids,hn=>by
  intro x w q h;have a6:=h.ones;obtain⟨xs,hs,hf,hl,hk⟩:=h.kids;simp only[Nn]at hl hk;simp only[nsz]at hn;generalize x.2.2=sv at *;subst a6;simp only[P4,Pj];have hM:Br q (.mk k c kids)=((k==q)||D3 q kids):=rfl;rw[hM];apply L4 func166 ntmps166 rfl rfl;refine zh ?_;apply aN (ax w) 1 zo rfl rfl;intro xb w1 O1 a5 b1 a9 b0;apply aN a9 2 zo rfl rfl;intro kb w2 O2 a7 a8 b2 a';have a3:=a5.upd a8 zd zd;have a0:=b0.trans a';have c0:w2.cell? (nA xb 0)=some (nI k):=a3.cell 0 rfl;have c2:w2.cell? (nA xb 2)=some sv:=a3.cell 2 rfl;have cq:w2.cell? ⟨kb,0,none⟩=some (nI q):=a7.cell 0 rfl;refine zh ?_;refine ct (Mr w2) (D3 q kids) 4 (LQ _) rfl rfl rfl rfl rfl ?_ ?_
  ·intro a1;refine zh ?_;refine zvH (dY rfl rfl) ?_;apply zc PJ (dp call222 #[nP kb] xs sv (λi=>Br q (nth kids i)) w2 (hs.ext a0) (λi hi w' hE=>IR (λy W hy=>C3 n (nth kids i) (by have:=bM kids i zo;omega) y W q hy) (nth xs i) w' ((hk i hi).ext (a0.trans hE)) (hE.cell cq)));have a4:=sP q kids;rw[hl]at a4;rw[a4];rintro v w3 ⟨rfl,a2⟩;refine zh ?_;refine nE 9 5 a2 a1
  intro w3 a2;refine zh ?_;refine af rfl rfl ⟨rfl,a0.trans a2⟩
theorem AV(t:Nd)(q:Int)(x:N3)(w:ln)(h:Nt (λ_=>0) w t x):MB LZ 123 [nv x,nI q] w λv w'=>v=.bool (bp t&&Br q t)/\Mr w w':=by
 apply L4 func123 ntmps123 rfl rfl;refine zh ?_
 apply aN (ax w) 1 zo rfl rfl;intro xb w1 O1 a5 a6 a7 a3;have a4:∀W,Mr w1 W->∀(j:Nat) (u:L1),(aX x)[j]? = some u->W.cell? (nA xb j)=some u:=λW hE j u hu=>hE.cell (a5.cellsAdd j u hu)
 refine zh ?_;apply zv (ai (us:=aX x) (a4 w1 (LQ _)) (L2 _) (ix _) rfl)
 apply zc Pw (fZ t x w1 (h.ext a3));rintro v w2 ⟨rfl,a0⟩;refine zh ?_
 refine aT (Mr w1) (Br q t) 3 a0 rfl rfl rfl rfl rfl ?_ ?_
 ·intro a1;refine zh ?_;refine zvH (ai (us:=aX x) (a4 _ a0) (L2 _) (ix _) rfl) ?_;apply zc call166 (C3 (nsz t) t (L0 _) x _ q (h.ext (a3.trans a0)));rintro v w3 ⟨rfl,a2⟩;refine zh ?_;refine nE 7 4 (a0.trans a2) a1
 intro w3 a2;refine zh ?_;refine af rfl rfl ⟨rfl,a3.trans a2⟩
theorem fW:∀(l:List Nd) (i:Nat),cm l=true->i<l.length->fV (nth l i)=true
 |[],i,_,h=>absurd h (M9 i)
 |t::r,i,hs,h=>by
  unfold cm at hs;simp only[M7]at hs
  cases i with
  |zero=>rw[ao];exact hs.1
  |succ i=>rw[aS];exact fW r i hs.2 (by simpa using h)
theorem CP{l:List Nd}{a:Nat}{g:Gr}(h:q<l.length):nN (l.drop q) a b g=if q+1<l.length then nN (l.drop (q+1)) g.ks.length b (fK (nth l q) a g.ks.length g.knot)else fK (nth l q) a b g:=by
 rw[jZ h,nN]
 by_cases e:q+1<l.length
 ·rw[if_pos e,if_neg (by simp;omega)]
 rw[if_neg e,if_pos (by simp;omega)]
theorem CU{l:List Nd}{a:Nat}{g:Gr}(h:q<l.length):nQ (l.drop q) a b g=nQ (l.drop (q+1)) a b (fK (nth l q) a b g):=by
 rw[jZ h];rfl
theorem F5{l:List Nd}{a:Nat}{g:Gr}(h:l.length=1):nO l a b g=fK (nth l 0) a b g:=by
 obtain⟨t,rfl⟩:=List.length_eq_one_iff.1 h;rw[ao];rfl
def Lp(t:Nd):Prop:=∀(B:Nat) (O:Nat->Nat) (w:ln) (i nb:Nat) (se:Bool) (g:Gr) (na ta lv kv:L1) (xs:List K3) (a b:Nat) (x:N3) (M:Nat),i≠0->MK B O w->NfO O w i nb se g na ta lv kv xs->WF g->a<g.ks.length->b<g.ks.length->Bd g M->M+9*nsz t<=100000000->fV t=true->Nt O w t x->
 MB LZ 179 [nP nb,nv x,nI (a:Nat),nI (b:Nat)] w λ_ w'=>NfP B O w w' i nb se (fK t a b g) na ta
theorem xG{k:Int}{l:List Nd}(a':k=6\/k=7\/k=8)(ih:Lp (nth l 0))(B:Nat)(O:Nat->Nat)(w:ln)(i nb:Nat)(se:Bool)(g:Gr)(na ta lv kv:L1)(xs:List K3)(a b:Nat)(x:N3)(M:Nat)(hi:i≠0)(hR:MK B O w)(h:NfO O w i nb se g na ta lv kv xs)(hw:WF g)(ha:a<g.ks.length)(hb:b<g.ks.length)(hM:Bd g M)(e8:M+9*nsz (.mk k c l)<=100000000)(hs:fV (.mk k c l)=true)(hn:Nt O w (.mk k c l) x):
  MB LZ 230 [nP nb,nv x,nI (a:Nat),nI (b:Nat)] w λ_ w'=>NfP B O w w' i nb se (fK (.mk k c l) a b g) na ta:=by
 obtain⟨T,d9,hT⟩:=hR.bound;have g1:=hn.kind;obtain⟨ys,d4,a5,b4,a3⟩:=hn.kids;have hx:x=(k,c,x.2.2):=hn.ones;generalize x.2.2=kidv at *;subst hx;unfold fV at hs;simp only[M7]at hs;obtain⟨b9,d5⟩:=hs;rw[if_neg zo,if_pos a']at b9;have b':l.length=1:=of_decide_eq_true b9;have g0:ys.length=1:=by rw[<-b4];exact b'
 have b5:fK (.mk k c l) a b g=layO k (fK (nth l 0) g.ks.length (g.ks.length+1) (bR g a b)) g.ks.length:=by
  rw[fK,if_neg zo,if_neg zo,if_pos a',F5 b'];rfl
 have g4:=bM l 0 zo;simp only[nsz]at e8;rw[b5];apply L4 func230 ntmps230 rfl rfl;refine zh ?_;apply aN hR T zo rfl rfl;intro xb w1 O1 c8 b1 b6 b7;obtain⟨b8,c5⟩:=Jb d9 hT b1 (MD zo _ _) c8;clear c8 b1 b6 b7;have h1:=h.ext b8 hi;have b6:=hR.ext b8;have k1:Cell0 O w1 (nA xb 0) (nI k):=c5 0 _ rfl;have v1:Cell0 O w1 (nA xb 2) kidv:=c5 2 _ rfl;have b1:L8 (λq=>i<=q) O w O w1:=ae zo O b8;refine zh ?_;apply zc Nv (jf B O w1 i nb se g na ta _ _ _ hi b6 h1 (by have:=hM.ks;omega));rintro _ w2 ⟨rfl,O2,f7,f',f4,d2,e6,h2⟩;refine zh ?_;have e1:=aR g;apply zc Nv (jf B O2 w2 i nb se g.knot na ta _ _ _ hi e6 h2 (by have:=hM.ks;omega));rintro _ w3 ⟨rfl,O3,f6,f9,f3,d1,e5,h3⟩;rw[e1];have e2:=aR g.knot;refine zh ?_;apply zc Ng (gK B O3 w3 i nb se g.knot.knot na ta _ _ _ a g.ks.length hi e5 h3 zo (by have:=Bd.fr hM.knot.knot a;omega) (by have:=Bd.ks hM.knot.knot;omega));rintro _ w4 ⟨O4,_,_,_,d0,e4,h4⟩;have e3:=bf g.knot.knot a g.ks.length;refine zh ?_;apply zc Ng (gK B O4 w4 i nb se (g.knot.knot.free a g.ks.length) na ta _ _ _ (g.ks.length+1) b hi e4 h4 zo (by have:=Bd.fr (hM.knot.knot.free (a:=a) (b:=g.ks.length) zo) (g.ks.length+1);omega) (by have:=Bd.ks (hM.knot.knot.free (a:=a) (b:=g.ks.length) zo);omega));rintro _ w5 ⟨O5,_,_,_,c',e0,h5⟩;have a0:=(((b1.trans d2).trans d1).trans d0).trans c';have a7:=((d2.trans d1).trans d0).trans c'
 have e9:NfO O5 w5 i nb se (bR g a b) na ta _ _ _:=h5;have b3:=eY hw ha hb;have g3:=eo g a b;have c6:=hM.often (b:=b) ha;have k5:=k1.upd a7;have v5:=v1.upd a7;have a1:=d4.upd a5 a0;have a4:=(a3 0 zo).upd a0;refine zh ?_;apply zv (RV.ld v5.c rfl);apply zv (MV a1 MA (ix _) rfl rfl 0 rfl zo);refine zvH (ai (us:=aX (nth ys 0)) (λj u hu=>a1.cell zo hu) (L2 _) (ix _) rfl) ?_;apply zc NN (ih B O5 w5 i nb se (bR g a b) na ta _ _ _ g.ks.length (g.ks.length+1) (nth ys 0) (M+4) hi e0 e9 b3 zo zo c6 zo (fW l 0 d5 zo) a4);rintro _ w6 ⟨O6,f5,f8,e',c9,d3,h6⟩;obtain⟨g2,a2⟩:=cK (nth l 0) g.ks.length (g.ks.length+1) (bR g a b) b3 zo zo;have a6:=gJ (nth l 0) g.ks.length (g.ks.length+1) (bR g a b) (M+4) b3 zo zo c6;have d7:=a2.len;generalize fK (nth l 0) g.ks.length (g.ks.length+1) (bR g a b)=g6 at *;have a9:=a0.trans c9;have k6:=k5.upd c9;refine zh ?_;refine zvH (RV.ld k6.c rfl) ?_
 by_cases h7:k=7
 ·subst h7;refine zFH rfl rfl ?_;refine zvH (RV.ld k6.c rfl) ?_;refine zTH rfl rfl ?_;apply zc Ng (gK B O6 w6 i nb se g6 na ta _ _ _ (g.ks.length+1) g.ks.length hi d3 h6 zo (by have:=Bd.fr a6 (g.ks.length+1);omega) (by have:=Bd.ks a6;omega));rintro _ w7 ⟨O7,_,_,_,b0,b2,h7⟩;refine zh ?_;refine aJ rfl ⟨O7,_,_,_,a9.trans b0,b2,h7⟩
 refine zTH rfl ((by simpa using h7)) ?_;apply zc Ng (gK B O6 w6 i nb se g6 na ta _ _ _ g.ks.length (g.ks.length+1) hi d3 h6 zo (by have:=Bd.fr a6 g.ks.length;omega) (by have:=Bd.ks a6;omega))
 rintro _ w7 ⟨O7,_,_,_,b0,b2,h7n⟩;have a8:=a9.trans b0;have k7:=k6.upd b0;refine zh ?_;refine zvH (RV.ld k7.c rfl) ?_
 by_cases h8:k=8
 ·subst h8;refine zFH rfl rfl ?_;refine aJ rfl ⟨O7,_,_,_,a8,b2,h7n⟩
 apply aP rfl ((by simpa using h8));have d6:layO k g6 g.ks.length=(g6.free g.ks.length (g.ks.length+1)).free (g.ks.length+1) g.ks.length:=by unfold layO;rw[if_neg h8,if_neg h7]
 rw[d6];have c7:=a6.free (a:=g.ks.length) (b:=g.ks.length+1) zo;have e7:=bf g6 g.ks.length (g.ks.length+1);refine zh ?_;apply zc Ng (gK B O7 w7 i nb se (g6.free g.ks.length (g.ks.length+1)) na ta _ _ _ (g.ks.length+1) g.ks.length hi b2 h7n zo (by have:=Bd.fr c7 (g.ks.length+1);omega) (by have:=Bd.ks c7;omega));rintro _ w8 ⟨O8,_,_,_,d8,d',h8n⟩;refine zh ?_;refine aJ rfl ⟨O8,_,_,_,a8.trans d8,d',h8n⟩
theorem F0{k:Int}{l:List Nd}(h4:k≠4)(h5:k≠5)(a0:¬(k=6\/k=7\/k=8))(h9:k≠9)(a b:Nat)(g:Gr):fK (.mk k c l) a b g=g.leaf k c a b:=by
 rw[fK,if_neg h4,if_neg h5,if_neg a0,if_neg h9]
theorem CO:∀(n:Nat) (t:Nd),nsz t<=n->Lp t
 |0,t,ht=>by have:=dd t;omega
 |n+1,.mk k c l,ht=>by
  intro B O w i nb se g na ta lv kv xs a b x M hi hR h hw ha hb hM l2 hs hn;have ih:=fun(t:Nd) (e:nsz t<=n)=>CO n t e
  have j':=hs;have k6:=hn;obtain⟨T,l1,hT⟩:=hR.bound;obtain⟨ys,j0,f',i0,d'⟩:=hn.kids;have hx:x=(k,c,x.2.2):=hn.ones;generalize x.2.2=kidv at *;subst hx;unfold fV at hs;simp only[M7]at hs;obtain⟨g5,g'⟩:=hs;simp only[nsz]at l2 ht
  change l.length=ys.length at i0
  change ∀i,i<ys.length->Nt O w (nth l i) (nth ys i)at d'
  have m4:=ey l;apply L4 func179 ntmps179 rfl rfl;refine zh ?_;apply aN hR T zo rfl rfl;intro xb w1 O1 j2 b8 e4 i';obtain⟨e',e8⟩:=Jb l1 hT b8 (MD zo _ _) j2;clear j2 b8 e4 i';have h1:=h.ext e' hi;have e4:=hR.ext e';have k1:Cell0 O w1 (nA xb 0) (nI k):=e8 0 _ rfl;have j4:Cell0 O w1 (nA xb 1) (nI c):=e8 1 _ rfl;have v1:Cell0 O w1 (nA xb 2) kidv:=e8 2 _ rfl;have b8:L8 (λq=>i<=q) O w O w1:=ae zo O e';have f4:=j0.ext e';have b7:=f'.upd b8;have k5:Nt O w1 (.mk k c l) (k,c,kidv):=k6.ext e';have b6:=λq hq=>(d' q hq).ext e'
  refine zh ?_;refine zvH (RV.ld k1.c rfl) ?_
  by_cases h4:k=4
  ·subst h4;rw[if_pos rfl]at g5;have b4:fK (.mk 4 c l) a b g=nN l a b g:=by rw[fK,if_pos rfl]
   rw[b4];refine zTH rfl rfl ?_;refine zvH (RV.ld v1.c rfl) ?_;apply zlp (λz:Nat×Nat×(Nat->Nat)×World×Gr×L1×L1×List K3=>[(0,nP nb),(2,nI z.2.1),(3,nI b),(5,nP xb),(55,kidv),(56,nI ys.length),(57,nI z.1)]) (λz=>z.2.2.2.1) (λz=>z.1<=l.length/\L8 (λq=>i<=q) O w1 z.2.2.1 z.2.2.2.1/\MK B z.2.2.1 z.2.2.2.1/\NfO z.2.2.1 z.2.2.2.1 i nb se z.2.2.2.2.1 na ta z.2.2.2.2.2.1 z.2.2.2.2.2.2.1 z.2.2.2.2.2.2.2/\WF z.2.2.2.2.1/\z.2.1<z.2.2.2.2.1.ks.length/\b<z.2.2.2.2.1.ks.length/\Bd z.2.2.2.2.1 (M+9*dI (l.take z.1))/\nN l a b g=(if z.1<l.length then nN (l.drop z.1) z.2.1 b z.2.2.2.2.1 else z.2.2.2.2.1)) (λz=>l.length-z.1) (0,a,O,w1,g,lv,kv,xs) ⟨L7 _,MD zo _ _,e4,h1,hw,ha,hb,by simpa[dI]using hM,by dsimp only;rw[if_pos (by cases l;simp at g5;simp),List.drop_zero]⟩;rintro⟨q,fr,O2,w2,g2,j6,j7,j5⟩ ⟨hq,b0,b1,h2,b2,d0,d2,c5,a7⟩;dsimp only at hq b0 b1 h2 b2 d0 d2 c5 a7 ⊢;have c6:=f4.upd b7 b0;have v2:=v1.upd b0;have k0:=cJ l q;refine zh ?_;refine zC ?_ ?_
   ·intro a1;replace a1:q<l.length:=dT a1;rw[if_pos a1,CP a1]at a7;have a3:=(b6 q zo).upd b0;have k2:=bM l q a1;have e1:=dV l q a1;have h0:=cJ l (q+1);have a5:=a3.one;obtain⟨T2,e3,i8⟩:=b1.bound;refine zh ?_;apply zv (ai (us:=aX (nth ys q)) (λj u hu=>c6.cell zo hu) (L2 _) (ix _) rfl);apply ar b1 T2 zo (L5 _) rfl;intro yb w3 O3 a8 a' g4 e6;refine zh ?_;apply zsb (us:=#[nI (nth ys q).1,nI (nth ys q).2.1,(nth ys q).2.2]) a8 (ix _) (bX a5);have g3:L8 (λj=>j=T2) O3 w3 O3 (w3.setRow yb #[nI (nth ys q).1,nI (nth ys q).2.1,(nth ys q).2.2]):=L3 zo a8.tag rfl;obtain⟨b9,g6⟩:=Jb e3 i8 a' g3 (a8.setRow (us:=#[nI (nth ys q).1,nI (nth ys q).2.1,(nth ys q).2.2]));generalize w3.setRow yb #[nI (nth ys q).1,nI (nth ys q).2.1,(nth ys q).2.2]=w4 at *;clear a8 a' g4 e6 g3;have a9:L8 (λq=>i<=q) O2 w2 O2 w4:=ae zo O2 b9;have h4n:=h2.ext b9 hi;have e9:=b1.ext b9;have v4:=v2.ext b9;have a6:=a3.ext b9;refine zh ?_;apply zv (RV.ld v4.c rfl);refine zvH (RV.len (by first|exact c6.ext b9) MA rfl) ?_;refine zC ?_ ?_
    ·intro c8;replace c8:q+1<l.length:=dT c8;rw[if_pos c8]at a7;refine zh ?_;apply zc Nv (jf B O2 w4 i nb se g2 na ta _ _ _ hi e9 h4n (by have:=c5.ks;omega));rintro _ w5 ⟨rfl,O5,m0,m1,l9,i5,i9,h5⟩;have i6:=a9.trans i5;have e5:=aR g2;refine zh ?_;refine zvH (ai (us:=aX (nth ys q)) (λj u hu=>((g6 j u hu).upd i5).c) (L2 _) (ix _) rfl) ?_;apply zc NN (ih (nth l q) zo B O5 w5 i nb se g2.knot na ta _ _ _ fr g2.ks.length (nth ys q) _ hi i9 h5 b2.knot zo zo c5.knot zo (fW l q g' a1) (a6.upd i5));rintro _ w6 ⟨O6,d4,d5,d3,a0,a4,h6⟩;obtain⟨f5,a2⟩:=cK (nth l q) fr g2.ks.length g2.knot b2.knot zo zo;have d1:=gJ (nth l q) fr g2.ks.length g2.knot _ b2.knot zo zo c5.knot;have f8:=a2.len;have m3:=dd (nth l q);refine zh ?_;refine zxd (q+1,g2.ks.length,O6,w6,fK (nth l q) fr g2.ks.length g2.knot,d4,d5,d3) ⟨a1,(b0.trans i6).trans a0,a4,h6,f5,by dsimp only;omega,by dsimp only;omega,d1.mono (by dsimp only;omega),by dsimp only;rw[if_pos c8];exact a7⟩
    intro c';replace c':¬q+1<l.length:=by have:=of_decide_eq_false c';omega
    rw[if_neg c']at a7;refine zh ?_;refine zvH (ai (us:=aX (nth ys q)) (λj u hu=>(g6 j u hu).c) (L2 _) (ix _) rfl) ?_;apply zc NN (ih (nth l q) zo B O2 w4 i nb se g2 na ta _ _ _ fr b (nth ys q) _ hi e9 h4n b2 d0 d2 c5 zo (fW l q g' a1) a6);rintro _ w6 ⟨O6,d4,d5,d3,a0,a4,h6⟩;obtain⟨f5,a2⟩:=cK (nth l q) fr b g2 b2 d0 d2;have d1:=gJ (nth l q) fr b g2 _ b2 d0 d2 c5;have f8:=a2.len;refine zh ?_;refine zxd (q+1,b,O6,w6,fK (nth l q) fr b g2,d4,d5,d3) ⟨a1,(b0.trans a9).trans a0,a4,h6,f5,by dsimp only;omega,by dsimp only;omega,d1.mono (by dsimp only;omega),by dsimp only;rw[if_neg c'];exact a7⟩
   intro e7;replace e7:¬q<l.length:=dF e7;rw[if_neg e7]at a7;rw[a7];refine zh ?_;refine aJ rfl ⟨O2,_,_,_,b8.trans b0,b1,h2⟩
  refine zFH rfl ((by simpa using h4)) ?_
  by_cases h5:k=5
  ·subst h5;have b4:fK (.mk 5 c l) a b g=nQ l a b g:=by rw[fK,if_neg h4,if_pos rfl]
   rw[b4];refine zTH rfl rfl ?_;refine zvH (RV.ld v1.c rfl) ?_;apply zlp (λz:Nat×(Nat->Nat)×World×Gr×L1×L1×List K3=>[(0,nP nb),(2,nI a),(3,nI b),(81,kidv),(82,nI ys.length),(83,nI z.1)]) (λz=>z.2.2.1) (λz=>z.1<=l.length/\L8 (λq=>i<=q) O w1 z.2.1 z.2.2.1/\MK B z.2.1 z.2.2.1/\NfO z.2.1 z.2.2.1 i nb se z.2.2.2.1 na ta z.2.2.2.2.1 z.2.2.2.2.2.1 z.2.2.2.2.2.2/\WF z.2.2.2.1/\a<z.2.2.2.1.ks.length/\b<z.2.2.2.1.ks.length/\Bd z.2.2.2.1 (M+9*dI (l.take z.1))/\nQ l a b g=nQ (l.drop z.1) a b z.2.2.2.1) (λz=>l.length-z.1) (0,O,w1,g,lv,kv,xs) ⟨L7 _,MD zo _ _,e4,h1,hw,ha,hb,by simpa[dI]using hM,rfl⟩;rintro⟨q,O2,w2,g2,j6,j7,j5⟩ ⟨hq,b0,b1,h2,b2,g7,d2,c5,a7⟩;dsimp only at hq b0 b1 h2 b2 g7 d2 c5 a7 ⊢;have c6:=f4.upd b7 b0;have k0:=cJ l q;refine zh ?_;refine zC ?_ ?_
   ·intro a1;replace a1:q<l.length:=dT a1;rw[CU a1]at a7;have a3:=(b6 q zo).upd b0;have k2:=bM l q a1;have e1:=dV l q a1;have h0:=cJ l (q+1);have a5:=a3.one;obtain⟨T2,e3,i8⟩:=b1.bound;refine zh ?_;apply zv (ai (us:=aX (nth ys q)) (λj u hu=>c6.cell zo hu) (L2 _) (ix _) rfl);apply ar b1 T2 zo (L5 _) rfl;intro yb w3 O3 a8 a' g4 e6;apply zsb (us:=#[nI (nth ys q).1,nI (nth ys q).2.1,(nth ys q).2.2]) a8 (ix _) (bX a5);have g3:L8 (λj=>j=T2) O3 w3 O3 (w3.setRow yb #[nI (nth ys q).1,nI (nth ys q).2.1,(nth ys q).2.2]):=L3 zo a8.tag rfl;obtain⟨b9,g6⟩:=Jb e3 i8 a' g3 (a8.setRow (us:=#[nI (nth ys q).1,nI (nth ys q).2.1,(nth ys q).2.2]));generalize w3.setRow yb #[nI (nth ys q).1,nI (nth ys q).2.1,(nth ys q).2.2]=w4 at *;clear a8 a' g4 e6 g3;have a9:L8 (λq=>i<=q) O2 w2 O2 w4:=ae zo O2 b9;have h4n:=h2.ext b9 hi;have e9:=b1.ext b9;have a6:=a3.ext b9;refine zh ?_;refine zvH (ai (us:=aX (nth ys q)) (λj u hu=>(g6 j u hu).c) (L2 _) (ix _) rfl) ?_;apply zc NN (ih (nth l q) zo B O2 w4 i nb se g2 na ta _ _ _ a b (nth ys q) _ hi e9 h4n b2 g7 d2 c5 zo (fW l q g' a1) a6);rintro _ w6 ⟨O6,d4,d5,d3,a0,a4,h6⟩;obtain⟨f5,a2⟩:=cK (nth l q) a b g2 b2 g7 d2;have d1:=gJ (nth l q) a b g2 _ b2 g7 d2 c5;have f8:=a2.len;refine zh ?_
    refine zxd (q+1,O6,w6,fK (nth l q) a b g2,d4,d5,d3) ⟨a1,(b0.trans a9).trans a0,a4,h6,f5,by dsimp only;omega,by dsimp only;omega,d1.mono (by dsimp only;omega),a7⟩
   intro e7;replace e7:¬q<l.length:=dF e7;rw[Mk zo]at a7;rw[a7,nQ];refine zh ?_;refine aJ rfl ⟨O2,_,_,_,b8.trans b0,b1,h2⟩
  refine zFH rfl ((by simpa using h5)) ?_
  by_cases b':k=6\/k=7\/k=8
  ·rw[if_neg h4,if_pos b']at g5;have m6:l.length=1:=of_decide_eq_true g5;have m2:=bM l 0 zo;have a5:kidv.oneCell'=true:=j0.one;have g8:∀(w':ln),Mr w1 w'->MB LZ 230 [nP nb,nv (k,c,kidv),nI (a:Nat),nI (b:Nat)] w' λ_ w''=>NfP B O w' w'' i nb se (fK (.mk k c l) a b g) na ta:=λw' hE=>xG b' (ih (nth l 0) zo) B O w' i nb se g na ta _ _ _ a b (k,c,kidv) M hi (e4.ext hE) (h1.ext hE hi) hw ha hb hM (by simp only[nsz];omega) j' (k5.ext hE)
   rcases b' with h6|h7|h8
   ·subst h6;refine zTH rfl rfl ?_;refine zTH rfl rfl ?_;refine zvH (ai (us:=aX (6,c,kidv)) (λj u hu=>(e8 j u hu).c) (L2 _) (ix _) rfl) ?_;apply zc PI (g8 w1 (LQ w1));rintro _ w6 ⟨O6,d4,d5,d3,a0,a4,h6n⟩;refine zh ?_;refine aJ rfl ⟨O6,_,_,_,b8.trans a0,a4,h6n⟩
   ·subst h7;refine zFH rfl rfl ?_;refine zTH rfl rfl ?_;refine zTH rfl rfl ?_;refine zvH (ai (us:=aX (7,c,kidv)) (λj u hu=>(e8 j u hu).c) (L2 _) (ix _) rfl) ?_;apply zc PI (g8 w1 (LQ w1));rintro _ w6 ⟨O6,d4,d5,d3,a0,a4,h6n⟩;refine zh ?_;refine aJ rfl ⟨O6,_,_,_,b8.trans a0,a4,h6n⟩
   subst h8;refine zFH rfl rfl ?_;refine zFH rfl rfl ?_;refine zTH rfl rfl ?_;refine zvH (ai (us:=aX (8,c,kidv)) (λj u hu=>(e8 j u hu).c) (L2 _) (ix _) rfl) ?_;apply zc PI (g8 w1 (LQ w1));rintro _ w6 ⟨O6,d4,d5,d3,a0,a4,h6n⟩;refine zh ?_;refine aJ rfl ⟨O6,_,_,_,b8.trans a0,a4,h6n⟩
  refine zFH rfl ((by simp;omega)) ?_;refine zFH rfl ((by simp;omega)) ?_
  refine zFH rfl ((by simp;omega)) ?_
  by_cases h9:k=9
  ·subst h9;have b4:fK (.mk 9 c l) a b g=g.free a b:=by rw[fK,if_neg h4,if_neg h5,if_neg b',if_pos rfl]
   rw[b4];refine zTH rfl rfl ?_;apply zc Ng (gK B O w1 i nb se g na ta _ _ _ a b hi e4 h1 zo (by have:=Bd.fr hM a;omega) (by have:=Bd.ks hM;omega));rintro _ w6 ⟨O6,_,_,_,a0,a4,h6n⟩;refine zh ?_;refine aJ rfl ⟨O6,_,_,_,b8.trans a0,a4,h6n⟩
  apply aI rfl ((by simpa using h9));rw[F0 h4 h5 b' h9];have e0:a<xs.length:=by have:=h.ks.len;omega
  have k':=hM.ls;have k9:=hM.lv a;have j1:=h1.ks.row.sl.sh;have k8:w1.drew.cell? (nA nb 1)=some lv:=h1.c1;have s0:∀W,Mr w1.drew W->W.cell? (nA xb 0)=some (nI k)/\W.cell? (nA xb 1)=some (nI c):=λW hE=>⟨hE.cell k1.c,hE.cell j4.c⟩
  refine zh ?_;apply aQ (λW=>W.cell? (nA xb 0)=some (nI k)/\W.cell? (nA xb 1)=some (nI c)) 16 rfl zk
  refine zin (s0 _ (LQ _)) λzS=>?_
  apply zrm 0 rfl zS rfl;apply zrm 1 rfl zS rfl
  apply zr 2 rfl zS (λ_=>aq rfl);apply zrf 3 rfl zS rfl
  apply zrf 5 rfl zS rfl;apply zt 6 rfl zS (λw1 c7=>RV.ld c7.1 rfl)
  apply zrf 7 rfl zS rfl;apply zt 8 rfl zS (λw1 c7=>RV.ld c7.2 rfl)
  apply zrm 9 rfl zS rfl;apply zr 10 rfl zS (λ_=>aF KE (PF _) rfl (by first|rfl|(simp only[L6,LP];rfl)) rfl rfl)
  apply cC 4 11 Ln (enc:=sV) ((k,c,b):Lf) rfl rfl zk zk zk zk (λW hE=>Nm (hE.cell k8) (isAgg275 _) rfl) s0 rfl rfl rfl zd rfl rfl rfl rfl rfl;intro sv w2 j9 l4;have g1:L8 (λ_=>False) O w1 O w2:=ae (λh=>h) O ((LQ w1).drew.trans l4);have h2:=h1.upd g1 hi λ_ _ h=>h
  have b1:=e4.upd g1;apply LU 12 zk rfl;apply aD Ln h2.ls b1 j9 (by simp) rfl rfl (by simp) (by simp[L9]) (by simp;omega) (by simp;omega) zo rfl;intro b3 w3 O3 d9 a' g4;have k3:=(k1.upd g1).upd a';have j3:=(j4.upd g1).upd a';have a8:=h2.blk.upd a' hi zo;have b5:Ks O3 w3 i kv g xs:=⟨h2.ks.row.upd a' zo zo,h2.ks.len,λq hq=>(h2.ks.fr q hq).upd a' zo zo,λq hq=>(h2.ks.lv q hq).upd a' zo zo,h2.ks.en⟩
  refine zh ?_;refine zaf ⟨k3.c,j3.c⟩ λzS=>?_
  apply zr 13 rfl zS (λ_=>aq rfl);apply zrf 14 rfl zS rfl
  apply LU 15 zk rfl;apply ak (j:=1) a8 rfl (sizeOf275 _) d9.one rfl rfl rfl
  have a9:L8 (λq=>q=i) O3 w3 O3 (w3.setCell ⟨nb,1,none⟩ b3):=M4 (λe=>hi e.symm) a8.tag rfl;have i4:Mc O3 (w3.setCell ⟨nb,1,none⟩ b3) i nb (nfC se b3 kv na ta) 278:=a8.set 1 b3;have k4:=k3.upd a9;have l6:=j3.upd a9;have d8:=d9.upd a9 zo zo;have f9:Ks O3 (w3.setCell ⟨nb,1,none⟩ b3) i kv g xs:=⟨b5.row.upd a9 zo zo,b5.len,λq hq=>(b5.fr q hq).upd a9 zo zo,λq hq=>(b5.lv q hq).upd a9 zo zo,b5.en⟩
  have e9:=g4.upd a9;have i7:L8 (λq=>i<=q) O w1 O3 (w3.setCell ⟨nb,1,none⟩ b3):=((g1.mono (λ_ h=>h.elim) zo).trans (Upd.hi a' hi zo)).trans (Upd.hi a9 hi (L0 _));refine zh ?_;apply aa ⟨k4.c,l6.c⟩;generalize w3.setCell ⟨nb,1,none⟩ b3=w4 at *;have l8:w4.drew.cell? (nA nb 1)=some b3:=i4.cell 1 rfl;have l7:w4.drew.cell? (nA nb 2)=some kv:=i4.cell 2 rfl;have l5:w4.drew.cell? ((adr kv 3 a).add 1)=some (nth xs a).2.1:=f9.f1 e0;have k7:(g.ls++[((k,c,b):Lf)]).length=g.ls.length+1:=by simp
  have s4:∀W,Mr w4.drew W->W.cell? (nA nb 1)=some b3/\W.cell? (nA nb 2)=some kv:=λW hE=>⟨hE.cell l8,hE.cell l7⟩
  apply Ml zk;refine zh ?_
  apply aQ (λW=>W.cell? (nA nb 1)=some b3/\W.cell? (nA nb 2)=some kv) 23 rfl zk;refine zin (s4 _ (LQ _)) λzS=>?_
  apply zrm 0 rfl zS rfl;apply zr 1 rfl zS (λ_=>aq rfl)
  apply zrf 2 rfl zS rfl;apply zt 3 rfl zS (λw1 c7=>RV.ld c7.2 rfl)
  apply zrm 4 rfl zS rfl;apply zrm 5 rfl zS rfl
  apply zr 6 rfl zS (λ_=>aq rfl);apply zrf 7 rfl zS rfl
  apply zt 8 rfl zS (λw1 c7=>RV.ld c7.2 rfl);apply zrm 9 rfl zS rfl
  apply zr 10 rfl zS (λ_=>aC j1 Mj (MI _) rfl rfl a rfl e0);apply zrf 11 rfl zS rfl
  apply zrm 13 rfl zS rfl;apply zr 14 rfl zS (λ_=>aq rfl)
  apply zrf 15 rfl zS rfl;apply zt 16 rfl zS (λw1 c7=>RV.ld c7.1 rfl)
  apply zr 17 rfl zS (λ_=>bH d8.sl.sh MR rfl);rw[k7];apply cC 12 18 lB (enc:=bm) (g.ls.length+1) rfl rfl zk zk zk zk (λW hE=>Nm (hE.cell l5) (isAgg22 _) rfl) s4 rfl rfl rfl zd rfl rfl rfl rfl rfl
  intro l' w5 g9 l3;have g0:L8 (λ_=>False) O3 w4 O3 w5:=ae (λh=>h) O3 ((LQ w4).drew.trans l3);have c9:=f9.upd g0 λ_ _ _ h=>h
  have l0:=i4.upd g0 hi λh=>h
  have f7:=d8.upd g0 zo λh=>h
  have i9:=e9.upd g0;apply LU 19 zk rfl;apply aD lB (c9.lv a e0) i9 g9 (by simp) rfl rfl (by simp) (by simp[L9]) (by simp;omega) (by simp;omega) zo rfl;intro av w6 O6 d7 a0 a4;have d1:=l0.upd a0 hi zo;have i2:=c9.row.upd a0 zo zo;have h':=f7.upd a0 zo zo;refine zh ?_;refine zaf ⟨d1.cell 1 rfl,d1.cell 2 rfl⟩ λzS=>?_
  apply zr 20 rfl zS (λ_=>aC j1 Mj (MI _) rfl rfl a rfl e0);apply zrf 21 rfl zS rfl
  apply LU 22 zk rfl;apply pF i2 a e0 1 zd (((nth xs a).1,av,(nth xs a).2.2):K3) (Nw _) d7.one zo rfl rfl rfl rfl
  intro w7 i1 e2;have i3:=d1.upd e2 hi zo;have h3:=h'.upd e2 zo zo;refine zh ?_;apply aa ⟨i3.cell 1 rfl,i3.cell 2 rfl⟩;have d6:∀q,q<xs.length->ME bm 3 1 O6 w7 (i+6+2*q) (nth xs q).1 (g.fr q):=λq hq=>((c9.fr q hq).upd a0 zo zo).upd e2 zo zo
  have f3:∀q,q<xs.length->q≠a->ME bm 3 1 O6 w7 (i+7+2*q) (nth xs q).2.1 (g.lv q):=λq hq m5=>((c9.lv q hq).upd a0 zo zo).upd e2 zo zo
  have f6:=d7.upd e2 zo zo;have j8:=h.ks.len;apply Ml zk;refine zh ?_;refine aJ rfl ⟨O6,b3,kv,xs.set a ((nth xs a).1,av,(nth xs a).2.2),b8.trans (i7.trans (((g0.mono (λ_ h=>h.elim) zo).trans (Upd.hi a0 hi zo)).trans (Upd.hi e2 hi zo))),a4.upd e2,⟨i3,h3,⟨i1,by rw[M0,gI];exact j8,λq hq=>?_,λq hq=>?_,λq hq=>?_⟩⟩⟩
  ·rw[M0]at hq;rw[bt e0,oO ha]
   by_cases e:q=a
   ·subst e;rw[if_pos rfl];exact d6 q hq
   rw[if_neg e];exact d6 q hq
  ·rw[M0]at hq;rw[bt e0,mn ha]
   by_cases e:q=a
   ·subst e;rw[if_pos rfl,if_pos rfl];exact f6
   rw[if_neg e,if_neg e];exact f3 q hq e
  rw[M0]at hq;rw[bt e0,CN ha]
  by_cases e:q=a
  ·subst e;rw[if_pos rfl];exact h.ks.en q hq
  rw[if_neg e];exact h.ks.en q hq
structure NfR(w:ln)(nb:Nat)(se:Bool)(g:Gr)(na ta lv kv:L1)(xs:List K3):Prop where
 c0:w.cell? (nA nb 0)=some (.bool se)
 c1:w.cell? (nA nb 1)=some lv
 c2:w.cell? (nA nb 2)=some kv
 c3:w.cell? (nA nb 3)=some na
 c4:w.cell? (nA nb 4)=some ta
 ls:Sl sV 3 w lv g.ls
 ks:Sl J3 3 w kv xs
 len:xs.length=g.ks.length
 fr:∀k,k<xs.length->Sl bm 1 w (nth xs k).1 (g.fr k)
 lv:∀k,k<xs.length->Sl bm 1 w (nth xs k).2.1 (g.lv k)
 en:∀k,k<xs.length->(nth xs k).2.2=g.en k
section
variable{O:Nat→Nat}{w w':ln}{i nb:Nat}{se:Bool}{g:Gr}{na ta lv kv:L1}{xs:List K3}
theorem NfO.r(h:NfO O w i nb se g na ta lv kv xs):NfR w nb se g na ta lv kv xs:=⟨h.c0,h.c1,h.c2,h.c3,h.c4,h.ls.sl,h.ks.row.sl,h.ks.len,λk hk=>(h.ks.fr k hk).sl,λk hk=>(h.ks.lv k hk).sl,h.ks.en⟩
theorem NfR.ext(h:NfR w nb se g na ta lv kv xs)(e:Mr w w'):NfR w' nb se g na ta lv kv xs:=⟨e.cell h.c0,e.cell h.c1,e.cell h.c2,e.cell h.c3,e.cell h.c4,h.ls.ext e,h.ks.ext e,h.len,λk hk=>(h.fr k hk).ext e,λk hk=>(h.lv k hk).ext e,h.en⟩
theorem NfR.f0(h:NfR w nb se g na ta lv kv xs)(hk:k<xs.length):w.cell? ((adr kv 3 k).add 0)=some (nth xs k).1:=h.ks.cell (j:=0) hk rfl
theorem NfR.f1(h:NfR w nb se g na ta lv kv xs)(hk:k<xs.length):w.cell? ((adr kv 3 k).add 1)=some (nth xs k).2.1:=h.ks.cell (j:=1) hk rfl
theorem NfR.f2(h:NfR w nb se g na ta lv kv xs)(hk:k<xs.length):w.cell? ((adr kv 3 k).add 2)=some (nI ((g.en k:Nat):Int)):=by rw[<-h.en k hk];exact h.ks.cell (j:=2) hk rfl
end
theorem yr{l:List Nat}{f:List Nat}(h:j<f.length):ef l (f.drop j)=ef (if l.contains (nth f j)then l else l++[nth f j]) (f.drop (j+1)):=by
 rw[show f.drop j=nth f j::f.drop (j+1)from by rw[aB h];exact Np h,ef]
theorem Ck(w:ln)(nb:Nat)(se:Bool)(g:Gr)(na ta lv kv:L1)(xs:List K3)(k M:Nat)(h:NfR w nb se g na ta lv kv xs)(hw:WF g)(hk:k<g.ks.length)(hM:Bd g M)(d8:M<=100000000):
  MB LZ 231 [nP nb,nI (k:Nat)] w λv w'=>Sl bm 1 w' v (fx g k)/\Mr w w'/\(fx g k).length<=M/\(∀x∈fx g k,x<g.ks.length)/\∀(B:Nat) (O:Nat->Nat),MK B O w->Nq O w' v:=by
 have d5:=h.len;have d9:=hM.ks;apply L4 func231 ntmps231 rfl rfl;refine zh ?_;apply aM lB (enc:=bm) (ax w) 1 zd k rfl rfl rfl zd rfl;intro v0 w0 O0 a8 d2 d4;refine zh ?_;apply zlp (λz:Nat×List Nat×L1×(Nat->Nat)×World=>[(0,nP nb),(5,z.2.2.1),(6,nI z.1)]) (λz=>z.2.2.2.2) (λz=>z.1<=z.2.1.length/\Rc g k z.1 z.2.1/\ME bm 3 1 z.2.2.2.1 z.2.2.2.2 1 z.2.2.1 z.2.1/\L8 (λq=>q=1) (λ_=>0) w z.2.2.2.1 z.2.2.2.2/\MK w.heap.size z.2.2.2.1 z.2.2.2.2/\ie g (g.ks.length-z.1) z.1 z.2.1=fx g k) (λz=>g.ks.length-z.1) (0,[k],v0,O0,w0) ⟨L7 _,tu hk,a8,d2,d4,rfl⟩;rintro⟨i,l,b8,O1,w1⟩ ⟨hi,a5,a2,b3,b7,a'⟩;dsimp only at hi a5 a2 b3 b7 a' ⊢;have d6:=gF a5.nd a5.lt;have b':=a2.sl;refine zh ?_;refine zC ?_ ?_
 ·intro a6;replace a6:i<l.length:=dT a6;have hm:=a5.lt _ (aW a6);have b2:nth l i<xs.length:=zo;have d7:=hM.fr (nth l i);obtain⟨d,hd⟩:∃d,g.ks.length-i=d+1:=⟨g.ks.length-i-1,zo⟩
  rw[hd,ie,if_pos a6]at a';have b1:=h.ext b3.ext;have c2:w1.drew.cell? (nA nb 2)=some kv:=b1.c2;have f0:w1.drew.cell? ((adr kv 3 (nth l i)).add 0)=some (nth xs (nth l i)).1:=b1.f0 b2;have m1:w1.drew.cell? (adr b8 1 i)=some (nI ((nth l i:Nat):Int)):=by have:=b'.cell (j:=0) a6 rfl;rwa[aA]at this
  have c':=(b1.fr _ b2).drew;refine zh ?_;apply MP zk zk;refine zh ?_;refine zwH (aC b1.ks.sh Mj (MI _) rfl rfl (nth l i) rfl b2) ?_;refine zwH (bH c'.sh My rfl) ?_;apply MJ;refine zh ?_;apply zlp (λy:Nat×List Nat×L1×(Nat->Nat)×World=>[(0,nP nb),(5,y.2.2.1),(6,nI i),(27,(nth xs (nth l i)).1),(28,nI (g.fr (nth l i)).length),(29,nI y.1)]) (λy=>y.2.2.2.2) (λy=>y.1<=(g.fr (nth l i)).length/\y.2.1.length<=l.length+y.1/\ME bm 3 1 y.2.2.2.1 y.2.2.2.2 1 y.2.2.1 y.2.1/\L8 (λq=>q=1) (λ_=>0) w y.2.2.2.1 y.2.2.2.2/\MK w.heap.size y.2.2.2.1 y.2.2.2.2/\ef y.2.1 ((g.fr (nth l i)).drop y.1)=ef l (g.fr (nth l i))) (λy=>(g.fr (nth l i)).length-y.1) (0,l,b8,O1,w1.drew) ⟨L7 _,L0 _,a2.drew,b3.drew,b7.drew,rfl⟩;rintro⟨j,l2,b5,O2,w2⟩ ⟨hj,c9,a0,b0,b4,a1⟩;dsimp only at hj c9 a0 b0 b4 a1 ⊢;have c7:=h.ext b0.ext;have c6:=a0.sl;have d0:=c7.fr _ b2;refine zh ?_;refine zC ?_ ?_
  ·intro a3;replace a3:j<(g.fr (nth l i)).length:=dT a3;rw[yr a3]at a1;have m2:w2.cell? (adr (nth xs (nth l i)).1 1 j)=some (nI ((nth (g.fr (nth l i)) j:Nat):Int)):=by have:=d0.cell (j:=0) a3 rfl;rwa[aA]at this
   refine zh ?_;apply zc call255 (sW l2 (nth (g.fr (nth l i)) j) b5 w2 c6)
   rintro v w9 ⟨rfl,b9⟩;rw[b9];clear b9 w9;refine zh ?_
   cases hc:l2.contains (nth (g.fr (nth l i)) j)with
   |true=>
    rw[hc,if_pos rfl]at a1;refine zFH rfl rfl ?_;refine zxd (j+1,l2,b5,O2,w2) ⟨a3,by dsimp only;omega,a0,b0,b4,a1⟩
   |false=>
    rw[hc,if_neg zd]at a1;refine zTH rfl rfl ?_;apply N9 lB a0 b4 ((nth (g.fr (nth l i)) j)) (λ_=>rfl) rfl rfl rfl (by simp[L9]) zo zo zo zd rfl rfl;intro c5 w3 O3 a7 d1 d3;refine zh ?_;refine zxd (j+1,l2++[nth (g.fr (nth l i)) j],c5,O3,w3) ⟨a3,by dsimp only;simp;omega,a7,b0.trans d1,d3,a1⟩
  intro a9;replace a9:¬j<(g.fr (nth l i)).length:=dF a9;rw[Mk zo,ef]at a1;subst a1;have a4:=a5.step hw a6;have c8:=gF a4.nd a4.lt;obtain⟨s,hs⟩:=jq (g.fr (nth l i)) l;refine zh ?_;refine zxd (i+1,ef l (g.fr (nth l i)),b5,O2,w2) ⟨by dsimp only;rw[hs];simp;omega,a4,a0,b0,b4,by dsimp only;rw[show g.ks.length-(i+1)=d from by omega];exact a'⟩
 intro b6;replace b6:¬i<l.length:=dF b6;have e:ie g (g.ks.length-i) i l=l:=by
  cases hd:g.ks.length-i with
  |zero=>rfl
  |succ d=>rw[ie,if_neg b6]
 rw[e]at a';rw[<-a'];refine zh ?_;refine af rfl rfl ⟨b',b3.ext,zo,a5.lt,λB O hR=>a2.free zd b7 hR⟩
abbrev kvI(n:Int):L1:=nI n
abbrev tvU(n:Nat):L1:=.int .u64 (n:Int)
theorem qS:KeyL LZ 3 kvI:=KeyL.int P1
theorem Fb{g:Gr}(he:∀k,g.en k<=n)(hb:b<2^n)(k:Nat):fF g b k<2^n:=by
 unfold fF
 split
 ·exact hb
 rename_i h;have:=he k;exact N6 hb (NF zd zo)
theorem kz{g:Gr}{n:Nat}(he:∀k,g.en k<=n):∀(l:List Nat) (b:Nat),b<2^n->l.foldl (fF g) b<2^n
 |[],_,hb=>hb
 |k::l,_,hb=>kz he l _ (Fb he hb k)
theorem zJ(B:Nat)(O:Nat->Nat)(w:ln)(i nb:Nat)(se:Bool)(g:Gr)(nr tr:Nat)(lv kv:L1)(xs:List K3)(l1:List (Int×L1))(l2:List (Int×Nat))(p:Int)(k M:Nat)(hi:2<i)(hR:MK B O w)(h:NfO O w i nb se g (.map (some nr)) (.map (some tr)) lv kv xs)(e7:NR kvI id O w 1 nr l1)(e6:NR kvI tvU O w 2 tr l2) 
  (hw:WF g) (hk:k<g.ks.length) (hM:Bd g M) (h5:M<=1000000) (he:∀q,g.en q<=40) :
  MB LZ 180 [nP nb,nI p,nI (k:Nat)] w λ_ w'=>∃v,L8 (λq=>q=1\/q=2) O w O w'/\NR kvI id O w' 1 nr (cU l1 p v)/\NR kvI tvU O w' 2 tr (cU l2 p ((fx g k).foldl (fF g) 0))/\Sl bm 1 w' v ((fx g k).flatMap g.lv)/\Nq O w' v:=by
 obtain⟨T0,h4,e1⟩:=hR.bound;obtain⟨T,h1⟩:∃T,T=T0+10+i+2*g.ks.length:=⟨_,rfl⟩
 have hT:∀b,O b<T:=λb=>by have:=e1 b;omega
 have f6:=h.ks.len;have f':=e7.tag;have f9:=e6.tag;have f8:=h.r;apply L4 func180 ntmps180 rfl rfl;refine zh ?_;apply zc call231 (Ck w nb se g _ _ lv kv xs k M f8 hw hk hM zo);rintro rv w1 ⟨e5,f5,g7,c7,f7⟩;generalize fx g k=rl at *;have g3:L8 (λq=>q=T) O w O w1:=ae zo O f5;have g2:=f7 B O hR;have h6:=hM.ks;have b2:∀q,q<rl.length->nth rl q<xs.length:=λq hq=>by rw[f6];exact c7 _ (aW hq)
 refine zvH (bH e5.sh My rfl) ?_;apply zlp (λz:Nat×L1×(Nat->Nat)×World=>[(0,nP nb),(1,nI p),(6,z.2.1),(7,.int .u64 (((rl.take z.1).foldl (fF g) 0:Nat):Int)),(13,rv),(14,nI rl.length),(15,nI z.1)]) (λz=>z.2.2.2) (λz=>z.1<=rl.length/\ME bm 3 1 z.2.2.1 z.2.2.2 T z.2.1 ((rl.take z.1).flatMap g.lv)/\((rl.take z.1).flatMap g.lv).length<=z.1*1000000/\L8 (λq=>q=T) O w z.2.2.1 z.2.2.2/\MK B z.2.2.1 z.2.2.2/\Sl bm 1 z.2.2.2 rv rl/\Nq z.2.2.1 z.2.2.2 rv) (λz=>rl.length-z.1) (0,nS,O,w1) ⟨L7 _,Ms _ _ _ _ _ _,by simp,g3,hR.ext f5,e5,g2⟩
 rintro⟨q,v2,O2,w2⟩ ⟨hq,a0,g0,a9,b',a3,d8⟩;dsimp only at hq a0 g0 a9 b' a3 d8 ⊢;have h2:=h.updT a9 zo (λr _ hr=>zo);have a':=h2.r;have c2:=a'.c2;have g6:=a0.sl;refine zh ?_;refine zC ?_ ?_
 ·intro a5;replace a5:q<rl.length:=dT a5;have b3:=b2 q a5;have m2:w2.cell? (adr rv 1 q)=some (nI ((nth rl q:Nat):Int)):=by have:=a3.cell (j:=0) a5 rfl;rwa[aA]at this
  have f1:=a'.f1 b3;have g9:=hM.lv (nth rl q);refine zh ?_;refine zvH (aC a'.ks.sh Mj (MI _) rfl rfl (nth rl q) rfl b3) ?_;apply aK lB a0 b' (a'.lv _ b3) rfl rfl (by simp) (by simp[L9]) zo zo zo rfl;intro v3 w3 O3 a2 e0 f4;have a8:=a9.trans e0;have h3:=h.updT a8 zo (λr _ hr=>zo);have c8:=h3.r;have b1:=a3.upd d8 e0;have e9:=d8.upd e0;have f2:=c8.f2 b3;have h7:=c8.c2;have g':=he (nth rl q);have e4:rl.take (q+1)=rl.take q++[nth rl q]:=aY a5;have e8:(rl.take (q+1)).foldl (fF g) 0=fF g ((rl.take q).foldl (fF g) 0) (nth rl q):=by rw[e4,N4];rfl
  have b8:(rl.take (q+1)).flatMap g.lv=(rl.take q).flatMap g.lv++g.lv (nth rl q):=by rw[e4];simp
  have h0:=kz he (rl.take q) 0 zd;refine zh ?_;refine zvH (aC c8.ks.sh Mj (MI _) rfl rfl (nth rl q) rfl b3) ?_;refine zC ?_ ?_
  ·intro a4;have a4:g.en (nth rl q)≠0:=dT a4;have g8:2^(g.en (nth rl q)-1)<2^40:=NF zd zo;refine zh ?_;rw[show((g.en (nth rl q):Nat):Int)-1=((g.en (nth rl q)-1:Nat):Int)from by omega];apply zv (yD (a:=1) (b:=g.en (nth rl q)-1) rfl rfl rfl rfl (by show _<=64;omega) (by show _<=(18446744073709551615:Int);omega));rw[Nat.one_mul];refine zvH (vP (a:=(rl.take q).foldl (fF g) 0) (b:=2^(g.en (nth rl q)-1)) rfl rfl rfl rfl (by show _<=(18446744073709551615:Int);omega) (by show _<=(18446744073709551615:Int);omega)) ?_;have a6:(rl.take (q+1)).foldl (fF g) 0=(rl.take q).foldl (fF g) 0 ||| 2^(g.en (nth rl q)-1):=by rw[e8,fF,if_neg a4]
   rw[<-a6];refine zxd (q+1,v3,O3,w3) ⟨a5,by dsimp only;rw[b8];exact a2,by dsimp only;rw[b8,M6];omega,a8,f4,b1,e9⟩
  intro hz;have hz:g.en (nth rl q)=0:=dF hz;refine zh ?_;have a6:(rl.take (q+1)).foldl (fF g) 0=(rl.take q).foldl (fF g) 0:=by rw[e8,fF,if_pos hz]
  rw[<-a6];refine zxd (q+1,v3,O3,w3) ⟨a5,by dsimp only;rw[b8];exact a2,by dsimp only;rw[b8,M6];omega,a8,f4,b1,e9⟩
 intro g1;obtain rfl:q=rl.length:=dF g1;rw[Mb]at a0 ⊢;have hf:Nq O w2 v2:=Ps a0 zo hT b' a9;have d7:=e7.upd a9 zd zo;have d1:=e6.upd a9 zd zo;have d3:w2.drew.cell? (nA nb 3)=some (.map (some nr)):=a'.c3;have d4:w2.drew.cell? (nA nb 4)=some (.map (some tr)):=a'.c4;have d9:L8 (λ_=>False) O2 w2 O2 w2.drew:=ae (λh=>h) O2 (LQ w2).drew;have d6:=d7.upd d9 zd λh=>h
 have d0:=d1.upd d9 zd λh=>h
 have b0:∀W (S:Nat->Prop),L8 S O2 w2.drew O2 W->¬S i->W.cell? (nA nb 3)=some (.map (some nr))/\W.cell? (nA nb 4)=some (.map (some tr)):=λW S u hS=>
  have hb:=h2.blk.drew.upd u zo hS
  ⟨hb.cell 3 rfl,hb.cell 4 rfl⟩
 refine zh ?_;apply aQ (λW=>W.cell? (nA nb 3)=some (.map (some nr))/\W.cell? (nA nb 4)=some (.map (some tr))) 18 rfl zk
 refine zin ⟨d3,d4⟩ λzS=>?_
 apply zrm 0 rfl zS rfl;apply zr 1 rfl zS (λ_=>aq rfl)
 apply zrf 2 rfl zS rfl;apply zt 3 rfl zS (λw1 c5=>RV.ld c5.1 rfl)
 apply zrm 4 rfl zS rfl;apply zrm 5 rfl zS rfl
 apply zr 6 rfl zS (λ_=>aq rfl);apply zrf 7 rfl zS rfl
 apply zt 8 rfl zS (λw1 c5=>RV.ld c5.2 rfl);apply zrm 9 rfl zS rfl
 apply zrm 10 rfl zS rfl;apply zrm 11 rfl zS rfl
 apply LU 12 zk rfl;apply mX d6 PA qS zd (PO _) p v2 rfl rfl rfl rfl
 intro w4 c4 b4 e3 b5;refine zh ?_;apply aa (b0 _ _ b5 zo);apply zr 13 rfl (b0 _ _ b5 zo) (λ_=>PD rfl rfl);apply LU 14 zk rfl;apply jE e3 rfl rfl rfl rfl;intro w5 d5 b9;have c':=d0.upd b9 zd zd;refine zh ?_;apply aa (b0 _ _ b9 zo);apply LU 15 zk rfl;apply mX c' Pz qS zd (PN _) p (rl.foldl (fF g) 0) rfl rfl rfl rfl;intro w6 c6 b6 e2 d';have hU6e:L8 (λq=>q=1\/q=2) O2 w2.drew O2 w6:=(b9.mono (λ_ h=>.inl h) zo).trans (d'.mono (λ_ h=>.inr h) zo);refine zh ?_;apply aa (b0 _ _ hU6e zo);apply zr 16 rfl (b0 _ _ hU6e zo) (λ_=>PD rfl rfl);apply LU 17 zk rfl;apply jE e2 rfl rfl rfl rfl;intro w7 c9 f3;have d2:=d5.upd f3 zd zd;have b7:L8 (λq=>q=1\/q=2) O2 w2.drew O2 w7:=(b9.mono (λ_ h=>.inl h) zo).trans (f3.mono (λ_ h=>.inr h) zo);refine zh ?_;apply aa (b0 _ _ b7 zo);have a7:=(d9.mono (S':=λq=>q=1\/q=2) (λ_ h=>h.elim) zo).trans b7;have e':=(a9.mono (S':=λq=>q=T\/q=1\/q=2) (λ_ h=>.inl h) zo).trans (a7.mono (λ_ h=>.inr h) zo)
 have g4:L8 (λq=>q=1\/q=2) O w O w7:=Upd.fgt e' (λb h=>by
  rcases h with h|h
  ·have:=hT b;omega
  exact h) zo
 have a1:=a0.upd a7 zo zo;have g5:=b'.upd a7;apply Ml zk;refine aJ rfl ⟨v2,g4,d2.fgt f',c9.fgt f9,a1.sl,Ps a1 zo hT g5 e'⟩
end Go.Proofs.YteolbhblkgjbhaaGreatDoor
namespace Go.VL
section
variable{P:Nj}{N:Nat}{ops:Array Pa}{Q:Px→Act→ln→Prop}{rest:List Pa}{st:St}{w:ln}
variable{t:Me}{p:String}{e:Array PX}{d:Nat}{x y z:NP}
theorem Ext.iter(w:ln)(s:ByteArray)(a0:Nat):Mr w (w.iter s a0):=Ext.alloc w _
theorem vJ{xt:Me}(hT:P.underlying xt=some .string)(hx:ev st x=some (.string (bs l)))(hd:MZ d N=true) 
  (h:WL P N ops Q rest ((d,.pointer (some ⟨w.heap.size,0,none⟩))::st) (w.iter (bs l) 0)):WL P N ops Q (⟨some d,.range xt x,t,p,e,none⟩::rest) st w:=
 Pi hd (λa ha=>by
  simp only[execOp,ha.ev hx,MC,run_range_string w xt (bs l) hT,Mm]
  rfl) h
theorem Gs{a0:Nat}{c:UInt8}(hx:ev st x=some (.pointer (some ⟨w0.heap.size,0,none⟩)))(hc:l[a0]? = some c)(ha:c.toNat<128)(hd:MZ d N=true) 
  (h:WL P N ops Q rest ((d,.tuple #[.bool true,nI (a0:Nat),.int .i32 (c.toNat:Int)])::st) (w0.iter (bs l) (a0+1))):WL P N ops Q (⟨some d,.next x true,t,p,e,none⟩::rest) st (w0.iter (bs l) a0):=by
 obtain⟨a2,hv⟩:=No.1 hc;have hs:a0<(bs l).size:=by rw[df];exact a2
 have he:(bs l)[a0]'hs=c:=by rw[<-hv];exact List.getElem_toArray (xs:=l) (i:=a0) a2
 have a1:=run_next_ascii (P:=P) w0 (bs l) a0 t hs (by rw[he];exact ha);rw[he]at a1
 exact Pi hd (λa ha=>by
  simp only[execOp,ha.ev hx,MC,a1,Mm]
  rfl) h
theorem Gq{a0:Nat}(hx:ev st x=some (.pointer (some ⟨w0.heap.size,0,none⟩)))(hp:l.length<=a0)(hd:MZ d N=true) 
  (h:WL P N ops Q rest ((d,.tuple #[.bool false])::st) (w0.iter (bs l) a0)):WL P N ops Q (⟨some d,.next x true,t,p,e,none⟩::rest) st (w0.iter (bs l) a0):=by
 have hs:¬a0<(bs l).size:=by rw[df];omega
 have a1:=run_next_end (P:=P) w0 (bs l) a0 t hs
 exact Pi hd (λa ha=>by
  simp only[execOp,ha.ev hx,MC,a1,Mm]
  rfl) h
end
section
variable{P:Nj}{N:Nat}{ops:Array Pa}{Q:Px→Act→ln→Prop}{rest:List Pa}{st:St}{w:ln}
variable{t:Me}{p:String}{e:Array PX}{d:Nat}{x y z:NP}
theorem yE{xt:Me}{cs:Array L1}{k:IntKind}(hu:P.underlying xt=some (.array n E))(hE:(PT E).run P w=.ok 1 w)(hA:(isAgg E).run P w=.ok false w)(hx:ev st x=some (.agg cs))(hy:ev st y=some (.int k m))(i:Nat)(hm:m=i)(hi:i<n)(hc:cs[i]? = some v):
  RV P N (.index xt x y) t st w v:=λa ha a0 p e g=>by
 subst hm;have h2:0<=(i:Int)/\(i:Int)<(n:Int):=zo;simp only[execOp,ha.ev hx,ha.ev hy];simp[Instr.index,asIntOf,run_underlying hu,hE,h2,part,hA,hc];omega
theorem iO{c:PY}(f:α->St)(g:α->ln)(I:α->Prop)(h1:∀Q',(∀z,I z->QF N Q' .normal (f z) (g z))->WC P N c Q' st w)(h2:∀z,I z->QF N Q .normal (f z) (g z)):WC P N c Q st w:=h1 Q h2
theorem dq{e:Px}{a0:St}(h:QF N Q e a0 w')(hc:Cov st a0)(hw:w'=w):QF N Q e st w:=by subst hw;exact h.weaken hc
theorem lI{T:Me}{cs us:Array L1}(off:Nat)(hb:Mc O w i b cs E)(hs:off+us.size<=cs.size)(hT:(PT T).run P w=.ok us.size w)(h1:us.toList.all L9=true) 
  {q:Py} (hx:ev st x=some (.pointer (some q))) (hq:q=⟨b,off,none⟩) (hy:ev st y=some (.agg us))
  (h:WL P N ops Q rest st (w.setRow b (cs.toList.take off++us.toList++cs.toList.drop (off+us.size)).toArray)):WL P N ops Q (⟨none,.store T x y,t,p,e,none⟩::rest) st w:=
 iK (λa ha=>by
  subst hq;have a0:(P9 T (.pointer (some ⟨b,off,none⟩)) (.agg us)).run P w=.ok () (w.setRow b (cs.toList.take off++us.toList++cs.toList.drop (off+us.size)).toArray):=by
   have:=run_storeCells_at P b off E us.toList 0 cs w hb.blk (by simpa using hs) (List.all_eq_true.1 h1);simp only[Nat.add_zero,Array.length_toList]at this;simp only[P9,Instr.sureAddr,storeVar,MC,Pp,Mm,Value.cells,hT];simpa using this
  simp only[execOp,ha.ev hx,ha.ev hy,MC,a0,Mm,Pp]) h
end
def lowT(O:Nat->Nat)(T:Nat):Nat->Nat:=λb=>if T<=O b then 0 else O b
theorem Upd.lowT{S:Nat->Prop}{T:Nat}{O O2:Nat->Nat}{w w':ln}(h:L8 S O w O2 w')(hT:∀b,O b<T){S':Nat->Prop}(hS:∀b,S (O b)->S' (O b))(hz:¬S' 0):L8 S' O w (lowT O2 T) w':=
 ⟨h.os,h.tape,h.output,h.size,λb hb hn=>h.blk b hb λhs=>hn (hS b hs),λb hb=>by
  have h1:=h.tag b hb;have:=hT b;unfold Go.VL.lowT;rw[if_neg zo];exact h1,λb hb=>by
  unfold Go.VL.lowT at hb
  split at hb
  ·exact absurd rfl hb
  exact h.new b hb,hz⟩
theorem Rng.lowT{B:Nat}{O:Nat->Nat}{w:ln}(h:MK B O w)(T:Nat):MK B (lowT O T) w:=⟨h.le,λb hb=>by
 unfold Go.VL.lowT at hb
 split at hb
 ·exact absurd rfl hb
 exact h.rng b hb⟩
theorem BlkO.lowT{O:Nat->Nat}{w:ln}{i b:Nat}{cs:Array L1}{E:Me}(h:Mc O w i b cs E){T:Nat}(hi:i<T):Mc (lowT O T) w i b cs E:=⟨h.blk,by unfold Go.VL.lowT;rw[h.tag,if_neg zo]⟩
theorem RowT.lowT{α:Type}{enc:α->List L1}{O:Nat->Nat}{w:ln}{i:Nat}{E:Me}{sz:Nat}{v:L1}{l:List α}(h:ME enc E sz O w i v l){T:Nat}(hi:i<T):ME enc E sz (lowT O T) w i v l:=
 ⟨⟨h.1.row,λg hg=>by unfold Go.VL.lowT;rw[h.1.tag g hg,if_neg zo]⟩,h.2⟩
theorem kU(h:O b=0):lowT O T b=0:=by unfold lowT;split<;>simp[h]
end Go.VL
namespace Go.Proofs.YteolbhblkgjbhaaGreatDoor
theorem iw:∀(l:List Nd) (i:Nat),i<l.length->bu (l.take (i+1))=bu (l.take i)+dA (nth l i)
 |[],i,h=>absurd h (M9 i)
 |t::r,0,_=>by rw[ao];simp[bu]
 |t::r,i+1,h=>by
  have:=iw r i (by simpa using h);rw[aS];simp only[List.take_succ_cons,bu];omega
mutual
theorem mm:∀(t:Nd),dA t<=nsz t
 |.mk k c l=>by
  have:=je l
  simp only[dA,nsz]
  split<;>omega
theorem je:∀(l:List Nd),bu l<=dI l
 |[]=>by simp[bu]
 |t::r=>by
  have h1:=mm t
  have h2:=je r
  simp only[bu,dI]
  omega
end
theorem qM:∀(n:Nat),n<=1000000->∀(t:Nd),nsz t<=n->∀(x:N3) (w:ln),Nt (λ_=>0) w t x->MB LZ 176 [nv x] w λv w'=>v=nI ((dA t:Nat):Int)/\Mr w w'
 |0,_,t,hn=>by have:=dd t;omega
 |n+1,hn6,.mk k c l,hn=>by
  intro x w h;have ih:=qM n zo;have b5:=h.ones;obtain⟨ys,b3,hf,a7,a4⟩:=h.kids;simp only[Nn]at a7 a4;simp only[nsz]at hn;generalize x.2.2=sv at *;subst b5;simp only[P4,Pj];have d1:=ey l;have d2:=je l;apply L4 func176 ntmps176 rfl rfl;refine zh ?_;apply aN (ax w) 1 zo rfl rfl;intro xb w1 O1 b0 d4 d6 a';have c0:w1.cell? (nA xb 0)=some (nI k):=b0.cell 0 rfl;have c2:w1.cell? (nA xb 2)=some sv:=b0.cell 2 rfl;have a6:=b3.ext a';have a2:=a';clear a';refine zh ?_
  by_cases hl:l=[]
  ·subst hl;have b4:ys.length=0:=a7.symm;apply au (d:=10) rfl (b':=true) ((by rw[b4];rfl));refine zh ?_
   by_cases h9:k=9
   ·subst h9;have a0:dA (.mk 9 c [])=bu []:=by rw[dA,if_neg (by rintro⟨_,e⟩;exact e rfl)]
    refine zFH rfl rfl ?_;apply zlp (λz:Nat×ln=>[(3,nI ((bu (([]:List Nd).take z.1):Nat):Int)),(16,sv),(17,nI ys.length),(18,nI z.1)]) (λz=>z.2) (λz=>z.1<=([]:List Nd).length/\Mr w1 z.2) (λz=>([]:List Nd).length-z.1) (0,w1) ⟨L7 _,LQ _⟩
    rintro⟨q,w2⟩ ⟨hq,a1⟩;dsimp only at hq a1 ⊢;have a5:=a6.ext a1;have b6:q=0:=by simpa using hq
    refine zh ?_;refine zC ?_ ?_
    ·intro a3;exact absurd (of_decide_eq_true a3) zo
    intro b1;subst b6;refine zh ?_;refine af rfl rfl ⟨by rw[a0,List.take_nil],a2.trans a1⟩
   have a0:dA (.mk k c [])=1:=by rw[dA,if_pos ⟨rfl,h9⟩]
   rw[a0];refine zTH rfl ((by simpa using h9)) ?_;refine af rfl rfl ⟨rfl,a2⟩
  have a0:dA (.mk k c l)=bu l:=by rw[dA,if_neg (by rintro⟨e,_⟩;exact hl (by simpa using e))]
  have b7:=List.length_pos_iff.2 hl;apply au (d:=10) rfl (b':=false) ((by rw[beq_eq_false_iff_ne];omega));refine zh ?_;refine zFH rfl rfl ?_;apply zlp (λz:Nat×ln=>[(3,nI ((bu (l.take z.1):Nat):Int)),(16,sv),(17,nI ys.length),(18,nI z.1)]) (λz=>z.2) (λz=>z.1<=l.length/\Mr w1 z.2) (λz=>l.length-z.1) (0,w1) ⟨L7 _,LQ _⟩;rintro⟨q,w2⟩ ⟨hq,a1⟩;dsimp only at hq a1 ⊢;have a5:=a6.ext a1;have c9:=cJ l q;refine zh ?_;refine zC ?_ ?_
  ·intro a3;replace a3:q<l.length:=dT a3;have a8:=(a4 q zo).ext (a2.trans a1);have c5:=a8.one;have d0:=bM l q a3;have d3:=mm (nth l q);have b9:=je (l.take q);have c':=dV l q a3;have b8:=cJ l (q+1);refine zh ?_;apply zv (ai (us:=aX (nth ys q)) (λj u hu=>a5.cell zo hu) (L2 _) (ix _) rfl);apply ar (ax w2) 1 zo (L5 _) rfl;intro yb w3 O3 a9 c7 d5 d7;apply zsb (us:=#[nI (nth ys q).1,nI (nth ys q).2.1,(nth ys q).2.2]) a9 (ix _) (bX c5);have b2:Mr w2 (w3.setRow yb #[nI (nth ys q).1,nI (nth ys q).2.1,(nth ys q).2.2]):=(c7.trans (L3 zd a9.tag rfl)).ext;have c6:=a9.setRow (us:=#[nI (nth ys q).1,nI (nth ys q).2.1,(nth ys q).2.2]);generalize w3.setRow yb #[nI (nth ys q).1,nI (nth ys q).2.1,(nth ys q).2.2]=w4 at *;refine zh ?_;apply zv (ai (us:=aX (nth ys q)) c6.cellsAdd (L2 _) (ix _) rfl);apply zc call176 (ih (nth l q) zo (nth ys q) w4 (a8.ext b2));rintro v w5 ⟨rfl,c8⟩;refine zh ?_;rw[show((bu (l.take q):Nat):Int)+((dA (nth l q):Nat):Int)=((bu (l.take (q+1)):Nat):Int)from by rw[iw l q a3];simp];refine zxd (q+1,w5) ⟨a3,(a1.trans b2).trans c8⟩
  intro b1;obtain rfl:q=l.length:=dF b1;rw[Mb];refine zh ?_;refine af rfl rfl ⟨by rw[a0],a2.trans a1⟩
theorem BJ(k c m:Int)(b:Nat)(w:ln):MB LZ 256 [.agg #[nI k,nI c,nI (b:Nat)],nI m] w λv w'=>v=.bool (cW k c m)/\Mr w w':=by
 apply L4 func256 ntmps256 rfl rfl;refine zh ?_
 apply aN (ax w) 1 zo rfl rfl;intro xb w1 O1 a4 a5 a6 a3;have c0:w1.cell? (nA xb 0)=some (nI k):=a4.cell 0 rfl;have c1:w1.cell? (nA xb 1)=some (nI c):=a4.cell 1 rfl;obtain⟨cl,a0⟩:∃cl,cl=(decide (0<=m)&&decide (m<36)):=⟨_,rfl⟩
 refine zh ?_;refine aT (λW=>W=w1) (decide (m<36)) 2 rfl rfl rfl rfl rfl rfl ?_ ?_
 ·intro a1;refine zh ?_;refine nE 8 3 rfl a1
 rintro w9 rfl;rw[<-a0];refine zh ?_
 by_cases h0:k=0
 ·have hM:cW k c m=(cl&&(m==c)):=by unfold cW;rw[if_pos h0,a0]
  rw[hM];refine zTH rfl ((by simpa using h0)) ?_;refine aT (λW=>W=w9) ((m==c)) 4 rfl rfl rfl rfl rfl rfl ?_ ?_
  ·intro a2;refine zh ?_;refine nE 17 5 rfl a2
  rintro w8 rfl;refine zh ?_;refine af rfl rfl ⟨rfl,a3⟩
 refine zFH rfl ((by simpa using h0)) ?_
 by_cases h1:k=1
 ·have hM:cW k c m=cl:=by unfold cW;rw[if_neg h0,if_pos h1,a0]
  rw[hM];refine zTH rfl ((by simpa using h1)) ?_;refine af rfl rfl ⟨rfl,a3⟩
 refine zFH rfl ((by simpa using h1)) ?_
 by_cases h2:k=2
 ·have hM:cW k c m=(cl&&(m != c)):=by unfold cW;rw[if_neg h0,if_neg h1,if_pos h2,a0]
  rw[hM];refine zTH rfl ((by simpa using h2)) ?_;refine aT (λW=>W=w9) ((m != c)) 4 rfl rfl rfl rfl rfl rfl ?_ ?_
  ·intro a2;refine zh ?_;refine nE 29 5 rfl a2
  rintro w8 rfl;refine zh ?_;refine af rfl rfl ⟨rfl,a3⟩
 have hM:cW k c m=(m==36):=by unfold cW;rw[if_neg h0,if_neg h1,if_neg h2]
 rw[hM];refine zFH rfl ((by simpa using h2)) ?_;refine af rfl rfl ⟨rfl,a3⟩
structure NfD(w:ln)(nb:Nat)(se:Bool)(g:Gr):Prop where
 ex:∃nr tr lv kv xs l1 l2,NfR w nb se g (.map (some nr)) (.map (some tr)) lv kv xs/\NR kvI id (λ_=>0) w 0 nr l1/\NR kvI tvU (λ_=>0) w 0 tr l2/\
  (∀p:Nat,p<=g.ls.length->∃v,bI l1 (p:Int)=some v/\Sl bm 1 w v (de g p))/\∀p:Nat,p<=g.ls.length->bI l2 (p:Int)=some (jJ g p)
theorem pK{κ ν:Type}{kv:κ->L1}{vv:ν->L1}{r:Nat}{l:List (κ×ν)}(h:NR kv vv (λ_=>0) w 0 r l)(e:Mr w w'):NR kv vv (λ_=>0) w' 0 r l:=by
 obtain⟨es,c,h1,h2⟩:=h.blk;have e1:=e.block r (bL h1);exact⟨⟨es,c,by rw[e1];exact h1,h2⟩,rfl,λa0 c' h'=>h.born a0 c' (by rw[<-e1];exact h')⟩
theorem NfD.ext{w w':ln}{nb:Nat}{se:Bool}{g:Gr}(h:NfD w nb se g)(e:Mr w w'):NfD w' nb se g:=by
 obtain⟨nr,tr,lv,kv,xs,l1,l2,h1,h2,h3,h4,h5⟩:=h.ex;exact⟨nr,tr,lv,kv,xs,l1,l2,h1.ext e,pK h2 e,pK h3 e,λp hp=>by obtain⟨v,a,b⟩:=h4 p hp;exact⟨v,a,b.ext e⟩,h5⟩
theorem Dx(w:ln)(nb:Nat):MB LZ 182 [nP nb] w λv w'=>Sl encI 1 w' v [0]/\Mr w w'/\∀(B:Nat) (O:Nat->Nat),MK B O w->Nq O w' v:=by
 apply L4 func182 ntmps182 rfl rfl;refine zh ?_
 refine zvH (eS (q:=some ⟨nb,0,none⟩) N8 rfl rfl) ?_;refine zFH rfl rfl ?_
 apply aM lB (enc:=encI) (ax w) 1 zd (0:Int) rfl rfl rfl zd rfl;intro v0 w0 O0 a0 a1 a2;refine zh ?_
 refine af rfl rfl ⟨a0.sl,a1.ext,λB O hR=>a0.free zd a2 hR⟩
def tH(g:Gr)(m:Int)(l:List Nat):List Int:=(l.filter λj=>cW (nth g.ls (j-1)).1 (nth g.ls (j-1)).2.1 m).map fun(j:Nat)=>(j:Int)
theorem Da{g:Gr}{l:List Nat}(h:j<l.length):tH g m (l.take (j+1))=tH g m (l.take j)++if cW (nth g.ls (nth l j-1)).1 (nth g.ls (nth l j-1)).2.1 m=true then [((nth l j:Nat):Int)]else []:=by
 unfold tH;rw[aY h,List.filter_append,List.map_append,List.filter_cons]
 split<;>rfl
theorem Ga(g:Gr)(m:Int)(l:List Nat):(tH g m l).length<=l.length:=by unfold tH;rw[List.length_map];exact List.length_filter_le _ _
theorem step_ret(w:ln)(nb:Nat)(se:Bool)(g:Gr)(s:List Int)(sv:L1)(m:Int)(h:NfD w nb se g)(hs:Sl encI 1 w sv s)(hw:WF g)(h0:0<g.ks.length)(ht:Tot g)(hp:inP g s)(f3:s.length<=1000)(e4:g.ls.length<=999):
  MB LZ 233 [nP nb,sv,nI m] w λv w'=>Sl encI 1 w' v (da se g s m)/\Mr w w'/\∀(B:Nat) (O:Nat->Nat),MK B O w->Nq O w' v:=by
 have e7:=h;obtain⟨nr,tr,lv,kv,xs,l1,l2,hr,e3,f6,e1,f5⟩:=h.ex;have a9:∀q,q<=s.length->((if se=true then [(0:Int)]else [])++(s.take q).flatMap λp=>tH g m (de g p.toNat)).length<=1+q*999:=λq hq=>by
  have h1:=Ip (se:=se) hw h0 ht (m:=m) (s:=s.take q) λx hx=>hp x (List.mem_of_mem_take hx)
  have h2:(s.take q).length*g.ls.length<=q*999:=Nat.mul_le_mul (by simp;omega) e4;exact Pq h1 zo
 apply L4 func233 ntmps233 rfl rfl;refine zh ?_
 refine zvH (eS (q:=some ⟨nb,0,none⟩) N8 rfl rfl) ?_;refine zFH rfl rfl ?_
 refine zvH (RV.ld hr.c0 rfl) ?_;refine iO (λz:L1×(Nat->Nat)×World=>[(0,nP nb),(1,sv),(2,nI m),(7,z.1)]) (λz:L1×(Nat->Nat)×World=>z.2.2) (λz:L1×(Nat->Nat)×World=>ME encI 3 1 z.2.1 z.2.2 1 z.1 (if se=true then [0]else [])/\L8 (λq=>q=1) (λ_=>0) w z.2.1 z.2.2/\MK w.heap.size z.2.1 z.2.2) ?_ ?_
 ·intro Qm hN;refine zC ?_ ?_
  ·intro c6;have e0:([]:List Int).length=0:=rfl;refine zh ?_;apply N9 lB (Ms encI 3 1 (λ_=>0) w 1) (ax w) ((0:Int)) (λ_=>rfl) rfl rfl rfl (by simp[L9]) zo zo zo zd rfl rfl;intro v1 w1 O1 a2 b5 b7;refine zh ?_;exact dq (hN ((v1,O1,w1)) ⟨by rw[if_pos c6];exact a2,b5,b7⟩) ⟨rfl,rfl,rfl,rfl,trivial⟩ rfl
  intro c6;refine zh ?_;exact dq (hN ((nS,λ_=>0,w)) ⟨by rw[if_neg (by rw[c6];decide)];exact Ms _ _ _ _ _ _,MD zd _ _,ax w⟩) ⟨rfl,rfl,rfl,rfl,trivial⟩ rfl
 rintro⟨v1,O1,w1⟩ ⟨a2,b5,b7⟩;dsimp only at a2 b5 b7 ⊢;obtain⟨hd,d4⟩:∃hd,hd=(if se=true then [(0:Int)]else []):=⟨_,rfl⟩
 rw[<-d4]at a2 a9;refine zh ?_;refine zvH (bH hs.sh My rfl) ?_;apply zlp (λz:Nat×L1×(Nat->Nat)×World=>[(0,nP nb),(2,nI m),(7,z.2.1),(21,sv),(22,nI s.length),(23,nI z.1)]) (λz=>z.2.2.2) (λz=>z.1<=s.length/\ME encI 3 1 z.2.2.1 z.2.2.2 1 z.2.1 (hd++(s.take z.1).flatMap λp=>tH g m (de g p.toNat))/\L8 (λq=>q=1) (λ_=>0) w z.2.2.1 z.2.2.2/\MK w.heap.size z.2.2.1 z.2.2.2) (λz=>s.length-z.1) (0,v1,O1,w1) ⟨L7 _,by simpa using a2,b5,b7⟩;rintro⟨q,v2,O2,w2⟩ ⟨hq,a4,a6,d0⟩;dsimp only at hq a4 a6 d0 ⊢;have b0:=a9 q hq;refine zh ?_;refine zC ?_ ?_
 ·intro a7;replace a7:q<s.length:=dT a7;have d9:=hp _ (aW a7);obtain⟨pn,c7⟩:∃pn:Nat,nth s q=(pn:Int):=⟨(nth s q).toNat,zo⟩
  have b2:pn<=g.ls.length:=by have:=d9.2;rw[c7]at this;simpa using this
  obtain⟨b8,c8,c5⟩:=e1 pn b2;have f4:=zu hw ht (pU hw h0 b2);have d7:=hs.ext a6.ext;have c9:=pK e3 a6.ext;have m2:w2.cell? (adr sv 1 q)=some (nI (nth s q)):=by have:=d7.cell (j:=0) a7 rfl;rwa[aA]at this
  rw[c7]at m2;have d8:=hr.ext a6.ext;have d6:=c5.ext a6.ext;have c3:=d8.c3;refine zh ?_;apply zv (PM (u:=b8) c9 PA qS (PO _) (pn:Int) rfl rfl rfl (by rw[c8];rfl));refine zvH (bH c5.sh My rfl) ?_;apply zlp (λy:Nat×L1×(Nat->Nat)×World=>[(0,nP nb),(2,nI m),(7,y.2.1),(21,sv),(22,nI s.length),(23,nI q),(32,b8),(33,nI (de g pn).length),(34,nI y.1)]) (λy=>y.2.2.2) (λy=>y.1<=(de g pn).length/\ME encI 3 1 y.2.2.1 y.2.2.2 1 y.2.1 ((hd++(s.take q).flatMap λp=>tH g m (de g p.toNat))++tH g m ((de g pn).take y.1))/\L8 (λq=>q=1) (λ_=>0) w y.2.2.1 y.2.2.2/\MK w.heap.size y.2.2.1 y.2.2.2) (λy=>(de g pn).length-y.1) (0,v2,O2,w2) ⟨L7 _,by simpa[tH]using a4,a6,d0⟩;rintro⟨j,v3,O3,w3⟩ ⟨hj,a1,a5,b1⟩;dsimp only at hj a1 a5 b1 ⊢;have b':=c5.ext a5.ext;have d2:=hr.ext a5.ext;have f8:=Ga g m ((de g pn).take j);have d3:((hd++(s.take q).flatMap λp=>tH g m (de g p.toNat))++tH g m ((de g pn).take j)).length=(hd++(s.take q).flatMap λp=>tH g m (de g p.toNat)).length+(tH g m ((de g pn).take j)).length:=M6;have e':((de g pn).take j).length<=j:=by simp;omega
  refine zh ?_;refine zC ?_ ?_
  ·intro a3;replace a3:j<(de g pn).length:=dT a3;have f7:1<=nth (de g pn) j/\nth (de g pn) j<=g.ls.length:=by
    obtain⟨k,hk,e5⟩:=(nK hw h0 b2 (nth (de g pn) j)).1 (aW a3);exact hw.lv k _ (hk.lt hw (pU hw h0 b2)) e5
   have b3:=Da (g:=g) (m:=m) a3;have m3:w3.cell? (adr b8 1 j)=some (nI ((nth (de g pn) j:Nat):Int)):=by have:=b'.cell (j:=0) a3 rfl;rwa[aA]at this
   generalize nth (de g pn) j=to at *;have c1:=d2.c1;have a':=d2.ls;refine zh ?_;rw[show((to:Nat):Int)-1=((to-1:Nat):Int)from by omega];apply zv (MV a' MR (Nk _) rfl rfl (to-1) rfl zo);refine zvH (ai (us:=sV (nth g.ls (to-1))) (λj u hu=>a'.cell zo hu) (isAgg283 _) (Nk _) rfl) ?_;apply zc call256 (BJ (nth g.ls (to-1)).1 (nth g.ls (to-1)).2.1 m (nth g.ls (to-1)).2.2 w3);rintro v w4 ⟨rfl,d1⟩;have b4:=a5.trans (ae zd O3 d1);have b6:=b1.ext d1;have a0:ME encI 3 1 O3 w4 1 v3 _:=a1.upd (ae (S:=λ_=>False) (λh=>h) O3 d1) zd λh=>h
   refine zh ?_;refine zC ?_ ?_
   ·intro b9;rw[if_pos b9]at b3;refine zh ?_;apply N9 lB a0 b6 (((to:Nat):Int)) (λ_=>rfl) rfl rfl rfl (by simp[L9]) zo zo zo zd rfl rfl;intro v5 w5 O5 a8 e8 e9;refine zh ?_;refine zxd (j+1,v5,O5,w5) ⟨a3,by dsimp only;rw[b3,<-MH];exact a8,b4.trans e8,e9⟩
   intro d';rw[if_neg (by rw[d'];decide),P7]at b3;refine zh ?_;refine zxd (j+1,v3,O3,w4) ⟨a3,by dsimp only;rw[b3];exact a0,b4,b6⟩
  intro c';obtain rfl:j=(de g pn).length:=by have:=of_decide_eq_false c';omega
  rw[Mb]at a1;have d5:(s.take (q+1)).flatMap (λp=>tH g m (de g p.toNat))=(s.take q).flatMap (λp=>tH g m (de g p.toNat))++tH g m (de g pn):=by rw[aY a7,NI,c7];simp
  refine zh ?_;refine zxd (q+1,v3,O3,w3) ⟨a7,by dsimp only;rw[d5,<-MH];exact a1,a5,b1⟩
 intro e6;obtain rfl:q=s.length:=dF e6;rw[Mb]at a4 b0;have e2:s.length*999<=999000:=zo;refine zh ?_;apply zc call113 (kB d0 a4 zd zo);rintro _ w3 ⟨a1,a5,b1⟩;refine zh ?_;apply zc call114 (fh b1 a1 zd (by rw[ez];omega));rintro v4 w4 ⟨a0,b4,b6⟩;have e:Lib.compact (gY (hd++s.flatMap λp=>tH g m (de g p.toNat)))=da se g s m:=by rw[d4];rfl
 rw[e]at a0;refine zh ?_;refine af rfl rfl ⟨a0.sl,((a6.trans a5).trans b4).ext,λB O hR=>a0.free zd b6 hR⟩
theorem ku(w:ln)(nb:Nat)(se:Bool)(g:Gr)(s:List Int)(sv:L1)(h:NfD w nb se g)(hs:Sl encI 1 w sv s)(hp:inP g s)(he:∀q,g.en q<=40):
  MB LZ 184 [nP nb,sv] w λv w'=>v=.int .u64 ((dH g s:Nat):Int)/\w'=w:=by
 obtain⟨nr,tr,lv,kv,xs,l1,l2,hr,b3,a9,b2,a8⟩:=h.ex;have a4:∀p,jJ g p<2^40:=λp=>kz he _ 0 zd
 have b1:=hs.len_le;apply L4 func184 ntmps184 rfl rfl;refine zh ?_;refine zvH (Bn (q:=some ⟨nb,0,none⟩) N8 rfl rfl) ?_;refine zTH rfl rfl ?_;apply zlp (λz:Nat=>[(0,nP nb),(5,.int .u64 ((dH g (s.take z):Nat):Int)),(10,sv),(11,nI s.length),(12,nI z)]) (λz=>w) (λz=>z<=s.length/\dH g (s.take z)<2^40) (λz=>s.length-z) 0 ⟨L7 _,by rw[List.take_zero];show(0:Nat)<2^40;decide⟩;rintro q ⟨hq,a1⟩;refine zh ?_;refine zC ?_ ?_
 ·intro a0;replace a0:q<s.length:=dT a0;have a6:=hp _ (aW a0);obtain⟨pn,a2⟩:∃pn:Nat,nth s q=(pn:Int):=⟨(nth s q).toNat,zo⟩
  have a7:pn<=g.ls.length:=by have:=a6.2;rw[a2]at this;simpa using this
  have a':=a8 pn a7;have m2:w.cell? (adr sv 1 q)=some (nI (nth s q)):=by have:=hs.cell (j:=0) a0 rfl;rwa[aA]at this
  rw[a2]at m2;have c4:=hr.c4;have a5:=a4 pn;have a3:dH g (s.take (q+1))=dH g (s.take q) ||| jJ g pn:=by
   unfold dH;rw[aY a0,N4,a2];rfl
  refine zh ?_;apply zv (PM (u:=.int .u64 ((jJ g pn:Nat):Int)) a9 Pz qS (PN _) (pn:Int) rfl rfl rfl (by rw[a'];rfl))
  refine zvH (vP (a:=dH g (s.take q)) (b:=jJ g pn) rfl rfl rfl rfl (by show _<=(18446744073709551615:Int);omega) (by show _<=(18446744073709551615:Int);omega)) ?_;rw[<-a3];refine zxd (q+1) ⟨a0,by rw[a3];exact N6 a1 a5⟩
 intro b0;obtain rfl:q=s.length:=dF b0;rw[Mb];refine zh ?_;refine af rfl rfl ⟨rfl,rfl⟩
mutual
theorem vt:∀(t:Nd) (wi:Bool),bS t wi=true->AS t=true/\fV t=true
 |.mk k c l,wi,h=>by
  unfold bS at h
  simp only[M7]at h
  obtain⟨h1,h2⟩:=h
  obtain⟨i1,i2⟩:=qY l h2
  unfold AS fV
  rw[i1,i2,Pd,Pd]
  have hl:l.isEmpty=true↔l.length=0:=by cases l<;>simp
  rcases dE h1 with⟨rfl,hn,_⟩|⟨rfl,hn,_⟩|⟨rfl,hn,_⟩|⟨rfl,hn,_⟩|⟨rfl,hn,_⟩|⟨rfl,hn,_⟩|⟨rfl,hn,_⟩|⟨rfl,hn,_⟩|⟨rfl,hn,_⟩|⟨rfl,hn,_⟩
  ·exact⟨by rw[if_neg zd];exact hl.2 hn,by rw[if_neg zd,if_neg zd]⟩
  ·exact⟨by rw[if_neg zd];exact hl.2 hn,by rw[if_neg zd,if_neg zd]⟩
  ·exact⟨by rw[if_neg zd];exact hl.2 hn,by rw[if_neg zd,if_neg zd]⟩
  ·exact⟨by rw[if_neg zd];exact hl.2 hn,by rw[if_neg zd,if_neg zd]⟩
  ·have:l.isEmpty=false:=by cases l;simp at hn;rfl
   exact⟨by rw[if_pos zd,this];rfl,by rw[if_pos rfl,this];rfl⟩
  ·have:l.isEmpty=false:=by cases l;simp at hn;rfl
   exact⟨by rw[if_pos zd,this];rfl,by rw[if_neg zd,if_neg zd]⟩
  ·have:l.isEmpty=false:=by cases l;simp at hn;rfl
   exact⟨by rw[if_pos zd,this];rfl,by rw[if_neg zd,if_pos zd,hn];rfl⟩
  ·have:l.isEmpty=false:=by cases l;simp at hn;rfl
   exact⟨by rw[if_pos zd,this];rfl,by rw[if_neg zd,if_pos zd,hn];rfl⟩
  ·have:l.isEmpty=false:=by cases l;simp at hn;rfl
   exact⟨by rw[if_pos zd,this];rfl,by rw[if_neg zd,if_pos zd,hn];rfl⟩
  exact⟨by rw[if_neg zd];exact hl.2 hn,by rw[if_neg zd,if_neg zd]⟩
theorem qY:∀(l:List Nd),eO l=true->jW l=true/\cm l=true
 |[],_=>⟨rfl,rfl⟩
 |t::r,h=>by
  rw[eO,M7]at h
  obtain⟨a1,a2⟩:=vt t true h.1
  obtain⟨b1,b2⟩:=qY r h.2
  unfold jW cm
  rw[a1,a2,b1,b2]
  exact⟨rfl,rfl⟩
end
theorem ga{t:Nd}(h:bp t=true):AS t=true/\fV t=true/\nsz t<=2000:=by
 unfold bp at h;simp only[M7,decide_eq_true_eq]at h;obtain⟨h1,h2⟩:=vt t false h.2;exact⟨h1,h2,h.1⟩
theorem jQ:∀ {l:List Nd},(∀t∈l,bp t=true)->jW l=true/\cm l=true
 |[],_=>⟨rfl,rfl⟩
 |t::r,h=>by
  obtain⟨a1,a2,_⟩:=ga (h t (by simp));obtain⟨b1,b2⟩:=jQ (l:=r) λx hx=>h x (by simp[hx])
  unfold jW cm;rw[a1,a2,b1,b2];exact⟨rfl,rfl⟩
theorem zY:∀(xs:List Nd) (i:Nat) (g:Gr),WF g->0<g.ks.length->(∀k,g.en k<=i)->∀k,(cB xs i g).en k<=i+xs.length
 |[],i,g,_,_,h,k=>by have:=h k;show g.en k<=_;omega
 |x::r,i,g,hw,h0,h,k=>by
  obtain⟨h1,h2,h3⟩:=lX hw h0 x i
  have:=zY r (i+1) (nJ x i g) h1 zo (λq=>by
   rw[sq hw h0]
   split
   ·omega
   split
   ·have:=h q;omega
   omega) k
  simp only[M1];show(cB r (i+1) (nJ x i g)).en k<=_;omega
theorem Cw(xs:List Nd)(k:Nat):(kq xs).en k<=xs.length:=by
 have:=zY xs 0 g00 qV zd (λq=>by
  unfold Gr.en g00
  by_cases e:q=0
  ·subst e;rw[ao];exact L0 _
  rw[eZ (by simp;omega)];exact L0 _) k
 rw[Nat.zero_add]at this;exact this
theorem IF(xs:List Nd):Tot (kq xs):=vD xs 0 g00 qV zd (by simp[Tot,xd,g00])
theorem qG{xs:List Nd}(h1:jW xs=true)(h2:cm xs=true):(kq xs).ls.length=bu xs:=by
 have:=mT xs 0 g00 h1 h2;unfold kq;rw[this];simp[g00]
theorem Bd.mark{g:Gr}{M:Nat}(h:Bd g M){a e:Nat}(ha:a<g.ks.length):Bd (g.mark a e) M:=⟨by rw[cN];exact h.ks,h.ls,λk=>by rw[oM ha];exact h.fr k,λk=>by rw[oL ha];exact h.lv k⟩
theorem IA{g:Gr}(h:WF g)(h0:0<g.ks.length)(x:Nd)(i:Nat)(hM:Bd g M):Bd (nJ x i g) (M+3+(9*nsz x-1)):=by
 have e1:=aR g;have e2:=cN g.knot g.ks.length (i+1);have e3:=aR (g.knot.mark g.ks.length (i+1));have hl:=eh g i;exact gJ x _ _ _ _ (eU h h0 i).1 zo zo (((hM.knot.mark zo).knot).free zo)
theorem A9{xs:List Nd}{g:Gr}(h:q<xs.length):cB (xs.drop q) q g=cB (xs.drop (q+1)) (q+1) (nJ (nth xs q) q g):=by
 rw[jZ h,cB]
theorem JX:Bd g00 1:=by
 refine⟨zd,zd,λk=>?_,λk=>?_⟩
 ·unfold Gr.fr g00
  by_cases e:k=0
  ·subst e;rw[ao];decide
  rw[eZ (by simp;omega)];decide
 unfold Gr.lv g00
 by_cases e:k=0
 ·subst e;rw[ao];decide
 rw[eZ (by simp;omega)];decide
def ec(ts:List Nd):Int:=if 40<ts.length then 3 else if ts.any (λt=>!bp t)=true then 1 else if 1000<1+bu ts then 7 else 0
theorem FK(t:Nd)(x:N3)(w:ln)(h:Nt (λ_=>0) w t x):MB LZ 175 [nv x] w λv w'=>v=.bool (!bp t)/\Mr w w':=by
 have hx:=h.ones;have a3:=h.one;apply L4 func175 ntmps175 rfl rfl;refine zh ?_;apply aN (ax w) 1 zo rfl rfl;intro xb w1 O1 a1 a4 a5 a0;refine zh ?_;apply zv (ai (us:=aX x) a1.cellsAdd (L2 _) (ix _) rfl);apply zc Pw (fZ t x w1 (h.ext a0));rintro v w2 ⟨rfl,a2⟩;refine zh ?_;refine af rfl rfl ⟨rfl,a0.trans a2⟩
def Cy(nb:Nat)(e:Int):L1:=.pointer (if e=0 then some ⟨nb,0,none⟩else none)
theorem IG(se:Bool)(ts:List Nd)(xs:List N3)(sv:L1)(w:ln)(hs:Sl aX 3 w sv xs)(hl:ts.length=xs.length)(hk:∀i,i<xs.length->Nt (λ_=>0) w (nth ts i) (nth xs i)):
  MB LZ 128 [.bool se,sv] w λv w'=>∃nb,v=.tuple #[Cy nb (ec ts),nI (ec ts)]/\Mr w w'/\(ec ts=0->NfD w' nb se (kq ts)):=by
 apply L4 func128 ntmps128 rfl rfl;refine zh ?_
 by_cases g4:40<ts.length
 ·have hM:ec ts=3:=by unfold ec;rw[if_pos g4]
  rw[hM];refine zTH rfl ((decide_eq_true zo)) ?_;refine cc rfl rfl rfl ⟨0,rfl,LQ _,λh=>by cases h⟩
 have hq:∀i,i<xs.length->∀w',Mr w w'->MB LZ 175 ([nv (nth xs i)]++(#[]:Array L1).toList) w' λv w''=>v=.bool (!bp (nth ts i))/\Mr w' w'':=λi hi w' hE=>FK _ _ w' ((hk i hi).ext hE)
 have j2:jj (λi=>!bp (nth ts i)) xs.length=ts.any (λt=>!bp t):=by rw[<-hl];exact iI (p:=λt=>!bp t)
 refine zFH rfl ((decide_eq_false zo)) ?_;apply zc PJ (dp call175 #[] xs sv (λi=>!bp (nth ts i)) w hs hq)
 rw[j2];rintro v w1 ⟨rfl,k1⟩;refine zh ?_
 cases b0:ts.any (λt=>!bp t)with
 |true=>
  have hM:ec ts=1:=by unfold ec;rw[if_neg g4,if_pos b0]
  rw[hM];refine zTH rfl rfl ?_;refine cc rfl rfl rfl ⟨0,rfl,k1,λh=>by cases h⟩
 |false=>
  have a6:∀t∈ts,bp t=true:=λt ht=>by
   have:=List.any_eq_false.1 b0 t ht;simpa using this
  obtain⟨e6,b7⟩:=jQ a6;have hR:∀q,q<ts.length->bp (nth ts q)=true:=λq hq=>a6 _ (aW hq)
  have p0:=hs.ext k1;refine zFH rfl rfl ?_;apply zlp (λz:Nat×ln=>[(0,.bool se),(1,sv),(6,nI ((1+bu (ts.take z.1):Nat):Int)),(23,sv),(24,nI xs.length),(25,nI z.1)]) (λz=>z.2) (λz=>z.1<=ts.length/\Mr w z.2/\bu (ts.take z.1)<=z.1*2000) (λz=>ts.length-z.1) (0,w1) ⟨L7 _,k1,by simp[bu]⟩;rintro⟨q,w2⟩ ⟨m',b5,l0⟩;dsimp only at m' b5 l0 ⊢;have k9:=hs.ext b5;refine zh ?_;refine zC ?_ ?_
  ·intro a0;replace a0:q<ts.length:=dT a0;have a7:=(hk q zo).ext b5;have i6:=a7.one;have p3:=mm (nth ts q);have m7:=(ga (hR q a0)).2.2;have m6:=iw ts q a0;refine zh ?_;apply zv (ai (us:=aX (nth xs q)) (λj u hu=>k9.cell zo hu) (L2 _) (ix _) rfl);apply ar (ax w2) 1 zo (L5 _) rfl;intro yb w3 O3 j1 j4 l6 p4;apply zsb (us:=#[nI (nth xs q).1,nI (nth xs q).2.1,(nth xs q).2.2]) j1 (ix _) (bX i6);have l8:Mr w2 (w3.setRow yb #[nI (nth xs q).1,nI (nth xs q).2.1,(nth xs q).2.2]):=(j4.trans (L3 zd j1.tag rfl)).ext;have o0:=j1.setRow (us:=#[nI (nth xs q).1,nI (nth xs q).2.1,(nth xs q).2.2]);generalize w3.setRow yb #[nI (nth xs q).1,nI (nth xs q).2.1,(nth xs q).2.2]=w4 at *;refine zh ?_;apply zv (ai (us:=aX (nth xs q)) o0.cellsAdd (L2 _) (ix _) rfl);apply zc call176 (qM (nsz (nth ts q)) zo (nth ts q) (L0 _) (nth xs q) w4 (a7.ext l8));rintro v w5 ⟨rfl,l7⟩;refine zh ?_;rw[show((1+bu (ts.take q):Nat):Int)+((dA (nth ts q):Nat):Int)=((1+bu (ts.take (q+1)):Nat):Int)from by rw[m6];omega];refine zxd (q+1,w5) ⟨a0,(b5.trans l8).trans l7,by dsimp only;omega⟩
  intro i8;obtain rfl:q=ts.length:=dF i8;rw[Mb]at l0 ⊢;refine zh ?_
  by_cases e9:1000<1+bu ts
  ·have hM:ec ts=7:=by unfold ec;rw[if_neg g4,if_neg (by rw[b0];decide),if_pos e9]
   rw[hM];refine zTH rfl ((decide_eq_true zo)) ?_;refine cc rfl rfl rfl ⟨0,rfl,b5,λh=>by cases h⟩
  have hM:ec ts=0:=by unfold ec;rw[if_neg g4,if_neg (by rw[b0];decide),if_neg e9]
  rw[hM];refine zFH rfl ((decide_eq_false zo)) ?_;apply bA kvI id (ax w2) 1 zd rfl;intro nr w3 O3 n4 j4 l6;apply bA kvI tvU l6 2 zd rfl;intro tr w4 O4 n3 l4 o4;have h':=n4.upd l4 zd zd;apply zv (aF KG (zeroValue278 _) rfl (by first|rfl|(simp only[L6,LP];rfl)) rfl rfl);apply aN o4 3 zo rfl rfl;intro nb w5 O5 n' j3 o3 l7;have i5:=h'.upd j3 zd zd;have i2:=n3.upd j3 zd zd;have f6:L8 (λq=>1<=q) (λ_=>0) w2 O5 w5:=((j4.mono (λ_ h=>zo) zo).trans (l4.mono (λ_ h=>zo) zo)).trans (j3.mono (λ_ h=>zo) zo);have h5:NfO O5 w5 3 nb se ⟨[],[]⟩ (.map (some nr)) (.map (some tr)) nS nS []:=⟨n',Ms _ _ _ _ _ _,⟨Ms _ _ _ _ _ _,rfl,λk hk=>absurd hk (M9 k),λk hk=>absurd hk (M9 k),λk hk=>absurd hk (M9 k)⟩⟩
  refine zh ?_;apply zc Nv (jf w2.heap.size O5 w5 3 nb se ⟨[],[]⟩ _ _ _ _ _ zd o3 h5 zd)
  rintro _ w6 ⟨rfl,O6,m0,m2,l9,o1,o2,h6⟩;have o':=k9.ext f6.ext;refine zh ?_;refine zvH (bH hs.sh MA rfl) ?_;apply zlp (λz:Nat×(Nat->Nat)×World×Gr×L1×L1×List K3=>[(9,nP nb),(43,sv),(44,nI xs.length),(45,nI z.1)]) (λz=>z.2.2.1) (λz=>z.1<=ts.length/\L8 (λq=>3<=q) O5 w5 z.2.1 z.2.2.1/\MK w2.heap.size z.2.1 z.2.2.1/\NfO z.2.1 z.2.2.1 3 nb se z.2.2.2.1 (.map (some nr)) (.map (some tr)) z.2.2.2.2.1 z.2.2.2.2.2.1 z.2.2.2.2.2.2/\WF z.2.2.2.1/\0<z.2.2.2.1.ks.length/\Bd z.2.2.2.1 (1+z.1*18010)/\cB ts 0 g00=cB (ts.drop z.1) z.1 z.2.2.2.1) (λz=>ts.length-z.1) (0,O6,w6,g00,m0,m2,l9) ⟨L7 _,o1,o2,h6,qV,(show 0<g00.ks.length by decide),(show Bd g00 (1+0*18010)from JX),rfl⟩;rintro⟨q,O7,w7,g,g1,g9,g5⟩ ⟨m9,f5,c9,h7,b6,f9,f3,b3⟩;dsimp only at m9 f5 c9 h7 b6 f9 f3 b3 ⊢;have c7:=f6.trans (f5.mono (S':=λq=>1<=q) (λq h=>zo) zo);have k2:=b5.trans c7.ext;refine zh ?_;refine zC ?_ ?_
  ·intro a0;replace a0:q<ts.length:=dT a0;rw[A9 a0]at b3;have m8:=hs.ext k2;have a7:Nt O7 w7 (nth ts q) (nth xs q):=((hk q zo).ext b5).upd c7;have i6:=a7.one;have m7:=(ga (hR q a0)).2.2;have h3:=(ga (hR q a0)).2.1;obtain⟨T,j7,hT⟩:=c9.bound;refine zh ?_;apply zv (ai (us:=aX (nth xs q)) (λj u hu=>m8.cell zo hu) (L2 _) (ix _) rfl);apply ar c9 T zo (L5 _) rfl;intro yb w8 O8 g2 d2 l5 o5;refine zh ?_;apply zsb (us:=#[nI (nth xs q).1,nI (nth xs q).2.1,(nth xs q).2.2]) g2 (ix _) (bX i6);have f4:L8 (λj=>j=T) O8 w8 O8 (w8.setRow yb #[nI (nth xs q).1,nI (nth xs q).2.1,(nth xs q).2.2]):=L3 zo g2.tag rfl;obtain⟨g3,n7⟩:=Jb j7 hT d2 f4 (g2.setRow (us:=#[nI (nth xs q).1,nI (nth xs q).2.1,(nth xs q).2.2]));generalize w8.setRow yb #[nI (nth xs q).1,nI (nth xs q).2.1,(nth xs q).2.2]=w9 at *;clear g2 d2 l5 o5 f4;have h9:=h7.ext g3 zd;have f8:=c9.ext g3;have c6:L8 (λq=>3<=q) O7 w7 O7 w9:=ae zo O7 g3;have e7:=a7.ext g3;have n6:=f3.ks;have e1:=aR g;refine zh ?_;apply zc Nv (jf w2.heap.size O7 w9 3 nb se g _ _ _ _ _ zd f8 h9 zo);rintro _ g0 ⟨rfl,O10,g8,h0,a5,b2,d0,a'⟩;have m4:=a'.ks.len;have d7:g.ks.length<a5.length:=zo;have c2:=a'.c2;refine zh ?_;rw[show((q:Nat):Int)+1=((q+1:Nat):Int)from by omega];refine zvH (aC a'.ks.row.sl.sh Mj (MI _) rfl rfl g.ks.length rfl d7) ?_
   apply pF a'.ks.row g.ks.length d7 2 zd (((nth a5 g.ks.length).1,(nth a5 g.ks.length).2.1,q+1):K3) (Mn _) rfl zo rfl rfl rfl rfl;intro d4 b8 a4;have e2:=cN g.knot g.ks.length (q+1);have k5:NfO O10 d4 3 nb se (g.knot.mark g.ks.length (q+1)) (.map (some nr)) (.map (some tr)) g8 h0 (a5.set g.ks.length ((nth a5 g.ks.length).1,(nth a5 g.ks.length).2.1,q+1)):=by
    refine⟨a'.blk.upd a4 zd zd,a'.ls.upd a4 zd zd,⟨b8,by rw[M0];omega,λk hk=>?_,λk hk=>?_,λk hk=>?_⟩⟩
    ·rw[M0]at hk;rw[bt d7,oM zo]
     split
     ·rename_i e;subst e;exact(a'.ks.fr _ hk).upd a4 zo zo
     exact(a'.ks.fr k hk).upd a4 zo zo
    ·rw[M0]at hk;rw[bt d7,oL zo]
     split
     ·rename_i e;subst e;exact(a'.ks.lv _ hk).upd a4 zo zo
     exact(a'.ks.lv k hk).upd a4 zo zo
    rw[M0]at hk;rw[bt d7,CG zo]
    split
    ·rfl
    exact a'.ks.en k hk
   have c':=d0.upd a4;have f7:=Upd.hi a4 (i:=3) zd zd;refine zh ?_;apply zc Nv (jf w2.heap.size O10 d4 3 nb se (g.knot.mark g.ks.length (q+1)) _ _ _ _ _ zd c' k5 zo);rintro _ f' ⟨rfl,O12,m1,m3,l',c8,j',o8⟩;have e3:=aR (g.knot.mark g.ks.length (q+1));rw[show((g.knot.mark g.ks.length (q+1)).ks.length:Nat)=g.ks.length+1 from by omega];have b4:=(f3.knot.mark (a:=g.ks.length) (e:=q+1) zo).knot;refine zh ?_;apply zc Ng (gK w2.heap.size O12 f' 3 nb se (g.knot.mark g.ks.length (q+1)).knot _ _ _ _ _ 0 (g.ks.length+1) zd j' o8 zo (by have:=b4.fr 0;omega) zo);rintro _ k7 ⟨O13,g7,g',g6,j6,j9,o7⟩;have k4:NfO O13 k7 3 nb se (dK g q) (.map (some nr)) (.map (some tr)) g7 g' g6:=o7;obtain⟨m5,k8⟩:=eU b6 f9 q;have o9:=eh g q;have n8:Bd (dK g q) (1+q*18010+3):=b4.free zo;have a8:=((b2.trans f7).trans c8).trans j6;refine zh ?_;refine zvH (ai (us:=aX (nth xs q)) (λj u hu=>((n7 j u hu).upd a8).c) (L2 _) (ix _) rfl) ?_;apply zc NN (CO (nsz (nth ts q)) (nth ts q) (L0 _) w2.heap.size O13 k7 3 nb se (dK g q) _ _ _ _ _ (g.ks.length+1) g.ks.length (nth xs q) (1+q*18010+3) zd j9 k4 m5 zo zo n8 zo h3 (e7.upd a8));rintro _ k6 ⟨O14,d5,d6,d3,j5,j8,o6⟩;have k3:NfO O14 k6 3 nb se (nJ (nth ts q) q g) (.map (some nr)) (.map (some tr)) d5 d6 d3:=o6;obtain⟨n2,p2,p1⟩:=lX b6 f9 (nth ts q) q;have n1:=IA b6 f9 (nth ts q) q f3;refine zh ?_
   refine zxd (q+1,O14,k6,nJ (nth ts q) q g,d5,d6,d3) ⟨a0,((f5.trans c6).trans a8).trans j5,j8,k3,n2,by dsimp only;omega,n1.mono (by dsimp only;omega),b3⟩
  intro i8;obtain rfl:q=ts.length:=dF i8;rw[List.drop_length,cB]at b3;have b3:kq ts=g:=b3;have i4:=i5.upd f5 zd zd;have i1:=i2.upd f5 zd zd;have l3:∀k,g.en k<=40:=λk=>by rw[<-b3];have:=Cw ts k;omega
  have n5:=qG e6 b7;rw[b3]at n5 ⊢;have e':Bd g 1000000:=f3.mono zo;refine zh ?_;apply zc call180 (zJ w2.heap.size O7 w7 3 nb se g nr tr g1 g9 g5 [] [] 0 0 1000000 zd c9 h7 i4 i1 b6 f9 e' zd l3);rintro _ w8 ⟨v0,d2,i3,i0,h2,i9⟩;have h8:=h7.upd d2 zd zo;have l5:=c9.upd d2;have c1:=h8.c1;have n0:g.pl 0=0:=rfl;refine zh ?_;refine zvH (bH h8.ls.sl.sh MR rfl) ?_;apply zlp (λz:Nat×ln×List (Int×L1)×List (Int×Nat)=>[(9,nP nb),(77,g1),(78,nI g.ls.length),(79,nI z.1)]) (λz=>z.2.1) (λz=>z.1<=g.ls.length/\L8 (λq=>q=1\/q=2) O7 w7 O7 z.2.1/\NR kvI id O7 z.2.1 1 nr z.2.2.1/\NR kvI tvU O7 z.2.1 2 tr z.2.2.2/\(∀p:Nat,p<=z.1->∃v,bI z.2.2.1 (p:Int)=some v/\Sl bm 1 z.2.1 v (de g p)/\Nq O7 z.2.1 v)/\(∀p:Nat,p<=z.1->bI z.2.2.2 (p:Int)=some (jJ g p))) (λz=>g.ls.length-z.1) (0,w8,cU [] 0 v0,cU [] 0 ((fx g 0).foldl (fF g) 0)) ⟨L7 _,d2,i3,i0,λp hp=>⟨v0,by obtain rfl:p=0:=NG.1 hp;rfl,by obtain rfl:p=0:=NG.1 hp;exact h2,i9⟩,λp hp=>by obtain rfl:p=0:=NG.1 hp;rfl⟩;rintro⟨j,w9,l1,l2⟩ ⟨hj,c6,b',b9,h4,h1⟩;dsimp only at hj c6 b' b9 h4 h1 ⊢;have h9:=h7.upd c6 zd zo;have f8:=c9.upd c6;have e5:=h9.ls.sl;refine zh ?_;refine zC ?_ ?_
  ·intro a0;replace a0:j<g.ls.length:=dT a0;have n9:=b6.ls j a0;obtain⟨T,j7,hT⟩:=f8.bound;refine zh ?_;apply zv (MV e5 MR (Nk _) rfl rfl j rfl a0);apply zv (ai (us:=sV (nth g.ls j)) (λq u hu=>e5.cell a0 hu) (isAgg283 _) (Nk _) rfl);apply ar f8 T zo (PF _) rfl;intro yb g0 O10 b1 b2 d0 k0;refine zh ?_;apply zsa (us:=(sV (nth g.ls j)).toArray) b1 (Nk _);have f4:L8 (λj=>j=T) O10 g0 O10 (g0.setRow yb (sV (nth g.ls j)).toArray):=L3 zo b1.tag rfl;obtain⟨d1,j0⟩:=Jb j7 hT b2 f4 (b1.setRow (us:=(sV (nth g.ls j)).toArray));generalize g0.setRow yb (sV (nth g.ls j)).toArray=d4 at *;clear b1 b2 d0 k0 f4;have c5:L8 (λ_=>False) O7 w9 O7 d4:=ae (λh=>h) O7 d1;have k5:=h9.ext d1 zd;have c':=f8.ext d1;have e4:=b'.upd c5 zd λh=>h
   have d':=b9.upd c5 zd λh=>h
   have p5:=(j0 2 _ rfl).c;refine zh ?_;apply zc call180 (zJ w2.heap.size O7 d4 3 nb se g nr tr g1 g9 g5 l1 l2 ((j:Nat)+1) (nth g.ls j).2.2 1000000 zd c' k5 e4 d' b6 n9 e' zd l3);rintro _ f' ⟨v1,c8,e0,d9,d8,e8⟩;have a9:L8 (λq=>q=1\/q=2) O7 w9 O7 f':=(c5.mono (λ_ h=>h.elim) zo).trans c8;have k':g.pl (j+1)=(nth g.ls j).2.2:=by unfold Gr.pl;rw[if_neg zo];rfl
   refine zh ?_;refine zxd (j+1,f',cU l1 ((j:Nat)+1) v1,cU l2 ((j:Nat)+1) ((fx g (nth g.ls j).2.2).foldl (fF g) 0)) ⟨a0,c6.trans a9,e0,d9,λp hp=>?_,λp hp=>?_⟩
   ·dsimp only at hp ⊢;rw[bn]
    by_cases e:p=j+1
    ·subst e;exact⟨v1,by rw[if_pos zo],by unfold de;rw[k'];exact d8,e8⟩
    obtain⟨v,a1,a2,a3⟩:=h4 p zo;exact⟨v,by rw[if_neg zo];exact a1,a2.upd a3 a9,a3.upd a9⟩
   dsimp only at hp ⊢;rw[bn]
   by_cases e:p=j+1
   ·subst e;rw[if_pos zo];unfold jJ;rw[k']
   rw[if_neg zo];exact h1 p zo
  intro i7;obtain rfl:j=g.ls.length:=dF i7;refine zh ?_;refine cc rfl rfl rfl ⟨nb,rfl,b5.trans (c7.trans (c6.mono (S':=λq=>1<=q) (λq h=>zo) zo)).ext,λ_=>⟨nr,tr,g1,g9,g5,l1,l2,h9.r,b'.fgt (i':=0) rfl,b9.fgt (i':=0) rfl,λp hp=>by obtain⟨v,a1,a2,_⟩:=h4 p hp;exact⟨v,a1,a2⟩,h1⟩⟩
abbrev Dk(b:UInt8):List L1:=[.int .u8 (b.toNat:Int)]
theorem Lo:Pc LZ 293 5 1 1:=⟨NC,by kernel_rfl,zd⟩
theorem GM:Pc LZ 130 22 1 24:=⟨Mf,by kernel_rfl,zd⟩
theorem nw:Pc LZ 27 24 1 8:=⟨underlying27,by kernel_rfl,zd⟩
theorem rO(n:Nat):PW.wrap (n:Int)=((Mo (n % 256)).toNat:Int):=by
 rw[PV];simp only[UInt8.toNat_ofNat'];omega
theorem A2(s:List Int)(sv:L1)(w:ln)(h:Sl encI 1 w sv s)(ho:okS s)(hl:s.length<=100000):MB LZ 232 [sv] w λv w'=>v=.string (bs (vS s))/\Mr w w':=by
 apply L4 func232 ntmps232 rfl rfl;refine zh ?_
 apply zlp (λz:Nat×L1×(Nat->Nat)×World=>[(3,z.2.1),(6,sv),(7,nI s.length),(8,nI z.1)]) (λz=>z.2.2.2) (λz=>z.1<=s.length/\ME Dk 5 1 z.2.2.1 z.2.2.2 1 z.2.1 (vS (s.take z.1))/\(vS (s.take z.1)).length=2*z.1/\L8 (λq=>q=1) (λ_=>0) w z.2.2.1 z.2.2.2/\MK w.heap.size z.2.2.1 z.2.2.2) (λz=>s.length-z.1) (0,nS,λ_=>0,w) ⟨L7 _,Ms _ _ _ _ _ _,rfl,MD zd _ _,ax w⟩;rintro⟨q,v1,O1,w1⟩ ⟨hq,a0,a4,hU,hR⟩;dsimp only at hq a0 a4 hU hR ⊢;have h1:=h.ext hU.ext;refine zh ?_
 refine zC ?_ ?_
 ·intro a1;replace a1:q<s.length:=dT a1;have a7:=ho _ (aW a1);obtain⟨p,hp⟩:∃p:Nat,nth s q=(p:Int):=⟨(nth s q).toNat,zo⟩
  have b1:p<=999:=by have:=a7.2;rw[hp]at this;simpa using this
  have m1:w1.cell? (adr sv 1 q)=some (nI (nth s q)):=by have:=h1.cell (j:=0) a1 rfl;rwa[aA]at this
  rw[hp]at m1;have a3:vS (s.take (q+1))=vS (s.take q)++[Mo (p / 256),Mo (p % 256)]:=by
   unfold vS;rw[aY a1,NI,hp];simp
  refine zh ?_;apply zv (iP (a:=p) (b:=8) rfl rfl rfl rfl zd)
  refine zvH (nW P1 NZ rfl) ?_;apply zv (nW P1 NZ rfl)
  rw[rO p,rO (p / 2^8),show p / 2^8 % 256=p / 256 from by omega];apply cp NC (sizeOf5 _) (zeroValue5 _) Dk [Mo (p / 256),Mo (p % 256)] rfl rfl rfl rfl zk (by simp) rfl;intro bv w2 a9 a6;have a5:L8 (λ_=>False) O1 w1 O1 w2:=ae (λh=>h) O1 a6;apply aD Lo (a0.upd a5 zd λh=>h) (hR.ext a6) a9 (by simp) rfl rfl (by simp) (by simp[L9]) (by simp;omega) (by simp;omega) zd rfl;intro v3 w3 O3 a2 a' b0;refine zh ?_;refine zxd (q+1,v3,O3,w3) ⟨a1,by dsimp only;rw[a3];exact a2,by dsimp only;rw[a3];simp[a4];omega,(hU.trans (a5.mono (λ_ h=>h.elim) zd)).trans a',b0⟩
 intro a8;obtain rfl:q=s.length:=dF a8;rw[Mb]at a0;refine zh ?_;refine zvH (Af a0.sl NC NZ Ma rfl) ?_;refine af rfl rfl ⟨rfl,hU.ext⟩
theorem KD:cE LZ 287 #[(0,1),(1,1),(2,1)]:=⟨_,underlying287,λw=>by kernel_rfl⟩
theorem AB:cE LZ 170 #[(0,1),(1,1)]:=⟨_,underlying170,λw=>by kernel_rfl⟩
theorem vj:KeyL LZ 9 MN:=KeyL.str Ma
abbrev Bs(v:L1):List L1:=[v]
structure MkO(O:Nat->Nat)(w:ln)(i mb nb kr:Nat)(sv:L1)(vs:List L1)(S:List (List Int))(l:List (ByteArray×Int)):Prop where
 blk:Mc O w i mb #[nP nb,.map (some kr),sv] 287
 map:NR MN kvI O w (i+1) kr l
 row:ME Bs 22 1 O w (i+2) sv vs
 len:vs.length=S.length
 at_:∀k,k<S.length->Sl encI 1 w (nth vs k) (nth S k)/\Nq O w (nth vs k)
 ok:∀s∈S,okS s
 key:∀s,okS s->bI l (bs (vS s))=(D1 S s).map fun(k:Nat)=>(k:Int)
theorem MkO.upd{T:Nat->Prop}{O O':Nat->Nat}{w w':ln}{i mb nb kr:Nat}{sv:L1}{vs:List L1}{S:List (List Int)}{l:List (ByteArray×Int)}(h:MkO O w i mb nb kr sv vs S l)(u:L8 T O w O' w')(hi:i≠0)(h1:¬T i)(h2:¬T (i+1))(h3:¬T (i+2)):MkO O' w' i mb nb kr sv vs S l:=
 ⟨h.blk.upd u hi h1,h.map.upd u zo h2,h.row.upd u zo h3,h.len,λk hk=>⟨(h.at_ k hk).1.upd (h.at_ k hk).2 u,(h.at_ k hk).2.upd u⟩,h.ok,h.key⟩
theorem CY{S:List (List Int)}{t:List Int}(h:D1 S s=none):D1 (S++[s]) t=if s=t then some S.length else D1 S t:=by
 unfold D1 at h ⊢;rw[List.findIdx?_append]
 by_cases e:s=t
 ·subst e;rw[h,if_pos rfl];simp[NK]
 rw[if_neg e]
 cases hq:S.findIdx? (· == t)with
 |some k=>simp
 |none=>simp[NK,e]
theorem mR(B:Nat)(O:Nat->Nat)(w:ln)(i mb nb kr:Nat)(mv:L1)(vs:List L1)(S:List (List Int))(l:List (ByteArray×Int))(s:List Int)(sv:L1)(hi:i≠0)(hR:MK B O w)(h:MkO O w i mb nb kr mv vs S l)(hs:Sl encI 1 w sv s)(hf:Nq O w sv)(ho:okS s)(b8:s.length<=100000)(d1:S.length<=100000):
  MB LZ 181 [nP mb,sv] w λv w'=>∃O' mv' vs' l',v=nI ((DZ S s:Nat):Int)/\L8 (λq=>i<=q/\q<=i+2) O w O' w'/\MK B O' w'/\MkO O' w' i mb nb kr mv' vs' (sy S s) l':=by
 have hz:¬(λq=>i<=q/\q<=i+2) 0:=zo;have b9:=hs.shape;obtain⟨sa,sc,rfl,_⟩:=b9;apply L4 func181 ntmps181 rfl rfl;refine zh ?_;apply zc call232 (A2 s _ w hs ho b8);rintro _ w1 ⟨rfl,b7⟩;have a':L8 (λ_=>False) O w O w1:=ae (λh=>h) O b7;have h1:=h.upd a' hi (λh=>h) (λh=>h) λh=>h
 have b6:=hR.upd a';have b3:=hs.ext b7;have a9:=hf.upd a';have a4:=h.key s ho;have a7:L8 (λq=>i<=q/\q<=i+2) O w O w1:=a'.mono (λ_ h=>h.elim) hz;have c1:w1.cell? (nA mb 1)=some (.map (some kr)):=h1.blk.cell 1 rfl;have c2:w1.cell? (nA mb 2)=some mv:=h1.blk.cell 2 rfl;refine zh ?_
 cases a0:D1 S s with
 |some k=>
  rw[a0]at a4;have hn:DZ S s=k:=by unfold DZ;rw[a0];rfl
  have hS:sy S s=S:=by unfold sy;rw[a0];rfl
  rw[hn,hS];refine zvH (di (u:=.tuple #[kvI (k:Int),.bool true]) h1.map ND vj (PS _) (bs (vS s)) rfl rfl rfl (by rw[a4];rfl)) ?_;refine zFH rfl rfl ?_;refine af rfl rfl ⟨O,mv,vs,l,rfl,a7,b6,h1⟩
 |none=>
  rw[a0]at a4;have hn:DZ S s=S.length:=by unfold DZ;rw[a0];rfl
  have hS:sy S s=S++[s]:=by unfold sy;rw[a0];rfl
  rw[hn,hS];have a8:=h.len;refine zvH (di (u:=.tuple #[kvI 0,.bool false]) h1.map ND vj (PS _) (bs (vS s)) rfl rfl rfl (by rw[a4];rfl)) ?_;refine zTH rfl rfl ?_;refine zvH (bH h1.row.sl.sh Mf rfl) ?_;apply WL.mapUpdate h1.map ND vj zo (bs (vS s)) (vs.length:Int) rfl rfl rfl rfl rfl;intro w2 c6 a6;have b5:=h1.blk.upd a6 hi zo;have b':=h1.row.upd a6 zo zo;have c9:=b6.upd a6;have c':=b3.upd a9 a6;have d0:=a9.upd a6;have d2:w2.cell? (nA mb 2)=some mv:=b5.cell 2 rfl;refine zh ?_;apply N9 GM b' c9 ((.slice sa s.length sc:L1)) (λ_=>rfl) rfl rfl rfl (by simp[L9]) zo zo zo zd rfl rfl;intro a5 w3 O3 b4 b2 c8;have b1:=b5.upd b2 hi zo;have c5:=c6.upd b2 zo zo;refine zh ?_;apply ak (j:=2) b1 rfl (Pn _) b4.one rfl rfl rfl;have b0:L8 (λq=>q=i) O3 w3 O3 (w3.setCell ⟨mb,2,none⟩ a5):=M4 (λe=>hi e.symm) b1.tag rfl;have c7:Mc O3 (w3.setCell ⟨mb,2,none⟩ a5) i mb #[nP nb,.map (some kr),a5] 287:=b1.set 2 a5;have a3:L8 (λq=>i<=q/\q<=i+2) O w1 O3 (w3.setCell ⟨mb,2,none⟩ a5):=((a6.mono (λq h=>zo) hz).trans (b2.mono (λq h=>zo) hz)).trans (b0.mono (λq h=>zo) hz);refine zh ?_;refine af rfl rfl ⟨O3,a5,vs++[.slice sa s.length sc],cU l (bs (vS s)) (vs.length:Int),by rw[a8],a7.trans a3,(c8.upd b0),⟨c7,c5.upd b0 zo zo,b4.upd b0 zo zo,by simp[a8],λk hk=>?_,λt ht=>?_,λt ht=>?_⟩⟩
  ·rw[ay,ay,a8]
   by_cases e:k<S.length
   ·rw[if_pos e,if_pos e];obtain⟨a1,a2⟩:=h1.at_ k e;exact⟨a1.upd a2 a3,a2.upd a3⟩
   rw[if_neg e,if_neg e];simp only[M6,M1,MU]at hk;rw[show k-S.length=0 from by omega,ao,ao];exact⟨b3.upd a9 a3,a9.upd a3⟩
  ·rcases P5.1 ht with ht|ht
   ·exact h.ok t ht
   rw[LV.1 ht];exact ho
  rw[bn,CY a0]
  by_cases e:s=t
  ·subst e;rw[if_pos rfl,if_pos rfl,a8];rfl
  rw[if_neg (λe2=>e (zK ho ht (GN e2))),if_neg e];exact h.key t ht
theorem Fm{r:List Nat}{m N x:Nat}(hr:r.length=m)(hm:m<N):(r++MX (N-m) 0).set m x=(r++[x])++MX (N-(m+1)) 0:=by
 obtain⟨k,hk⟩:∃k,N-m=k+1:=⟨N-m-1,zo⟩
 rw[show N-(m+1)=k from by omega,hk,List.set_append_right _ _ zo,hr,MT,List.replicate_succ,List.set_cons_zero,MH];rfl
theorem Free.lowT{O:Nat->Nat}{w:ln}{v:L1}(h:Nq O w v)(T:Nat):Nq (Go.VL.lowT O T) w v:=λa n c e hn=>⟨kU (h a n c e hn).1,(h a n c e hn).2⟩
theorem MkO.lowT{O:Nat->Nat}{w:ln}{i mb nb kr:Nat}{sv:L1}{vs:List L1}{S:List (List Int)}{l:List (ByteArray×Int)}(h:MkO O w i mb nb kr sv vs S l){T:Nat}(hT:i+2<T):MkO (Go.VL.lowT O T) w i mb nb kr sv vs S l:=
 ⟨h.blk.lowT zo,h.map.fgt (by unfold Go.VL.lowT;rw[h.map.tag,if_neg zo]),h.row.lowT zo,h.len,λk hk=>⟨(h.at_ k hk).1,Free.lowT (h.at_ k hk).2 T⟩,h.ok,h.key⟩
theorem GK{g:Gr}(hl:g.ls.length<=999)(h:inP g s):okS s:=λx hx=>⟨(h x hx).1,Pq (h x hx).2 hl⟩
theorem Dl(B:Nat)(O:Nat->Nat)(w w0:ln)(i mb nb kr:Nat)(se:Bool)(g:Gr)(mv:L1)(vs:List L1)(S:List (List Int))(l:List (ByteArray×Int))(q:Nat)(hi:i≠0)(hR:MK B O w)(h:MkO O w i mb nb kr mv vs S l)(hD:NfD w0 nb se g)(f5:L8 (λq=>1<=q) (λ_=>0) w0 O w) 
  (hw:WF g) (h0:0<g.ks.length) (ht:Tot g) (d4:g.ls.length<=999) (d5:∀s∈S,inP g s) (c9:∀s∈S,s.length<=1000) (hq:q<S.length) (hS:S.length<=1000) :
  MB LZ 183 [nP mb,nI (q:Nat)] w λv w'=>∃O' mv' vs' l',L8 (λq=>i<=q/\q<=i+2) O w O' w'/\MK B O' w'/\MkO O' w' i mb nb kr mv' vs' (dP (da se g) (nth S q) S 37).1 l'/\Sl bm 1 w' v (dP (da se g) (nth S q) S 37).2/\Nq O' w' v/\(∀s∈(dP (da se g) (nth S q) S 37).1,inP g s/\s.length<=1000):=by
 obtain⟨T0,g3,c6⟩:=hR.bound;obtain⟨T,g2⟩:∃T,T=T0+i+3:=⟨_,rfl⟩
 have hT:∀b,O b<T:=λb=>by have:=c6 b;omega
 have a5:=kO (da se g) (nth S q) S;have b5:=d5 _ (aW hq);have e3:=c9 _ (aW hq);apply L4 func183 ntmps183 rfl rfl;refine zh ?_;obtain⟨N,hN⟩:∃N:Nat,N=37:=⟨_,rfl⟩
 apply dG lB (val:=λn:Nat=>nI (n:Int)) (0:Nat) zk (λ_=>rfl) hR T zo 37 rfl rfl zd zd zd zd rfl;intro w1 O1 ov e5 a4 d7 f8 g4;clear e5;have e8:=h.upd d7 hi zo zo zo;refine zh ?_
 refine zvH (bH a4.sl.sh My rfl) ?_;rw[List.length_replicate];apply zlp (λz:Nat×(Nat->Nat)×World×L1×List L1×List (ByteArray×Int)=>[(0,nP mb),(1,nI (q:Nat)),(5,ov),(8,ov),(9,nI ((37:Nat):Int)),(10,nI z.1)]) (λz=>z.2.2.1) (λz=>z.1<=37/\L8 (λj=>j=T\/i<=j/\j<=i+2) O w z.2.1 z.2.2.1/\MK B z.2.1 z.2.2.1/\MkO z.2.1 z.2.2.1 i mb nb kr z.2.2.2.1 z.2.2.2.2.1 (dP (da se g) (nth S q) S z.1).1 z.2.2.2.2.2/\ME bm 3 1 z.2.1 z.2.2.1 T ov ((dP (da se g) (nth S q) S z.1).2++MX (37-z.1) 0)/\∀s∈(dP (da se g) (nth S q) S z.1).1,inP g s/\s.length<=1000) (λz=>37-z.1) (0,O1,w1,mv,vs,l) ⟨L7 _,d7.mono (λ_ h=>.inl h) zo,f8,e8,a4,λs hs=>⟨d5 s hs,c9 s hs⟩⟩
 rintro⟨m,O2,w2,a',a9,l2⟩ ⟨b7,b4,a8,b0,a0,a1⟩;dsimp only at b7 b4 a8 b0 a0 a1 ⊢;have c':=(a5 m).len;have c8:=(a5 m).top;have b2:((dP (da se g) (nth S q) S m).2++MX (37-m) 0).length=37:=by simp[c'];omega
 refine zh ?_;refine zC ?_ ?_
 ·intro b1;replace b1:m<37:=dT b1;obtain⟨pq,d0⟩:=(a5 m).pre;have e4:q<(dP (da se g) (nth S q) S m).1.length:=by rw[d0];simp;omega
  have e6:nth (dP (da se g) (nth S q) S m).1 q=nth S q:=by rw[d0,ay,if_pos hq]
  have c5:=f5.trans (b4.mono (S':=λq=>1<=q) (λj h=>zo) zo);have hU02d:=c5.drew;have f9:=hD.ext hU02d.ext;have hm2d:=b0.upd (ae (S:=λ_=>False) (λh=>h) O2 (LQ w2).drew) hi (λh=>h) (λh=>h) λh=>h
  have c0:w2.drew.cell? (nA mb 0)=some (nP nb):=hm2d.blk.cell 0 rfl;have c2:w2.drew.cell? (nA mb 2)=some a':=hm2d.blk.cell 2 rfl;have c7:=hm2d.row.sl;have g0:=hm2d.len;have cq:w2.drew.cell? (adr a' 1 q)=some (nth a9 q):=by have:=c7.cell (i:=q) (j:=0) zo rfl;rwa[aA]at this
  obtain⟨a6,f3⟩:=hm2d.at_ q e4;rw[e6]at a6;refine zh ?_;apply aQ (λW=>W.cell? (nA mb 0)=some (nP nb)) 19 rfl zk;apply zrm 0 rfl c0 rfl;apply zrm 1 rfl c0 rfl;apply zrm 2 rfl c0 rfl;apply zrm 3 rfl c0 rfl;apply zr 4 rfl c0 (λ_=>aq rfl);apply zrf 5 rfl c0 rfl;apply zt 6 rfl c0 (λw1 e1=>RV.ld e1 rfl);apply zrm 7 rfl c0 rfl;apply zr 8 rfl c0 (λ_=>aq rfl);apply zrf 9 rfl c0 rfl;apply zrm 11 rfl c0 rfl;apply zrm 14 rfl c0 rfl;apply LU 10 zk rfl;refine zvH (RV.ld c2 rfl) ?_;apply aa c0;apply zr 12 rfl c0 (λ_=>aC c7.sh Mf (Nw _) rfl rfl q rfl zo);apply LU 13 zk rfl;refine zvH (RV.ld cq rfl) ?_;apply aa c0;apply LU 15 zk rfl;apply zc call233 (step_ret w2.drew nb se g (nth S q) (nth a9 q) (m:Nat) f9 a6 hw h0 ht b5 e3 d4);rintro tv w3 ⟨e2,d8,e'⟩;refine zh ?_;apply aa (d8.cell c0);have b8:=e' B O2 a8.drew;have b3:L8 (λ_=>False) O2 w2 O2 w3:=ae (λh=>h) O2 ((LQ w2).drew.trans d8);have e7:=b0.upd b3 hi (λh=>h) (λh=>h) λh=>h
  have f7:=a8.upd b3;have a7:=a0.upd b3 zo λh=>h
  have d1:=xh hw h0 (oe se g) b5 (m:Nat);have g1:=Ff (se:=se) hw h0 b5 (m:Nat);apply LU 16 zk rfl;apply zc call181 (mR B O2 w3 i mb nb kr a' a9 (dP (da se g) (nth S q) S m).1 l2 (da se g (nth S q) (m:Nat)) tv hi f7 e7 e2 b8 (GK d4 d1) zo zo);rintro _ w4 ⟨O4,e0,d',l4,rfl,d6,f6,d3⟩;have d9:w4.cell? (nA mb 0)=some (nP nb):=d3.blk.cell 0 rfl;refine zh ?_;apply aa d9;have a3:=a7.upd d6 zo zo;have b6:=a3.sl;apply zr 17 rfl d9 (λ_=>aC b6.sh My (Mn _) rfl rfl m rfl zo);apply LU 18 zk rfl;apply WL.storeAt a3 m zo (DZ (dP (da se g) (nth S q) S m).1 (da se g (nth S q) (m:Nat))) (Mn _) rfl zo rfl rfl rfl rfl;intro w5 a2 b9;rw[Fm c' b1]at a2;have d2:=d3.upd b9 hi zo zo zo;have f':w5.cell? (nA mb 0)=some (nP nb):=d2.blk.cell 0 rfl;refine zh ?_;apply aa f';have b':L8 (λj=>j=T\/i<=j/\j<=i+2) O w O4 w5:=((b4.trans (b3.mono (λ_ h=>h.elim) zo)).trans (d6.mono (λ_ h=>.inr h) zo)).trans (b9.mono (λ_ h=>.inl h) zo);apply Ml zk;refine zh ?_;refine zxd (m+1,O4,w5,e0,d',l4) ⟨b1,b',f6.upd b9,d2,a2,λs hs=>?_⟩
  ·have hs:s∈sy (dP (da se g) (nth S q) S m).1 (da se g (nth S q) (m:Nat)):=hs;unfold sy at hs
   split at hs
   ·exact a1 s hs
   rcases P5.1 hs with hs|hs
   ·exact a1 s hs
   rw[LV.1 hs];exact⟨d1,zo⟩
 intro e9;obtain rfl:m=37:=dF e9;rw[MT,List.replicate_zero,P7]at a0
 have f4:=b4.lowT (S':=λq=>i<=q/\q<=i+2) hT (λb hb=>by
  rcases hb with hb|hb
  ·have:=hT b;omega
  exact hb) zo
 refine zh ?_;refine af rfl rfl ⟨lowT O2 T,a',a9,l2,f4,a8.lowT T,MkO.lowT b0 zo,a0.sl,λa n c e hn=>?_,a1⟩
 have hb:=a0.1.tag a.block (by subst e;rfl);refine⟨by unfold lowT;rw[hb,if_pos (L0 _)],(a8.rng a.block (by rw[hb];omega)).2⟩
abbrev jh(n:Nat):List L1:=[.int .u64 (n:Int)]
def RowsN(w:ln)(v:L1)(rows:List (List Nat)):Prop:=∃vs,Sl Bs 1 w v vs/\vs.length=rows.length/\∀i,i<rows.length->Sl bm 1 w (nth vs i) (nth rows i)
theorem RowsN.ext{w w':ln}{v:L1}{rows:List (List Nat)}(h:RowsN w v rows)(e:Mr w w'):RowsN w' v rows:=by
 obtain⟨vs,h1,h2,h3⟩:=h;exact⟨vs,h1.ext e,h2,λi hi=>(h3 i hi).ext e⟩
structure RwO(O:Nat->Nat)(w:ln)(i:Nat)(v:L1)(vs:List L1)(rows:List (List Nat)):Prop where
 row:ME Bs 22 1 O w i v vs
 len:vs.length=rows.length
 at_:∀k,k<rows.length->Sl bm 1 w (nth vs k) (nth rows k)/\Nq O w (nth vs k)
theorem RwO.upd{S:Nat->Prop}{O O':Nat->Nat}{w w':ln}{i:Nat}{v:L1}{vs:List L1}{rows:List (List Nat)}(h:RwO O w i v vs rows)(u:L8 S O w O' w')(hi:i≠0)(hS:¬S i):RwO O' w' i v vs rows:=
 ⟨h.row.upd u hi hS,h.len,λk hk=>⟨(h.at_ k hk).1.upd (h.at_ k hk).2 u,(h.at_ k hk).2.upd u⟩⟩
theorem RwO.drew{O:Nat->Nat}{w:ln}{i:Nat}{v:L1}{vs:List L1}{rows:List (List Nat)}(h:RwO O w i v vs rows):RwO O w.drew i v vs rows:=⟨h.row.drew,h.len,λk hk=>⟨(h.at_ k hk).1.drew,(h.at_ k hk).2.upd (ae (S:=λ_=>False) (λh=>h) O (LQ w).drew)⟩⟩
theorem RwO.rows{O:Nat->Nat}{w:ln}{i:Nat}{v:L1}{vs:List L1}{rows:List (List Nat)}(h:RwO O w i v vs rows):RowsN w v rows:=⟨vs,h.row.sl,h.len,λk hk=>(h.at_ k hk).1⟩
def Li(w:ln)(v:L1):Option (List (List Nat)×List Nat)->Prop
 |some d=>∃nv tv,v=.tuple #[.agg #[nv,tv],nI 0]/\nv.oneCell'=true/\tv.oneCell'=true/\RowsN w nv d.1/\Sl jh 1 w tv d.2
 |none=>v=.tuple #[.agg #[nS,nS],nI 7]
set_option maxHeartbeats 1000000 in
theorem Dm(nb:Nat)(se:Bool)(g:Gr)(w:ln)(hD:NfD w nb se g)(hw:WF g)(h0:0<g.ks.length)(ht:Tot g)(m0:g.ls.length<=999)(j0:∀q,g.en q<=40):
  MB LZ 129 [nP nb] w λv w'=>Mr w w'/\Li w' v (Gf (da se g) (dH g)):=by
 have e4:∀s,dH g s<2^40:=λs=>by
  have m8:∀(s:List Int) (b:Nat),b<2^40->s.foldl (λb p=>b ||| jJ g p.toNat) b<2^40:=λs=>by
   induction s with
   |nil=>exact λb hb=>hb
   |cons p s ih=>exact λb hb=>ih _ (N6 hb (kz j0 _ 0 zd))
  exact m8 s 0 zd
 apply L4 func129 ntmps129 rfl rfl;refine zh ?_
 apply ar (ax w) 7 zo (MG _) rfl;intro cb wa Oa k8 n6 o0 o9;refine zh ?_
 refine zvH (eS (q:=some ⟨nb,0,none⟩) N8 rfl rfl) ?_;refine zFH rfl rfl ?_
 apply bA MN kvI o0 2 zd rfl;intro kr wb Ob n1 m2 n';apply zv (aF KD (zeroValue287 _) rfl (by first|rfl|(simp only[L6,LP];rfl)) rfl rfl)
 apply aN n' 1 zo rfl rfl;intro mb wc Oc n0 l3 m3 o8;have k2:MkO Oc wc 1 mb nb kr nS [] [] []:=⟨n0,n1.upd l3 zd zd,Ms _ _ _ _ _ _,rfl,λk hk=>absurd hk (M9 k),λs hs=>absurd hs (by simp),λs _=>rfl⟩
 have l5:=((n6.mono (S':=λj=>1<=j) (λj h=>zo) zd).trans (m2.mono (λj h=>zo) zd)).trans (l3.mono (λj h=>zo) zd);refine zh ?_;apply zc call182 (Dx wc nb);rintro bv wd ⟨n4,o3,n5⟩;have k9:=n5 w.heap.size Oc m3;have j7:L8 (λ_=>False) Oc wc Oc wd:=ae (λh=>h) Oc o3;have i':inP g [0]:=λx hx=>by rw[LV.1 hx];exact⟨MY _,L7 _⟩
 apply zc call181 (mR w.heap.size Oc wd 1 mb nb kr _ _ _ _ [0] bv zd (m3.upd j7) (k2.upd j7 zd (λh=>h) (λh=>h) λh=>h) n4 k9 (GK m0 i') zd zd);rintro _ we ⟨Oe,m7,m5,le,rfl,m1,n9,i9⟩;have n7:sy [] [0]=[[0]]:=rfl;rw[n7]at i9;have l1:L8 (λj=>1<=j) Oc wd Oe we:=m1.mono (λj h=>zo) zd;refine zh ?_
 apply ar n9 4 zo (MG _) rfl;intro db wf Of k4 l0 n8 o7;have k7:=(((k8.upd m2 zd zd).upd l3 zd zd).upd j7 zd λh=>h)
 have k6:=(k7.upd m1 zd zd).upd l0 zd zd;have l4:=((l5.trans (j7.mono (λ_ h=>h.elim) zd)).trans l1).trans (l0.mono (λj h=>zo) zd);refine zh ?_;apply zlp (λz:Nat×(Nat->Nat)×World×L1×List L1×List (List Int)×List (ByteArray×Int)×List (List Nat)×List Nat×List L1×L1×L1=>[(0,nP nb),(2,nP cb),(3,nI 0),(4,nP mb),(5,nP db),(6,nI z.1)]) (λz=>z.2.2.1) (λz=>L8 (λj=>1<=j) (λ_=>0) w z.2.1 z.2.2.1/\MK w.heap.size z.2.1 z.2.2.1/\MkO z.2.1 z.2.2.1 1 mb nb kr z.2.2.2.1 z.2.2.2.2.1 z.2.2.2.2.2.1 z.2.2.2.2.2.2.1/\Mc z.2.1 z.2.2.1 4 db #[z.2.2.2.2.2.2.2.2.2.2.1,z.2.2.2.2.2.2.2.2.2.2.2] 170/\RwO z.2.1 z.2.2.1 5 z.2.2.2.2.2.2.2.2.2.2.1 z.2.2.2.2.2.2.2.2.2.1 z.2.2.2.2.2.2.2.1/\ME jh 24 1 z.2.1 z.2.2.1 6 z.2.2.2.2.2.2.2.2.2.2.2 z.2.2.2.2.2.2.2.2.1/\Mc z.2.1 z.2.2.1 7 cb #[nS,nS] 170/\DI (da se g) (dH g) z.1 z.2.2.2.2.2.1 z.2.2.2.2.2.2.2.1 z.2.2.2.2.2.2.2.2.1/\(∀s∈z.2.2.2.2.2.1,inP g s/\s.length<=1000)/\IY (da se g) (dH g) (1002-z.1) z.1 z.2.2.2.2.2.1 z.2.2.2.2.2.2.2.1 z.2.2.2.2.2.2.2.2.1=Gf (da se g) (dH g)) (λz=>1002-z.1) (0,Of,wf,m7,m5,[[0]],le,[],[],[],nS,nS) ⟨l4,n8,i9.upd l0 zd zd zd zd,k4,⟨Ms _ _ _ _ _ _,rfl,λk hk=>absurd hk (M9 k)⟩,Ms _ _ _ _ _ _,k6,Aj _ _,λs hs=>by rw[LV.1 hs];exact⟨i',zd⟩,rfl⟩;rintro⟨q,O1,w1,mv,vs,S,l,rows,i7,i4,nv,tv⟩ ⟨b2,m4,e9,f4,d',e3,e0,i6,f7,c6⟩;dsimp only at b2 m4 e9 f4 d' e3 e0 i6 f7 c6 ⊢;have o6:=i6.le
 have o5:=i6.rl;have o4:=i6.tl;have j3:=i6.len;have m':=d'.len;have c2:w1.cell? (nA mb 2)=some mv:=e9.blk.cell 2 rfl;have i5:=e9.len;refine zh ?_;refine zvH (bH e9.row.sl.sh Mf rfl) ?_;refine zC ?_ ?_
 ·intro g0;replace g0:q<S.length:=dT g0;obtain⟨n,hn⟩:∃n,1002-q=n+1:=⟨1001-q,zo⟩
  rw[hn,IY,if_pos g0]at c6;have e':=kO (da se g) (nth S q) S 37;have j2:=i6.next g0;have j6:=(f7 _ (aW g0)).1;have n3:w1.drew.cell? (nA db 0)=some nv:=f4.cell 0 rfl;have hmk1d:=e9.upd (ae (S:=λ_=>False) (λh=>h) O1 (LQ w1).drew) zd (λh=>h) (λh=>h) λh=>h
  have h1:=Dl w.heap.size O1 w1.drew w 1 mb nb kr se g mv vs S l q zd m4.drew hmk1d hD b2.drew hw h0 ht m0 (λs hs=>(f7 s hs).1) (λs hs=>(f7 s hs).2) g0 j3;generalize dP (da se g) (nth S q) S 37=RT at *;obtain⟨S1,r1⟩:=RT;dsimp only at c6 e' j2 h1;refine zh ?_;apply aQ (λ_=>True) 9 rfl zk;refine zin trivial λzS=>?_
  apply zrf 0 rfl zS rfl;apply zrm 2 rfl zS rfl
  apply zrm 3 rfl zS rfl;refine bB 1 4 zk rfl rfl ?_ ?_
  ·refine zvH (RV.ld n3 rfl) ?_;apply aa trivial
   apply LU 4 zk rfl;apply zc call183 h1
   rintro rv w2 ⟨O2,a7,b',l2,k',l8,h6,e6,e8,f3⟩;have g9:=e6.shape;obtain⟨ra,rc,rfl,_⟩:=g9;have b6:L8 (λj=>1<=j/\j<=3) O1 w1.drew O2 w2:=k';have g8:=d'.drew.upd b6 zd zd;have f8:=f4.drew.upd b6 zd zd;have h9:=e0.drew.upd b6 zd zd;have g6:=e3.drew.upd b6 zd zd;have h':L8 (λj=>1<=j/\j<=3) O1 w1 O2 w2:=(ae zd O1 (LQ w1).drew).trans b6;refine zh ?_;apply aa trivial;apply LU 5 zk rfl;apply dB GM (enc:=Bs) (.slice ra r1.length rc:L1) rfl rfl rfl zd rfl;intro m6 w3 g7 l9;have c7:L8 (λ_=>False) O2 w2 O2 w3:=ae (λh=>h) O2 l9;have i0:L8 (λq=>1<=q) O1 w1 O2 w3:=(h'.mono (λj h=>zo) zd).trans (c7.mono (λ_ h=>h.elim) zd);have l7:=l8.upd c7;have d2:=g8.upd c7 zd λh=>h
   have h7:=f8.upd c7 zd λh=>h
   have h8:=h9.upd c7 zd λh=>h
   have g5:=g6.upd c7 zd λh=>h
   have h5:=h6.upd c7 zd (λh=>h) (λh=>h) λh=>h
   have g':=e6.upd e8 c7;have d3:=e8.upd c7;refine zh ?_;apply aa trivial;apply LU 6 zk rfl;apply aD GM d2.row l7 g7 (by simp) rfl rfl (by simp) (λu hu c hc=>by rw[LV.1 hu]at hc;rw[LV.1 hc];rfl) (by simp;omega) (by simp;omega) zd rfl;intro b3 w4 O4 c8 b8 l6;have d8:=h7.upd b8 zd zd;refine zh ?_;apply aa trivial;apply zrf 7 rfl trivial rfl;apply LU 8 zk rfl;apply ak (j:=0) d8 rfl (Pn _) c8.one rfl rfl rfl;have c5:L8 (λj=>j=4) O4 w4 O4 (w4.setCell ⟨db,0,none⟩ b3):=M4 zd d8.tag rfl;have d7:Mc O4 (w4.setCell ⟨db,0,none⟩ b3) 4 db #[b3,tv] 170:=d8.set 0 b3;refine zh ?_;apply aa trivial;have j1:=l6.upd c5;have e7:=c8.upd c5 zd zd;have a8:=(h5.upd b8 zd zd zd zd).upd c5 zd zd zd zd;have e2:=(g5.upd b8 zd zd).upd c5 zd zd;have f5:=(h8.upd b8 zd zd).upd c5 zd zd;have e5:RwO O4 (w4.setCell ⟨db,0,none⟩ b3) 5 b3 (i4++[.slice ra r1.length rc]) (rows++[r1]):=by
    have i5:=d2.len;refine⟨e7,by simp[i5],λk hk=>?_⟩;rw[ay,ay,i5]
    by_cases e:k<rows.length
    ·rw[if_pos e,if_pos e];obtain⟨a1,a2⟩:=d2.at_ k e;exact⟨(a1.upd a2 b8).upd (a2.upd b8) c5,(a2.upd b8).upd c5⟩
    rw[if_neg e,if_neg e];simp only[M6,M1,MU]at hk;rw[show k-rows.length=0 from by omega,ao,ao];exact⟨(g'.upd d3 b8).upd (d3.upd b8) c5,(d3.upd b8).upd c5⟩
   have d9:L8 (λq=>1<=q) O1 w1 O4 (w4.setCell ⟨db,0,none⟩ b3):=(i0.trans (b8.mono (λj h=>zo) zd)).trans (c5.mono (λj h=>zo) zd);generalize w4.setCell ⟨db,0,none⟩ b3=w5 at *;apply Ml zk;refine zh ?_;have g4:=a8.len;have i8:q<b'.length:=by obtain⟨pq,h3⟩:=e'.pre;rw[g4,h3];simp;omega
   have h2:q<S1.length:=zo;have h4:nth S1 q=nth S q:=by obtain⟨pq,h3⟩:=e'.pre;rw[h3,ay,if_pos g0]
   have b0:w5.drew.cell? (nA mb 2)=some a7/\w5.drew.cell? (adr a7 1 q)=some (nth b' q):=⟨a8.blk.cell 2 rfl,by have:=a8.row.sl.cell (i:=q) (j:=0) i8 rfl;rwa[aA]at this⟩
   have sd:∀W,Mr w5.drew W->W.cell? (nA mb 2)=some a7/\W.cell? (adr a7 1 q)=some (nth b' q):=λW hE=>⟨hE.cell b0.1,hE.cell b0.2⟩
   have j5:w5.drew.cell? (nA db 1)=some tv:=d7.cell 1 rfl;have j4:=hD.ext (b2.trans d9).drew.ext;obtain⟨d0,k0⟩:=a8.at_ q h2;rw[h4]at d0;have m9:=e4 (nth S q);apply aQ (λW=>W.cell? (nA mb 2)=some a7/\W.cell? (adr a7 1 q)=some (nth b' q)) 15 rfl zk;apply zrf 0 rfl b0 rfl;apply zrm 2 rfl b0 rfl;apply zrm 3 rfl b0 rfl;apply zr 4 rfl b0 (λ_=>aq rfl);apply zrf 5 rfl b0 rfl;apply zt 6 rfl b0 (λw1 g1=>RV.ld g1.1 rfl);apply zrm 7 rfl b0 rfl;apply zr 8 rfl b0 (λ_=>aC a8.row.sl.sh Mf (Nw _) rfl rfl q rfl i8);apply zt 9 rfl b0 (λw1 g1=>RV.ld g1.2 rfl);refine bB 1 10 zk rfl rfl ?_ ?_
   ·refine zvH (RV.ld j5 rfl) ?_;apply aa b0
    apply LU 10 zk rfl;apply zc Pg (ku w5.drew nb se g (nth S q) _ j4 d0.drew j6 j0)
    rintro j8 w9 ⟨rfl,e1⟩;rw[e1];clear e1 w9;refine zh ?_;apply aa b0;apply LU 11 zk rfl;apply dB nw (enc:=jh) (dH g (nth S q)) rfl rfl rfl zd rfl;intro j9 w6 c' f';refine zh ?_;apply aa (sd _ f');have a':L8 (λ_=>False) O4 w5 O4 w6:=ae (λh=>h) O4 ((LQ w5).drew.trans f');have c9:=e2.upd a' zd λh=>h
    have d6:=d7.upd a' zd λh=>h
    have d4:=a8.upd a' zd (λh=>h) (λh=>h) λh=>h
    have i3:=j1.upd a';apply LU 12 zk rfl;apply aD nw c9 i3 c' (by simp) rfl rfl (by simp) (by simp[L9]) (by simp;omega) (by simp;omega) zd rfl;intro a3 w7 O7 a6 b7 i2;have a9:=d6.upd b7 zd zd;have a4:=d4.upd b7 zd zd zd zd;have g3:=a4.len;have s7:w7.cell? (nA mb 2)=some a7/\w7.cell? (adr a7 1 q)=some (nth b' q):=⟨a4.blk.cell 2 rfl,by have:=a4.row.sl.cell (i:=q) (j:=0) zo rfl;rwa[aA]at this⟩
    refine zh ?_;apply aa s7
    apply zrf 13 rfl s7 rfl;apply LU 14 zk rfl
    apply ak (j:=1) a9 rfl (P2 _) a6.one rfl rfl rfl;have b1:L8 (λj=>j=4) O7 w7 O7 (w7.setCell ⟨db,1,none⟩ a3):=M4 zd a9.tag rfl;have d5:Mc O7 (w7.setCell ⟨db,1,none⟩ a3) 4 db #[b3,a3] 170:=a9.set 1 a3;have a0:=a4.upd b1 zd zd zd zd;have g2:=a0.len;have s8:(w7.setCell ⟨db,1,none⟩ a3).cell? (nA mb 2)=some a7/\(w7.setCell ⟨db,1,none⟩ a3).cell? (adr a7 1 q)=some (nth b' q):=⟨a0.blk.cell 2 rfl,by have:=a0.row.sl.cell (i:=q) (j:=0) zo rfl;rwa[aA]at this⟩
    refine zh ?_;apply aa s8
    have b4:=a6.upd b1 zd zd;have i1:=i2.upd b1;have d1:=((e5.upd a' zd λh=>h).upd b7 zd zd).upd b1 zd zd;have a5:=((f5.upd a' zd λh=>h).upd b7 zd zd).upd b1 zd zd;have b9:L8 (λq=>1<=q) O1 w1 O7 (w7.setCell ⟨db,1,none⟩ a3):=((d9.trans (a'.mono (λ_ h=>h.elim) zd)).trans (b7.mono (λj h=>zo) zd)).trans (b1.mono (λj h=>zo) zd);generalize w7.setCell ⟨db,1,none⟩ a3=w8 at *;have l':=s8.1;apply Ml zk;refine zh ?_;refine zvH (bH a0.row.sl.sh Mf rfl) ?_
    by_cases b5:1000<S1.length
    ·rw[if_pos b5]at c6;rw[<-c6];refine zTH rfl ((decide_eq_true zo)) ?_;apply zv (aF AB (MG _) rfl (by first|rfl|(simp only[L6,LP];rfl)) rfl rfl);apply zsa (us:=#[nS,nS]) a5 (Mt _);have f9:=a5.setRow (us:=#[nS,nS]);have f6:L8 (λj=>j=7) O7 w8 O7 (w8.setRow cb #[nS,nS]):=L3 zd a5.tag rfl;refine zh ?_;refine bE rfl rfl rfl f9.cellsAdd (Nf _) (Mt _) ⟨((b2.trans b9).trans (f6.mono (λj h=>zo) zd)).ext,rfl⟩
    rw[if_neg b5]at c6;refine zFH rfl ((decide_eq_false zo)) ?_;refine zxd (q+1,O7,w8,a7,b',S1,l2,rows++[r1],i7++[dH g (nth S q)],i4++[.slice ra r1.length rc],b3,a3) ⟨b2.trans b9,i1,a0,d5,d1,b4,a5,j2 zo,f3,by dsimp only;rw[show 1002-(q+1)=n from by omega];exact c6⟩
   apply zc Pg (ku w5.drew nb se g (nth S q) _ j4 d0.drew j6 j0);rintro j8 w9 ⟨rfl,e1⟩;rw[e1];clear e1 w9;refine zh ?_
   apply aa b0;apply cC 1 11 nw (enc:=jh) (dH g (nth S q)) rfl rfl zk zk zk zk (λW hE=>Nm (hE.cell j5) (isAgg27 _) rfl) sd rfl rfl rfl zd rfl rfl rfl rfl rfl
   intro j9 w6 c' f';have a':L8 (λ_=>False) O4 w5 O4 w6:=ae (λh=>h) O4 ((LQ w5).drew.trans f');have c9:=e2.upd a' zd λh=>h
   have d6:=d7.upd a' zd λh=>h
   have d4:=a8.upd a' zd (λh=>h) (λh=>h) λh=>h
   have i3:=j1.upd a';apply LU 12 zk rfl;apply aD nw c9 i3 c' (by simp) rfl rfl (by simp) (by simp[L9]) (by simp;omega) (by simp;omega) zd rfl;intro a3 w7 O7 a6 b7 i2;have a9:=d6.upd b7 zd zd;have a4:=d4.upd b7 zd zd zd zd;have g3:=a4.len;have s7:w7.cell? (nA mb 2)=some a7/\w7.cell? (adr a7 1 q)=some (nth b' q):=⟨a4.blk.cell 2 rfl,by have:=a4.row.sl.cell (i:=q) (j:=0) zo rfl;rwa[aA]at this⟩
   refine zh ?_;apply aa s7
   apply zrf 13 rfl s7 rfl;apply LU 14 zk rfl
   apply ak (j:=1) a9 rfl (P2 _) a6.one rfl rfl rfl;have b1:L8 (λj=>j=4) O7 w7 O7 (w7.setCell ⟨db,1,none⟩ a3):=M4 zd a9.tag rfl;have d5:Mc O7 (w7.setCell ⟨db,1,none⟩ a3) 4 db #[b3,a3] 170:=a9.set 1 a3;have a0:=a4.upd b1 zd zd zd zd;have g2:=a0.len;have s8:(w7.setCell ⟨db,1,none⟩ a3).cell? (nA mb 2)=some a7/\(w7.setCell ⟨db,1,none⟩ a3).cell? (adr a7 1 q)=some (nth b' q):=⟨a0.blk.cell 2 rfl,by have:=a0.row.sl.cell (i:=q) (j:=0) zo rfl;rwa[aA]at this⟩
   refine zh ?_;apply aa s8
   have b4:=a6.upd b1 zd zd;have i1:=i2.upd b1;have d1:=((e5.upd a' zd λh=>h).upd b7 zd zd).upd b1 zd zd;have a5:=((f5.upd a' zd λh=>h).upd b7 zd zd).upd b1 zd zd;have b9:L8 (λq=>1<=q) O1 w1 O7 (w7.setCell ⟨db,1,none⟩ a3):=((d9.trans (a'.mono (λ_ h=>h.elim) zd)).trans (b7.mono (λj h=>zo) zd)).trans (b1.mono (λj h=>zo) zd);generalize w7.setCell ⟨db,1,none⟩ a3=w8 at *;have l':=s8.1;apply Ml zk;refine zh ?_;refine zvH (bH a0.row.sl.sh Mf rfl) ?_
   by_cases b5:1000<S1.length
   ·rw[if_pos b5]at c6;rw[<-c6];refine zTH rfl ((decide_eq_true zo)) ?_;apply zv (aF AB (MG _) rfl (by first|rfl|(simp only[L6,LP];rfl)) rfl rfl);apply zsa (us:=#[nS,nS]) a5 (Mt _);have f9:=a5.setRow (us:=#[nS,nS]);have f6:L8 (λj=>j=7) O7 w8 O7 (w8.setRow cb #[nS,nS]):=L3 zd a5.tag rfl;refine zh ?_;refine bE rfl rfl rfl f9.cellsAdd (Nf _) (Mt _) ⟨((b2.trans b9).trans (f6.mono (λj h=>zo) zd)).ext,rfl⟩
   rw[if_neg b5]at c6;refine zFH rfl ((decide_eq_false zo)) ?_;refine zxd (q+1,O7,w8,a7,b',S1,l2,rows++[r1],i7++[dH g (nth S q)],i4++[.slice ra r1.length rc],b3,a3) ⟨b2.trans b9,i1,a0,d5,d1,b4,a5,j2 zo,f3,by dsimp only;rw[show 1002-(q+1)=n from by omega];exact c6⟩
  apply zc call183 h1;rintro rv w2 ⟨O2,a7,b',l2,k',l8,h6,e6,e8,f3⟩;have g9:=e6.shape;obtain⟨ra,rc,rfl,_⟩:=g9;have b6:L8 (λj=>1<=j/\j<=3) O1 w1.drew O2 w2:=k';have g8:=d'.drew.upd b6 zd zd;have f8:=f4.drew.upd b6 zd zd;have h9:=e0.drew.upd b6 zd zd;have g6:=e3.drew.upd b6 zd zd;have h':L8 (λj=>1<=j/\j<=3) O1 w1 O2 w2:=(ae zd O1 (LQ w1).drew).trans b6;refine zh ?_
  apply aa trivial;have k5:w2.cell? (nA db 0)=some nv:=f8.cell 0 rfl;apply cC 1 5 GM (enc:=Bs) (.slice ra r1.length rc:L1) rfl rfl zk zk zk zk (λW hE=>Nm (hE.cell k5) (isAgg130 _) rfl) (λ_ _=>trivial) rfl rfl rfl zd rfl rfl rfl rfl rfl
  intro m6 w3 g7 l9;have c7:L8 (λ_=>False) O2 w2 O2 w3:=ae (λh=>h) O2 l9;have i0:L8 (λq=>1<=q) O1 w1 O2 w3:=(h'.mono (λj h=>zo) zd).trans (c7.mono (λ_ h=>h.elim) zd);have l7:=l8.upd c7;have d2:=g8.upd c7 zd λh=>h
  have h7:=f8.upd c7 zd λh=>h
  have h8:=h9.upd c7 zd λh=>h
  have g5:=g6.upd c7 zd λh=>h
  have h5:=h6.upd c7 zd (λh=>h) (λh=>h) λh=>h
  have g':=e6.upd e8 c7;have d3:=e8.upd c7;apply LU 6 zk rfl;apply aD GM d2.row l7 g7 (by simp) rfl rfl (by simp) (λu hu c hc=>by rw[LV.1 hu]at hc;rw[LV.1 hc];rfl) (by simp;omega) (by simp;omega) zd rfl;intro b3 w4 O4 c8 b8 l6;have d8:=h7.upd b8 zd zd;refine zh ?_;apply aa trivial;apply zrf 7 rfl trivial rfl;apply LU 8 zk rfl;apply ak (j:=0) d8 rfl (Pn _) c8.one rfl rfl rfl;have c5:L8 (λj=>j=4) O4 w4 O4 (w4.setCell ⟨db,0,none⟩ b3):=M4 zd d8.tag rfl;have d7:Mc O4 (w4.setCell ⟨db,0,none⟩ b3) 4 db #[b3,tv] 170:=d8.set 0 b3;refine zh ?_;apply aa trivial;have j1:=l6.upd c5;have e7:=c8.upd c5 zd zd;have a8:=(h5.upd b8 zd zd zd zd).upd c5 zd zd zd zd;have e2:=(g5.upd b8 zd zd).upd c5 zd zd;have f5:=(h8.upd b8 zd zd).upd c5 zd zd;have e5:RwO O4 (w4.setCell ⟨db,0,none⟩ b3) 5 b3 (i4++[.slice ra r1.length rc]) (rows++[r1]):=by
   have i5:=d2.len;refine⟨e7,by simp[i5],λk hk=>?_⟩;rw[ay,ay,i5]
   by_cases e:k<rows.length
   ·rw[if_pos e,if_pos e];obtain⟨a1,a2⟩:=d2.at_ k e;exact⟨(a1.upd a2 b8).upd (a2.upd b8) c5,(a2.upd b8).upd c5⟩
   rw[if_neg e,if_neg e];simp only[M6,M1,MU]at hk;rw[show k-rows.length=0 from by omega,ao,ao];exact⟨(g'.upd d3 b8).upd (d3.upd b8) c5,(d3.upd b8).upd c5⟩
  have d9:L8 (λq=>1<=q) O1 w1 O4 (w4.setCell ⟨db,0,none⟩ b3):=(i0.trans (b8.mono (λj h=>zo) zd)).trans (c5.mono (λj h=>zo) zd);generalize w4.setCell ⟨db,0,none⟩ b3=w5 at *;apply Ml zk;refine zh ?_;have g4:=a8.len;have i8:q<b'.length:=by obtain⟨pq,h3⟩:=e'.pre;rw[g4,h3];simp;omega
  have h2:q<S1.length:=zo;have h4:nth S1 q=nth S q:=by obtain⟨pq,h3⟩:=e'.pre;rw[h3,ay,if_pos g0]
  have b0:w5.drew.cell? (nA mb 2)=some a7/\w5.drew.cell? (adr a7 1 q)=some (nth b' q):=⟨a8.blk.cell 2 rfl,by have:=a8.row.sl.cell (i:=q) (j:=0) i8 rfl;rwa[aA]at this⟩
  have sd:∀W,Mr w5.drew W->W.cell? (nA mb 2)=some a7/\W.cell? (adr a7 1 q)=some (nth b' q):=λW hE=>⟨hE.cell b0.1,hE.cell b0.2⟩
  have j5:w5.drew.cell? (nA db 1)=some tv:=d7.cell 1 rfl;have j4:=hD.ext (b2.trans d9).drew.ext;obtain⟨d0,k0⟩:=a8.at_ q h2;rw[h4]at d0;have m9:=e4 (nth S q);apply aQ (λW=>W.cell? (nA mb 2)=some a7/\W.cell? (adr a7 1 q)=some (nth b' q)) 15 rfl zk;apply zrf 0 rfl b0 rfl;apply zrm 2 rfl b0 rfl;apply zrm 3 rfl b0 rfl;apply zr 4 rfl b0 (λ_=>aq rfl);apply zrf 5 rfl b0 rfl;apply zt 6 rfl b0 (λw1 g1=>RV.ld g1.1 rfl);apply zrm 7 rfl b0 rfl;apply zr 8 rfl b0 (λ_=>aC a8.row.sl.sh Mf (Nw _) rfl rfl q rfl i8);apply zt 9 rfl b0 (λw1 g1=>RV.ld g1.2 rfl);refine bB 1 10 zk rfl rfl ?_ ?_
  ·refine zvH (RV.ld j5 rfl) ?_;apply aa b0
   apply LU 10 zk rfl;apply zc Pg (ku w5.drew nb se g (nth S q) _ j4 d0.drew j6 j0)
   rintro j8 w9 ⟨rfl,e1⟩;rw[e1];clear e1 w9;refine zh ?_;apply aa b0;apply LU 11 zk rfl;apply dB nw (enc:=jh) (dH g (nth S q)) rfl rfl rfl zd rfl;intro j9 w6 c' f';refine zh ?_;apply aa (sd _ f');have a':L8 (λ_=>False) O4 w5 O4 w6:=ae (λh=>h) O4 ((LQ w5).drew.trans f');have c9:=e2.upd a' zd λh=>h
   have d6:=d7.upd a' zd λh=>h
   have d4:=a8.upd a' zd (λh=>h) (λh=>h) λh=>h
   have i3:=j1.upd a';apply LU 12 zk rfl;apply aD nw c9 i3 c' (by simp) rfl rfl (by simp) (by simp[L9]) (by simp;omega) (by simp;omega) zd rfl;intro a3 w7 O7 a6 b7 i2;have a9:=d6.upd b7 zd zd;have a4:=d4.upd b7 zd zd zd zd;have g3:=a4.len;have s7:w7.cell? (nA mb 2)=some a7/\w7.cell? (adr a7 1 q)=some (nth b' q):=⟨a4.blk.cell 2 rfl,by have:=a4.row.sl.cell (i:=q) (j:=0) zo rfl;rwa[aA]at this⟩
   refine zh ?_;apply aa s7
   apply zrf 13 rfl s7 rfl;apply LU 14 zk rfl
   apply ak (j:=1) a9 rfl (P2 _) a6.one rfl rfl rfl;have b1:L8 (λj=>j=4) O7 w7 O7 (w7.setCell ⟨db,1,none⟩ a3):=M4 zd a9.tag rfl;have d5:Mc O7 (w7.setCell ⟨db,1,none⟩ a3) 4 db #[b3,a3] 170:=a9.set 1 a3;have a0:=a4.upd b1 zd zd zd zd;have g2:=a0.len;have s8:(w7.setCell ⟨db,1,none⟩ a3).cell? (nA mb 2)=some a7/\(w7.setCell ⟨db,1,none⟩ a3).cell? (adr a7 1 q)=some (nth b' q):=⟨a0.blk.cell 2 rfl,by have:=a0.row.sl.cell (i:=q) (j:=0) zo rfl;rwa[aA]at this⟩
   refine zh ?_;apply aa s8
   have b4:=a6.upd b1 zd zd;have i1:=i2.upd b1;have d1:=((e5.upd a' zd λh=>h).upd b7 zd zd).upd b1 zd zd;have a5:=((f5.upd a' zd λh=>h).upd b7 zd zd).upd b1 zd zd;have b9:L8 (λq=>1<=q) O1 w1 O7 (w7.setCell ⟨db,1,none⟩ a3):=((d9.trans (a'.mono (λ_ h=>h.elim) zd)).trans (b7.mono (λj h=>zo) zd)).trans (b1.mono (λj h=>zo) zd);generalize w7.setCell ⟨db,1,none⟩ a3=w8 at *;have l':=s8.1;apply Ml zk;refine zh ?_;refine zvH (bH a0.row.sl.sh Mf rfl) ?_
   by_cases b5:1000<S1.length
   ·rw[if_pos b5]at c6;rw[<-c6];refine zTH rfl ((decide_eq_true zo)) ?_;apply zv (aF AB (MG _) rfl (by first|rfl|(simp only[L6,LP];rfl)) rfl rfl);apply zsa (us:=#[nS,nS]) a5 (Mt _);have f9:=a5.setRow (us:=#[nS,nS]);have f6:L8 (λj=>j=7) O7 w8 O7 (w8.setRow cb #[nS,nS]):=L3 zd a5.tag rfl;refine zh ?_;refine bE rfl rfl rfl f9.cellsAdd (Nf _) (Mt _) ⟨((b2.trans b9).trans (f6.mono (λj h=>zo) zd)).ext,rfl⟩
   rw[if_neg b5]at c6;refine zFH rfl ((decide_eq_false zo)) ?_;refine zxd (q+1,O7,w8,a7,b',S1,l2,rows++[r1],i7++[dH g (nth S q)],i4++[.slice ra r1.length rc],b3,a3) ⟨b2.trans b9,i1,a0,d5,d1,b4,a5,j2 zo,f3,by dsimp only;rw[show 1002-(q+1)=n from by omega];exact c6⟩
  apply zc Pg (ku w5.drew nb se g (nth S q) _ j4 d0.drew j6 j0);rintro j8 w9 ⟨rfl,e1⟩;rw[e1];clear e1 w9;refine zh ?_
  apply aa b0;apply cC 1 11 nw (enc:=jh) (dH g (nth S q)) rfl rfl zk zk zk zk (λW hE=>Nm (hE.cell j5) (isAgg27 _) rfl) sd rfl rfl rfl zd rfl rfl rfl rfl rfl
  intro j9 w6 c' f';have a':L8 (λ_=>False) O4 w5 O4 w6:=ae (λh=>h) O4 ((LQ w5).drew.trans f');have c9:=e2.upd a' zd λh=>h
  have d6:=d7.upd a' zd λh=>h
  have d4:=a8.upd a' zd (λh=>h) (λh=>h) λh=>h
  have i3:=j1.upd a';apply LU 12 zk rfl;apply aD nw c9 i3 c' (by simp) rfl rfl (by simp) (by simp[L9]) (by simp;omega) (by simp;omega) zd rfl;intro a3 w7 O7 a6 b7 i2;have a9:=d6.upd b7 zd zd;have a4:=d4.upd b7 zd zd zd zd;have g3:=a4.len;have s7:w7.cell? (nA mb 2)=some a7/\w7.cell? (adr a7 1 q)=some (nth b' q):=⟨a4.blk.cell 2 rfl,by have:=a4.row.sl.cell (i:=q) (j:=0) zo rfl;rwa[aA]at this⟩
  refine zh ?_;apply aa s7
  apply zrf 13 rfl s7 rfl;apply LU 14 zk rfl
  apply ak (j:=1) a9 rfl (P2 _) a6.one rfl rfl rfl;have b1:L8 (λj=>j=4) O7 w7 O7 (w7.setCell ⟨db,1,none⟩ a3):=M4 zd a9.tag rfl;have d5:Mc O7 (w7.setCell ⟨db,1,none⟩ a3) 4 db #[b3,a3] 170:=a9.set 1 a3;have a0:=a4.upd b1 zd zd zd zd;have g2:=a0.len;have s8:(w7.setCell ⟨db,1,none⟩ a3).cell? (nA mb 2)=some a7/\(w7.setCell ⟨db,1,none⟩ a3).cell? (adr a7 1 q)=some (nth b' q):=⟨a0.blk.cell 2 rfl,by have:=a0.row.sl.cell (i:=q) (j:=0) zo rfl;rwa[aA]at this⟩
  refine zh ?_;apply aa s8
  have b4:=a6.upd b1 zd zd;have i1:=i2.upd b1;have d1:=((e5.upd a' zd λh=>h).upd b7 zd zd).upd b1 zd zd;have a5:=((f5.upd a' zd λh=>h).upd b7 zd zd).upd b1 zd zd;have b9:L8 (λq=>1<=q) O1 w1 O7 (w7.setCell ⟨db,1,none⟩ a3):=((d9.trans (a'.mono (λ_ h=>h.elim) zd)).trans (b7.mono (λj h=>zo) zd)).trans (b1.mono (λj h=>zo) zd);generalize w7.setCell ⟨db,1,none⟩ a3=w8 at *;have l':=s8.1;apply Ml zk;refine zh ?_;refine zvH (bH a0.row.sl.sh Mf rfl) ?_
  by_cases b5:1000<S1.length
  ·rw[if_pos b5]at c6;rw[<-c6];refine zTH rfl ((decide_eq_true zo)) ?_;apply zv (aF AB (MG _) rfl (by first|rfl|(simp only[L6,LP];rfl)) rfl rfl);apply zsa (us:=#[nS,nS]) a5 (Mt _);have f9:=a5.setRow (us:=#[nS,nS]);have f6:L8 (λj=>j=7) O7 w8 O7 (w8.setRow cb #[nS,nS]):=L3 zd a5.tag rfl;refine zh ?_;refine bE rfl rfl rfl f9.cellsAdd (Nf _) (Mt _) ⟨((b2.trans b9).trans (f6.mono (λj h=>zo) zd)).ext,rfl⟩
  rw[if_neg b5]at c6;refine zFH rfl ((decide_eq_false zo)) ?_;refine zxd (q+1,O7,w8,a7,b',S1,l2,rows++[r1],i7++[dH g (nth S q)],i4++[.slice ra r1.length rc],b3,a3) ⟨b2.trans b9,i1,a0,d5,d1,b4,a5,j2 zo,f3,by dsimp only;rw[show 1002-(q+1)=n from by omega];exact c6⟩
 intro n2;obtain rfl:q=S.length:=dF n2;have k3:Gf (da se g) (dH g)=some (rows,i7):=by
  rw[<-c6];obtain⟨n,hn⟩:∃n,1002-S.length=n+1:=⟨1001-S.length,zo⟩
  rw[hn,IY,if_neg zo]
 rw[k3];have o1:=d'.row.one;have o2:=e3.one;refine zh ?_;apply zv (ai (us:=[nv,tv]) f4.cellsAdd (Nf _) (Mt _) rfl);apply zsb (us:=#[nv,tv]) e0 (Mt _) (by simp only[L6,o1,o2];rfl);have f9:=e0.setRow (us:=#[nv,tv]);have f6:L8 (λj=>j=7) O1 w1 O1 (w1.setRow cb #[nv,tv]):=L3 zd e0.tag rfl;have k1:=d'.upd f6 zd zd;have j':=e3.upd f6 zd zd;refine zh ?_;refine bE rfl rfl rfl f9.cellsAdd (Nf _) (Mt _) ⟨(b2.trans (f6.mono (λj h=>zo) zd)).ext,nv,tv,rfl,o1,o2,k1.rows,j'.sl⟩
def CF(l:List Nat):Nat:=l.foldl max 0
theorem CE(l:List Nat)(x:Nat):CF (l++[x])=max (CF l) x:=by unfold CF;rw[N4];rfl
theorem IK(h0:0<n):∀(l:List Nat),(∀x∈l,x<n)->CF l<n:=by
 have a0:∀(l:List Nat) (a:Nat),a<n->(∀x∈l,x<n)->l.foldl max a<n:=λl=>by
  induction l with
  |nil=>exact λa ha _=>ha
  |cons x l ih=>exact λa ha h=>ih _ (by have:=h x (by simp);exact Nat.max_lt.2 ⟨ha,this⟩) λy hy=>h y (by simp[hy])
 exact λl h=>a0 l 0 h0 h
theorem FN(l:List Nat)(sv:L1)(w:ln)(h:Sl bm 1 w sv l)(a1:0<l.length):MB LZ 61 [sv] w λv w'=>v=nI ((CF l:Nat):Int)/\w'=w:=by
 have hl:=h.len_le;have m0:w.cell? (adr sv 1 0)=some (nI ((nth l 0:Nat):Int)):=by have:=h.cell (j:=0) a1 rfl;rwa[aA]at this
 have e1:nth l 0=CF (l.take 1):=by
  have h1:=aY a1;rw[h1];simp[CF]
 apply L4 func61 ntmps61 rfl rfl;refine zh ?_
 refine zFH rfl ((decide_eq_false zo)) ?_;rw[e1];refine zh ?_
 apply zlp (λz:Nat=>[(0,sv),(3,nI ((CF (l.take z):Nat):Int)),(4,nI z)]) (λz=>w) (λz=>1<=z/\z<=l.length) (λz=>l.length-z) 1 ⟨L0 _,a1⟩;rintro q ⟨a3,hq⟩;refine zh ?_
 refine zC ?_ ?_
 ·intro a0;replace a0:q<l.length:=dT a0;have m1:w.cell? (adr sv 1 q)=some (nI ((nth l q:Nat):Int)):=by have:=h.cell (j:=0) a0 rfl;rwa[aA]at this
  refine zh ?_;refine zvH (gQ rfl rfl) ?_
  rw[show max ((CF (l.take q):Nat):Int) ((nth l q:Nat):Int)=((CF (l.take (q+1)):Nat):Int)from by rw[aY a0,CE];omega];refine zxd (q+1) ⟨zo,a0⟩
 intro a2;obtain rfl:q=l.length:=dF a2;rw[Mb];refine zh ?_;refine af rfl rfl ⟨rfl,rfl⟩
theorem FL(l:List Nat)(sv:L1)(w:ln)(h:Sl bm 1 w sv l)(a1:0<l.length):MB LZ 187 [sv] w λv w'=>(∃k:Nat,v=nI (k:Int))/\w'=w:=by
 have hl:=h.len_le;have m0:w.cell? (adr sv 1 0)=some (nI ((nth l 0:Nat):Int)):=by have:=h.cell (j:=0) a1 rfl;rwa[aA]at this
 apply L4 func187 ntmps187 rfl rfl;refine zh ?_
 refine zFH rfl ((decide_eq_false zo)) ?_;apply zlp (λz:Nat×Nat=>[(0,sv),(3,nI ((z.2:Nat):Int)),(4,nI z.1)]) (λz=>w) (λz=>1<=z.1/\z.1<=l.length) (λz=>l.length-z.1) (1,nth l 0) ⟨L0 _,a1⟩
 rintro⟨q,k⟩ ⟨a2,hq⟩;dsimp only at a2 hq ⊢;refine zh ?_;refine zC ?_ ?_
 ·intro a0;replace a0:q<l.length:=dT a0;have m1:w.cell? (adr sv 1 q)=some (nI ((nth l q:Nat):Int)):=by have:=h.cell (j:=0) a0 rfl;rwa[aA]at this
  refine zh ?_;refine zvH (I7 rfl rfl) ?_
  rw[show min ((k:Nat):Int) ((nth l q:Nat):Int)=((min k (nth l q):Nat):Int)from by omega];refine zxd (q+1,min k (nth l q)) ⟨by dsimp only;omega,a0⟩
 intro a3;refine zh ?_;refine af rfl rfl ⟨⟨k,rfl⟩,rfl⟩
structure RightD(rows:List (List Nat))(tls:List Nat):Prop where
 pos:0<rows.length
 le:rows.length<=1000
 tl:tls.length=rows.length
 row:∀j,j<rows.length->(nth rows j).length=37/\∀m,m<37->nth (nth rows j) m<rows.length
theorem DI.right{step:List Int->Int->List Int}{a0:List Int->Nat}{S:List (List Int)}{rows:List (List Nat)}{a1:List Nat}(h:DI step a0 S.length S rows a1):RightD rows a1:=by
 have h1:=h.rl;have h2:=h.p0;have h3:=h.len;exact⟨zo,zo,by rw[h.tl,h1],λj hj=>⟨(h.row j zo).1,λm hm=>by have:=((h.row j zo).2 m hm).1;omega⟩⟩
theorem ka(nv tv:L1)(rows:List (List Nat))(a5:List Nat)(w:ln)(hn:RowsN w nv rows)(b0:Sl jh 1 w tv a5)(hr:RightD rows a5):MB LZ 134 [.agg #[nv,tv]] w λv w'=>v=.bool true/\Mr w w':=by
 obtain⟨vs,a7,b1,a8⟩:=hn;have a4:=hr.pos;have b3:=hr.le;have a9:=hr.tl;apply L4 func134 ntmps134 rfl rfl;refine zh ?_;apply aN (ax w) 1 zo rfl rfl;intro db w1 O1 a6 b5 b6 a2;have c0:w1.cell? (nA db 0)=some nv:=a6.cell 0 rfl;have c1:w1.cell? (nA db 1)=some tv:=a6.cell 1 rfl;have a3:=a7.ext a2;have a':=b0.ext a2;refine zh ?_;apply au (d:=11) rfl (b':=false) ((by rw[beq_eq_false_iff_ne];omega));refine zh ?_;apply au (d:=15) rfl (b':=false) ((decide_eq_false zo));refine zh ?_;refine zFH rfl ((by rw[bne_eq_false_iff_eq];omega)) ?_;apply zlp (λz:Nat×ln=>[(3,nI vs.length),(23,nv),(24,nI vs.length),(25,nI z.1)]) (λz=>z.2) (λz=>z.1<=vs.length/\z.2=w1) (λz=>vs.length-z.1) (0,w1) ⟨L7 _,rfl⟩;rintro⟨q,w2⟩ ⟨hq,rfl⟩;dsimp only at hq ⊢;refine zh ?_;refine zC ?_ ?_
 ·intro a1;replace a1:q<vs.length:=dT a1;have m1:w2.cell? (adr nv 1 q)=some (nth vs q):=by have:=a3.cell (j:=0) a1 rfl;rwa[aA]at this
  obtain⟨r1,r2⟩:=hr.row q zo;have hk:=(a8 q zo).ext a2;have b2:CF (nth rows q)<rows.length:=IK a4 _ λx hx=>by
   obtain⟨j,hj,rfl⟩:=ck hx;exact r2 j zo
  refine zh ?_;apply au (d:=32) rfl (b':=false) ((by rw[r1];rfl))
  refine zh ?_;apply zc call187 (FL (nth rows q) _ w2 hk zo)
  rintro v w9 ⟨⟨k,rfl⟩,a0⟩;rw[a0];clear a0 w9;refine zh ?_;apply au (d:=37) rfl (b':=false) ((decide_eq_false zo));refine zh ?_;apply zc call61 (FN (nth rows q) _ w2 hk zo);rintro v w9 ⟨rfl,a0⟩;rw[a0];clear a0 w9;refine zh ?_;refine zFH rfl ((decide_eq_false zo)) ?_;refine zxd (q+1,w2) ⟨a1,rfl⟩
 intro b4;refine zh ?_;refine af rfl rfl ⟨rfl,a2⟩
end Go.Proofs.YteolbhblkgjbhaaGreatDoor
