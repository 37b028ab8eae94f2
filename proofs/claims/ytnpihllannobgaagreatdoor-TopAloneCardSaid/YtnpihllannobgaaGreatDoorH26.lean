/- Steps of the proof, part H26. No condition. -/
import Derived.Test.YtnpihllannobgaaGreatDoorH23
import Derived.Laws.BitsAllLaws
namespace Go.Proofs.YtnpihllannobgaaGreatDoor
set_option linter.unusedVariables false
set_option linter.unusedSimpArgs false
set_option maxRecDepth 100000
set_option maxHeartbeats 32000000
open Go.ChangeShapes Go.WideShapes Go.ChangeAt Go.RowKit
theorem bitW_is(near lost:Int)(n0:0≤near)(n1:near<18446744073709551616)(l0:0≤lost)(l1:lost<18446744073709551616)(j:Nat)(hj:j<64):
  (bits BinOp.and IntKind.u64 (bits BinOp.andNot IntKind.u64 near lost / 2^j) 1==1)=bitW near lost j:=by
 obtain⟨A,rfl⟩:=Int.eq_ofNat_of_zero_le n0
 obtain⟨B,rfl⟩:=Int.eq_ofNat_of_zero_le l0
 have h1:A&&& (18446744073709551615-B)≤A:=Nat.and_le_left
 rw[u64_andNot_nat A B (by omega) (by omega),bit_is _ _ (by omega),Nat.testBit_and]
 have e:(18446744073709551615-B).testBit j= !B.testBit j:=by
  have:=Nat.testBit_two_pow_sub_succ (x:=B) (n:=64) (by omega) j
  rw[show 2^64-(B+1)=18446744073709551615-B by omega,decide_eq_true hj] at this
  simpa using this
 rw[e]
 unfold bitW
 rw[Nat.testBit_eq_decide_div_mod_eq,Nat.testBit_eq_decide_div_mod_eq]
 have e1:((A:Int) / 2^j % 2=1)↔(A / 2^j % 2=1):=by
  have:((A:Int) / 2^j % 2)=((A / 2^j % 2:Nat):Int):=by push_cast;rfl
  rw[this];omega
 have e2:((B:Int) / 2^j % 2=0)↔¬(B / 2^j % 2=1):=by
  have:((B:Int) / 2^j % 2)=((B / 2^j % 2:Nat):Int):=by push_cast;rfl
  rw[this];omega
 have d1:decide ((A:Int) / 2^j % 2=1)=decide (A / 2^j % 2=1):=decide_eq_decide.2 e1
 have d2:decide ((B:Int) / 2^j % 2=0)=decide (¬B / 2^j % 2=1):=decide_eq_decide.2 e2
 rw[d1,d2]
 by_cases h:B / 2^j % 2=1 <;> simp[h]
theorem flatAtS{n:Nat}{w:World}{ps:List (Snd×Value)}{g cap:Nat}(h:w.ownsRow 0 90 3 (.slice (some ⟨g,0,none⟩) n cap) n (ps.flatMap cellsS)){k:Nat}{p:Snd×Value}(hk:ps[k]? =some p):
  w.cell? ⟨g,k*3,none⟩=some (.int .i64 p.1.1)∧w.cell? ⟨g,k*3+1,none⟩=some p.2∧w.cell? ⟨g,k*3+2,none⟩=some (.int .i64 p.1.2.2):=by
 have hc:∀j u,j<3→(cellsS p)[j]? =some u→w.cell? ⟨g,k*3+j,none⟩=some u:=λj u hj hu=>
  qM h (k*3+j) u (by rw[jz cellsS_len ps k j p hk hj];exact hu)
 exact⟨hc 0 _ (by omega) rfl,hc 1 _ (by omega) rfl,hc 2 _ (by omega) rfl⟩
section
variable {w0 w w':World}{o0 o o':Cls}{c:Cfg}{W:Nat}{x x':WM}{asn:Int}{r r':WR}{d:Dr}{dr lo ac er da:Value}{S:Nat→Prop}
theorem Ao.val{av:Value}{air:List Snd}(h:Ao w o av air)(hn:0<air.length):∃g cap,av= .slice (some ⟨g,0,none⟩) air.length cap∧∀i,i<air.length→∃A cp,w.cell? ⟨g,i*3,none⟩=some (.int .i64 (air.getD i (0,[],0)).1)∧
  w.cell? ⟨g,i*3+1,none⟩=some (.slice A (air.getD i (0,[],0)).2.1.length cp)∧w.cell? ⟨g,i*3+2,none⟩=some (.int .i64 (air.getD i (0,[],0)).2.2)∧BO w o (.slice A (air.getD i (0,[],0)).2.1.length cp) (air.getD i (0,[],0)).2.1:=by
 obtain⟨ps,h1,h2,h3,h4⟩:=h
 have hl:ps.length=air.length:=by rw[h4,List.length_map]
 rw[hl] at h1
 obtain⟨g,cap,e⟩:∃g cap,av= .slice (some ⟨g,0,none⟩) air.length cap:=by
  rcases qD h1 with ⟨e,h0,_⟩|⟨g,cap,e,_⟩
  ·omega
  ·exact⟨g,cap,e⟩
 subst e
 refine⟨g,cap,rfl,λi hi=>?_⟩
 obtain⟨⟨⟨ch,bs,off⟩,bv⟩,hp⟩:∃p,ps[i]? =some p:=⟨_,List.getElem?_eq_getElem (by omega)⟩
 have hair:air.getD i (0,[],0)=(ch,bs,off):=by
  rw[List.getD_eq_getElem?_getD,h4,List.getElem?_map,hp];rfl
 obtain⟨c0,c1,c2⟩:=flatAtS h1 hp
 have hbo:=h3 _ (List.mem_of_getElem? hp)
 dsimp only at hbo c0 c1 c2
 obtain⟨⟨A,cp,e,_⟩,_⟩:=id hbo
 subst e
 rw[hair]
 exact⟨A,cp,c0,c1,c2,hbo⟩
theorem own_low{b0 b1 e s n:Nat}{v:Value}{xs:List Value}(h:w.ownsRow b1 e s v n xs)(hb:b0≤b1):w.ownsRow b0 e s v n xs:=by
 refine⟨h.1,?_⟩
 rcases h.2 with h|⟨g,cap,cur,e,h1,r⟩
 ·exact .inl h
 ·exact .inr ⟨g,cap,cur,e,Nat.le_trans hb h1,r⟩
def z9(c:Cfg)(d:Dr)(x:WM)(i k:Nat):List Int:=((List.range k).filter (jb c d x i)).map (λ(j:Nat)=>(j:Int))
theorem zy(c:Cfg)(d:Dr)(x:WM)(i k:Nat):z9 c d x i (k+1)=z9 c d x i k++(if jb c d x i k then [(k:Int)] else []):=by
 unfold z9
 rw[List.range_succ,List.filter_append,List.map_append]
 by_cases h:jb c d x i k=true
 ·rw[if_pos h];simp[h]
 ·rw[if_neg h];simp[h]
def OffOk(z:Int):Prop:= -1000000000000000000≤z∧z≤1000000000000000000
theorem OffOk.wf{z:Int}(h:OffOk z):(Lit.int .i64 z).wf=true:=by
 unfold OffOk at h
 have e:IntKind.i64.wrap z=z:=IntWalk.i64_in _ (by omega)
 simp[Lit.wf,e]
 exact⟨by show (-9223372036854775808:Int)≤z;omega,by omega⟩
theorem wheard_any(hc:CfgOk c)(h:WAt w0 o0 c W x asn w o r)(k i' t:Int)(hs:So w o d dr lo ac er da)(av:Value)(hair:Ao w o av x.air)(hal:x.air.length=c.nodes)(i:Nat)(hi:i<c.nodes)(hoff:∀j,OffOk (x.snd j).2.2):
  Calls Tryz.prog 62 #[VP W,stpV k i' t dr lo ac er da,.int .i64 i,av] w (PNew VI 3 w (z9 c d x i c.nodes)):=by
 have hn0:=hc.n0
 have hn1:=hc.n1
 have HSO:=qQ hs
 obtain⟨dA,dc,hdr,_⟩:=hs.drift
 obtain⟨lA,lc,hlo,_⟩:=hs.lost
 obtain⟨aA,acp,hac,_⟩:=hs.acks
 obtain⟨eA,ec,her,_⟩:=hs.err
 obtain⟨xA,xn,xc,hda⟩:=hs.da
 obtain⟨dn,hdn⟩:∃n,n=d.drift.length:=⟨_,rfl⟩
 obtain⟨ln,hln⟩:∃n,n=d.lost.length:=⟨_,rfl⟩
 obtain⟨an,han⟩:∃n,n=d.acks.length:=⟨_,rfl⟩
 obtain⟨en,hen⟩:∃n,n=d.err.length:=⟨_,rfl⟩
 rw[←hdn] at hdr
 rw[←hln] at hlo
 rw[←han] at hac
 rw[←hen] at her
 subst hdr hlo hac her hda
 obtain⟨ag,acap,hav,haat⟩:=hair.val (by omega)
 rw[hal] at hav haat
 subst hav
 have H:=qQ h
 have HAIR:=qQ haat
 have ga:=Chg.alloc (λ_=>False) w (.cells #[.int .i64 k,.int .i64 i',.int .i64 t,.slice dA dn dc,.slice lA ln lc,.slice aA an acp,.slice eA en ec,.slice xA xn xc] 35)
 have hba:=qV w (.cells #[.int .i64 k,.int .i64 i',.int .i64 t,.slice dA dn dc,.slice lA ln lc,.slice aA an acp,.slice eA en ec,.slice xA xn xc] 35)
 have HB:=qQ (And.intro hba ga)
 have HOFF:=qQ hoff
 obtain⟨nA,ncap,hnv,hnr,_⟩:=h.wd.near
 have hnear:=hc.near
 have hnb:=hc.nearb
 rw[hnear] at hnv hnr
 have HNR:=qQ (And.intro hnv hnr)
 have HNB:=qQ hnb
 have i1:(i:Int)<(c.nodes:Int):=by omega
 have HGU:=qQ hc.g
 clear h hs hdn hln han hen ga hba hair haat hal hoff hnv hnr hnear hnb
 unfold VP stpV
 go_enter Tryz.func62,Tryz.ntmps62
 go_wp2_with fail
 generalize w.alloc (.cells #[.int .i64 k,.int .i64 i',.int .i64 t,.slice dA dn dc,.slice lA ln lc,.slice aA an acp,.slice eA en ec,.slice xA xn xc] 35)=w1 at *
 obtain⟨sb,hsb⟩:=qZ w.heap.size
 rw[←hsb] at HB ⊢
 have HSB:=qQ hsb
 clear hsb
 go_loopw [9,15] (λu9 i9 wr=>∃(q:Nat),q≤c.nodes∧i9= .int .i64 q∧wr.ownsRow w1.heap.size 3 1 u9 (z9 c d x i q).length ((z9 c d x i q).map VI)∧Chg (λj=>w1.heap.size≤j) w1 wr) (λ_ i9 _=>c.nodes-(intOf i9).toNat)
 case atStart=>exact⟨0,by omega,rfl,World.ownsRow_nil _ _ _ _,Chg.refl _ _⟩
 case round=>
  obtain⟨q,hq,rfl,hO,hG⟩:=hrel
  have HO:=qQ hO
  have HG:=qQ hG
  clear hO hG
  by_cases hlt:q<c.nodes
  ·have hGW:=HB.out.2.trans HG.out.fresh
   obtain⟨jA,jc,a0,a1,a2,abo⟩:=HAIR.out q hlt
   have k0:∀{p:Addr} {v:Value},w.cell? p=some v→wr.cell? p=some v:=λ{p v} hp=>by rw[hGW.cell (qG hp) (λe=>e),hp]
   have b0:=k0 a0
   have b1:=k0 a1
   have b2:=k0 a2
   obtain⟨jn,hjn⟩:∃n,n=(x.air.getD q (0,[],0)).2.1.length:=⟨_,rfl⟩
   rw[←hjn] at b1
   obtain⟨jch,hjch⟩:∃n,n=(x.air.getD q (0,[],0)).1:=⟨_,rfl⟩
   rw[←hjch] at b0
   obtain⟨jof,hjof⟩:∃n,n=(x.air.getD q (0,[],0)).2.2:=⟨_,rfl⟩
   rw[←hjof] at b2
   have HJ:=qQ (And.intro hjn (And.intro hjch hjof))
   have i2:(q:Int)<(c.nodes:Int):=by omega
   have HGW:=qQ hGW
   clear hjn hjch hjof a0 a1 a2 abo k0 hGW
   go_wp2_with fail
   --REGION5
   have hge:=HGW.out.trans (Chg.alloc (λ_=>False) wr (.cells #[.int .i64 jch,.slice jA jn jc,.int .i64 jof] 90))
   have hbe:=qV wr (.cells #[.int .i64 jch,.slice jA jn jc,.int .i64 jof] 90)
   have HGE:=qQ (And.intro hge (HG.out.trans (Chg.alloc _ wr (.cells #[.int .i64 jch,.slice jA jn jc,.int .i64 jof] 90))))
   have HOE:=qQ (qY HO.out (Chg.alloc (λ_=>False) wr (.cells #[.int .i64 jch,.slice jA jn jc,.int .i64 jof] 90)) (λ_ _ e=>e))
   generalize wr.alloc (.cells #[.int .i64 jch,.slice jA jn jc,.int .i64 jof] 90)=we at *
   obtain⟨eb,heb⟩:=qZ wr.heap.size
   rw[←heb] at hbe ⊢
   clear heb b0 b1 b2
   obtain⟨np,z,hnp,hz,hzc⟩:=HNR.out.2.at hi
   subst hnp
   obtain⟨z0,z1,_,_⟩:=HNB.out i z hz
   have hza:atL c.near i=z:=by unfold atL;rw[List.getD_eq_getElem?_getD,hz];rfl
   obtain⟨iA,icp,ia0,ia1,ia2,_⟩:=HAIR.out i hi
   obtain⟨ich,hich⟩:∃n,n=(x.air.getD i (0,[],0)).1:=⟨_,rfl⟩
   obtain⟨iof,hiof⟩:∃n,n=(x.air.getD i (0,[],0)).2.2:=⟨_,rfl⟩
   rw[←hich] at ia0
   rw[←hiof] at ia2
   obtain⟨nb,nr,hbs,hN⟩:=H.out.get i hi
   obtain⟨lg,lcap,hlv,hlc⟩:=H.out.rowval (by omega)
   obtain⟨sl,hsl⟩:=qZ (atL d.lost i)
   have hslb:0≤sl∧sl<18446744073709551616:=by
    rw[hsl];unfold atL;rw[List.getD_eq_getElem?_getD]
    cases hh:d.lost[i]? with
    |none=>simp
    |some y=>exact HSO.out.lb y (List.mem_of_getElem? hh)
   have hbw:=bitW_is z sl z0 (by omega) hslb.1 hslb.2 q (by omega)
   obtain⟨B1,hB1⟩:∃B,B=bitW z sl q:=⟨_,rfl⟩
   obtain⟨B2,hB2⟩:∃B,B=(x.nd i).synced:=⟨_,rfl⟩
   obtain⟨B3,hB3⟩:∃B,B=jQ iof jof c.guard:=⟨_,rfl⟩
   have hhb:jb c d x i q=(B1&&(!(decide (jn=0))&&(jch==ich))&&(!B2||B3)):=by
    unfold jb
    show (bitW (atL c.near i) (atL d.lost i) q&&(!(x.air.getD q (0,[],0)).2.1.isEmpty&&(x.air.getD q (0,[],0)).1==(x.air.getD i (0,[],0)).1)&&(!(x.nd i).synced||jQ (x.air.getD i (0,[],0)).2.2 (x.air.getD q (0,[],0)).2.2 c.guard))=_
    rw[hza,←hsl,←hB1,←hich,←HJ.out.2.1,←hiof,←HJ.out.2.2,←hB2,←hB3]
    have:(x.air.getD q (0,[],0)).2.1.isEmpty=decide (jn=0):=by
     rw[HJ.out.1]
     cases (x.air.getD q (0,[],0)).2.1 <;> simp
    rw[this]
   have HHB:=qQ hhb
   rw[←hB1] at hbw
   have hoi:OffOk iof:=by rw[hiof];exact HOFF.out i
   have hoj:OffOk jof:=by rw[HJ.out.2.2];exact HOFF.out q
   have hwg:OffOk c.guard:=by have:=HGU.out;unfold OffOk;omega
   have HFB:=qQ (show∀WX,Chg (λ_=>False) we WX→(WX.cell? ⟨W,1,none⟩=some (.slice (some np) c.nodes ncap)∧WX.cell? (np.add i)=some (.int .u64 z)∧WX.cell? ⟨sb,4,none⟩=some (.slice lA ln lc))∧
     (WX.cell? ⟨eb,0,none⟩=some (.int .i64 jch)∧WX.cell? ⟨eb,1,none⟩=some (.slice jA jn jc)∧WX.cell? ⟨eb,2,none⟩=some (.int .i64 jof)∧WX.cell? ⟨ag,i*3,none⟩=some (.int .i64 ich))∧
     (WX.cell? ⟨ag,i*3+2,none⟩=some (.int .i64 iof)∧WX.cell? ⟨W,9,none⟩=some (.slice (some ⟨lg,0,none⟩) c.nodes lcap)∧WX.cell? ⟨lg,i,none⟩=some (.pointer (some ⟨nb,0,none⟩))∧WX.cell? ⟨W,3,none⟩=some (.int .i64 c.guard)) from λWX g=>by
    have gw:=HGE.out.1.trans g
    have hw:=H.out.kept hn1 gw
    have k0:∀{p:Addr} {v:Value},w.cell? p=some v→WX.cell? p=some v:=λ{p v} hp=>by rw[gw.cell (qG hp) (λe=>e),hp]
    have ke:=Chg.keep g hbe (λe=>e)
    have ks:WX.heap[sb]? =_:=Chg.keep (S:=λ_=>False) ((HGE.out.2.fresh).trans g) HB.out.1 (λe=>e)
    exact⟨⟨by rw[←HNR.out.1];exact hw.cell 1,k0 hzc,by rw[qJ ks];rfl⟩,⟨by rw[qJ ke];rfl,by rw[qJ ke];rfl,by rw[qJ ke];rfl,k0 ia0⟩,
     ⟨k0 ia2,by rw[←hlv];exact hw.cell 9,k0 (hlc i nb hbs),hw.cell 3⟩⟩)
   have HC71:=qQ (show∀WX,Chg (λ_=>False) we WX→Calls Tryz.prog 71 #[.slice lA ln lc,.int .i64 i] WX (PV0 (.int .u64 sl) WX) from λWX g=>by
    have:=at71_any (w:=WX) (o:=o) (.slice lA ln lc) d.lost i (HSO.out.lost.keep (S:=λ_=>False) (HGE.out.1.trans g) (λ_ _ e=>e))
    rw[←hsl] at this
    exact this)
   have HC10:=qQ (show∀WX,Chg (λ_=>False) we WX→Calls Tryz.prog 10 #[.pointer (some ⟨nb,0,none⟩)] WX (PV0 (.bool B2) WX) from λWX g=>by
    rw[hB2];exact nsynced_any (hN.kept (HGE.out.1.trans g)))
   have HC105:=qQ (show∀WX,Calls Tryz.prog 105 #[.int .i64 iof,.int .i64 jof,.int .i64 c.guard] WX (λe w'=>e= .returned (.bool B3)∧w'=WX) from λWX=>by
    rw[hB3];exact within_any iof jof c.guard WX hoi.wf hoj.wf hwg.wf)
   clear hge hbe hzc hz z0 z1 hza ia0 ia1 ia2 hich hiof hbs hN hlv hlc hsl hslb hB1 hB2 hB3 hhb hoi hoj hwg
   have HGX:=qQ (Chg.refl (λ_=>False) we)
   cases B1 with
   |false=>
    obtain⟨I,F1,hI,hF1,hFA⟩:=clsF we
    have HFF:=qQ hF1
    obtain⟨⟨f1,f2,f3⟩,⟨f4,f5,f6,f7⟩,⟨f8,f9,f10,f11⟩⟩:=HFB.out we HGX.out
    have k1:=qF hF1 f1
    have k2:=qF hF1 f2
    have k3:=qF hF1 f3
    have HD71:=qQ (show∀n,Calls Tryz.prog 71 #[.slice lA ln lc,.int .i64 i] (F1 n) (λe w'=>e= .returned (.int .u64 sl)∧∃m,w'=F1 m) from λn=>(HC71.out (F1 n) (HGX.out.trans (hF1 n))).mono (λe w' ⟨h1,h2⟩=>⟨h1,n,h2⟩))
    have HFA:=qQ (hFA _ (Chg.drew _ _))
    clear hF1 hFA f1 f2 f3 f4 f5 f6 f7 f8 f9 f10 f11
    with_reducible refine qW F1 (by kernel_rfl) (by kernel_rfl) HFA.out ?_
    repeat ((with_reducible refine wpQuiet_step (λK hK=>?_));go_simp;(try (rw[if_neg];rotate_left;(intro h;cases h)));first|((with_reducible refine hK _ ?_);clear hK K)|(apply Exists.intro;(with_reducible refine⟨λ_=>?_,hK _ ?_⟩);(first|exact HD71.out _);clear hK K))
    with_reducible refine wpQuiet_nil ?_
    intro _ hw'
    obtain⟨nq,rfl⟩:=hw'
    have HGX:=qQ (HGX.out.trans (HFF.out nq))
    clear HFF HFA hI k1 k2 k3 HD71
    generalize F1 nq=wf at *
    go_wp2_with fail
    obtain⟨I,F1,hI,hF1,hFA⟩:=clsF wf
    have HFF:=qQ hF1
    obtain⟨⟨f1,f2,f3⟩,⟨f4,f5,f6,f7⟩,⟨f8,f9,f10,f11⟩⟩:=HFB.out wf HGX.out
    have k4:=qF hF1 f4
    have k5:=qF hF1 f5
    have k7:=qF hF1 f7
    have HFA:=qQ (hFA _ (Chg.drew _ _))
    clear hF1 hFA f1 f2 f3 f4 f5 f6 f7 f8 f9 f10 f11
    with_reducible refine qW F1 (by kernel_rfl) (by kernel_rfl) HFA.out ?_
    repeat ((with_reducible refine wpQuiet_step (λK hK=>?_));go_simp;(try (rw[if_neg];rotate_left;(intro h;cases h)));first|((with_reducible refine hK _ ?_);clear hK K)|(apply Exists.intro;(with_reducible refine⟨λ_=>?_,hK _ ?_⟩);(exact False.elim (by assumption));clear hK K))
    with_reducible refine wpQuiet_nil ?_
    intro _ hw'
    obtain⟨nq,rfl⟩:=hw'
    have HGX:=qQ (HGX.out.trans (HFF.out nq))
    clear HFF HFA hI k4 k5 k7
    generalize F1 nq=wg at *
    go_wp2_with fail
    have hno:jb c d x i q=false:=by rw[HHB.out];simp
    go_roundw
    case measure=>simp[intOf];omega
    case rel=>
     refine⟨q+1,by omega,by go_num,?_,HGE.out.2.trans HGX.out.none⟩
     rw[zy,hno,if_neg (by simp),List.append_nil]
     exact qY HOE.out HGX.out (λ_ _ e=>e)
   |true=>
    by_cases h0:jn=0
    ·have t0:((jn:Int)==0)=true:=by simp[h0]
     have T0:=qQ h0
     clear h0
     obtain⟨I,F1,hI,hF1,hFA⟩:=clsF we
     have HFF:=qQ hF1
     obtain⟨⟨f1,f2,f3⟩,⟨f4,f5,f6,f7⟩,⟨f8,f9,f10,f11⟩⟩:=HFB.out we HGX.out
     have k1:=qF hF1 f1
     have k2:=qF hF1 f2
     have k3:=qF hF1 f3
     have HD71:=qQ (show∀n,Calls Tryz.prog 71 #[.slice lA ln lc,.int .i64 i] (F1 n) (λe w'=>e= .returned (.int .u64 sl)∧∃m,w'=F1 m) from λn=>(HC71.out (F1 n) (HGX.out.trans (hF1 n))).mono (λe w' ⟨h1,h2⟩=>⟨h1,n,h2⟩))
     have HFA:=qQ (hFA _ (Chg.drew _ _))
     clear hF1 hFA f1 f2 f3 f4 f5 f6 f7 f8 f9 f10 f11
     with_reducible refine qW F1 (by kernel_rfl) (by kernel_rfl) HFA.out ?_
     repeat ((with_reducible refine wpQuiet_step (λK hK=>?_));go_simp;(try (rw[if_neg];rotate_left;(intro h;cases h)));first|((with_reducible refine hK _ ?_);clear hK K)|(apply Exists.intro;(with_reducible refine⟨λ_=>?_,hK _ ?_⟩);(first|exact HD71.out _);clear hK K))
     with_reducible refine wpQuiet_nil ?_
     intro _ hw'
     obtain⟨nq,rfl⟩:=hw'
     have HGX:=qQ (HGX.out.trans (HFF.out nq))
     clear HFF HFA hI k1 k2 k3 HD71
     generalize F1 nq=wf at *
     go_wp2_with fail
     obtain⟨I,F1,hI,hF1,hFA⟩:=clsF wf
     have HFF:=qQ hF1
     obtain⟨⟨f1,f2,f3⟩,⟨f4,f5,f6,f7⟩,⟨f8,f9,f10,f11⟩⟩:=HFB.out wf HGX.out
     have k4:=qF hF1 f4
     have k5:=qF hF1 f5
     have k7:=qF hF1 f7
     have HFA:=qQ (hFA _ (Chg.drew _ _))
     clear hF1 hFA f1 f2 f3 f4 f5 f6 f7 f8 f9 f10 f11
     with_reducible refine qW F1 (by kernel_rfl) (by kernel_rfl) HFA.out ?_
     repeat ((with_reducible refine wpQuiet_step (λK hK=>?_));go_simp;(try (rw[if_neg];rotate_left;(intro h;cases h)));first|((with_reducible refine hK _ ?_);clear hK K)|(apply Exists.intro;(with_reducible refine⟨λ_=>?_,hK _ ?_⟩);(exact False.elim (by assumption));clear hK K))
     with_reducible refine wpQuiet_nil ?_
     intro _ hw'
     obtain⟨nq,rfl⟩:=hw'
     have HGX:=qQ (HGX.out.trans (HFF.out nq))
     clear HFF HFA hI k4 k5 k7
     generalize F1 nq=wg at *
     go_wp2_with fail
     have hno:jb c d x i q=false:=by rw[HHB.out];rw[T0.out];simp
     go_roundw
     case measure=>simp[intOf];omega
     case rel=>
      refine⟨q+1,by omega,by go_num,?_,HGE.out.2.trans HGX.out.none⟩
      rw[zy,hno,if_neg (by simp),List.append_nil]
      exact qY HOE.out HGX.out (λ_ _ e=>e)
    ·have t0:((jn:Int)==0)=false:=by simp[h0]
     have T0:=qQ h0
     have t00:¬jn=0:=h0
     by_cases h1:jch=ich
     ·have t1:(jch != ich)=false:=by simp[h1]
      have T1:=qQ h1
      clear h1 h0
      cases B2 with
      |false=>
       obtain⟨I,F1,hI,hF1,hFA⟩:=clsF we
       have HFF:=qQ hF1
       obtain⟨⟨f1,f2,f3⟩,⟨f4,f5,f6,f7⟩,⟨f8,f9,f10,f11⟩⟩:=HFB.out we HGX.out
       have k1:=qF hF1 f1
       have k2:=qF hF1 f2
       have k3:=qF hF1 f3
       have HD71:=qQ (show∀n,Calls Tryz.prog 71 #[.slice lA ln lc,.int .i64 i] (F1 n) (λe w'=>e= .returned (.int .u64 sl)∧∃m,w'=F1 m) from λn=>(HC71.out (F1 n) (HGX.out.trans (hF1 n))).mono (λe w' ⟨h1,h2⟩=>⟨h1,n,h2⟩))
       have HFA:=qQ (hFA _ (Chg.drew _ _))
       clear hF1 hFA f1 f2 f3 f4 f5 f6 f7 f8 f9 f10 f11
       with_reducible refine qW F1 (by kernel_rfl) (by kernel_rfl) HFA.out ?_
       repeat ((with_reducible refine wpQuiet_step (λK hK=>?_));go_simp;(try (rw[if_neg];rotate_left;(intro h;cases h)));first|((with_reducible refine hK _ ?_);clear hK K)|(apply Exists.intro;(with_reducible refine⟨λ_=>?_,hK _ ?_⟩);(first|exact HD71.out _);clear hK K))
       with_reducible refine wpQuiet_nil ?_
       intro _ hw'
       obtain⟨nq,rfl⟩:=hw'
       have HGX:=qQ (HGX.out.trans (HFF.out nq))
       clear HFF HFA hI k1 k2 k3 HD71
       generalize F1 nq=wf at *
       go_wp2_with fail
       obtain⟨I,F1,hI,hF1,hFA⟩:=clsF wf
       have HFF:=qQ hF1
       obtain⟨⟨f1,f2,f3⟩,⟨f4,f5,f6,f7⟩,⟨f8,f9,f10,f11⟩⟩:=HFB.out wf HGX.out
       have k4:=qF hF1 f4
       have k5:=qF hF1 f5
       have k7:=qF hF1 f7
       have HFA:=qQ (hFA _ (Chg.drew _ _))
       clear hF1 hFA f1 f2 f3 f4 f5 f6 f7 f8 f9 f10 f11
       with_reducible refine qW F1 (by kernel_rfl) (by kernel_rfl) HFA.out ?_
       repeat ((with_reducible refine wpQuiet_step (λK hK=>?_));go_simp;(try (rw[if_neg];rotate_left;(intro h;cases h)));first|((with_reducible refine hK _ ?_);clear hK K)|(apply Exists.intro;(with_reducible refine⟨λ_=>?_,hK _ ?_⟩);(exact False.elim (by assumption));clear hK K))
       with_reducible refine wpQuiet_nil ?_
       intro _ hw'
       obtain⟨nq,rfl⟩:=hw'
       have HGX:=qQ (HGX.out.trans (HFF.out nq))
       clear HFF HFA hI k4 k5 k7
       generalize F1 nq=wg at *
       go_wp2_with fail
       obtain⟨I,F1,hI,hF1,hFA⟩:=clsF wg
       have HFF:=qQ hF1
       obtain⟨⟨f1,f2,f3⟩,⟨f4,f5,f6,f7⟩,⟨f8,f9,f10,f11⟩⟩:=HFB.out wg HGX.out
       have k6:=qF hF1 f6
       have k8:=qF hF1 f8
       have k9:=qF hF1 f9
       have k10:=qF hF1 f10
       have k11:=qF hF1 f11
       have HD10:=qQ (show∀n,Calls Tryz.prog 10 #[.pointer (some ⟨nb,0,none⟩)] (F1 n) (λe w'=>e= .returned (.bool false)∧∃m,w'=F1 m) from λn=>(HC10.out (F1 n) (HGX.out.trans (hF1 n))).mono (λe w' ⟨h1,h2⟩=>⟨h1,n,h2⟩))
       have HD105:=qQ (show∀n,Calls Tryz.prog 105 #[.int .i64 iof,.int .i64 jof,.int .i64 c.guard] (F1 n) (λe w'=>e= .returned (.bool B3)∧∃m,w'=F1 m) from λn=>(HC105.out (F1 n)).mono (λe w' ⟨h1,h2⟩=>⟨h1,n,h2⟩))
       have HFA:=qQ (hFA _ (Chg.drew _ _))
       clear hF1 hFA f1 f2 f3 f4 f5 f6 f7 f8 f9 f10 f11
       with_reducible refine qW F1 (by kernel_rfl) (by kernel_rfl) HFA.out ?_
       repeat ((with_reducible refine wpQuiet_step (λK hK=>?_));go_simp;(try (rw[if_neg];rotate_left;(intro h;cases h)));first|((with_reducible refine hK _ ?_);clear hK K)|(apply Exists.intro;(with_reducible refine⟨λ_=>?_,hK _ ?_⟩);(first|exact HD10.out _|exact HD105.out _);clear hK K))
       with_reducible refine wpQuiet_nil ?_
       intro _ hw'
       obtain⟨nq,rfl⟩:=hw'
       have HGX:=qQ (HGX.out.trans (HFF.out nq))
       clear HFF HFA hI k6 k8 k9 k10 k11 HD10 HD105
       generalize F1 nq=wh at *
       have hyes:jb c d x i q=true:=by rw[HHB.out];rw[T1.out];simp[t00]
       have HYES:=qQ hyes
       obtain⟨ln2,hln2⟩:∃n,n=(z9 c d x i q).length:=⟨_,rfl⟩
       have hlb:ln2≤q:=by
        rw[hln2];unfold z9
        rw[List.length_map]
        exact Nat.le_trans (List.length_filter_le _ _) (by simp)
       have HX:=qQ (And.intro hln2 (qY HOE.out HGX.out (λ_ _ e=>e)))
       have hsz:w1.heap.size≤wh.heap.size:=(HGE.out.2.trans HGX.out.none).size
       clear hyes hln2
       go_wp2_with (at_builtin;go_loud (refine app1 (V:=VI) elI rfl (.tmp 79) (.tmp 81) rfl w1.heap.size u9 ln2 ((z9 c d x i q).map VI) rfl (by rw[HX.out.1];exact (qY HX.out.2 (Chg.alloc (λ_=>False) wh (.cells #[.int .i64 q] 3)) (λ_ _ e=>e))) wh.heap.size (q:Int) rfl ?c1 rfl (by omega) (by omega) ?hb ?grow))
       case c1=>simp[VI]
       case hb=>simp;omega
       case grow=>
        intro v4 w5 hown hgr hat
        have ga:=Chg.alloc (λ_=>False) wh (.cells #[.int .i64 q] 3)
        have gg:=qH (S:=λj=>w1.heap.size≤j) hgr (λj e=>(qS HX.out.2 e).1)
        have hX:w5.ownsRow w1.heap.size 3 1 v4 (z9 c d x i (q+1)).length ((z9 c d x i (q+1)).map VI):=by
         rw[zy,HYES.out,if_pos rfl,List.map_append,List.length_append,←HX.out.1];exact hown
        have HX2:=qQ (And.intro hX (((HGE.out.2.trans HGX.out.none).trans ga.none).trans gg))
        clear hown hgr hat ga gg hX HX HOE
        go_wp2_with fail
        go_roundw
        case measure=>simp[intOf];omega
        case rel=>exact⟨q+1,by omega,by go_num,HX2.out.1,HX2.out.2⟩
      |true=>
       cases B3 with
       |false=>
        obtain⟨I,F1,hI,hF1,hFA⟩:=clsF we
        have HFF:=qQ hF1
        obtain⟨⟨f1,f2,f3⟩,⟨f4,f5,f6,f7⟩,⟨f8,f9,f10,f11⟩⟩:=HFB.out we HGX.out
        have k1:=qF hF1 f1
        have k2:=qF hF1 f2
        have k3:=qF hF1 f3
        have HD71:=qQ (show∀n,Calls Tryz.prog 71 #[.slice lA ln lc,.int .i64 i] (F1 n) (λe w'=>e= .returned (.int .u64 sl)∧∃m,w'=F1 m) from λn=>(HC71.out (F1 n) (HGX.out.trans (hF1 n))).mono (λe w' ⟨h1,h2⟩=>⟨h1,n,h2⟩))
        have HFA:=qQ (hFA _ (Chg.drew _ _))
        clear hF1 hFA f1 f2 f3 f4 f5 f6 f7 f8 f9 f10 f11
        with_reducible refine qW F1 (by kernel_rfl) (by kernel_rfl) HFA.out ?_
        repeat ((with_reducible refine wpQuiet_step (λK hK=>?_));go_simp;(try (rw[if_neg];rotate_left;(intro h;cases h)));first|((with_reducible refine hK _ ?_);clear hK K)|(apply Exists.intro;(with_reducible refine⟨λ_=>?_,hK _ ?_⟩);(first|exact HD71.out _);clear hK K))
        with_reducible refine wpQuiet_nil ?_
        intro _ hw'
        obtain⟨nq,rfl⟩:=hw'
        have HGX:=qQ (HGX.out.trans (HFF.out nq))
        clear HFF HFA hI k1 k2 k3 HD71
        generalize F1 nq=wf at *
        go_wp2_with fail
        obtain⟨I,F1,hI,hF1,hFA⟩:=clsF wf
        have HFF:=qQ hF1
        obtain⟨⟨f1,f2,f3⟩,⟨f4,f5,f6,f7⟩,⟨f8,f9,f10,f11⟩⟩:=HFB.out wf HGX.out
        have k4:=qF hF1 f4
        have k5:=qF hF1 f5
        have k7:=qF hF1 f7
        have HFA:=qQ (hFA _ (Chg.drew _ _))
        clear hF1 hFA f1 f2 f3 f4 f5 f6 f7 f8 f9 f10 f11
        with_reducible refine qW F1 (by kernel_rfl) (by kernel_rfl) HFA.out ?_
        repeat ((with_reducible refine wpQuiet_step (λK hK=>?_));go_simp;(try (rw[if_neg];rotate_left;(intro h;cases h)));first|((with_reducible refine hK _ ?_);clear hK K)|(apply Exists.intro;(with_reducible refine⟨λ_=>?_,hK _ ?_⟩);(exact False.elim (by assumption));clear hK K))
        with_reducible refine wpQuiet_nil ?_
        intro _ hw'
        obtain⟨nq,rfl⟩:=hw'
        have HGX:=qQ (HGX.out.trans (HFF.out nq))
        clear HFF HFA hI k4 k5 k7
        generalize F1 nq=wg at *
        go_wp2_with fail
        obtain⟨I,F1,hI,hF1,hFA⟩:=clsF wg
        have HFF:=qQ hF1
        obtain⟨⟨f1,f2,f3⟩,⟨f4,f5,f6,f7⟩,⟨f8,f9,f10,f11⟩⟩:=HFB.out wg HGX.out
        have k6:=qF hF1 f6
        have k8:=qF hF1 f8
        have k9:=qF hF1 f9
        have k10:=qF hF1 f10
        have k11:=qF hF1 f11
        have HD10:=qQ (show∀n,Calls Tryz.prog 10 #[.pointer (some ⟨nb,0,none⟩)] (F1 n) (λe w'=>e= .returned (.bool true)∧∃m,w'=F1 m) from λn=>(HC10.out (F1 n) (HGX.out.trans (hF1 n))).mono (λe w' ⟨h1,h2⟩=>⟨h1,n,h2⟩))
        have HD105:=qQ (show∀n,Calls Tryz.prog 105 #[.int .i64 iof,.int .i64 jof,.int .i64 c.guard] (F1 n) (λe w'=>e= .returned (.bool false)∧∃m,w'=F1 m) from λn=>(HC105.out (F1 n)).mono (λe w' ⟨h1,h2⟩=>⟨h1,n,h2⟩))
        have HFA:=qQ (hFA _ (Chg.drew _ _))
        clear hF1 hFA f1 f2 f3 f4 f5 f6 f7 f8 f9 f10 f11
        with_reducible refine qW F1 (by kernel_rfl) (by kernel_rfl) HFA.out ?_
        repeat ((with_reducible refine wpQuiet_step (λK hK=>?_));go_simp;(try (rw[if_neg];rotate_left;(intro h;cases h)));first|((with_reducible refine hK _ ?_);clear hK K)|(apply Exists.intro;(with_reducible refine⟨λ_=>?_,hK _ ?_⟩);(first|exact HD10.out _|exact HD105.out _);clear hK K))
        with_reducible refine wpQuiet_nil ?_
        intro _ hw'
        obtain⟨nq,rfl⟩:=hw'
        have HGX:=qQ (HGX.out.trans (HFF.out nq))
        clear HFF HFA hI k6 k8 k9 k10 k11 HD10 HD105
        generalize F1 nq=wh at *
        go_wp2_with fail
        have hno:jb c d x i q=false:=by rw[HHB.out];rw[T1.out];simp
        go_roundw
        case measure=>simp[intOf];omega
        case rel=>
         refine⟨q+1,by omega,by go_num,?_,HGE.out.2.trans HGX.out.none⟩
         rw[zy,hno,if_neg (by simp),List.append_nil]
         exact qY HOE.out HGX.out (λ_ _ e=>e)
       |true=>
        obtain⟨I,F1,hI,hF1,hFA⟩:=clsF we
        have HFF:=qQ hF1
        obtain⟨⟨f1,f2,f3⟩,⟨f4,f5,f6,f7⟩,⟨f8,f9,f10,f11⟩⟩:=HFB.out we HGX.out
        have k1:=qF hF1 f1
        have k2:=qF hF1 f2
        have k3:=qF hF1 f3
        have HD71:=qQ (show∀n,Calls Tryz.prog 71 #[.slice lA ln lc,.int .i64 i] (F1 n) (λe w'=>e= .returned (.int .u64 sl)∧∃m,w'=F1 m) from λn=>(HC71.out (F1 n) (HGX.out.trans (hF1 n))).mono (λe w' ⟨h1,h2⟩=>⟨h1,n,h2⟩))
        have HFA:=qQ (hFA _ (Chg.drew _ _))
        clear hF1 hFA f1 f2 f3 f4 f5 f6 f7 f8 f9 f10 f11
        with_reducible refine qW F1 (by kernel_rfl) (by kernel_rfl) HFA.out ?_
        repeat ((with_reducible refine wpQuiet_step (λK hK=>?_));go_simp;(try (rw[if_neg];rotate_left;(intro h;cases h)));first|((with_reducible refine hK _ ?_);clear hK K)|(apply Exists.intro;(with_reducible refine⟨λ_=>?_,hK _ ?_⟩);(first|exact HD71.out _);clear hK K))
        with_reducible refine wpQuiet_nil ?_
        intro _ hw'
        obtain⟨nq,rfl⟩:=hw'
        have HGX:=qQ (HGX.out.trans (HFF.out nq))
        clear HFF HFA hI k1 k2 k3 HD71
        generalize F1 nq=wf at *
        go_wp2_with fail
        obtain⟨I,F1,hI,hF1,hFA⟩:=clsF wf
        have HFF:=qQ hF1
        obtain⟨⟨f1,f2,f3⟩,⟨f4,f5,f6,f7⟩,⟨f8,f9,f10,f11⟩⟩:=HFB.out wf HGX.out
        have k4:=qF hF1 f4
        have k5:=qF hF1 f5
        have k7:=qF hF1 f7
        have HFA:=qQ (hFA _ (Chg.drew _ _))
        clear hF1 hFA f1 f2 f3 f4 f5 f6 f7 f8 f9 f10 f11
        with_reducible refine qW F1 (by kernel_rfl) (by kernel_rfl) HFA.out ?_
        repeat ((with_reducible refine wpQuiet_step (λK hK=>?_));go_simp;(try (rw[if_neg];rotate_left;(intro h;cases h)));first|((with_reducible refine hK _ ?_);clear hK K)|(apply Exists.intro;(with_reducible refine⟨λ_=>?_,hK _ ?_⟩);(exact False.elim (by assumption));clear hK K))
        with_reducible refine wpQuiet_nil ?_
        intro _ hw'
        obtain⟨nq,rfl⟩:=hw'
        have HGX:=qQ (HGX.out.trans (HFF.out nq))
        clear HFF HFA hI k4 k5 k7
        generalize F1 nq=wg at *
        go_wp2_with fail
        obtain⟨I,F1,hI,hF1,hFA⟩:=clsF wg
        have HFF:=qQ hF1
        obtain⟨⟨f1,f2,f3⟩,⟨f4,f5,f6,f7⟩,⟨f8,f9,f10,f11⟩⟩:=HFB.out wg HGX.out
        have k6:=qF hF1 f6
        have k8:=qF hF1 f8
        have k9:=qF hF1 f9
        have k10:=qF hF1 f10
        have k11:=qF hF1 f11
        have HD10:=qQ (show∀n,Calls Tryz.prog 10 #[.pointer (some ⟨nb,0,none⟩)] (F1 n) (λe w'=>e= .returned (.bool true)∧∃m,w'=F1 m) from λn=>(HC10.out (F1 n) (HGX.out.trans (hF1 n))).mono (λe w' ⟨h1,h2⟩=>⟨h1,n,h2⟩))
        have HD105:=qQ (show∀n,Calls Tryz.prog 105 #[.int .i64 iof,.int .i64 jof,.int .i64 c.guard] (F1 n) (λe w'=>e= .returned (.bool true)∧∃m,w'=F1 m) from λn=>(HC105.out (F1 n)).mono (λe w' ⟨h1,h2⟩=>⟨h1,n,h2⟩))
        have HFA:=qQ (hFA _ (Chg.drew _ _))
        clear hF1 hFA f1 f2 f3 f4 f5 f6 f7 f8 f9 f10 f11
        with_reducible refine qW F1 (by kernel_rfl) (by kernel_rfl) HFA.out ?_
        repeat ((with_reducible refine wpQuiet_step (λK hK=>?_));go_simp;(try (rw[if_neg];rotate_left;(intro h;cases h)));first|((with_reducible refine hK _ ?_);clear hK K)|(apply Exists.intro;(with_reducible refine⟨λ_=>?_,hK _ ?_⟩);(first|exact HD10.out _|exact HD105.out _);clear hK K))
        with_reducible refine wpQuiet_nil ?_
        intro _ hw'
        obtain⟨nq,rfl⟩:=hw'
        have HGX:=qQ (HGX.out.trans (HFF.out nq))
        clear HFF HFA hI k6 k8 k9 k10 k11 HD10 HD105
        generalize F1 nq=wh at *
        have hyes:jb c d x i q=true:=by rw[HHB.out];rw[T1.out];simp[t00]
        have HYES:=qQ hyes
        obtain⟨ln2,hln2⟩:∃n,n=(z9 c d x i q).length:=⟨_,rfl⟩
        have hlb:ln2≤q:=by
         rw[hln2];unfold z9
         rw[List.length_map]
         exact Nat.le_trans (List.length_filter_le _ _) (by simp)
        have HX:=qQ (And.intro hln2 (qY HOE.out HGX.out (λ_ _ e=>e)))
        have hsz:w1.heap.size≤wh.heap.size:=(HGE.out.2.trans HGX.out.none).size
        clear hyes hln2
        go_wp2_with (at_builtin;go_loud (refine app1 (V:=VI) elI rfl (.tmp 79) (.tmp 81) rfl w1.heap.size u9 ln2 ((z9 c d x i q).map VI) rfl (by rw[HX.out.1];exact (qY HX.out.2 (Chg.alloc (λ_=>False) wh (.cells #[.int .i64 q] 3)) (λ_ _ e=>e))) wh.heap.size (q:Int) rfl ?c1 rfl (by omega) (by omega) ?hb ?grow))
        case c1=>simp[VI]
        case hb=>simp;omega
        case grow=>
         intro v4 w5 hown hgr hat
         have ga:=Chg.alloc (λ_=>False) wh (.cells #[.int .i64 q] 3)
         have gg:=qH (S:=λj=>w1.heap.size≤j) hgr (λj e=>(qS HX.out.2 e).1)
         have hX:w5.ownsRow w1.heap.size 3 1 v4 (z9 c d x i (q+1)).length ((z9 c d x i (q+1)).map VI):=by
          rw[zy,HYES.out,if_pos rfl,List.map_append,List.length_append,←HX.out.1];exact hown
         have HX2:=qQ (And.intro hX (((HGE.out.2.trans HGX.out.none).trans ga.none).trans gg))
         clear hown hgr hat ga gg hX HX HOE
         go_wp2_with fail
         go_roundw
         case measure=>simp[intOf];omega
         case rel=>exact⟨q+1,by omega,by go_num,HX2.out.1,HX2.out.2⟩
     ·have t1:(jch != ich)=true:=by simpa using h1
      have T1:=qQ h1
      clear h1 h0
      obtain⟨I,F1,hI,hF1,hFA⟩:=clsF we
      have HFF:=qQ hF1
      obtain⟨⟨f1,f2,f3⟩,⟨f4,f5,f6,f7⟩,⟨f8,f9,f10,f11⟩⟩:=HFB.out we HGX.out
      have k1:=qF hF1 f1
      have k2:=qF hF1 f2
      have k3:=qF hF1 f3
      have HD71:=qQ (show∀n,Calls Tryz.prog 71 #[.slice lA ln lc,.int .i64 i] (F1 n) (λe w'=>e= .returned (.int .u64 sl)∧∃m,w'=F1 m) from λn=>(HC71.out (F1 n) (HGX.out.trans (hF1 n))).mono (λe w' ⟨h1,h2⟩=>⟨h1,n,h2⟩))
      have HFA:=qQ (hFA _ (Chg.drew _ _))
      clear hF1 hFA f1 f2 f3 f4 f5 f6 f7 f8 f9 f10 f11
      with_reducible refine qW F1 (by kernel_rfl) (by kernel_rfl) HFA.out ?_
      repeat ((with_reducible refine wpQuiet_step (λK hK=>?_));go_simp;(try (rw[if_neg];rotate_left;(intro h;cases h)));first|((with_reducible refine hK _ ?_);clear hK K)|(apply Exists.intro;(with_reducible refine⟨λ_=>?_,hK _ ?_⟩);(first|exact HD71.out _);clear hK K))
      with_reducible refine wpQuiet_nil ?_
      intro _ hw'
      obtain⟨nq,rfl⟩:=hw'
      have HGX:=qQ (HGX.out.trans (HFF.out nq))
      clear HFF HFA hI k1 k2 k3 HD71
      generalize F1 nq=wf at *
      go_wp2_with fail
      obtain⟨I,F1,hI,hF1,hFA⟩:=clsF wf
      have HFF:=qQ hF1
      obtain⟨⟨f1,f2,f3⟩,⟨f4,f5,f6,f7⟩,⟨f8,f9,f10,f11⟩⟩:=HFB.out wf HGX.out
      have k4:=qF hF1 f4
      have k5:=qF hF1 f5
      have k7:=qF hF1 f7
      have HFA:=qQ (hFA _ (Chg.drew _ _))
      clear hF1 hFA f1 f2 f3 f4 f5 f6 f7 f8 f9 f10 f11
      with_reducible refine qW F1 (by kernel_rfl) (by kernel_rfl) HFA.out ?_
      repeat ((with_reducible refine wpQuiet_step (λK hK=>?_));go_simp;(try (rw[if_neg];rotate_left;(intro h;cases h)));first|((with_reducible refine hK _ ?_);clear hK K)|(apply Exists.intro;(with_reducible refine⟨λ_=>?_,hK _ ?_⟩);(exact False.elim (by assumption));clear hK K))
      with_reducible refine wpQuiet_nil ?_
      intro _ hw'
      obtain⟨nq,rfl⟩:=hw'
      have HGX:=qQ (HGX.out.trans (HFF.out nq))
      clear HFF HFA hI k4 k5 k7
      generalize F1 nq=wg at *
      go_wp2_with fail
      have hno:jb c d x i q=false:=by rw[HHB.out];have:=T1.out;simp[this]
      go_roundw
      case measure=>simp[intOf];omega
      case rel=>
       refine⟨q+1,by omega,by go_num,?_,HGE.out.2.trans HGX.out.none⟩
       rw[zy,hno,if_neg (by simp),List.append_nil]
       exact qY HOE.out HGX.out (λ_ _ e=>e)
  ·obtain rfl:q=c.nodes:=by omega
   have hO:=HO.out
   have hG:=HB.out.2.trans HG.out.fresh
   have HX:=qQ (And.intro hO hG)
   have hsz:w.heap.size≤w1.heap.size:=HB.out.2.size
   clear hO hG
   go_wp2_with fail
   go_ret
   refine⟨_,rfl,?_,HX.out.2⟩
   exact own_low HX.out.1 hsz
end
end Go.Proofs.YtnpihllannobgaaGreatDoor
