/- Steps of the proof, part G17. No condition. -/
import Derived.Test.YtnpihllannobgaaGreatDoorG16
namespace Go.Proofs.YtnpihllannobgaaGreatDoor
set_option linter.unusedVariables false
set_option linter.unusedSimpArgs false
set_option maxRecDepth 100000
set_option maxHeartbeats 32000000
open Go.ChangeShapes Go.WideShapes Go.ChangeAt Go.RowKit
def stpV(k i t:Int)(dr lo ac er da:Value):Value:= .agg #[.int .i64 k,.int .i64 i,.int .i64 t,dr,lo,ac,er,da]
structure So(w:World)(o:Cls)(d:Dr)(dr lo ac er da:Value):Prop where
 drift:RV VI w o dr d.drift
 lost:RV VU w o lo d.lost
 acks:RV VU w o ac d.acks
 err:RV VI w o er d.err
 da:∃A n c,da= .slice A n c
 lb:∀z∈d.lost,0≤z∧z<18446744073709551616
 ab:∀z∈d.acks,0≤z∧z<18446744073709551616
theorem cell8{w:World}{b:Nat}{t:TypeId}{v0 v1 v2 v3 v4 v5 v6 v7:Value}(h:w.heap[b]? =some (.cells #[v0,v1,v2,v3,v4,v5,v6,v7] t (0,0))):
  w.cell? ⟨b,0,none⟩=some v0∧w.cell? ⟨b,1,none⟩=some v1∧w.cell? ⟨b,2,none⟩=some v2∧w.cell? ⟨b,3,none⟩=some v3∧w.cell? ⟨b,4,none⟩=some v4∧w.cell? ⟨b,5,none⟩=some v5∧w.cell? ⟨b,6,none⟩=some v6∧w.cell? ⟨b,7,none⟩=some v7:=by
 refine⟨?_,?_,?_,?_,?_,?_,?_,?_⟩ <;> rw[qJ h] <;> rfl
section
variable {w0 w w':World}{o0 o o':Cls}{c:Cfg}{W:Nat}{x x':WM}{asn:Int}{r r':WR}{d:Dr}{dr lo ac er da:Value}{S:Nat→Prop}
theorem So.step(h:So w o d dr lo ac er da)(e:Ext w o o')(g:Chg S w w')(n0:∀k,o k=0→¬S k):So w' o' d dr lo ac er da:=
 ⟨h.drift.step e g n0,h.lost.step e g n0,h.acks.step e g n0,h.err.step e g n0,h.da,h.lb,h.ab⟩
theorem WAt.so(h:WAt w0 o0 c W x asn w o r)(k:So w0 o0 d dr lo ac er da):So w o d dr lo ac er da:=k.step h.ext h.chg (λk hk hs=>hs.1 hk)
def DriftOk(d:Dr)(i:Nat)(s:NSt):Prop:=(-1000000000000≤s.sum∧s.sum≤1000000000000)∧(0≤s.slots∧s.slots≤1000000)∧(0≤s.listened∧s.listened≤1000000)
def BndOk(x:WM):Prop:=∀i,-1≤atL x.bound i∧atL x.bound i≤1000000000
theorem atL_set(L:List Int)(i j:Nat)(v:Int)(h:i<L.length):atL (L.set i v) j=if j=i then v else atL L j:=by
 unfold atL;exact vz L i j v 0 h
theorem set_atL(L:List Int)(i:Nat)(h:i<L.length):L.set i (atL L i)=L:=by
 apply List.ext_getElem?
 intro j
 rw[List.getElem?_set]
 by_cases hj:i=j
 ·subst hj;simp[atL,h]
 ·rw[if_neg hj]
theorem drift_bnd(d:Dr)(x:WM):∀k,k≤x.bound.length→(iter (zz d) k x).bound.length=x.bound.length∧∀i,atL (iter (zz d) k x).bound i=if i<k then ageB i (atL x.bound i) else atL x.bound i:=by
 intro k
 induction k with
 |zero=>intro _;exact⟨rfl,λi=>by simp[iter]⟩
 |succ k ih=>
  intro hk
  obtain⟨h1,h2⟩:=ih (by omega)
  refine⟨by simp[iter,zz,h1],λi=>?_⟩
  show atL (List.set _ k _) i=_
  rw[atL_set _ _ _ _ (by omega)]
  by_cases hik:i=k
  ·subst hik
   rw[if_pos rfl,if_pos (by omega),h2 i,if_neg (by omega)]
  ·rw[if_neg hik,h2 i]
   by_cases h:i<k
   ·rw[if_pos h,if_pos (by omega)]
   ·rw[if_neg h,if_neg (by omega)]
theorem wdrift_any(hc:CfgOk c)(h:WAt w0 o0 c W x asn w o r)(ha:0≤asn∧asn<1099511627776)(k i t:Int)(hs:So w o d dr lo ac er da)(hd:∀i,i<c.nodes→DriftOk d i (x.nd i))(hb:BndOk x):
  Calls Tryz.prog 31 #[VP W,stpV k i t dr lo ac er da] w (PW w0 o0 c W (qR d c.nodes x) asn r (λv w' o'=>RV VI w' o' v (qR d c.nodes x).bound)):=by
 have hn0:=hc.n0
 have hn1:=hc.n1
 have HSO:=qQ hs
 obtain⟨dA,dc,hdr,_⟩:=hs.drift
 obtain⟨lA,lc,hlo,_⟩:=hs.lost
 obtain⟨aA,acp,hac,_⟩:=hs.acks
 obtain⟨eA,ec,her,_⟩:=hs.err
 obtain⟨xA,xn,xc,hda⟩:=hs.da
 obtain⟨dn,hdn⟩:∃n,n=d.drift.length:=⟨_,rfl⟩
 obtain⟨ln,hln⟩:∃n,n=d.lost.length:=⟨_,rfl⟩
 obtain⟨an,han⟩:∃n,n=d.acks.length:=⟨_,rfl⟩
 obtain⟨en,hen⟩:∃n,n=d.err.length:=⟨_,rfl⟩
 rw[←hdn] at hdr
 rw[←hln] at hlo
 rw[←han] at hac
 rw[←hen] at her
 subst hdr hlo hac her hda
 have H:=qQ h
 obtain⟨lg,lcap,hlv,hlc⟩:=h.rowval (by omega)
 have HLC:=qQ (And.intro hlv hlc)
 obtain⟨gb,bcap,hbv⟩:=h.bndval (by omega)
 have HBV:=qQ hbv
 have HDO:=qQ hd
 have HBO:=qQ hb
 have c9:w.cell? ⟨W,9,none⟩=some (.slice (some ⟨lg,0,none⟩) c.nodes lcap):=by rw[←hlv];exact h.cell 9
 have ga:=Chg.alloc (λ_=>False) w (.cells #[.int .i64 k,.int .i64 i,.int .i64 t,.slice dA dn dc,.slice lA ln lc,.slice aA an acp,.slice eA en ec,.slice xA xn xc] 35)
 have hba:=qV w (.cells #[.int .i64 k,.int .i64 i,.int .i64 t,.slice dA dn dc,.slice lA ln lc,.slice aA an acp,.slice eA en ec,.slice xA xn xc] 35)
 have c9a:=qN c9 (.cells #[.int .i64 k,.int .i64 i,.int .i64 t,.slice dA dn dc,.slice lA ln lc,.slice aA an acp,.slice eA en ec,.slice xA xn xc] 35)
 have HB:=qQ (And.intro hba (h.z _ (Nat.le_refl _)))
 have HA:=qQ (And.intro (h.kept hn1 ga) ga)
 obtain⟨F,hF⟩:=qZ (qR d c.nodes x)
 rw[←hF]
 have HF:=qQ hF
 clear h hs hdn hln han hen hlv hlc hbv hd hb ga hba hF
 unfold VP stpV
 go_enter Tryz.func31,Tryz.ntmps31
 go_wp2_with fail
 generalize w.alloc (.cells #[.int .i64 k,.int .i64 i,.int .i64 t,.slice dA dn dc,.slice lA ln lc,.slice aA an acp,.slice eA en ec,.slice xA xn xc] 35)=w1 at *
 obtain⟨sb,hsb⟩:=qZ w.heap.size
 rw[←hsb] at HB ⊢
 clear hsb
 have HST:=qQ (WAt.start HA.out.1.wd HA.out.1.z)
 have HS1:=qQ (HSO.out.step (Ext.refl _ _) HA.out.2 (λ_ _ e=>e))
 clear c9 c9a
 go_loopw [12] (λi wr=>∃(q:Nat),q≤c.nodes∧i= .int .i64 q∧∃o',WAt w1 o c W (iter (zz d) q x) asn wr o' r) (λi _=>c.nodes-(intOf i).toNat)
 case atStart=>exact⟨0,by omega,rfl,o,HST.out⟩
 case round=>
  obtain⟨q,hq,rfl,o1,hA⟩:=hrel
  have HQ:=qQ hA
  by_cases hlt:q<c.nodes
  ·obtain⟨b,nr,hbs,hN⟩:=hA.get q hlt
   obtain⟨g2,cap2,hg2,hrc⟩:=hA.rowval (by omega)
   have hbc:=hrc q b hbs
   rw[HLC.out.1] at hg2
   cases hg2
   have hnd:(iter (zz d) q x).nd q=x.nd q:=by
    have:=(slot1_nd (d:=d) HST.out.wd.nl q (by omega)).2.2 q hlt
    rw[if_neg (by omega)] at this
    exact this
   obtain⟨hd1,hd2,hd3⟩:=HDO.out q hlt
   rw[hnd] at hN
   have i1:(q:Int)<(c.nodes:Int):=by omega
   have hb1:=Chg.keep hA.chg HB.out.1 (λe=>e.1 HB.out.2)
   obtain⟨d0,d1,d2,d3,d4,d5,d6,d7⟩:=cell8 hb1
   have c10:wr.cell? ⟨W,10,none⟩=some (.int .i64 asn):=hA.cell 10
   have HN:=qQ (And.intro hbs hN)
   have hSr:=HST.out
   have HAT:=qQ (show Calls Tryz.prog 54 #[.slice dA dn dc,.int .i64 q] wr.drew (λe w''=>e= .returned (.int .i64 (atL d.drift q))∧w''=wr.drew) from
    at54_any (o:=o1) _ _ q ((hA.so HS1.out).drift.keep (S:=λ_=>False) (Chg.drew _ wr) (λ_ _ e=>e)))
   have HSL:=qQ (nslot_any (NAt.start (hN.kept (Chg.drew _ wr)).nd (hN.kept (Chg.drew _ wr)).z) asn (atL d.drift q) ha.1 ha.2 hd1 hd2 hd3)
   unfold VP at hbc
   clear hA hN hnd hrc hb1 hbs
   go_wp2_with fail
   refine wp_region_still_tail 9 (by kernel_rfl) (by kernel_rfl) ?_
   simp only[List.take_succ_cons,List.take_zero,List.drop_succ_cons,List.drop_zero]
   repeat still_step
   refine wpStill_step (λK hK=>?_)
   go_simp
   refine⟨_,HAT.out,hK _ ?_⟩
   clear hK K
   refine wpStill_nil ?_
   change wpList _ _ _ _ _ wr.drew
   have HQD:=qQ (HQ.out.kept hn1 (Chg.drew _ wr))
   generalize wr.drew=w2 at *
   go_wp2_with fail
   with_reducible refine HSL.out.mono ?_
   rintro en w3 ⟨v3,o3,nr3,rfl,hN3,rfl⟩
   obtain⟨X,hX⟩:=qZ (iter (zz d) q x)
   have hA3:=HQD.out.node hn1 hlt HN.out.1 hN3
   rw[←hX] at hA3
   have hXb:X.bound.length=c.nodes:=hA3.blen
   have hB0:atL X.bound q=atL x.bound q:=by
    rw[hX]
    have:=(drift_bnd d x q (by rw[HST.out.blen];omega)).2 q
    rw[if_neg (by omega)] at this
    exact this
   have hnd:X.nd q=x.nd q:=by
    rw[hX]
    have:=(slot1_nd (d:=d) HST.out.wd.nl q (by omega)).2.2 q hlt
    rw[if_neg (by omega)] at this
    exact this
   have hnx:iter (zz d) (q+1) x= {X.put q (vy q (atL d.drift q) (x.nd q)) with bound:=X.bound.set q (ageB q (atL x.bound q))}:=by
    have:iter (zz d) (q+1) x=zz d q X:=by rw[hX];rfl
    rw[this,←hnd,←hB0];rfl
   obtain⟨B,hB⟩:=qZ (atL x.bound q)
   have hBr:=HBO.out q
   have bc:=hA3.bcell HBV.out q hlt
   have hbb:atL (X.put q (vy q (atL d.drift q) (x.nd q))).bound q=B:=by rw[hB,←hB0];rfl
   rw[hbb] at bc
   rw[←hB] at hBr hnx hB0
   obtain⟨Y,hY⟩:=qZ (X.put q (vy q (atL d.drift q) (x.nd q)))
   have hYb:Y.bound=X.bound:=by rw[hY];rfl
   rw[←hY] at hA3 hnx
   have HNX:=qQ hnx
   have HYB:=qQ (show Y.bound.set q B=Y.bound from by rw[hYb,←hB0];exact set_atL _ _ (by omega))
   have HA3:=qQ hA3
   have hbY:atL Y.bound q=B:=by rw[hYb];exact hB0
   have c11:w3.cell? ⟨W,11,none⟩=some (.slice (some ⟨gb,0,none⟩) c.nodes bcap):=by rw[←HBV.out];exact hA3.cell 11
   have hYX:X.bound=Y.bound:=hYb.symm
   have HYX:=qQ hYX
   clear hX hXb hnd hnx hbb hB hY hYb hA3 hN3 HQD HQ HN HAT HSL hB0 hYX
   by_cases hq0:q=0
   ·have HQ0:=qQ hq0
    have b0:decide (0<(q:Int))=false:=by simp;omega
    have b00:¬0<q:=by omega
    clear hbY hq0 d0 d1 d2 d3 d4 d5 d6 d7 c10
    go_wp2_with fail
    go_roundw
    case measure=>simp[intOf];omega
    case rel=>
     refine⟨q+1,by omega,by go_num,o3,?_⟩
     rw[HNX.out,HYX.out]
     unfold ageB
     rw[if_neg (by have:=HQ0.out;omega),HYB.out]
     exact HA3.out
   ·have b0:decide (0<(q:Int))=true:=by simp;omega
    have hq1:0<q:=by omega
    by_cases hBn:0≤B
    ·have HBN:=qQ hBn
     have e1:IntKind.i64.wrap (B+1)=B+1:=IntWalk.i64_in _ (by omega)
     have hlt2:B+1<1000000000000:=by omega
     have HAD:=qQ (HA3.out.kept hn1 (Chg.drew _ w3))
     have bcd:=HAD.out.bcell HBV.out q hlt
     have bfd:=HAD.out.bfr HBV.out q
     clear d0 d1 d2 d3 d4 d5 d6 d7 c10 hq0
     have hbd:atL Y.bound q=B:=hbY
     rw[hbd] at bcd
     clear hbd hbY
     go_wp2_with fail
     go_still_tail 15,(by kernel_rfl)
     change wpList _ _ _ _ _ w3.drew
     generalize w3.drew=w4 at *
     go_wp2_with fail
     go_roundw
     case measure=>simp[intOf];omega
     case rel=>
      refine⟨q+1,by omega,by go_num,o3,?_⟩
      rw[HNX.out,HYX.out]
      unfold ageB
      rw[if_pos ⟨hq1,HBN.out⟩,show min (B+1) 1000000000000=B+1 by omega]
      exact HAD.out.bset hn1 HBV.out q hlt (B+1)
    ·have bn:decide (0≤B)=false:=by simpa using hBn
     have HBN:=qQ hBn
     clear d0 d1 d2 d3 d4 d5 d6 d7 c10 hBn hq0 hbY
     go_wp2_with fail
     go_roundw
     case measure=>simp[intOf];omega
     case rel=>
      refine⟨q+1,by omega,by go_num,o3,?_⟩
      rw[HNX.out,HYX.out]
      unfold ageB
      rw[if_neg (by have:=HBN.out;omega),HYB.out]
      exact HA3.out
  ·obtain rfl:q=c.nodes:=by omega
   have hA:=HQ.out
   have c11:wr.cell? ⟨W,11,none⟩=some (.slice (some ⟨gb,0,none⟩) c.nodes bcap):=by rw[←HBV.out];exact hA.cell 11
   have hcl:=cloneL_any wr (some ⟨gb,0,none⟩) c.nodes bcap (iter (zz d) c.nodes x).bound ⟨hA.blen,λi hi=>⟨_,rfl,by
    have:=qP (hA.bcell HBV.out i (by rw[hA.blen] at hi;exact hi));exact this,by
    have:=hA.bcell HBV.out i (by rw[hA.blen] at hi;exact hi)
    rw[add_mk,Nat.zero_add,this]
    unfold atL
    rw[List.getD_eq_getElem?_getD,List.getElem?_eq_getElem hi];rfl⟩⟩ (λe=>by cases e) (by omega)
   have HCL:=qQ hcl
   clear hA hcl
   go_wp2_with fail
   with_reducible refine HCL.out.mono ?_
   rintro en w5 ⟨v,rfl,hO,hG⟩
   have HO:=qQ (And.intro hO hG)
   clear hO hG HCL c11
   go_wp2_with fail
   go_ret
   have hA:=HQ.out
   have hF:F=iter (zz d) c.nodes x:=HF.out
   refine⟨v,o1,r,rfl,?_,WR.same.refl r,?_⟩
   ·rw[hF]
    exact HA.out.1.trans (hA.kept hn1 HO.out.2)
   ·rw[hF]
    exact RV.of_own HO.out.1 (λj hj=>hA.z j hj)
end
end Go.Proofs.YtnpihllannobgaaGreatDoor
