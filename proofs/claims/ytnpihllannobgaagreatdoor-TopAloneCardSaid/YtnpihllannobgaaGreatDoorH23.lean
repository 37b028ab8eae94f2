/- Steps of the proof, part H23. No condition. -/
import Derived.Test.YtnpihllannobgaaGreatDoorH19
import Derived.WalkSmall
namespace Go.Proofs.YtnpihllannobgaaGreatDoor
set_option linter.unusedVariables false
set_option linter.unusedSimpArgs false
set_option maxRecDepth 100000
set_option maxHeartbeats 32000000
section
variable (c:Cfg)(d:Dr)(now:Int)(x:WM)
def vS(i:Nat):NSt:=slotN i (atL d.drift i) (x.nd i)
end
theorem set_getD{α:Type}(l:List α)(i j:Nat)(v z:α)(h:i<l.length):(l.set i v).getD j z=if j=i then v else l.getD j z:=by
 simp only[List.getD_eq_getElem?_getD,List.getElem?_set]
 by_cases hj:j=i
 ·subst hj;simp[h]
 ·have hj':¬i=j:=λe=>hj e.symm
  rw[if_neg hj',if_neg hj]
section
variable {c:Cfg}{d:Dr}{now:Int}{x:WM}{n:Nat}{known:List Int}
theorem slot1_nd(hn:x.nodes.length=n):∀k,k≤n→(iter (zC d) k x).nodes.length=n∧(iter (zC d) k x).ev=x.ev∧∀i,i<n→(iter (zC d) k x).nd i=if i<k then vS d x i else x.nd i:=by
 intro k
 induction k with
 |zero=>intro _;exact⟨hn,rfl,λi _=>by simp[iter]⟩
 |succ k ih=>
  intro hk
  obtain⟨h1,h2,h3⟩:=ih (by omega)
  refine⟨by simp[iter,zC,h1],by simp[iter,zC,h2],λi hi=>?_⟩
  show (WM.put (iter (zC d) k x) k _).nodes.getD i s00=_
  unfold WM.put
  simp only[]
  rw[set_getD _ _ _ _ _ (by omega)]
  by_cases hik:i=k
  ·subst hik
   rw[if_pos rfl,if_pos (by omega),h3 i hi,if_neg (by omega)];rfl
  ·rw[if_neg hik]
   refine (h3 i hi).trans ?_
   by_cases h:i<k
   ·rw[if_pos h,if_pos (by omega)]
   ·rw[if_neg h,if_neg (by omega)]
end
open Go.ChangeShapes Go.WideShapes Go.ChangeAt Go.RowKit
def stpV(k i t:Int)(dr lo ac er da:Value):Value:= .agg #[.int .i64 k,.int .i64 i,.int .i64 t,dr,lo,ac,er,da]
structure So(w:World)(o:Cls)(d:Dr)(dr lo ac er da:Value):Prop where
 drift:RV VI w o dr d.drift
 lost:RV VU w o lo d.lost
 acks:RV VU w o ac d.acks
 err:RV VI w o er d.err
 da:∃A n c,da= .slice A n c
 lb:∀z∈d.lost,0≤z∧z<18446744073709551616
 ab:∀z∈d.acks,0≤z∧z<18446744073709551616
theorem vj{w:World}{b:Nat}{t:TypeId}{v0 v1 v2 v3 v4 v5 v6 v7:Value}(h:w.heap[b]? =some (.cells #[v0,v1,v2,v3,v4,v5,v6,v7] t (0,0))):
  w.cell? ⟨b,0,none⟩=some v0∧w.cell? ⟨b,1,none⟩=some v1∧w.cell? ⟨b,2,none⟩=some v2∧w.cell? ⟨b,3,none⟩=some v3∧w.cell? ⟨b,4,none⟩=some v4∧w.cell? ⟨b,5,none⟩=some v5∧w.cell? ⟨b,6,none⟩=some v6∧w.cell? ⟨b,7,none⟩=some v7:=by
 refine⟨?_,?_,?_,?_,?_,?_,?_,?_⟩ <;> rw[qJ h] <;> rfl
section
variable {w0 w w':World}{o0 o o':Cls}{c:Cfg}{W:Nat}{x x':WM}{asn:Int}{r r':WR}{d:Dr}{dr lo ac er da:Value}{S:Nat→Prop}
theorem So.step(h:So w o d dr lo ac er da)(e:Ext w o o')(g:Chg S w w')(n0:∀k,o k=0→¬S k):So w' o' d dr lo ac er da:=
 ⟨h.drift.step e g n0,h.lost.step e g n0,h.acks.step e g n0,h.err.step e g n0,h.da,h.lb,h.ab⟩
theorem WAt.so(h:WAt w0 o0 c W x asn w o r)(k:So w0 o0 d dr lo ac er da):So w o d dr lo ac er da:=k.step h.ext h.chg (λk hk hs=>hs.1 hk)
def DriftOk(d:Dr)(i:Nat)(s:NSt):Prop:=(-1000000000000≤s.sum∧s.sum≤1000000000000)∧(0≤s.slots∧s.slots≤1000000)∧(0≤s.listened∧s.listened≤1000000)
def BndOk(x:WM):Prop:=∀i,-1≤atL x.bound i∧atL x.bound i≤1000000000
theorem atL_set(L:List Int)(i j:Nat)(v:Int)(h:i<L.length):atL (L.set i v) j=if j=i then v else atL L j:=by
 unfold atL;exact set_getD L i j v 0 h
theorem set_atL(L:List Int)(i:Nat)(h:i<L.length):L.set i (atL L i)=L:=by
 apply List.ext_getElem?
 intro j
 rw[List.getElem?_set]
 by_cases hj:i=j
 ·subst hj;simp[atL,h]
 ·rw[if_neg hj]
theorem drift_bnd(d:Dr)(x:WM):∀k,k≤x.bound.length→(iter (zC d) k x).bound.length=x.bound.length∧∀i,atL (iter (zC d) k x).bound i=if i<k then ageB i (atL x.bound i) else atL x.bound i:=by
 intro k
 induction k with
 |zero=>intro _;exact⟨rfl,λi=>by simp[iter]⟩
 |succ k ih=>
  intro hk
  obtain⟨h1,h2⟩:=ih (by omega)
  refine⟨by simp[iter,zC,h1],λi=>?_⟩
  show atL (List.set _ k _) i=_
  rw[atL_set _ _ _ _ (by omega)]
  by_cases hik:i=k
  ·subst hik
   rw[if_pos rfl,if_pos (by omega),h2 i,if_neg (by omega)]
  ·rw[if_neg hik,h2 i]
   by_cases h:i<k
   ·rw[if_pos h,if_pos (by omega)]
   ·rw[if_neg h,if_neg (by omega)]
theorem wdrift_any(hc:CfgOk c)(h:WAt w0 o0 c W x asn w o r)(ha:0≤asn∧asn<1099511627776)(k i t:Int)(hs:So w o d dr lo ac er da)(hd:∀i,i<c.nodes→DriftOk d i (x.nd i))(hb:BndOk x):
  Calls Tryz.prog 31 #[VP W,stpV k i t dr lo ac er da] w (PW w0 o0 c W (qf d c.nodes x) asn r (λv w' o'=>RV VI w' o' v (qf d c.nodes x).bound)):=by
 have hn0:=hc.n0
 have hn1:=hc.n1
 have HSO:=qQ hs
 obtain⟨dA,dc,hdr,_⟩:=hs.drift
 obtain⟨lA,lc,hlo,_⟩:=hs.lost
 obtain⟨aA,acp,hac,_⟩:=hs.acks
 obtain⟨eA,ec,her,_⟩:=hs.err
 obtain⟨xA,xn,xc,hda⟩:=hs.da
 obtain⟨dn,hdn⟩:∃n,n=d.drift.length:=⟨_,rfl⟩
 obtain⟨ln,hln⟩:∃n,n=d.lost.length:=⟨_,rfl⟩
 obtain⟨an,han⟩:∃n,n=d.acks.length:=⟨_,rfl⟩
 obtain⟨en,hen⟩:∃n,n=d.err.length:=⟨_,rfl⟩
 rw[←hdn] at hdr
 rw[←hln] at hlo
 rw[←han] at hac
 rw[←hen] at her
 subst hdr hlo hac her hda
 have H:=qQ h
 obtain⟨lg,lcap,hlv,hlc⟩:=h.rowval (by omega)
 have HLC:=qQ (And.intro hlv hlc)
 obtain⟨gb,bcap,hbv⟩:=h.bndval (by omega)
 have HBV:=qQ hbv
 have HDO:=qQ hd
 have HBO:=qQ hb
 have c9:w.cell? ⟨W,9,none⟩=some (.slice (some ⟨lg,0,none⟩) c.nodes lcap):=by rw[←hlv];exact h.cell 9
 have ga:=Chg.alloc (λ_=>False) w (.cells #[.int .i64 k,.int .i64 i,.int .i64 t,.slice dA dn dc,.slice lA ln lc,.slice aA an acp,.slice eA en ec,.slice xA xn xc] 35)
 have hba:=qV w (.cells #[.int .i64 k,.int .i64 i,.int .i64 t,.slice dA dn dc,.slice lA ln lc,.slice aA an acp,.slice eA en ec,.slice xA xn xc] 35)
 have c9a:=qL c9 (.cells #[.int .i64 k,.int .i64 i,.int .i64 t,.slice dA dn dc,.slice lA ln lc,.slice aA an acp,.slice eA en ec,.slice xA xn xc] 35)
 have HB:=qQ (And.intro hba (h.z _ (Nat.le_refl _)))
 have HA:=qQ (And.intro (h.kept hn1 ga) ga)
 obtain⟨F,hF⟩:=qZ (qf d c.nodes x)
 rw[←hF]
 have HF:=qQ hF
 clear h hs hdn hln han hen hlv hlc hbv hd hb ga hba hF
 unfold VP stpV
 go_enter Tryz.func31,Tryz.ntmps31
 go_wp2_with fail
 generalize w.alloc (.cells #[.int .i64 k,.int .i64 i,.int .i64 t,.slice dA dn dc,.slice lA ln lc,.slice aA an acp,.slice eA en ec,.slice xA xn xc] 35)=w1 at *
 obtain⟨sb,hsb⟩:=qZ w.heap.size
 rw[←hsb] at HB ⊢
 clear hsb
 have HST:=qQ (WAt.start HA.out.1.wd HA.out.1.z)
 have HS1:=qQ (HSO.out.step (Ext.refl _ _) HA.out.2 (λ_ _ e=>e))
 clear c9 c9a
 go_loopw [12] (λi wr=>∃(q:Nat),q≤c.nodes∧i= .int .i64 q∧∃o',WAt w1 o c W (iter (zC d) q x) asn wr o' r) (λi _=>c.nodes-(intOf i).toNat)
 case atStart=>exact⟨0,by omega,rfl,o,HST.out⟩
 case round=>
  obtain⟨q,hq,rfl,o1,hA⟩:=hrel
  have HQ:=qQ hA
  by_cases hlt:q<c.nodes
  ·obtain⟨b,nr,hbs,hN⟩:=hA.get q hlt
   obtain⟨g2,cap2,hg2,hrc⟩:=hA.rowval (by omega)
   have hbc:=hrc q b hbs
   rw[HLC.out.1] at hg2
   cases hg2
   have hnd:(iter (zC d) q x).nd q=x.nd q:=by
    have:=(slot1_nd (d:=d) HST.out.wd.nl q (by omega)).2.2 q hlt
    rw[if_neg (by omega)] at this
    exact this
   obtain⟨hd1,hd2,hd3⟩:=HDO.out q hlt
   rw[hnd] at hN
   have i1:(q:Int)<(c.nodes:Int):=by omega
   have hb1:=Chg.keep hA.chg HB.out.1 (λe=>e.1 HB.out.2)
   obtain⟨d0,d1,d2,d3,d4,d5,d6,d7⟩:=vj hb1
   have c10:wr.cell? ⟨W,10,none⟩=some (.int .i64 asn):=hA.cell 10
   have HN:=qQ (And.intro hbs hN)
   have hSr:=HST.out
   have HAT:=qQ (show Calls Tryz.prog 54 #[.slice dA dn dc,.int .i64 q] wr.drew (λe w''=>e= .returned (.int .i64 (atL d.drift q))∧w''=wr.drew) from
    at54_any (o:=o1) _ _ q ((hA.so HS1.out).drift.keep (S:=λ_=>False) (Chg.drew _ wr) (λ_ _ e=>e)))
   have HSL:=qQ (nslot_any (NAt.start (hN.kept (Chg.drew _ wr)).nd (hN.kept (Chg.drew _ wr)).z) asn (atL d.drift q) ha.1 ha.2 hd1 hd2 hd3)
   unfold VP at hbc
   clear hA hN hnd hrc hb1 hbs
   go_wp2_with fail
   refine wp_region_still_tail 9 (by kernel_rfl) (by kernel_rfl) ?_
   simp only[List.take_succ_cons,List.take_zero,List.drop_succ_cons,List.drop_zero]
   repeat still_step
   refine wpStill_step (λK hK=>?_)
   go_simp
   refine⟨_,HAT.out,hK _ ?_⟩
   clear hK K
   refine wpStill_nil ?_
   change wpList _ _ _ _ _ wr.drew
   have HQD:=qQ (HQ.out.kept hn1 (Chg.drew _ wr))
   generalize wr.drew=w2 at *
   go_wp2_with fail
   with_reducible refine HSL.out.mono ?_
   rintro en w3 ⟨v3,o3,nr3,rfl,hN3,rfl⟩
   obtain⟨X,hX⟩:=qZ (iter (zC d) q x)
   have hA3:=HQD.out.node hn1 hlt HN.out.1 hN3
   rw[←hX] at hA3
   have hXb:X.bound.length=c.nodes:=hA3.blen
   have hB0:atL X.bound q=atL x.bound q:=by
    rw[hX]
    have:=(drift_bnd d x q (by rw[HST.out.blen];omega)).2 q
    rw[if_neg (by omega)] at this
    exact this
   have hnd:X.nd q=x.nd q:=by
    rw[hX]
    have:=(slot1_nd (d:=d) HST.out.wd.nl q (by omega)).2.2 q hlt
    rw[if_neg (by omega)] at this
    exact this
   have hnx:iter (zC d) (q+1) x= {X.put q (slotN q (atL d.drift q) (x.nd q)) with bound:=X.bound.set q (ageB q (atL x.bound q))}:=by
    have:iter (zC d) (q+1) x=zC d q X:=by rw[hX];rfl
    rw[this,←hnd,←hB0];rfl
   obtain⟨B,hB⟩:=qZ (atL x.bound q)
   have hBr:=HBO.out q
   have bc:=hA3.bcell HBV.out q hlt
   have hbb:atL (X.put q (slotN q (atL d.drift q) (x.nd q))).bound q=B:=by rw[hB,←hB0];rfl
   rw[hbb] at bc
   rw[←hB] at hBr hnx hB0
   obtain⟨Y,hY⟩:=qZ (X.put q (slotN q (atL d.drift q) (x.nd q)))
   have hYb:Y.bound=X.bound:=by rw[hY];rfl
   rw[←hY] at hA3 hnx
   have HNX:=qQ hnx
   have HYB:=qQ (show Y.bound.set q B=Y.bound from by rw[hYb,←hB0];exact set_atL _ _ (by omega))
   have HA3:=qQ hA3
   have hbY:atL Y.bound q=B:=by rw[hYb];exact hB0
   have c11:w3.cell? ⟨W,11,none⟩=some (.slice (some ⟨gb,0,none⟩) c.nodes bcap):=by rw[←HBV.out];exact hA3.cell 11
   have hYX:X.bound=Y.bound:=hYb.symm
   have HYX:=qQ hYX
   clear hX hXb hnd hnx hbb hB hY hYb hA3 hN3 HQD HQ HN HAT HSL hB0 hYX
   by_cases hq0:q=0
   ·have HQ0:=qQ hq0
    have b0:decide (0<(q:Int))=false:=by simp;omega
    have b00:¬0<q:=by omega
    clear hbY hq0 d0 d1 d2 d3 d4 d5 d6 d7 c10
    go_wp2_with fail
    go_roundw
    case measure=>simp[intOf];omega
    case rel=>
     refine⟨q+1,by omega,by go_num,o3,?_⟩
     rw[HNX.out,HYX.out]
     unfold ageB
     rw[if_neg (by have:=HQ0.out;omega),HYB.out]
     exact HA3.out
   ·have b0:decide (0<(q:Int))=true:=by simp;omega
    have hq1:0<q:=by omega
    by_cases hBn:0≤B
    ·have HBN:=qQ hBn
     have e1:IntKind.i64.wrap (B+1)=B+1:=IntWalk.i64_in _ (by omega)
     have hlt2:B+1<1000000000000:=by omega
     have HAD:=qQ (HA3.out.kept hn1 (Chg.drew _ w3))
     have bcd:=HAD.out.bcell HBV.out q hlt
     have bfd:=HAD.out.bfr HBV.out q
     clear d0 d1 d2 d3 d4 d5 d6 d7 c10 hq0
     have hbd:atL Y.bound q=B:=hbY
     rw[hbd] at bcd
     clear hbd hbY
     go_wp2_with fail
     go_still_tail 15,(by kernel_rfl)
     change wpList _ _ _ _ _ w3.drew
     generalize w3.drew=w4 at *
     go_wp2_with fail
     go_roundw
     case measure=>simp[intOf];omega
     case rel=>
      refine⟨q+1,by omega,by go_num,o3,?_⟩
      rw[HNX.out,HYX.out]
      unfold ageB
      rw[if_pos ⟨hq1,HBN.out⟩,show min (B+1) 1000000000000=B+1 by omega]
      exact HAD.out.bset hn1 HBV.out q hlt (B+1)
    ·have bn:decide (0≤B)=false:=by simpa using hBn
     have HBN:=qQ hBn
     clear d0 d1 d2 d3 d4 d5 d6 d7 c10 hBn hq0 hbY
     go_wp2_with fail
     go_roundw
     case measure=>simp[intOf];omega
     case rel=>
      refine⟨q+1,by omega,by go_num,o3,?_⟩
      rw[HNX.out,HYX.out]
      unfold ageB
      rw[if_neg (by have:=HBN.out;omega),HYB.out]
      exact HA3.out
  ·obtain rfl:q=c.nodes:=by omega
   have hA:=HQ.out
   have c11:wr.cell? ⟨W,11,none⟩=some (.slice (some ⟨gb,0,none⟩) c.nodes bcap):=by rw[←HBV.out];exact hA.cell 11
   have hcl:=cloneL_any wr (some ⟨gb,0,none⟩) c.nodes bcap (iter (zC d) c.nodes x).bound ⟨hA.blen,λi hi=>⟨_,rfl,by
    have:=qG (hA.bcell HBV.out i (by rw[hA.blen] at hi;exact hi));exact this,by
    have:=hA.bcell HBV.out i (by rw[hA.blen] at hi;exact hi)
    rw[add_mk,Nat.zero_add,this]
    unfold atL
    rw[List.getD_eq_getElem?_getD,List.getElem?_eq_getElem hi];rfl⟩⟩ (λe=>by cases e) (by omega)
   have HCL:=qQ hcl
   clear hA hcl
   go_wp2_with fail
   with_reducible refine HCL.out.mono ?_
   rintro en w5 ⟨v,rfl,hO,hG⟩
   have HO:=qQ (And.intro hO hG)
   clear hO hG HCL c11
   go_wp2_with fail
   go_ret
   have hA:=HQ.out
   have hF:F=iter (zC d) c.nodes x:=HF.out
   refine⟨v,o1,r,rfl,?_,WR.same.refl r,?_⟩
   ·rw[hF]
    exact HA.out.1.trans (hA.kept hn1 HO.out.2)
   ·rw[hF]
    exact RV.of_own HO.out.1 (λj hj=>hA.z j hj)
end
def cfgB(c:Cfg)(nv hv:Value):Obj:= .cells #[.int .i64 c.nodes,nv,hv,.int .i64 c.guard,.int .i64 c.err,.int .i64 c.keep,.int .i64 c.loss,.int .i64 c.queue,.int .i64 c.life] 26
theorem vd{w:World}{b:Nat}{t:TypeId}{v0 v1 v2 v3 v4 v5 v6 v7 v8:Value}(h:w.heap[b]? =some (.cells #[v0,v1,v2,v3,v4,v5,v6,v7,v8] t (0,0))):
  w.cell? ⟨b,0,none⟩=some v0∧w.cell? ⟨b,1,none⟩=some v1∧w.cell? ⟨b,2,none⟩=some v2∧w.cell? ⟨b,3,none⟩=some v3∧w.cell? ⟨b,4,none⟩=some v4∧w.cell? ⟨b,5,none⟩=some v5∧w.cell? ⟨b,6,none⟩=some v6∧w.cell? ⟨b,7,none⟩=some v7∧w.cell? ⟨b,8,none⟩=some v8:=by
 refine⟨?_,?_,?_,?_,?_,?_,?_,?_,?_⟩ <;> rw[qJ h] <;> rfl
theorem vr(n a b:Int)(h1:a≤n)(h2:n≤b)(w:World):Calls Tryz.prog 48 #[.int .i64 n,.int .i64 a,.int .i64 b] w λe w'=>e= .returned (.bool true)∧w'=w:=by
 have:=nin_any n a b w
 rw[zT h1 h2] at this
 exact this
section
variable {w0 w w':World}{o0 o o':Cls}{c:Cfg}
theorem nmay_any(hc:CfgOk c)(nv hv:Value)(hn:RV VU w o nv c.near)(hh:RV VI w o hv c.hops):Calls Tryz.prog 27 #[cfgV c nv hv] w (PV (.bool true) w):=by
 obtain⟨nA,ncap,rfl,hnr,_⟩:=hn
 obtain⟨hA,hcap,rfl,hhr,hh0,hh1,hh2⟩:=hh
 have hnl:=hc.near
 rw[hnl] at hnr ⊢
 obtain⟨hl,hhl⟩:∃n,n=c.hops.length:=⟨_,rfl⟩
 have ga:=Chg.alloc (λ_=>False) w (cfgB c (.slice nA c.nodes ncap) (.slice hA hl hcap))
 have hb:=qV w (cfgB c (.slice nA c.nodes ncap) (.slice hA hl hcap))
 unfold cfgB at hb ga
 have HM:=qQ (hopmay_any _ hA c.hops.length hcap c.hops ((hhr.keep ga (λ_ _ e=>e)).rs) hh1 hh2 hc.hops)
 rw[←hhl] at HM ⊢
 obtain⟨d0,d1,d2,d3,d4,d5,d6,d7,d8⟩:=vd hb
 have HG:=qQ ga
 have HB:=qQ hb
 have HN:=qQ (hnr.keep ga (λ_ _ e=>e))
 have HC:=qQ hc
 have hn0:=hc.n0
 have hn1:=hc.n1
 have I1:=qQ (λW=>vr c.nodes 2 16 (by omega) (by omega) W)
 have I2:=qQ (λW=>vr c.guard 1 4000 hc.g.1 hc.g.2 W)
 have I3:=qQ (λW=>vr c.err 0 1000 hc.e.1 hc.e.2 W)
 have I4:=qQ (λW=>vr c.keep 1 10000 hc.k.1 hc.k.2 W)
 have I5:=qQ (λW=>vr c.loss 1 10000 (by have:=hc.l.1;omega) hc.l.2 W)
 have I6:=qQ (λW=>vr c.queue 1 32 hc.q.1 hc.q.2 W)
 have I7:=qQ (λW=>vr c.life 1 15 hc.f.1 hc.f.2 W)
 unfold cfgV
 have b1:((c.nodes:Int) != (c.nodes:Int))=false:=by simp
 clear hnr hhr hhl ga hb hc hnl
 go_enter Tryz.func27,Tryz.ntmps27
 go_wp2_with fail
 (with_reducible refine (I1.out _).mono ?_)
 rintro en w1 ⟨rfl,rfl⟩
 go_wp2_with fail
 with_reducible refine HM.out.mono ?_
 rintro en w1 ⟨rfl,hG⟩
 have hb1:=Chg.keep hG HB.out (λe=>e)
 have HG1:=qQ (HG.out.trans hG)
 have HN1:=qQ (HN.out.keep hG (λ_ _ e=>e))
 obtain⟨fb,hfb⟩:∃x,x=w.heap.size:=⟨_,rfl⟩
 rw[←hfb] at hb1 ⊢
 clear d0 d1 d2 d3 d4 d5 d6 d7 d8 hG HB HN HG hfb HM
 obtain⟨d0,d1,d2,d3,d4,d5,d6,d7,d8⟩:=vd hb1
 clear hb1
 go_wp2_with fail
 go_loopw [26] (λi wr=>∃(k:Nat),k≤c.nodes∧i= .int .i64 k∧wr=w1) (λi _=>c.nodes-(intOf i).toNat)
 case atStart=>exact⟨0,by omega,rfl,rfl⟩
 case round=>
  obtain⟨k,hk,rfl,rfl⟩:=hrel
  by_cases hlt:k<c.nodes
  ·obtain⟨p,z,rfl,hz,hcell⟩:=HN1.out.at hlt
   obtain⟨z0,z1,z2,z3⟩:=HC.out.nearb k z hz
   have i1:(k:Int)<(c.nodes:Int):=by omega
   unfold VU at hcell
   have hd0:0≤z / 2^k:=Int.ediv_nonneg z0 (Int.le_of_lt (Int.pow_pos (by omega)))
   have hd1:z / 2^k≤z:=Int.ediv_le_self _ z0
   have a1:bits BinOp.and IntKind.u64 (z / 2^k) 1=0:=by rw[and_one_u64 _ hd0 (by omega)];exact z3
   have a2:z / 2^c.nodes=0:=Int.ediv_eq_zero_of_lt z0 z2
   clear hz hd0 hd1 z2 z3
   go_wp2_with fail
   go_roundw
   case measure=>simp[intOf];omega
   case rel=>exact⟨k+1,by omega,by go_num,trivial⟩
  ·obtain rfl:k=c.nodes:=by omega
   go_wp2_with fail
   (with_reducible refine (I2.out _).mono ?_)
   rintro en w2 ⟨rfl,rfl⟩
   go_wp2_with fail
   (with_reducible refine (I3.out _).mono ?_)
   rintro en w2 ⟨rfl,rfl⟩
   go_wp2_with fail
   (with_reducible refine (I4.out _).mono ?_)
   rintro en w2 ⟨rfl,rfl⟩
   go_wp2_with fail
   (with_reducible refine (I5.out _).mono ?_)
   rintro en w2 ⟨rfl,rfl⟩
   go_wp2_with fail
   (with_reducible refine (I6.out _).mono ?_)
   rintro en w2 ⟨rfl,rfl⟩
   go_wp2_with fail
   (with_reducible refine (I7.out _).mono ?_)
   rintro en w2 ⟨rfl,rfl⟩
   go_wp2_with fail
   go_ret
   exact⟨rfl,HG1.out⟩
end
def newN(i:Nat):NSt:=⟨0,0,0,[],λ_=>none,λ_=>none,λ_=>none,0,-1,0,((i:Int)==0),none,none,0,λ_=>none,0,0,0,0,0,false,[]⟩
def ownN(o:Cls)(i b ck q u1 m1 u2 m2 u3 m3 pm:Nat):Cls:=λk=>
 if k=b then cl i 0 else if k=ck then cl i 1 else if k=q then cl i 2 else if k=u1 then cl i 3 else if k=m1 then cl i 3 else if k=u2 then cl i 4 else if k=m2 then cl i 4 else
 if k=u3 then cl i 5 else if k=m3 then cl i 5 else if k=pm then cl i 8 else o k
def newR(nv hv:Value)(ck q u1 u2 u3 pm:Nat):NR:=⟨nv,hv,ck,q,u1,u2,u3,.pointer none,.pointer none,pm,none,0,0,none,0,0,.slice none 0 0⟩
structure NodeB(w W:World)(b ck q u1 m1 u2 m2 u3 m3 pm:Nat):Prop where
 lo:∀k,k∈[b,ck,q,u1,m1,u2,m2,u3,m3,pm]→w.heap.size≤k∧k<W.heap.size
 nd:[b,ck,q,u1,m1,u2,m2,u3,m3,pm].Nodup
theorem Nd.made{w W:World}{o:Cls}{c:Cfg}{i b ck q u1 m1 u2 m2 u3 m3 pm:Nat}{nv hv:Value}(hz:Z w o)(hG:Chg (λ_=>False) w W)(hB:NodeB w W b ck q u1 m1 u2 m2 u3 m3 pm)
  (hn:RV VU w o nv c.near) (hh:RV VI w o hv c.hops) (h1:Ck W ck 0 0 0) (h2:Qb W q c.queue (.slice none 0 0) 0 []) (h3:Wk W u1 m1 (λ_=>none)) (h4:Wk W u2 m2 (λ_=>none)) (h5:Wk W u3 m3 (λ_=>none)) (h6:Mp W pm (λ_=>none))
  (hb:W.heap[b]? =some (.cells (zr c i (newR nv hv ck q u1 u2 u3 pm) (newN i)) 75 (0,0))):
  Ext w o (ownN o i b ck q u1 m1 u2 m2 u3 m3 pm)∧Z W (ownN o i b ck q u1 m1 u2 m2 u3 m3 pm)∧Nd W (ownN o i b ck q u1 m1 u2 m2 u3 m3 pm) c i b (newR nv hv ck q u1 u2 u3 pm) (newN i):=by
 have hlo:=hB.lo
 simp only[List.mem_cons,List.not_mem_nil,or_false,forall_eq_or_imp,forall_eq] at hlo
 obtain⟨l0,l1,l2,l3,l4,l5,l6,l7,l8,l9⟩:=hlo
 have hE:Ext w o (ownN o i b ck q u1 m1 u2 m2 u3 m3 pm):=λk hk=>by
  unfold ownN
  rw[if_neg (by omega),if_neg (by omega),if_neg (by omega),if_neg (by omega),if_neg (by omega),if_neg (by omega),if_neg (by omega),if_neg (by omega),if_neg (by omega),if_neg (by omega)]
 have hZ:Z W (ownN o i b ck q u1 m1 u2 m2 u3 m3 pm):=λk hk=>by
  unfold ownN
  rw[if_neg (by omega),if_neg (by omega),if_neg (by omega),if_neg (by omega),if_neg (by omega),if_neg (by omega),if_neg (by omega),if_neg (by omega),if_neg (by omega),if_neg (by omega)]
  exact hz k (by have:=hG.size;omega)
 have hnd:=hB.nd
 simp only[List.nodup_cons,List.mem_cons,List.not_mem_nil,or_false,not_or,List.nodup_nil,and_true] at hnd
 obtain⟨⟨a1,a2,a3,a4,a5,a6,a7,a8,a9⟩,⟨b2,b3,b4,b5,b6,b7,b8,b9⟩,⟨c3,c4,c5,c6,c7,c8,c9⟩,⟨d4,d5,d6,d7,d8,d9⟩,⟨e5,e6,e7,e8,e9⟩,⟨f6,f7,f8,f9⟩,⟨g7,g8,g9⟩,⟨i8,i9⟩,⟨j9,_⟩⟩:=hnd
 have v0:ownN o i b ck q u1 m1 u2 m2 u3 m3 pm b=cl i 0:=by unfold ownN;rw[if_pos rfl]
 have v1:ownN o i b ck q u1 m1 u2 m2 u3 m3 pm ck=cl i 1:=by unfold ownN;rw[if_neg (λe=>a1 e.symm),if_pos rfl]
 have v2:ownN o i b ck q u1 m1 u2 m2 u3 m3 pm q=cl i 2:=by unfold ownN;rw[if_neg (λe=>a2 e.symm),if_neg (λe=>b2 e.symm),if_pos rfl]
 have v3:ownN o i b ck q u1 m1 u2 m2 u3 m3 pm u1=cl i 3:=by unfold ownN;rw[if_neg (λe=>a3 e.symm),if_neg (λe=>b3 e.symm),if_neg (λe=>c3 e.symm),if_pos rfl]
 have v4:ownN o i b ck q u1 m1 u2 m2 u3 m3 pm m1=cl i 3:=by unfold ownN;rw[if_neg (λe=>a4 e.symm),if_neg (λe=>b4 e.symm),if_neg (λe=>c4 e.symm),if_neg (λe=>d4 e.symm),if_pos rfl]
 have v5:ownN o i b ck q u1 m1 u2 m2 u3 m3 pm u2=cl i 4:=by unfold ownN;rw[if_neg (λe=>a5 e.symm),if_neg (λe=>b5 e.symm),if_neg (λe=>c5 e.symm),if_neg (λe=>d5 e.symm),if_neg (λe=>e5 e.symm),if_pos rfl]
 have v6:ownN o i b ck q u1 m1 u2 m2 u3 m3 pm m2=cl i 4:=by unfold ownN;rw[if_neg (λe=>a6 e.symm),if_neg (λe=>b6 e.symm),if_neg (λe=>c6 e.symm),if_neg (λe=>d6 e.symm),if_neg (λe=>e6 e.symm),if_neg (λe=>f6 e.symm),if_pos rfl]
 have v7:ownN o i b ck q u1 m1 u2 m2 u3 m3 pm u3=cl i 5:=by unfold ownN;rw[if_neg (λe=>a7 e.symm),if_neg (λe=>b7 e.symm),if_neg (λe=>c7 e.symm),if_neg (λe=>d7 e.symm),if_neg (λe=>e7 e.symm),if_neg (λe=>f7 e.symm),if_neg (λe=>g7 e.symm),if_pos rfl]
 have v8:ownN o i b ck q u1 m1 u2 m2 u3 m3 pm m3=cl i 5:=by unfold ownN;rw[if_neg (λe=>a8 e.symm),if_neg (λe=>b8 e.symm),if_neg (λe=>c8 e.symm),if_neg (λe=>d8 e.symm),if_neg (λe=>e8 e.symm),if_neg (λe=>f8 e.symm),if_neg (λe=>g8 e.symm),if_neg (λe=>i8 e.symm),if_pos rfl]
 have v9:ownN o i b ck q u1 m1 u2 m2 u3 m3 pm pm=cl i 8:=by unfold ownN;rw[if_neg (λe=>a9 e.symm),if_neg (λe=>b9 e.symm),if_neg (λe=>c9 e.symm),if_neg (λe=>d9 e.symm),if_neg (λe=>e9 e.symm),if_neg (λe=>f9 e.symm),if_neg (λe=>g9 e.symm),if_neg (λe=>i9 e.symm),if_neg (λe=>j9 e.symm),if_pos rfl]
 have p1:=hn.step hE hG (λ_ _ e=>e)
 have p2:=hh.step hE hG (λ_ _ e=>e)
 generalize ownN o i b ck q u1 m1 u2 m2 u3 m3 pm=O at *
 clear l0 l1 l2 l3 l4 l5 l6 l7 l8 l9 a1 a2 a3 a4 a5 a6 a7 a8 a9 b2 b3 b4 b5 b6 b7 b8 b9 c3 c4 c5 c6 c7 c8 c9 d4 d5 d6 d7 d8 d9 e5 e6 e7 e8 e9 f6 f7 f8 f9 g7 g8 g9 i8 i9 j9
 have p3:Co W O (cl i 1) ck 0 0 0:=⟨h1,v1⟩
 have p4:Qo W O (cl i 2) q c.queue []:=Qo.of h2 v2 (by omega) (by omega) (λk hk=>by cases hk) (λp hp=>by cases hp)
 have p5:Wo W O (cl i 3) u1 (λ_=>none):=⟨m1,h3,v3,v4,Fine.none⟩
 have p6:Wo W O (cl i 4) u2 (λ_=>none):=⟨m2,h4,v5,v6,Fine.none⟩
 have p7:Wo W O (cl i 5) u3 (λ_=>none):=⟨m3,h5,v7,v8,Fine.none⟩
 have p8:Mo W O (cl i 8) pm (λ_=>none):=⟨_,h6,v9,λn=>rfl⟩
 exact⟨hE,hZ,⟨hb,v0,p1,p2,p3,p4,p5,p6,p7,rfl,rfl,p8,Eo.nil _ _ _⟩⟩
def PNode(w:World)(o:Cls)(c:Cfg)(i:Nat)(en:Ending)(w':World):Prop:=
 ∃b o' r,en= .returned (VP b)∧w.heap.size≤b∧Ext w o o'∧Z w' o'∧Nd w' o' c i b r (newN i)∧Chg (λ_=>False) w w'∧(∀k,w.heap.size≤k→o' k≠0→NdS o' i k)
def PPlan(w0:World)(o0:Cls)(c:Cfg)(i b:Nat)(x:NSt×Int×List Int):Ending→World→Prop:=
 PN w0 o0 c i b x.1 (λv w' o'=>∃bv,v= .tuple #[.int .i64 x.2.1,bv]∧BO w' o' bv x.2.2)
section
variable {w0 w w':World}{o0 o o':Cls}{c:Cfg}{i b:Nat}{s s':NSt}{r r':NR}
theorem nplan_off(hc:CfgOk c)(h:NAt w0 o0 c i b s w o r)(now:Int)(h0:0≤now)(h1:now<1099511627776)(hs:s.synced=false)(hz:0≤s.slots∧s.slots≤1000000):
  Calls Tryz.prog 32 #[.pointer (some ⟨b,0,none⟩),.int .i64 now] w (PPlan w0 o0 c i b (zS c i s now)):=by
 have HA:=qQ (λw=>jB now h0 h1 w)
 have c10:w.cell? ⟨b,18,none⟩=some (.bool false):=by rw[←hs];exact h.cell 18
 have c2:w.cell? ⟨b,2,none⟩=some r.hv:=h.cell 2
 have c0:w.cell? ⟨b,0,none⟩=some (.int .i64 c.nodes):=h.cell 0
 have ck:w.cell? ⟨b,10,none⟩=some (.pointer (some ⟨r.clk,0,none⟩)):=h.cell 10
 have HK:=qQ h.nd.np.2.2.1.1
 have H:=qQ h
 have hh:=h.nd.np.2.1
 obtain⟨A,cap,hv,hro,hA,hcap,hmx⟩:=hh
 have hl1:=hc.hops.2.2.1
 have hl2:=hc.hops.2.2.2
 have hn0:=hc.n0
 have hn1:=hc.n1
 obtain⟨M,hM⟩:∃M:Int,M=(c.nodes:Int)*(c.hops.length:Int):=⟨_,rfl⟩
 have hM1:1≤M∧M≤256:=by
  rw[hM]
  have q1:(1:Int)*1≤(c.nodes:Int)*(c.hops.length:Int):=Int.mul_le_mul (by omega) (by omega) (by omega) (by omega)
  have q2:(c.nodes:Int)*(c.hops.length:Int)≤16*16:=Int.mul_le_mul (by omega) (by omega) (by omega) (by omega)
  omega
 have e1:IntKind.i64.wrap ((c.nodes:Int)*(c.hops.length:Int))=M:=by rw[←hM];exact IntWalk.i64_in _ (by omega)
 obtain⟨q,hq⟩:=qZ (s.slots / M)
 have hq0:0≤q∧q≤1000000:=by
  rw[hq]
  have:=Int.ediv_le_self M hz.1
  have:=Int.ediv_nonneg hz.1 (show 0≤M by omega)
  omega
 have e2:IntKind.i64.wrap (s.slots.tdiv M)=q:=by rw[Int.tdiv_eq_ediv_of_nonneg hz.1,←hq];exact IntWalk.i64_in _ (by omega)
 have e3:(M==0)=false:=by simp;omega
 have e4:¬M=0:=by omega
 obtain⟨P,hP⟩:=qZ (zS c i s now)
 have hP2:P=(s,chanOf c.hops q,[]):=by rw[hP,hq,hM];unfold zS chanN;rw[hs];rfl
 rw[←hP]
 have HP:=qQ hP2
 have HCH:=qQ (λW (g:Chg (λ_=>False) w W)=>channel_any W A c.hops.length cap c.hops q (by exact ((show Ro VI w o A _ c.hops from hro).keep g (λ_ _ e=>e)).rs) hA hcap hmx hc.hops hq0.1 (by omega))
 obtain⟨hl,hhl⟩:∃n,n=c.hops.length:=⟨_,rfl⟩
 rw[hv] at c2
 rw[←hhl] at c2 HCH e1
 obtain⟨ca,hca⟩:∃x,x=chanOf c.hops q:=⟨_,rfl⟩
 rw[←hca] at HCH HP
 obtain⟨cb,hcb⟩:∃x,x=r.clk:=⟨_,rfl⟩
 rw[←hcb] at ck HK
 obtain⟨sl,hsl⟩:∃x,x=s.slots:=⟨_,rfl⟩
 rw[←hsl] at e2 HK
 clear h hro hP hP2 hq hM hhl hca hcb hsl
 go_enter Tryz.func32,Tryz.ntmps32
 go_wp2_with fail
 (with_reducible refine (HA.out _).mono ?_)
 rintro en w1 ⟨rfl,rfl⟩
 go_wp2_with fail
 obtain⟨I,F1,hI,hF1,hFA⟩:=clsF w1
 have k1:=qF hF1 c2
 have k2:=qF hF1 c0
 have k3:=qF hF1 ck
 have HFF:=qQ hF1
 have HC1:=qQ (show∀n,Calls Tryz.prog 58 #[.pointer (some ⟨cb,0,none⟩)] (F1 n) (λe w'=>e= .returned (.int .i64 sl)∧∃m,w'=F1 m) from
  λn=>(ckslots_any (F1 n) cb s.base s.sum sl (HK.out.kept (hF1 n))).mono (λe w' ⟨h1,h2⟩=>⟨h1,n,h2⟩))
 have HC2:=qQ (show∀n,Calls Tryz.prog 57 #[.slice A hl cap,.int .u32 0,.int .i64 q,.int .i64 0] (F1 n) (λe w'=>e= .returned (.int .i64 ca)∧∃m,w'=F1 m) from
  λn=>(HCH.out (F1 n) (hF1 n)).mono (λe w' ⟨h1,h2⟩=>⟨h1,hFA _ ((hF1 n).trans h2)⟩))
 have HFA:=qQ (hFA _ (Chg.drew _ _))
 clear hF1 hFA c2 c0 ck
 with_reducible refine qW F1 (by kernel_rfl) (by kernel_rfl) HFA.out ?_
 repeat ((with_reducible refine wpQuiet_step (λK hK=>?_));go_simp;(try (rw[if_neg];rotate_left;(intro h;cases h)));first|((with_reducible refine hK _ ?_);clear hK K)|(apply Exists.intro;(with_reducible refine⟨λ_=>?_,hK _ ?_⟩);(first|exact HC1.out _|exact HC2.out _);clear hK K))
 with_reducible refine wpQuiet_nil ?_
 intro _ hw'
 obtain⟨nq,rfl⟩:=hw'
 have H2:=qQ (H.out.kept (HFF.out nq))
 clear k1 k2 k3 HC1 HC2 HFF HFA hI
 generalize F1 nq=w2 at *
 go_wp2_with fail
 go_ret2
 rw[HP.out]
 exact⟨_,o,r,rfl,H2.out,_,rfl,BO.nil _ _⟩
theorem nplan_idle(hc:CfgOk c)(h:NAt w0 o0 c i b s w o r)(now:Int)(h0:0≤now)(h1:now<1099511627776)(hs:s.synced=true)(hne:now % (c.nodes:Int)≠i):
  Calls Tryz.prog 32 #[.pointer (some ⟨b,0,none⟩),.int .i64 now] w (PPlan w0 o0 c i b (zS c i s now)):=by
 have HA:=qQ (λw=>jB now h0 h1 w)
 have c18:w.cell? ⟨b,18,none⟩=some (.bool true):=by rw[←hs];exact h.cell 18
 have c2:w.cell? ⟨b,2,none⟩=some r.hv:=h.cell 2
 have HC:=qQ (show∀W,Chg (λ_=>False) w W→W.cell? ⟨b,0,none⟩=some (.int .i64 c.nodes)∧W.cell? ⟨b,9,none⟩=some (.int .i64 i) from λW g=>⟨(h.kept g).cell 0,(h.kept g).cell 9⟩)
 have H:=qQ h
 obtain⟨A,cap,hv,hro,hA,hcap,hmx⟩:=h.nd.np.2.1
 have hn0:=hc.n0
 have hn1:=hc.n1
 obtain⟨m,hm⟩:∃m:Int,m=now % (c.nodes:Int):=⟨_,rfl⟩
 rw[←hm] at hne
 have e1:now.tmod (c.nodes:Int)=m:=by rw[hm];exact Int.tmod_eq_emod_of_nonneg h0
 have e2:IntKind.i64.wrap m=m:=IntWalk.i64_in _ (by rw[hm];have:=Int.emod_nonneg now (show (c.nodes:Int)≠0 by omega);have:=Int.emod_lt_of_pos now (show (0:Int)<c.nodes by omega);omega)
 have e3:((c.nodes:Int)==0)=false:=by simp;omega
 have e4:¬c.nodes=0:=by omega
 have e5:(m != (i:Int))=true:=by simpa using hne
 obtain⟨P,hP⟩:=qZ (zS c i s now)
 have hP2:P=(s,chanOf c.hops now,[]):=by
  rw[hP];unfold zS chanN;rw[hs,←hm,decide_eq_false hne];rfl
 rw[←hP]
 have HP:=qQ hP2
 have HCH:=qQ (channel_any w A c.hops.length cap c.hops now (show Ro VI w o A _ c.hops from hro).rs hA hcap hmx hc.hops h0 h1)
 obtain⟨hl,hhl⟩:∃n,n=c.hops.length:=⟨_,rfl⟩
 rw[hv] at c2
 rw[←hhl] at c2 HCH
 obtain⟨ca,hca⟩:∃x,x=chanOf c.hops now:=⟨_,rfl⟩
 rw[←hca] at HCH HP
 clear h hro hP hP2 hm hhl hca hne
 go_enter Tryz.func32,Tryz.ntmps32
 go_wp2_with fail
 (with_reducible refine (HA.out _).mono ?_)
 rintro en w1 ⟨rfl,rfl⟩
 go_wp2_with fail
 with_reducible refine HCH.out.mono ?_
 rintro en w2 ⟨rfl,hG⟩
 obtain⟨c0,c9⟩:=HC.out _ hG
 have H2:=qQ (H.out.kept hG)
 have HC2:=qQ (λW (g:Chg (λ_=>False) w2 W)=>H2.out.kept g)
 clear hG c2 c18 HC HCH
 go_wp2_with fail
 obtain⟨I,F1,hI,hF1,hFA⟩:=clsF w2
 have k1:=qF hF1 c0
 have k2:=qF hF1 c9
 have HFF:=qQ hF1
 have HFA:=qQ (hFA _ (Chg.drew _ _))
 clear hF1 hFA c0 c9
 with_reducible refine qW F1 (by kernel_rfl) (by kernel_rfl) HFA.out ?_
 repeat ((with_reducible refine wpQuiet_step (λK hK=>?_));go_simp;(try (rw[if_neg];rotate_left;(intro h;cases h)));(with_reducible refine hK _ ?_);clear hK K)
 with_reducible refine wpQuiet_nil ?_
 intro _ hw'
 obtain⟨nq,rfl⟩:=hw'
 have H3:=qQ (HC2.out _ (HFF.out nq))
 clear k1 k2 HFF HFA hI HC2
 generalize F1 nq=w3 at *
 go_wp2_with fail
 go_ret2
 rw[HP.out]
 exact⟨_,o,r,rfl,H3.out,_,rfl,BO.nil _ _⟩
end
end Go.Proofs.YtnpihllannobgaaGreatDoor
