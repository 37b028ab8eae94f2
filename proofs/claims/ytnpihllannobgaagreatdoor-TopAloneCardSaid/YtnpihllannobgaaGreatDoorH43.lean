/- Steps of the proof, part H43. No condition. -/
import Derived.Test.YtnpihllannobgaaGreatDoorH42
import Derived.Test.YtnpihllannobgaaGreatDoorH37
import Derived.Test.YtnpihllannobgaaGreatDoorH39
import Derived.Test.YtnpihllannobgaaGreatDoorH14
import Derived.Test.YtnpihllannobgaaGreatDoorH40
import Derived.Test.YtnpihllannobgaaGreatDoorH41
import Derived.Test.YtnpihllannobgaaGreatDoorH31
import Derived.Deep.RegionHeld3
namespace Go.Proofs.YtnpihllannobgaaGreatDoor
set_option linter.unusedVariables false
set_option linter.unusedSimpArgs false
set_option maxRecDepth 100000
set_option maxHeartbeats 32000000
open Go.ChangeShapes Go.WideShapes Go.ChangeAt Go.RowKit
theorem ackV_air(c:Cfg)(d:Dr)(known:List Int)(now:Int)(x:WM):∀k,(iter (ackV c d known now) k x).air=x.air∧(iter (ackV c d known now) k x).back=x.back:=by
 intro k
 induction k with
 |zero=>exact⟨rfl,rfl⟩
 |succ k ih=>
  obtain⟨h1,h2⟩:=ih
  show (ackV c d known now k (iter (ackV c d known now) k x)).air=_∧(ackV c d known now k (iter (ackV c d known now) k x)).back=_
  unfold ackV
  split
  ·exact⟨h1,h2⟩
  ·exact⟨h1,h2⟩
structure SlotOkV(c:Cfg)(d:Dr)(ij:Inj)(now:Int)(x:WM):Prop where
 drift:∀i,i<c.nodes→DriftOk d i (x.nd i)
 bnd:BndOk x
 known:(qf d c.nodes x).bound.length=c.nodes∧∀z∈(qf d c.nodes x).bound,-1≤z∧z≤1000000000000
 plan:∀q,q<c.nodes→PlanOk q ((iter (vH c now) q (slotA d c x)).nd q)
 off:∀j,OffOk ((jN c d c.nodes now x).snd j).2.2
 hear:∀q,q<c.nodes→HearOkV c d ij (iter (qz c d (qf d c.nodes x).bound now ij) q (jM c d now x)) q
 hev:∀q,q≤c.nodes→(iter (qz c d (qf d c.nodes x).bound now ij) q (jM c d now x)).ev.length≤100000
 ack:∀q,q<c.nodes→((zN c d c.nodes now ij x).snd q).2.1.isEmpty=false→((zN c d c.nodes now ij x).snd q).2.1.length≤100000∧
  AckOkV c q ((iter (ackV c d (qf d c.nodes x).bound now) q (zN c d c.nodes now ij x)).nd q) ((jK c d (iter (ackV c d (qf d c.nodes x).bound now) q (zN c d c.nodes now ij x)) q).getD []) now
 aev:∀q,q≤c.nodes→(iter (ackV c d (qf d c.nodes x).bound now) q (zN c d c.nodes now ij x)).ev.length≤100000
 fin:∀q,q<c.nodes→EndOkV c q ((iter (endV c (qf d c.nodes x).bound now) q (slot4V c d c.nodes now ij x)).nd q) now
 eev:∀q,q≤c.nodes→(iter (endV c (qf d c.nodes x).bound now) q (slot4V c d c.nodes now ij x)).ev.length≤100000
section
variable {w0 w w':World}{o0 o o':Cls}{c:Cfg}{W:Nat}{x x':WM}{asn:Int}{r r':WR}{d:Dr}{dr lo ac er da:Value}{S:Nat→Prop}
theorem wslotV_any(hc:CfgOk c)(h:WAt w0 o0 c W x asn w o r)(ha:0≤asn∧asn<1099511627775)(k i' t:Int)(hs:So w o d dr lo ac er da)(hok:SlotOkV c d r.ij asn x):
  Calls Tryz.prog 18 #[VP W,stpV k i' t dr lo ac er da] w (PWa w0 o0 c W (slot5V c d c.nodes asn r.ij x) (asn+1) r qh (.int .i64 0)):=by
 have hn0:=hc.n0
 have hn1:=hc.n1
 have HSO:=qQ hs
 obtain⟨dA,dc,hdr,_⟩:=hs.drift
 obtain⟨lA,lc,hlo,_⟩:=hs.lost
 obtain⟨aA,acp,hac,_⟩:=hs.acks
 obtain⟨eA,ec,her,_⟩:=hs.err
 obtain⟨xA,xn,xc,hda⟩:=hs.da
 obtain⟨dn,hdn⟩:∃n,n=d.drift.length:=⟨_,rfl⟩
 obtain⟨ln,hln⟩:∃n,n=d.lost.length:=⟨_,rfl⟩
 obtain⟨an,han⟩:∃n,n=d.acks.length:=⟨_,rfl⟩
 obtain⟨en,hen⟩:∃n,n=d.err.length:=⟨_,rfl⟩
 rw[←hdn] at hdr
 rw[←hln] at hlo
 rw[←han] at hac
 rw[←hen] at her
 subst hdr hlo hac her hda
 have H:=qQ h
 have HOK:=qQ hok
 obtain⟨lg,lcap,hlv,hlc⟩:=h.rowval (by omega)
 have HLC:=qQ (And.intro hlv hlc)
 have ga:=Chg.alloc (λ_=>False) w (.cells #[.int .i64 k,.int .i64 i',.int .i64 t,.slice dA dn dc,.slice lA ln lc,.slice aA an acp,.slice eA en ec,.slice xA xn xc] 35)
 have hba:=qV w (.cells #[.int .i64 k,.int .i64 i',.int .i64 t,.slice dA dn dc,.slice lA ln lc,.slice aA an acp,.slice eA en ec,.slice xA xn xc] 35)
 have HB:=qQ (And.intro hba (h.z _ (Nat.le_refl _)))
 have HA:=qQ (And.intro (h.kept hn1 ga) ga)
 have c10:(w.alloc (.cells #[.int .i64 k,.int .i64 i',.int .i64 t,.slice dA dn dc,.slice lA ln lc,.slice aA an acp,.slice eA en ec,.slice xA xn xc] 35)).cell? ⟨W,10,none⟩=some (.int .i64 asn):=(h.kept hn1 ga).cell 10
 obtain⟨d0,d1,d2,d3,d4,d5,d6,d7⟩:=vj hba
 have hdrf:=wdrift_any hc (WAt.start (h.kept hn1 ga).wd (h.kept hn1 ga).z) ⟨ha.1,by omega⟩ k i' t (hs.step (Ext.refl _ _) ga (λ_ _ e=>e)) hok.drift hok.bnd
 have HDR:=qQ hdrf
 have t1:decide ((1099511627775:Int)≤asn)=false:=by simp;omega
 have ta:¬(1099511627775:Int)≤asn:=by omega
 have HC:=qQ hc
 clear h hs hdn hln han hen hok hlv hlc ga hba hdrf
 unfold VP stpV at *
 go_enter Tryz.func18,Tryz.ntmps18
 go_wp2_with fail
 generalize w.alloc (.cells #[.int .i64 k,.int .i64 i',.int .i64 t,.slice dA dn dc,.slice lA ln lc,.slice aA an acp,.slice eA en ec,.slice xA xn xc] 35)=w1 at *
 obtain⟨sb,hsb⟩:=qZ w.heap.size
 rw[←hsb] at HB ⊢
 clear hsb d0 d1 d2 d3 d4 d5 d6 d7 c10 t1 ta
 with_reducible refine HDR.out.mono ?_
 rintro en2 w2 ⟨kv,o2,r2,rfl,hA2,hs2,hkv⟩
 obtain⟨known,hkn⟩:∃kn,kn=(qf d c.nodes x).bound:=⟨_,rfl⟩
 rw[←hkn] at hkv
 obtain⟨kA,kc,hke,_⟩:=id hkv
 obtain⟨kl,hkl⟩:∃n,n=known.length:=⟨_,rfl⟩
 rw[←hkl] at hke
 subst hke
 have hkl2:kl=c.nodes:=by rw[hkl,hkn];exact HOK.out.known.1
 subst hkl2
 have c9:w2.cell? ⟨W,9,none⟩=some (.slice (some ⟨lg,0,none⟩) c.nodes lcap):=by rw[←HLC.out.1,←hs2.1];exact hA2.cell 9
 have c9b:=qL c9 (ob86 c.nodes)
 have hmk:=mk86 c.nodes hn1
 obtain⟨o3,hA3,hE3,hO3⟩:=hA2.mka hn1 c.nodes hn1
 have hk3:RV VI (w2.alloc (ob86 c.nodes)) o3 (.slice kA c.nodes kc) known:=hkv.step hE3 (Chg.alloc (λ_=>False) w2 _) (λ_ _ e=>e)
 have H3:=qQ (And.intro hA3 (And.intro hO3 hk3))
 have HS2:=qQ hs2
 have HKN:=qQ hkn
 have hwl:w1.heap.size≤w2.heap.size:=hA2.chg.size
 clear HDR hA2 hs2 hkv hkl hkn hA3 hE3 hO3 hk3
 go_wp2_with fail
 generalize w2.alloc (ob86 c.nodes)=w3 at *
 obtain⟨ag,hag⟩:=qZ w2.heap.size
 rw[←hag] at H3 hwl ⊢
 have HAG:=qQ hwl
 clear hag hwl c9 c9b
 go_loopw [35] (λi wr=>∃(q:Nat),q≤c.nodes∧i= .int .i64 q∧∃o',WAt w1 o c W (iter (vH c asn) q (slotA d c x)) asn wr o' r2∧Ao wr o' (.slice (some ⟨ag,0,none⟩) c.nodes c.nodes) (iter (vH c asn) q (slotA d c x)).air∧RV VI wr o' (.slice kA c.nodes kc) known) (λi _=>c.nodes-(intOf i).toNat)
 case atStart=>exact⟨0,by omega,rfl,o3,H3.out.1.cong rfl rfl rfl,H3.out.2.1,H3.out.2.2⟩
 case round=>
  obtain⟨q,hq,rfl,o4,hA,hO,hK⟩:=hrel
  obtain⟨X,hX⟩:=qZ (iter (vH c asn) q (slotA d c x))
  rw[←hX] at hA hO
  have hal:X.air.length=c.nodes:=by rw[hX,(planF_len c asn (slotA d c x) q).1];unfold slotA;simp
  by_cases hlt:q<c.nodes
  ·obtain⟨b,nr,hbs,hN⟩:=hA.get q hlt
   obtain⟨g2,cap2,hg2,hrc⟩:=hA.rowval (by omega)
   have hbc:=hrc q b hbs
   rw[HS2.out.1,HLC.out.1] at hg2
   cases hg2
   have i1:(q:Int)<(c.nodes:Int):=by omega
   have hpo:=HOK.out.plan q hlt
   rw[←hX] at hpo
   have HPL:=qQ (nplan_all hc hN asn ha.1 (by omega) hpo)
   have c10:wr.cell? ⟨W,10,none⟩=some (.int .i64 asn):=hA.cell 10
   have HNX:=qQ (show iter (vH c asn) (q+1) (slotA d c x)=vH c asn q X from by rw[hX];rfl)
   have HPO:=qQ hpo
   have HQ:=qQ (And.intro hA (And.intro hO (And.intro hK (And.intro hbs hal))))
   unfold VP at hbc
   clear hX hA hO hK hbs hN hrc hpo hal
   go_wp2_with fail
   with_reducible refine HPL.out.mono ?_
   rintro en5 w4 ⟨v4,o5,nr5,rfl,hN5,bv,rfl,hbo⟩
   obtain⟨⟨bA,bcp,hbe,_⟩,_⟩:=id hbo
   obtain⟨P,hP⟩:=qZ (zS c q (X.nd q) asn)
   have hpb:=planN_bs c q (X.nd q) asn
   rw[←hP] at hN5 hbo hbe hpb
   obtain⟨bl,hbl⟩:∃n,n=P.2.2.length:=⟨_,rfl⟩
   rw[←hbl] at hbe
   subst hbe
   have HOF:=qQ (noff_any hN5 (by rw[hpb.1];exact HPO.out.base) (by rw[hpb.2];exact HPO.out.sum))
   obtain⟨of,hof⟩:∃z,z=offN P.1:=⟨_,rfl⟩
   rw[←hof] at HOF
   obtain⟨ch,hch⟩:∃z,z=P.2.1:=⟨_,rfl⟩
   rw[←hP,←hch]
   have HP:=qQ (And.intro hP (And.intro hof hch))
   have HN5:=qQ (And.intro hN5 hbo)
   clear hP hpb hbl hof hch hN5 hbo HPL c10 HPO
   go_wp2_with fail
   with_reducible refine HOF.out.mono ?_
   rintro en6 w5 ⟨rfl,hG5⟩
   have hA5:=(HQ.out.1.node hn1 hlt HQ.out.2.2.2.1 HN5.out.1).kept hn1 hG5
   have hO5:=(HQ.out.2.1.step HN5.out.1.ext HN5.out.1.chg (off_nd q (by omega) 5 (by omega))).step (Ext.refl _ _) hG5 (λ_ _ e=>e)
   have hK5:=(HQ.out.2.2.1.step HN5.out.1.ext HN5.out.1.chg (λk hk hs=>by obtain⟨j,_,hs⟩:=hs;rw[hk] at hs;exact qP q j hs.symm)).step (Ext.refl _ _) hG5 (λ_ _ e=>e)
   have hbo5:=HN5.out.2.keep hG5 (λ_ _ e=>e)
   have hset:=hA5.seta hn1 hO5 HAG.out q (by rw[HQ.out.2.2.2.2];exact hlt) ch of P.2.2 (.slice bA bl bcp) hbo5
   obtain⟨ag2,acap2,ae2,haa⟩:=hO5.val (by rw[HQ.out.2.2.2.2];omega)
   rw[HQ.out.2.2.2.2] at ae2 haa
   cases ae2
   obtain⟨zA,zc,z0,z1,z2,_⟩:=haa q hlt
   have f0:=hO5.fr (q*3)
   have f1:=hO5.fr (q*3+1)
   have f2:=hO5.fr (q*3+2)
   obtain⟨zn,hzn⟩:∃n,n=(X.air.getD q (0,[],0)).2.1.length:=⟨_,rfl⟩
   rw[←hzn] at z1
   have HSET:=qQ (And.intro hset hK5)
   clear hA5 hO5 hK5 hbo5 hset haa hzn hG5 HOF HN5
   go_wp2_with fail
   go_roundw
   case measure=>simp[intOf];omega
   case rel=>
    obtain⟨⟨s1,s2,s3,s4⟩,s5⟩:=HSET.out
    obtain⟨p1,p2,p3⟩:=HP.out
    refine⟨q+1,by omega,by go_num,o5,?_,?_,s5.step (Ext.refl _ _) s3 (λk hk e=>by subst e;rw[s4] at hk;exact qP 16 5 hk)⟩
    ·rw[HNX.out]
     exact s1.cong (by unfold vH WM.put;rw[←p1]) rfl rfl
    ·rw[HNX.out]
     have e:(vH c asn q X).air=X.air.set q (ch,P.2.2,of):=by unfold vH;rw[←p1,p2,p3]
     rw[e]
     exact s2
  ·obtain rfl:q=c.nodes:=by omega
   have hX2:X=jN c d c.nodes asn x:=hX
   have hS1:So w1 o d (.slice dA dn dc) (.slice lA ln lc) (.slice aA an acp) (.slice eA en ec) (.slice xA xn xc):=HSO.out.step (Ext.refl _ _) HA.out.2 (λ_ _ e=>e)
   have hhr:=whearV_any (d:=d) hc (WAt.start hA.wd hA.z) ⟨ha.1,by omega⟩ k i' t (hA.so hS1) (.slice (some ⟨ag,0,none⟩) c.nodes c.nodes) (.slice kA c.nodes kc) known hO hal ⟨hK,by rw[HKN.out];exact HOK.out.known⟩ (by rw[hX2];exact HOK.out.off)
    (by rw[hX2,HKN.out,HS2.out.2.2.2.2.2];exact HOK.out.hear) (by rw[hX2,HKN.out,HS2.out.2.2.2.2.2];exact HOK.out.hev)
   rw[HS2.out.2.2.2.2.2] at hhr
   unfold VP stpV at hhr
   have HHR:=qQ hhr
   obtain⟨Y,hY⟩:=qZ (iter (qz c d known asn r.ij) c.nodes {X with back:=List.replicate c.nodes none})
   rw[←hY] at HHR
   have HY3:=qQ (show Y=zN c d c.nodes asn r.ij x from by rw[hY,HKN.out,hX2];rfl)
   have hYa:Y.air=X.air∧Y.back.length=c.nodes:=by
    obtain⟨h1,h2⟩:=iterV_air c d known asn r.ij {X with back:=List.replicate c.nodes none} c.nodes
    rw[hY,h1,h2];exact⟨rfl,by simp⟩
   have HYA:=qQ (And.intro hYa.1 (And.intro hYa.2 hal))
   have hbx:=Chg.keep hA.chg HB.out.1 (λe=>e.1 HB.out.2)
   obtain⟨d0,d1,d2,d3,d4,d5,d6,d7⟩:=vj hbx
   have HQ:=qQ (And.intro hA (And.intro hO hK))
   have HS1:=qQ hS1
   clear hX hX2 hY hYa hA hO hK hal hhr hbx H3 hq hlt hS1
   go_wp2_with fail
   with_reducible refine HHR.out.mono ?_
   rintro en5 w5 ⟨bkv,o5,r5,rfl,hA5,hs5,hbk5⟩
   have hA15:=HQ.out.1.trans hA5
   have hO5:=hA5.air HQ.out.2.1
   have hK5:=HQ.out.2.2.step hA5.ext hA5.chg (λk hk hs=>hs.1 hk)
   have hs25:=HS2.out.trans hs5
   obtain⟨bg,bcap,hbe,hbat⟩:=hbk5.val (by rw[HYA.out.2.1];omega)
   rw[HYA.out.2.1] at hbe
   subst hbe
   have hb5:=Chg.keep hA15.chg HB.out.1 (λe=>e.1 HB.out.2)
   have hz5:o5 sb=0:=by rw[hA15.ext sb (qX HB.out.1)];exact HB.out.2
   have c9:w5.cell? ⟨W,9,none⟩=some (.slice (some ⟨lg,0,none⟩) c.nodes lcap):=by rw[←HLC.out.1,←hs25.1];exact hA5.cell 9
   have H5:=qQ (And.intro hA15 (And.intro (HYA.out.1▸hO5) (And.intro hK5 (And.intro hbk5 (And.intro hb5 hz5)))))
   have HS5:=qQ hs25
   have HSO5:=qQ (hA15.so HS1.out)
   clear hA5 hs5 hbk5 hA15 hO5 hK5 hs25 hbat hb5 hz5 d0 d1 d2 d3 d4 d5 d6 d7 HHR HQ
   go_wp2_with fail
   clear c9
   go_loopw [68] (λi wr=>∃(q:Nat),q≤c.nodes∧i= .int .i64 q∧∃o' r',WAt w5 o5 c W (iter (ackV c d known asn) q Y) asn wr o' r'∧r.same r') (λi _=>c.nodes-(intOf i).toNat)
   case atStart=>exact⟨0,by omega,rfl,o5,r5,WAt.start H5.out.1.wd H5.out.1.z,HS5.out⟩
   case round=>
    obtain⟨q,hq,rfl,o6,r6,hA,hs6⟩:=hrel
    obtain⟨Q,hQ⟩:=qZ (iter (ackV c d known asn) q Y)
    rw[←hQ] at hA
    by_cases hlt:q<c.nodes
    ·obtain⟨b,nr,hbs,hN⟩:=hA.get q hlt
     obtain⟨g2,cap2,hg2,hrc⟩:=hA.rowval (by omega)
     have hbc:=hrc q b hbs
     rw[hs6.1,HLC.out.1] at hg2
     cases hg2
     have i1:(q:Int)<(c.nodes:Int):=by omega
     have hQa:Q.air=Y.air∧Q.back=Y.back:=by rw[hQ];exact ackV_air c d known asn Y q
     have hYl:Y.air.length=c.nodes:=by rw[HYA.out.1];exact HYA.out.2.2
     have hO6:=hA.air H5.out.2.1
     obtain⟨ag2,acap2,ae2,haa⟩:=hO6.val (by rw[hYl];omega)
     rw[hYl] at ae2 haa
     cases ae2
     obtain⟨jA,jc,z0,z1,z2,hjb⟩:=haa q hlt
     obtain⟨L,hL⟩:=qZ ((Y.air.getD q (0,[],0)).2.1)
     rw[←hL] at z1 hjb
     obtain⟨jn,hjn⟩:∃n,n=L.length:=⟨_,rfl⟩
     rw[←hjn] at z1 hjb
     have hYs:∀j,Y.snd j=Q.snd j:=λj=>by unfold WM.snd;rw[hQa.1]
     have hLY:L=(Y.snd q).2.1:=hL
     have hemp:(Y.snd q).2.1.isEmpty=decide (jn=0):=by
      rw[←hLY,hjn]
      cases L <;> simp
     have HNX:=qQ (show iter (ackV c d known asn) (q+1) Y=ackV c d known asn q Q from by rw[hQ];rfl)
     have HEQ:=qQ (show Q.ev.length≤100000 from by rw[hQ,HKN.out,HY3.out];exact HOK.out.aev q (by omega))
     by_cases h0:jn=0
     ·have t0:decide (0<(jn:Int))=false:=by simp;omega
      have t00:¬0<jn:=by omega
      have HSK:=qQ (show ackV c d known asn q Q=Q from by
       unfold ackV;rw[←hYs,hemp,if_pos (by simp[h0])])
      have HQ:=qQ (And.intro hA hs6)
      unfold VP at hbc
      clear hQ hA hs6 hN hrc hO6 haa hjb hL hjn hYs hLY hemp h0 hQa hYl z0 z2
      go_wp2_with fail
      go_roundw
      case measure=>simp[intOf];omega
      case rel=>
       refine⟨q+1,by omega,by go_num,o6,r6,?_,HQ.out.2⟩
       rw[HNX.out,HSK.out];exact HQ.out.1
     ·have t0:decide (0<(jn:Int))=true:=by simp;omega
      have t00:0<jn:=by omega
      have hne:(Y.snd q).2.1.isEmpty=false:=by rw[hemp];simp[h0]
      obtain⟨hll,hko⟩:=HOK.out.ack q hlt (by rw[←HY3.out];exact hne)
      rw[←HKN.out,←HY3.out,←hQ] at hko
      rw[←HY3.out,←hLY] at hll
      obtain⟨a,haw⟩:=qZ (jK c d Q q)
      rw[←haw] at hko
      have HSK:=qQ (show ackV c d known asn q Q=WM.tells c known (Q.put q (noEv (z8 q (Q.nd q) (a.getD []) asn))) (z8 q (Q.nd q) (a.getD []) asn).ev from by
       unfold ackV;rw[←hYs,hne,if_neg (by simp),haw])
      have hbk6:=hA.bck H5.out.2.2.2.1
      have hans:=wanswer_any (d:=d) hc (hA.kept hn1 (Chg.drew _ wr)) k i' t ((hA.so HSO5.out).step (Ext.refl _ _) (Chg.drew (λ_=>False) wr) (λ_ _ e=>e)) (.slice jA jn jc) (.slice (some ⟨bg,0,none⟩) c.nodes bcap) L (hjb.keep (Chg.drew (λ_=>False) wr) (λ_ _ e=>e)) hll q hlt (by rw[←hYs,hLY])
       (by rw[hQa.2];exact hbk6.step (Ext.refl _ _) (Chg.drew (λ_=>False) wr) (λ_ _ e=>e)) (by rw[hQa.2];exact HYA.out.2.1)
      rw[←haw] at hans
      unfold VP stpV at hans
      have HAN:=qQ hans
      have HAK:=qQ (show∀wy yv,AV a yv wy o6→Chg (λ_=>False) wr.drew wy→Calls Tryz.prog 36 #[.pointer (some ⟨b,0,none⟩),.int .i64 asn,yv,.int .i64 0] wy (PN wy o6 c q b (noEv (z8 q (Q.nd q) (a.getD []) asn)) (λv w' o'=>Eo w' o' (cl q 9) v (z8 q (Q.nd q) (a.getD []) asn).ev)) from λwy yv hy g=>by
       have hNy:=hN.kept ((Chg.drew (λ_=>False) wr).trans g)
       refine nackV_all hc (NAt.start hNy.nd hNy.z) hlt asn 0 yv (a.getD []) ?_ hko ha.1
       cases a with
       |none=>have hy:yv= .slice none 0 0:=hy;rw[hy];exact BO.nil _ _
       |some l=>exact hy)
      have HEVP:=qQ (ackV_evp hko)
      obtain⟨A,hA'⟩:∃A,A=z8 q (Q.nd q) (a.getD []) asn:=⟨_,rfl⟩
      rw[←hA'] at HSK HAK HEVP
      have HTT:=qQ (show∀wz oz ev,WAt w5 o5 c W (Q.put q (noEv A)) asn wz oz r6→Eo wz oz (cl q 9) ev A.ev→Calls Tryz.prog 35 #[.pointer (some ⟨W,0,none⟩),ev,.slice kA c.nodes kc] wz (PW wz oz c W (WM.tells c known (Q.put q (noEv A)) A.ev) asn r6 (λv _ _=>v= .tuple #[])) from λwz oz ev hz hE=>
       j8 hc (WAt.start hz.wd hz.z) ev A.ev (cl q 9) hE ⟨by unfold cl;omega,by unfold cl;omega,by unfold cl;omega⟩ (.slice kA c.nodes kc) known
        (.inl ⟨H5.out.2.2.1.step hz.ext hz.chg (λk hk hs=>hs.1 hk),by rw[HKN.out];exact HOK.out.known⟩) (λe he=>by
         obtain⟨p1,p2⟩:=HEVP.out.1 e he
         exact⟨λh=>by have:=p1 h;omega,λh=>p2 h⟩) (by have:=HEVP.out.2;omega) HEQ.out)
      have hcag:w5.cell? ⟨ag,q*3+1,none⟩=some (.slice jA jn jc):=by
       have hlt5:ag<w5.heap.size:=by
        obtain⟨g5,c5,e5,h5⟩:=H5.out.2.1.val (by rw[hYl];omega)
        rw[hYl] at e5 h5
        cases e5
        obtain⟨_,_,q0,_⟩:=h5 q hlt
        exact qG q0
       have hb:=hA.chg.block ag hlt5 (λe=>WdS.off 5 (by omega) ag (.inr (by obtain⟨_,_,h2,_⟩:=H5.out.2.1;exact h2 ag rfl)) e)
       unfold World.cell? at z1 ⊢
       rw[←hb];exact z1
      have HSW:=qQ (show∀W5 o' r' X5,WAt w5 o5 c W X5 asn W5 o' r'→((λW'=>W'.cell? ⟨W,10,none⟩=some (.int .i64 asn)∧W'.cell? ⟨ag,q*3+1,none⟩=some (.slice jA jn jc)∧W'.cell? ⟨sb,0,none⟩=some (.int .i64 k)∧W'.cell? ⟨sb,1,none⟩=some (.int .i64 i')∧W'.cell? ⟨sb,2,none⟩=some (.int .i64 t)∧W'.cell? ⟨sb,3,none⟩=some (.slice dA dn dc)∧W'.cell? ⟨sb,4,none⟩=some (.slice lA ln lc)∧W'.cell? ⟨sb,5,none⟩=some (.slice aA an acp)∧W'.cell? ⟨sb,6,none⟩=some (.slice eA en ec)∧W'.cell? ⟨sb,7,none⟩=some (.slice xA xn xc)):World→Prop) W5 from λW5 o' r' X5 h5=>by
       obtain⟨y0,y1,y2,y3,y4,y5,y6,y7⟩:=vj (Chg.keep h5.chg H5.out.2.2.2.2.1 (λe=>e.1 H5.out.2.2.2.2.2))
       refine⟨h5.cell 10,?_,y0,y1,y2,y3,y4,y5,y6,y7⟩
       rw[h5.chg.cell (qG hcag) (λe=>WdS.off 5 (by omega) ag (.inr (by obtain⟨_,_,h2,_⟩:=H5.out.2.1;exact h2 ag rfl)) e),hcag])
      have HQ:=qQ (And.intro (hA.kept hn1 (Chg.drew _ wr)) (And.intro hs6 hbs))
      have HQ0:=qQ hA
      unfold VP at hbc
      clear hQ hs6 hN hrc hO6 haa hjb hL hjn hYs hLY hemp h0 hQa hYl z0 z2 hne hll hko haw hbk6 hans hA' hcag
      clear hA
      go_wp2_with fail
      have s0:=HSW.out _ _ _ _ HQ.out.1
      go_region_held3 (λW'=>W'.cell? ⟨W,10,none⟩=some (.int .i64 asn)∧W'.cell? ⟨ag,q*3+1,none⟩=some (.slice jA jn jc)∧W'.cell? ⟨sb,0,none⟩=some (.int .i64 k)∧W'.cell? ⟨sb,1,none⟩=some (.int .i64 i')∧W'.cell? ⟨sb,2,none⟩=some (.int .i64 t)∧W'.cell? ⟨sb,3,none⟩=some (.slice dA dn dc)∧W'.cell? ⟨sb,4,none⟩=some (.slice lA ln lc)∧W'.cell? ⟨sb,5,none⟩=some (.slice aA an acp)∧W'.cell? ⟨sb,6,none⟩=some (.slice eA en ec)∧W'.cell? ⟨sb,7,none⟩=some (.slice xA xn xc))
       (first|exact HSW.out _ _ _ _ HQ.out.1|exact HS7.out|exact HS8.out|exact HS9.out)
       (first
       |(go_at_call 37;refine HAN.out.mono ?_;rintro en1 wy ⟨yv,rfl,hay,gy⟩
         obtain⟨yA,yn,yc,rfl⟩:=hay.shape
         have HY7:=qQ (And.intro hay gy)
         have HS7:=qQ (HSW.out _ _ _ _ (HQ.out.1.kept hn1 gy))
         clear hay gy)
       |(go_at_call 36;refine (HAK.out _ _ HY7.out.1 HY7.out.2).mono ?_;rintro en1 wz ⟨ev,oz,nrz,rfl,hNz,hEz⟩
         have hAz:=(HQ.out.1.kept hn1 HY7.out.2).node hn1 hlt HQ.out.2.2 hNz
         have HZ7:=qQ (And.intro hAz hEz)
         have HS8:=qQ (HSW.out _ _ _ _ hAz)
         clear hAz hEz hNz)
       |(go_at_call 35;refine (HTT.out _ _ _ HZ7.out.1 HZ7.out.2).mono ?_;rintro en1 wt ⟨v6,o7,r7,rfl,hA7,hs7,rfl⟩
         have HT7:=qQ (And.intro (HZ7.out.1.trans hA7) hs7)
         have HS9:=qQ (HSW.out _ _ _ _ HT7.out.1)
         clear hA7 hs7))
      all_goals
       go_wp2_with fail
       go_roundw
       case measure=>simp[intOf];omega
       case rel=>
        refine⟨q+1,by omega,by go_num,o7,r7,?_,HQ.out.2.1.trans HT7.out.2⟩
        rw[HNX.out,HSK.out];exact HT7.out.1
    ·obtain rfl:q=c.nodes:=by omega
     have hQ4:Q=slot4V c d c.nodes asn r.ij x:=by rw[hQ,HKN.out,HY3.out];rfl
     have HQ4:=qQ hQ4
     have c9:wr.cell? ⟨W,9,none⟩=some (.slice (some ⟨lg,0,none⟩) c.nodes lcap):=by rw[←HLC.out.1,←hs6.1];exact hA.cell 9
     have HQ:=qQ (And.intro hA hs6)
     clear hQ hQ4 hA hs6 hq hlt
     go_wp2_with fail
     clear c9
     go_loopw [105] (λi wr=>∃(q:Nat),q≤c.nodes∧i= .int .i64 q∧∃o' r',WAt w5 o5 c W (iter (endV c known asn) q Q) asn wr o' r'∧r.same r') (λi _=>c.nodes-(intOf i).toNat)
     case atStart=>exact⟨0,by omega,rfl,o6,r6,HQ.out.1,HQ.out.2⟩
     case round=>
      obtain⟨q,hq,rfl,o7,r7,hA,hs7⟩:=hrel
      obtain⟨E,hE⟩:=qZ (iter (endV c known asn) q Q)
      rw[←hE] at hA
      by_cases hlt:q<c.nodes
      ·obtain⟨b,nr,hbs,hN⟩:=hA.get q hlt
       obtain⟨g2,cap2,hg2,hrc⟩:=hA.rowval (by omega)
       have hbc:=hrc q b hbs
       rw[hs7.1,HLC.out.1] at hg2
       cases hg2
       have i1:(q:Int)<(c.nodes:Int):=by omega
       have hko:=HOK.out.fin q hlt
       rw[←HKN.out,←HQ4.out,←hE] at hko
       have HNX:=qQ (show iter (endV c known asn) (q+1) Q=WM.tells c known (E.put q (noEv (j6 c q (E.nd q) asn))) (j6 c q (E.nd q) asn).ev from by rw[hE];rfl)
       have HEQ:=qQ (show E.ev.length≤100000 from by rw[hE,HKN.out,HQ4.out];exact HOK.out.eev q (by omega))
       have HEN:=qQ (nendV_all hc hN hlt asn ha.1 (by omega) hko)
       have HEVP:=qQ (endV_evp (c:=c) hko)
       obtain⟨A,hA'⟩:∃A,A=j6 c q (E.nd q) asn:=⟨_,rfl⟩
       rw[←hA'] at HNX HEN HEVP
       have HTT:=qQ (show∀wz oz ev,WAt w5 o5 c W (E.put q (noEv A)) asn wz oz r7→Eo wz oz (cl q 9) ev A.ev→Calls Tryz.prog 35 #[.pointer (some ⟨W,0,none⟩),ev,.slice kA c.nodes kc] wz (PW wz oz c W (WM.tells c known (E.put q (noEv A)) A.ev) asn r7 (λv _ _=>v= .tuple #[])) from λwz oz ev hz hE=>
        j8 hc (WAt.start hz.wd hz.z) ev A.ev (cl q 9) hE ⟨by unfold cl;omega,by unfold cl;omega,by unfold cl;omega⟩ (.slice kA c.nodes kc) known
         (.inl ⟨H5.out.2.2.1.step hz.ext hz.chg (λk hk hs=>hs.1 hk),by rw[HKN.out];exact HOK.out.known⟩) (λe he=>by
          obtain⟨p1,p2⟩:=HEVP.out.1 e he
          exact⟨λh=>by have:=p1 h;omega,λh=>p2 h⟩) (by have:=HEVP.out.2;omega) HEQ.out)
       have c10:wr.cell? ⟨W,10,none⟩=some (.int .i64 asn):=hA.cell 10
       have HR:=qQ (And.intro hA (And.intro hs7 hbs))
       unfold VP at hbc
       clear hE hA hs7 hbs hN hrc hko hA'
       go_wp2_with fail
       with_reducible refine HEN.out.mono ?_
       rintro en8 w8 ⟨ev,o8,nr8,rfl,hN8,hE8⟩
       have hA8:=HR.out.1.node hn1 hlt HR.out.2.2 hN8
       have HT8:=qQ (HTT.out _ _ _ hA8 hE8)
       have HA8:=qQ hA8
       clear hA8 hE8 hN8 HEN HTT c10
       go_wp2_with fail
       with_reducible refine HT8.out.mono ?_
       rintro en9 w9 ⟨v9,o9,r9,rfl,hA9,hs9,rfl⟩
       have HA9:=qQ (And.intro (HA8.out.trans hA9) hs9)
       clear hA9 hs9 HT8
       go_wp2_with fail
       go_roundw
       case measure=>simp[intOf];omega
       case rel=>
        refine⟨q+1,by omega,by go_num,o9,r9,?_,HR.out.2.1.trans HA9.out.2⟩
        rw[HNX.out];exact HA9.out.1
      ·obtain rfl:q=c.nodes:=by omega
       have hE5:E=slot5V c d c.nodes asn r.ij x:=by rw[hE,HKN.out,HQ4.out];rfl
       have hAT:=HA.out.1.trans (H5.out.1.trans hA)
       rw[hE5] at hAT
       have c10:wr.cell? ⟨W,10,none⟩=some (.int .i64 asn):=hAT.cell 10
       have f10:=hAT.f 10
       have e1:IntKind.i64.wrap (asn+1)=asn+1:=IntWalk.i64_in _ (by omega)
       have hAa:=hAT.aset hn1 (asn+1)
       have c12:wr.cell? ⟨W,12,none⟩=some (.map (some r7.inj)):=hAT.cell 12
       have f12:=hAT.f 12
       obtain⟨o9,hI⟩:=hAa.iset hn1
       have HI:=qQ (And.intro hI hs7)
       have hmm:=@run_makeMap Tryz.prog
       have hszs:(wr.setCell ⟨W,10,none⟩ (.int .i64 (asn+1))).heap.size=wr.heap.size:=by simp[World.setCell]
       have hWl:W<wr.heap.size:=qG c10
       have hWn:¬W=wr.heap.size:=by omega
       have hWn2:¬wr.heap.size=W:=by omega
       clear hE hE5 hA hAT hAa hI hs7 hq hlt
       go_wp2_with fail
       go_ret
       have hI:=HI.out.1
       rw[hszs,World.setCell_alloc_past (w:=wr.setCell ⟨W,10,none⟩ (.int .i64 (asn+1))) (.map #[] 0) W 12 (.map (some wr.heap.size)) (by rw[hszs];exact hWl)] at hI
       exact⟨o9,_,rfl,hI,HI.out.2.1,HI.out.2.2.1,rfl⟩
end
structure SendOk(c:Cfg)(s:NSt):Prop where
 last: -1≤s.last∧s.last≤140737488355328
 paths:∀n L,s.paths n=some L→2≤L.length∧L.length≤100000
 q:s.q.length≤900
def sendW(c:Cfg)(i:Nat)(now tw:Int)(T:List Int)(x:WM):WM:=x.put i (postN c i (x.nd i) now tw T).1
def sendE(c:Cfg)(i:Nat)(now tw:Int)(T:List Int)(x:WM):Int:=(postN c i (x.nd i) now tw T).2.2
section
variable {w0 w w':World}{o0 o o':Cls}{c:Cfg}{W:Nat}{x x':WM}{asn:Int}{r r':WR}{d:Dr}{dr lo ac er da:Value}
theorem wsend_any(hc:CfgOk c)(h:WAt w0 o0 c W x asn w o r)(ha:0≤asn∧asn<1099511627775)(i:Nat)(hi:i<c.nodes)(tw:Int)(T:List Int)(hs:So w o d dr lo ac er da)(hda:BO w o da T)(hok:SendOk c (x.nd i)):
  Calls Tryz.prog 19 #[VP W,stpV 2 i tw dr lo ac er da] w (PWa w0 o0 c W (sendW c i asn tw T x) asn r r.ij (.int .i64 (sendE c i asn tw T x))):=by
 have hn1:=hc.n1
 have hn0:=hc.n0
 obtain⟨dA,dc,hdr,_⟩:=hs.drift
 obtain⟨lA,lc,hlo,_⟩:=hs.lost
 obtain⟨aA,acp,hac,_⟩:=hs.acks
 obtain⟨eA,ec,her,_⟩:=hs.err
 obtain⟨xA,xc,hxa,_⟩:=hda.1
 obtain⟨dn,hdn⟩:∃n,n=d.drift.length:=⟨_,rfl⟩
 obtain⟨ln,hln⟩:∃n,n=d.lost.length:=⟨_,rfl⟩
 obtain⟨an,han⟩:∃n,n=d.acks.length:=⟨_,rfl⟩
 obtain⟨en,hen⟩:∃n,n=d.err.length:=⟨_,rfl⟩
 obtain⟨xn,hxn⟩:∃n,n=T.length:=⟨_,rfl⟩
 rw[←hdn] at hdr
 rw[←hln] at hlo
 rw[←han] at hac
 rw[←hen] at her
 rw[←hxn] at hxa
 subst hdr hlo hac her hxa
 have ga:=Chg.alloc (λ_=>False) w (.cells #[.int .i64 2,.int .i64 i,.int .i64 tw,.slice dA dn dc,.slice lA ln lc,.slice aA an acp,.slice eA en ec,.slice xA xn xc] 35)
 have hba:=qV w (.cells #[.int .i64 2,.int .i64 i,.int .i64 tw,.slice dA dn dc,.slice lA ln lc,.slice aA an acp,.slice eA en ec,.slice xA xn xc] 35)
 obtain⟨d0,d1,d2,d3,d4,d5,d6,d7⟩:=vj hba
 have h1:=h.kept hn1 ga
 have hda1:=hda.keep ga (λ_ _ e=>e)
 obtain⟨w1,hw1⟩:=qZ (w.alloc (.cells #[.int .i64 2,.int .i64 i,.int .i64 tw,.slice dA dn dc,.slice lA ln lc,.slice aA an acp,.slice eA en ec,.slice xA xn xc] 35))
 obtain⟨sb,hsb⟩:=qZ w.heap.size
 rw[←hw1] at h1 hda1 d0 d1 d2 d3 d4 d5 d6 d7
 rw[←hsb] at d0 d1 d2 d3 d4 d5 d6 d7
 have HW1:=qQ hw1
 have HSB:=qQ hsb
 have HH:=qQ (jj h1 (by omega) i)
 rw[zT (by omega) (by omega)] at HH
 obtain⟨b,q,hbs,hN⟩:=h1.get i hi
 obtain⟨lg,lcap,hlv,hrc⟩:=h1.rowval (by omega)
 have hbc:=hrc i b hbs
 have c9:w1.cell? ⟨W,9,none⟩=some r.lv:=h1.cell 9
 rw[hlv] at c9
 have c10:w1.cell? ⟨W,10,none⟩=some (.int .i64 asn):=h1.cell 10
 have i1:(i:Int)<(c.nodes:Int):=by omega
 have i0:(0:Int)≤(i:Int):=by omega
 have i2:((i:Int)).toNat=i:=by omega
 have i3:i<c.nodes:=hi
 have HP:=qQ (show∀W1,Chg (λ_=>False) w1 W1→Calls Tryz.prog 39 #[.pointer (some ⟨b,0,none⟩),.int .i64 asn,.int .i64 tw,.slice xA xn xc] W1 (PN w1 o c i b (postN c i (x.nd i) asn tw T).1 (PPost (postN c i (x.nd i) asn tw T))) from λW1 g=>
  npost_any hc (hN.kept g) hi asn tw _ T (by rw[hxn];exact (hxn▸hda1).keep g (λ_ _ e=>e)) ha.1 (by omega) hok.last hok.paths hok.q)
 have H:=qQ (And.intro h1 (And.intro hbs hi))
 have HFIN:=qQ (And.intro (show sendW c i asn tw T x=x.put i (postN c i (x.nd i) asn tw T).1 from rfl) (show sendE c i asn tw T x=(postN c i (x.nd i) asn tw T).2.2 from rfl))
 obtain⟨X,hX⟩:=qZ (postN c i (x.nd i) asn tw T)
 rw[←hX] at HP HFIN
 obtain⟨FW,hFW⟩:=qZ (sendW c i asn tw T x)
 obtain⟨FE,hFE⟩:=qZ (sendE c i asn tw T x)
 rw[←hFW,←hFE] at HFIN ⊢
 have hosb:o sb=0:=by rw[hsb];exact h.z _ (Nat.le_refl _)
 have hbb1:w1.heap[sb]? =some (.cells #[.int .i64 2,.int .i64 i,.int .i64 tw,.slice dA dn dc,.slice lA ln lc,.slice aA an acp,.slice eA en ec,.slice xA xn xc] 35 (0,0)):=by rw[hw1,hsb];exact hba
 have HSW:=qQ (show∀W5,Chg (λ_=>False) w1 W5→((λW'=>W'.cell? ⟨W,9,none⟩=some (.slice (some ⟨lg,0,none⟩) c.nodes lcap)∧W'.cell? ⟨W,10,none⟩=some (.int .i64 asn)∧W'.cell? ⟨lg,i,none⟩=some (.pointer (some ⟨b,0,none⟩))∧W'.cell? ⟨sb,1,none⟩=some (.int .i64 i)∧W'.cell? ⟨sb,2,none⟩=some (.int .i64 tw)∧W'.cell? ⟨sb,7,none⟩=some (.slice xA xn xc)):World→Prop) W5 from λW5 g=>by
  have hb5:=Chg.keep g hbb1 (λe=>e)
  exact⟨by rw[g.cell (qG c9) (λe=>e)];exact c9,by rw[g.cell (qG c10) (λe=>e)];exact c10,by rw[g.cell (qG hbc) (λe=>e)];exact hbc,qJ hb5 1,qJ hb5 2,qJ hb5 7⟩)
 have HSN:=qQ (show∀(sN:NSt) W5 o5 q5,NAt w1 o c i b sN W5 o5 q5→((λW'=>W'.cell? ⟨W,9,none⟩=some (.slice (some ⟨lg,0,none⟩) c.nodes lcap)∧W'.cell? ⟨W,10,none⟩=some (.int .i64 asn)∧W'.cell? ⟨lg,i,none⟩=some (.pointer (some ⟨b,0,none⟩))∧W'.cell? ⟨sb,1,none⟩=some (.int .i64 i)∧W'.cell? ⟨sb,2,none⟩=some (.int .i64 tw)∧W'.cell? ⟨sb,7,none⟩=some (.slice xA xn xc)):World→Prop) W5 from λsN W5 o5 q5 k=>by
  have hA:=h1.node hn1 hi hbs k
  have hb5:=Chg.keep k.chg hbb1 (λe=>by obtain⟨j,_,e⟩:=e;rw[hosb] at e;exact qP i j e.symm)
  obtain⟨g2,cap2,hg2,hrc2⟩:=hA.rowval (by omega)
  rw[hlv] at hg2
  cases hg2
  exact⟨by rw[←hlv];exact hA.cell 9,hA.cell 10,hrc2 i b hbs,qJ hb5 1,qJ hb5 2,qJ hb5 7⟩)
 clear h hs hda hok ga hba hbb1 hosb hdn hln han hen hxn hc h1 hda1 hw1 hsb hbs hN hlv hrc hX hFW hFE
 unfold VP stpV at *
 go_enter Tryz.func19,Tryz.ntmps19
 go_upto_region 1 with fail
 rw[←HW1.out,←HSB.out]
 clear HW1
 go_wp2_with fail
 with_reducible refine HH.out.mono ?_
 rintro en w2 ⟨rfl,hw2⟩
 subst hw2
 go_wp2_with fail
 have s0:=HSW.out w2 (Chg.refl _ _)
 go_region_held3 (λW'=>W'.cell? ⟨W,9,none⟩=some (.slice (some ⟨lg,0,none⟩) c.nodes lcap)∧W'.cell? ⟨W,10,none⟩=some (.int .i64 asn)∧W'.cell? ⟨lg,i,none⟩=some (.pointer (some ⟨b,0,none⟩))∧W'.cell? ⟨sb,1,none⟩=some (.int .i64 i)∧W'.cell? ⟨sb,2,none⟩=some (.int .i64 tw)∧W'.cell? ⟨sb,7,none⟩=some (.slice xA xn xc))
  (first|(with_reducible exact HSW.out _ (Chg.refl _ _))|(with_reducible exact HSW.out _ (Chg.drew _ _))|(with_reducible exact HS3.out))
  (first
  |(go_at_call 39;refine (HP.out _ (by first|exact Chg.drew _ _|exact Chg.refl _ _)).mono ?_;rintro en w3 ⟨v3,o3,q3,rfl,hN3,rfl⟩
    have hA3:=H.out.1.node hn1 H.out.2.2 H.out.2.1 hN3
    have H3:=qQ hA3
    have HS3:=qQ (HSN.out _ _ _ _ hN3)
    clear hN3 hA3))
 all_goals
  go_wp2_with fail
  go_ret
  rw[HFIN.out.1,HFIN.out.2]
  exact⟨o3,r,rfl,H3.out,rfl,rfl,rfl⟩
theorem wdo_slotV(hc:CfgOk c)(h:WAt w0 o0 c W x asn w o r)(ha:0≤asn∧asn<1099511627775)(i' t:Int)(hs:So w o d dr lo ac er da)(hok:SlotOkV c d r.ij asn x):
  Calls Tryz.prog 7 #[VP W,stpV 1 i' t dr lo ac er da] w (PDo w0 o0 c W (slot5V c d c.nodes asn r.ij x) (asn+1) r qh):=by
 have hn1:=hc.n1
 obtain⟨dA,dc,hdr,_⟩:=hs.drift
 obtain⟨lA,lc,hlo,_⟩:=hs.lost
 obtain⟨aA,acp,hac,_⟩:=hs.acks
 obtain⟨eA,ec,her,_⟩:=hs.err
 obtain⟨xA,xn,xc,hda⟩:=hs.da
 obtain⟨dn,hdn⟩:∃n,n=d.drift.length:=⟨_,rfl⟩
 obtain⟨ln,hln⟩:∃n,n=d.lost.length:=⟨_,rfl⟩
 obtain⟨an,han⟩:∃n,n=d.acks.length:=⟨_,rfl⟩
 obtain⟨en,hen⟩:∃n,n=d.err.length:=⟨_,rfl⟩
 rw[←hdn] at hdr
 rw[←hln] at hlo
 rw[←han] at hac
 rw[←hen] at her
 subst hdr hlo hac her hda
 have ga:=Chg.alloc (λ_=>False) w (.cells #[.int .i64 1,.int .i64 i',.int .i64 t,.slice dA dn dc,.slice lA ln lc,.slice aA an acp,.slice eA en ec,.slice xA xn xc] 35)
 have hba:=qV w (.cells #[.int .i64 1,.int .i64 i',.int .i64 t,.slice dA dn dc,.slice lA ln lc,.slice aA an acp,.slice eA en ec,.slice xA xn xc] 35)
 obtain⟨d0,d1,d2,d3,d4,d5,d6,d7⟩:=vj hba
 have HS:=qQ (wslotV_any hc (h.kept hn1 ga) ha 1 i' t (hs.step (Ext.refl _ _) ga (λ_ _ e=>e)) hok)
 clear h hs hok ga hba hdn hln han hen hc
 unfold VP stpV at *
 go_enter Tryz.func7,Tryz.ntmps7
 go_wp2_with fail
 with_reducible refine HS.out.mono ?_
 rintro en w1 ⟨o1,r1,rfl,hA,hl,hb⟩
 clear d0 d1 d2 d3 d4 d5 d6 d7
 have c13:w1.cell? ⟨W,13,none⟩=some r1.ev:=hA.cell 13
 have f13:=hA.f 13
 obtain⟨vA,vn,vc,hv⟩:=hA.evrow
 have HE:=qQ (And.intro (hA.evset hn1) (And.intro hl (And.intro hb hv)))
 rw[hv] at c13
 clear hA hl hb hv
 go_wp2_with fail
 go_ret2
 obtain⟨⟨k1,k2⟩,k3,k4,k5⟩:=HE.out
 exact⟨_,o1,_,rfl,k1,k5▸k2,k3,k4⟩
end
theorem mem_insP{x:Pa}{S:List Pa}{p:Pa}(h:p∈insP x S):p=x∨p∈S:=by
 unfold insP midP at h
 rw[List.mem_append,List.mem_cons] at h
 rcases h with h|h|h
 ·exact .inr (List.mem_of_mem_take h)
 ·exact .inl h
 ·exact .inr (List.mem_of_mem_drop h)
theorem mem_hearL{R:Int}{L:List Pa}{node rank now:Int}{p:Pa}(h:p∈(jh R L node rank now).2):p=⟨rank,node,now⟩∨(p∈L∧p.node≠node):=by
 have hf:∀q,q∈L.filter (λp=>!(p.node==node))→q∈L∧q.node≠node:=λq hq=>by
  rw[List.mem_filter] at hq
  exact⟨hq.1,by simpa using hq.2⟩
 unfold jh at h
 dsimp only at h
 split at h
 ·exact .inr (hf p h)
 ·have h1:=List.mem_of_mem_take h
  rw[List.mem_filter] at h1
  rcases mem_insP h1.1 with h2|h2
  ·exact .inl h2
  ·exact .inr (hf p h2)
/- the line of nodes -/
def vw(n w i:Nat):Nat:=(List.range n).foldl (λm j=>if vh w i j then m+2^j else m) 0
def cT(n w:Nat):Cfg:=⟨n,(List.range n).map (λi=>(vw n w i:Int)),[11,15,20],300,1,10,2*n,6,15⟩
def d0:Dr:=⟨[],[],[],[]⟩
def nears(n w:Nat):Bool:=(List.range n).all (λi=>decide (vw n w i<65536∧vw n w i<2^n)&&(List.range n).all (λj=>(vw n w i / 2^j % 2==1)==vh w i j))
theorem nears_all:(List.range 7).all (λa=>(List.range 3).all (λb=>nears (a+2) (b+1)))=true:=by decide+kernel
theorem near_bit{n w:Nat}(hn:2≤n∧n≤8)(hw:1≤w∧w≤3){i:Nat}(hi:i<n):(vw n w i<65536∧vw n w i<2^n)∧∀j,j<n→(vw n w i / 2^j % 2=1↔vh w i j=true):=by
 have h:=nears_all
 rw[List.all_eq_true] at h
 have h1:=h (n-2) (by rw[List.mem_range];omega)
 rw[List.all_eq_true] at h1
 have h2:=h1 (w-1) (by rw[List.mem_range];omega)
 rw[show n-2+2=n from by omega,show w-1+1=w from by omega] at h2
 unfold nears at h2
 rw[List.all_eq_true] at h2
 have h3:=h2 i (by rw[List.mem_range];exact hi)
 rw[Bool.and_eq_true,decide_eq_true_eq,List.all_eq_true] at h3
 refine⟨h3.1,λj hj=>?_⟩
 have h4:=h3.2 j (by rw[List.mem_range];exact hj)
 rw[beq_iff_eq] at h4
 rw[←h4,beq_iff_eq]
theorem cT_ok{n w:Nat}(hn:2≤n∧n≤8)(hw:1≤w∧w≤3):CfgOk (cT n w):=by
 refine⟨hn.1,by show n≤16;omega,by simp[cT],λi x hx=>?_,⟨(by decide:∀c∈([11,15,20]:List Int),0≤c∧c≤31),(by decide:([11,15,20]:List Int).Nodup),(by decide:1≤([11,15,20]:List Int).length),(by decide:([11,15,20]:List Int).length≤16)⟩,(by decide:(1:Int)≤300∧(300:Int)≤4000),(by decide:(0:Int)≤1∧(1:Int)≤1000),(by decide:(1:Int)≤10∧(10:Int)≤10000),by show (2:Int)≤2*(n:Int)∧(2*(n:Int))≤10000;omega,(by decide:(1:Int)≤6∧(6:Int)≤32),(by decide:(1:Int)≤15∧(15:Int)≤15)⟩
 have hi:i<n:=by
  have:i<(cT n w).near.length:=(List.getElem?_eq_some_iff.1 hx).1
  simpa [cT] using this
 have hx2:x=(vw n w i:Int):=by
  have:(cT n w).near[i]? =some (vw n w i:Int):=by unfold cT;simp[List.getElem?_map,List.getElem?_range,hi]
  rw[this] at hx;cases hx;rfl
 obtain⟨⟨h1,h2⟩,h3⟩:=near_bit hn hw hi
 subst hx2
 refine⟨by omega,by omega,?_,?_⟩
 ·show (vw n w i:Int)<2^n
  exact_mod_cast h2
 ·have h4:=h3 i hi
  have h5:vh w i i=false:=by unfold vh;simp
  rw[h5] at h4
  have h6:vw n w i / 2^i % 2=0:=by
   have:¬vw n w i / 2^i % 2=1:=λe=>by have:=h4.1 e;cases this
   omega
  have:((vw n w i:Int) / 2^i % 2)=((vw n w i / 2^i % 2:Nat):Int):=by push_cast;rfl
  rw[this,h6];rfl
def vv(w i k:Nat):Nat:=(List.range k).foldl (λm j=>if vh w i j then m+2^j else m) 0
theorem nearP_succ(w i k:Nat):vv w i (k+1)=if vh w i k then vv w i k+2^k else vv w i k:=by unfold vv;rw[List.range_succ,List.foldl_append];rfl
theorem nearP_lt(w i:Nat):∀k,vv w i k<2^k:=by
 intro k
 induction k with
 |zero=>show (0:Nat)<1;decide
 |succ k ih=>
  rw[nearP_succ,Nat.pow_succ]
  split <;> omega
theorem ElN64:ElS 24 23 1 8:=ElS.of (z:= .int .u64 0) (by kernel_rfl) (by kernel_rfl) (by decide+kernel) (by decide)
def obN(n:Nat):Obj:= .cells (madeCells (Value.int .u64 0).cells (n*1)) 23
theorem madeN(n:Nat)(hn:n≤16):(madeCells (Value.int .u64 0).cells (n*1)).toList=List.replicate n (.int .u64 0):=by
 rw[madeL]
 have:n=0∨n=1∨n=2∨n=3∨n=4∨n=5∨n=6∨n=7∨n=8∨n=9∨n=10∨n=11∨n=12∨n=13∨n=14∨n=15∨n=16:=by omega
 rcases this with rfl|rfl|rfl|rfl|rfl|rfl|rfl|rfl|rfl|rfl|rfl|rfl|rfl|rfl|rfl|rfl|rfl <;> exact rfl
theorem mkN(n:Nat)(hn:n≤16)(W:World):(Instr.makeSlice 24 (.int .i64 (n:Int)) (.int .i64 (n:Int))).run Tryz.prog W= .ok (.slice (some ⟨W.heap.size,0,none⟩) n n) (W.alloc (obN n)):=by
 obtain⟨i,hi⟩:∃i,Tryz.prog.info? 23=some i:=by obtain⟨_,i,z,h,_⟩:=ElN64;exact⟨i,h⟩
 have hx:(Tryz.prog.info? 23).map (λi=>(i.zero,i.size,i.bytes))=some (some (.int .u64 0),1,8):=by kernel_rfl
 rw[hi] at hx
 simp only[Option.map_some,Option.some.injEq,Prod.mk.injEq] at hx
 have:=run_make (P:=Tryz.prog) W 24 23 i (.int .u64 0) ElN64.1 hi hx.1 .i64 .i64 n n (by omega) (by omega) (by rw[hx.2.2];omega) (by omega)
 simp only[Int.toNat_natCast,hx.2.1] at this
 exact this
theorem or_pow(B k:Nat)(hB:B<2^k):B|||2^k=B+2^k:=by
 have:=Nat.two_pow_add_eq_or_of_lt hB 1
 rw[Nat.mul_one] at this
 rw[Nat.or_comm,←this,Nat.add_comm]
def rowN(n w a b:Nat):List Int:=(List.range n).map (λi=>((if i<a then vw n w i else if i=a then vv w i b else 0:Nat):Int))
theorem jp(n w a b:Nat):(rowN n w a b).length=n:=by unfold rowN;simp
theorem vD{n w a b i:Nat}(hi:i<n):(rowN n w a b)[i]? =some ((if i<a then vw n w i else if i=a then vv w i b else 0:Nat):Int):=by
 unfold rowN
 simp[List.getElem?_map,List.getElem?_range,hi]
theorem rowN_first(n w:Nat):rowN n w 0 0=List.replicate n 0:=by
 apply List.ext_getElem?
 intro i
 by_cases hi:i<n
 ·rw[vD hi,List.getElem?_replicate,if_pos hi,if_neg (by omega)]
  congr 2
  split
  ·rfl
  ·rfl
 ·rw[List.getElem?_eq_none (by rw[jp];omega),List.getElem?_eq_none (by simp;omega)]
theorem rowN_next(n w a:Nat):rowN n w a n=rowN n w (a+1) 0:=by
 apply List.ext_getElem?
 intro i
 by_cases hi:i<n
 ·rw[vD hi,vD hi]
  congr 2
  by_cases h1:i<a
  ·rw[if_pos h1,if_pos (by omega)]
  ·rw[if_neg h1]
   by_cases h2:i=a
   ·rw[if_pos h2,if_pos (by omega)];rfl
   ·rw[if_neg h2,if_neg (by omega)]
    split <;> rfl
 ·rw[List.getElem?_eq_none (by rw[jp];omega),List.getElem?_eq_none (by rw[jp];omega)]
theorem rowN_skip{n w a b:Nat}(h:vh w a b=false):rowN n w a (b+1)=rowN n w a b:=by
 apply List.ext_getElem?
 intro i
 by_cases hi:i<n
 ·rw[vD hi,vD hi]
  congr 2
  by_cases h1:i<a
  ·rw[if_pos h1,if_pos h1]
  ·rw[if_neg h1,if_neg h1]
   by_cases h2:i=a
   ·subst h2
    rw[if_pos rfl,if_pos rfl,nearP_succ,h,if_neg (by decide)]
   ·rw[if_neg h2,if_neg h2]
 ·rw[List.getElem?_eq_none (by rw[jp];omega),List.getElem?_eq_none (by rw[jp];omega)]
theorem rowN_set{n w a b:Nat}(h:vh w a b=true)(ha:a<n):rowN n w a (b+1)=(rowN n w a b).set a ((vv w a b+2^b:Nat):Int):=by
 apply List.ext_getElem?
 intro i
 by_cases hi:i<n
 ·by_cases h2:a=i
  ·subst h2
   rw[List.getElem?_set_self (by rw[jp];exact ha),vD hi,if_neg (Nat.lt_irrefl a),if_pos rfl,nearP_succ,h,if_pos rfl]
  ·rw[List.getElem?_set_ne h2,vD hi,vD hi]
   congr 2
   have h3:¬i=a:=λe=>h2 e.symm
   rw[if_neg h3,if_neg h3]
 ·rw[List.getElem?_eq_none (by rw[jp];omega),List.getElem?_eq_none (by rw[List.length_set,jp];omega)]
theorem rowN_done(n w b:Nat):rowN n w n b=(List.range n).map (λi=>(vw n w i:Int)):=by
 unfold rowN
 apply List.map_congr_left
 intro i hi
 rw[List.mem_range] at hi
 rw[if_pos hi]
structure Cf(w0:World)(n wd rb g h2 cb:Nat)(cs rs:Array Value)(a b:Nat)(W:World):Prop where
 r:W.heap[rb]? =some (.cells rs 26 (0,0))
 g:W.heap[g]? =some (.cells ((rowN n wd a b).map VU).toArray 23 (0,0))
 h:W.heap[h2]? =some (.cells #[.int .i64 11,.int .i64 15,.int .i64 20] 3 (0,0))
 c:W.heap[cb]? =some (.cells cs 26 (0,0))
 chg:Chg (λj=>w0.heap.size≤j) w0 W
theorem Cf.set{w0 W:World}{n wd rb g h2 cb:Nat}{cs rs:Array Value}{a b:Nat}(h:Cf w0 n wd rb g h2 cb cs rs a b W)(hn:vh wd a b=true)(ha:a<n)(hd:g≠rb∧g≠h2∧g≠cb)(hg:w0.heap.size≤g):
  Cf w0 n wd rb g h2 cb cs rs a (b+1) (W.setCell ⟨g,a,none⟩ (.int .u64 ((vv wd a b+2^b:Nat):Int))):=by
 have gs:=chg1 W g a (.int .u64 ((vv wd a b+2^b:Nat):Int))
 refine⟨Chg.keep gs h.r (λe=>hd.1 e.symm),?_,Chg.keep gs h.h (λe=>hd.2.1 e.symm),Chg.keep gs h.c (λe=>hd.2.2 e.symm),h.chg.trans (gs.mono (λj _ e=>by rw[show j=g from e];exact hg))⟩
 rw[rowN_set hn ha,List.map_set]
 have:=qB h.g a (.int .u64 ((vv wd a b+2^b:Nat):Int))
 rw[this]
 simp[VU]
theorem set9(w:World)(b:Nat)(v0 v1 v2 v3 v4 v5 v6 v7 v8:Value):Chg (· =b) w (((((((((w.setCell ⟨b,0,none⟩ v0).setCell ⟨b,1,none⟩ v1).setCell ⟨b,2,none⟩ v2).setCell ⟨b,3,none⟩ v3).setCell ⟨b,4,none⟩ v4).setCell ⟨b,5,none⟩ v5).setCell ⟨b,6,none⟩ v6).setCell ⟨b,7,none⟩ v7).setCell ⟨b,8,none⟩ v8):=
 ((((((((chg1 w b 0 v0).trans (chg1 _ b 1 v1)).trans (chg1 _ b 2 v2)).trans (chg1 _ b 3 v3)).trans (chg1 _ b 4 v4)).trans (chg1 _ b 5 v5)).trans (chg1 _ b 6 v6)).trans (chg1 _ b 7 v7)).trans (chg1 _ b 8 v8)
theorem set9b{w:World}{b:Nat}{a0 a1 a2 a3 a4 a5 a6 a7 a8:Value}{t:TypeId}(h:w.heap[b]? =some (.cells #[a0,a1,a2,a3,a4,a5,a6,a7,a8] t (0,0))) (v0 v1 v2 v3 v4 v5 v6 v7 v8:Value):
  (((((((((w.setCell ⟨b,0,none⟩ v0).setCell ⟨b,1,none⟩ v1).setCell ⟨b,2,none⟩ v2).setCell ⟨b,3,none⟩ v3).setCell ⟨b,4,none⟩ v4).setCell ⟨b,5,none⟩ v5).setCell ⟨b,6,none⟩ v6).setCell ⟨b,7,none⟩ v7).setCell ⟨b,8,none⟩ v8).heap[b]? =some (.cells #[v0,v1,v2,v3,v4,v5,v6,v7,v8] t (0,0)):=by
 have h9:=qB (qB (qB (qB (qB (qB (qB (qB (qB h 0 v0) 1 v1) 2 v2) 3 v3) 4 v4) 5 v5) 6 v6) 7 v7) 8 v8
 simpa using h9
def cG(n w:Nat)(K G Q F E:Int):Cfg:={cT n w with keep:=K,loss:=G,queue:=Q,life:=F,err:=E}
def PConf(w:World)(c:Cfg)(en:Ending)(w':World):Prop:=
 ∃g1 g2:Nat,en= .returned (cfgV c (.slice (some ⟨g1,0,none⟩) c.nodes c.nodes) (.slice (some ⟨g2,0,none⟩) 3 3))∧w'.heap[g1]? =some (.cells (c.near.map VU).toArray 23 (0,0))∧w'.heap[g2]? =some (.cells #[.int .i64 11,.int .i64 15,.int .i64 20] 3 (0,0))∧
  w.heap.size≤g1∧w.heap.size≤g2∧Chg (λ_=>False) w w'
theorem conf_any(w:World)(nodes wide keep loss queue life err:Int)(nm wm km lm qm fm em:Nat)(h1:(nm:Int)<7∧wrap64 ((IntKind.u64.wrap nodes).tmod 7)=nm)(h2:(wm:Int)<3∧wrap64 ((IntKind.u64.wrap wide).tmod 3)=wm)
  (h3:(km:Int)<30∧wrap64 ((IntKind.u64.wrap keep).tmod 30)=km) (h4:(lm:Int)<60∧wrap64 ((IntKind.u64.wrap loss).tmod 60)=lm) (h5:(qm:Int)<8∧wrap64 ((IntKind.u64.wrap queue).tmod 8)=qm) (h6:(fm:Int)<15∧wrap64 ((IntKind.u64.wrap life).tmod 15)=fm) (h7:(em:Int)<6∧wrap64 ((IntKind.u64.wrap err).tmod 6)=em):
  Calls Tryz.prog 13 #[.int .i64 nodes,.int .i64 wide,.int .i64 keep,.int .i64 loss,.int .i64 queue,.int .i64 life,.int .i64 err] w (PConf w (cG (2+nm) (1+wm) (1+km) (2*(2+nm:Nat)+lm) (1+qm) (1+fm) em)):=by
 obtain⟨n,hn⟩:∃n:Nat,n=2+nm:=⟨_,rfl⟩
 obtain⟨wd,hwd⟩:∃wd:Nat,wd=1+wm:=⟨_,rfl⟩
 rw[←hn,←hwd]
 obtain⟨q1,q2⟩:=h1
 obtain⟨q3,q4⟩:=h2
 obtain⟨q5,q6⟩:=h3
 obtain⟨q7,q8⟩:=h4
 obtain⟨q9,qa⟩:=h5
 obtain⟨qb,qc⟩:=h6
 obtain⟨qd,qe⟩:=h7
 have hn2:2≤n∧n≤8:=by omega
 have hw2:1≤wd∧wd≤3:=by omega
 have e1:IntKind.i64.wrap (2+(nm:Int))=(n:Int):=(IntWalk.i64_in _ (by omega)).trans (by omega)
 have e2:IntKind.i64.wrap (1+(wm:Int))=(wd:Int):=(IntWalk.i64_in _ (by omega)).trans (by omega)
 have e3:IntKind.i64.wrap (1+(km:Int))=1+(km:Int):=IntWalk.i64_in _ (by omega)
 have e4:IntKind.i64.wrap (2*(n:Int))=2*(n:Int):=IntWalk.i64_in _ (by omega)
 have e5:IntKind.i64.wrap (2*(n:Int)+(lm:Int))=2*(n:Int)+(lm:Int):=IntWalk.i64_in _ (by omega)
 have e6:IntKind.i64.wrap (1+(qm:Int))=1+(qm:Int):=IntWalk.i64_in _ (by omega)
 have e7:IntKind.i64.wrap (1+(fm:Int))=1+(fm:Int):=IntWalk.i64_in _ (by omega)
 have hmk:=mkN n (by omega)
 have HN:=qQ (And.intro hn2 hw2)
 clear hn hwd
 have s0:(w.alloc (.cells #[.int .i64 0,.slice none 0 0,.slice none 0 0,.int .i64 0,.int .i64 0,.int .i64 0,.int .i64 0,.int .i64 0,.int .i64 0] 26)).heap.size=w.heap.size+1:=by simp
 obtain⟨rs,hrs⟩:∃rs:Array Value,rs=#[.int .i64 0,.slice none 0 0,.slice none 0 0,.int .i64 0,.int .i64 0,.int .i64 0,.int .i64 0,.int .i64 0,.int .i64 0]:=⟨_,rfl⟩
 obtain⟨cs,hcs⟩:∃cs:Array Value,cs=#[.int .i64 n,.slice (some ⟨w.heap.size+1,0,none⟩) n n,.slice (some ⟨w.heap.size+1+1,0,none⟩) 3 3,.int .i64 300,.int .i64 em,.int .i64 (1+km),.int .i64 (2*n+lm),.int .i64 (1+qm),.int .i64 (1+fm)]:=⟨_,rfl⟩
 obtain⟨w4,hw4⟩:=qZ ((((w.alloc (.cells rs 26)).alloc (obN n)).alloc (.cells #[.int .i64 11,.int .i64 15,.int .i64 20] 3)).alloc (.cells cs 26))
 have hob:obN n= .cells ((rowN n wd 0 0).map VU).toArray 23:=by
  unfold obN
  rw[rowN_first]
  congr 1
  apply Array.ext'
  rw[madeN n (by omega)]
  simp[VU]
 have HCF:=qQ (show Cf w n wd w.heap.size (w.heap.size+1) (w.heap.size+1+1) (w.heap.size+1+1+1) cs rs 0 0 w4 from by
  have z0:(w.alloc (.cells rs 26)).heap.size=w.heap.size+1:=by simp
  have z1:((w.alloc (.cells rs 26)).alloc (obN n)).heap.size=w.heap.size+1+1:=by simp
  have z2:(((w.alloc (.cells rs 26)).alloc (obN n)).alloc (.cells #[.int .i64 11,.int .i64 15,.int .i64 20] 3)).heap.size=w.heap.size+1+1+1:=by simp
  have b0:=qV w (.cells rs 26)
  have b1:=qV (w.alloc (.cells rs 26)) (obN n)
  have b2:=qV ((w.alloc (.cells rs 26)).alloc (obN n)) (.cells #[.int .i64 11,.int .i64 15,.int .i64 20] 3)
  have b3:=qV (((w.alloc (.cells rs 26)).alloc (obN n)).alloc (.cells #[.int .i64 11,.int .i64 15,.int .i64 20] 3)) (.cells cs 26)
  rw[z0,hob] at b1
  rw[z1] at b2
  rw[z2] at b3
  rw[hob] at b2 b3 hw4
  have g3:=Chg.alloc (λ_=>False) (((w.alloc (.cells rs 26)).alloc (.cells ((rowN n wd 0 0).map VU).toArray 23)).alloc (.cells #[.int .i64 11,.int .i64 15,.int .i64 20] 3)) (.cells cs 26)
  have g2:=(Chg.alloc (λ_=>False) ((w.alloc (.cells rs 26)).alloc (.cells ((rowN n wd 0 0).map VU).toArray 23)) (.cells #[.int .i64 11,.int .i64 15,.int .i64 20] 3)).trans g3
  have g1:=(Chg.alloc (λ_=>False) (w.alloc (.cells rs 26)) (.cells ((rowN n wd 0 0).map VU).toArray 23)).trans g2
  have g0:=(Chg.alloc (λ_=>False) w (.cells rs 26)).trans g1
  rw[hw4]
  exact⟨Chg.keep g1 b0 (λe=>e),Chg.keep g2 b1 (λe=>e),Chg.keep g3 b2 (λe=>e),b3,g0.none⟩)
 obtain⟨rb,hrb⟩:=qZ w.heap.size
 obtain⟨g,hg⟩:=qZ (w.heap.size+1)
 obtain⟨h2,hh2⟩:=qZ (w.heap.size+1+1)
 obtain⟨cb,hcb⟩:=qZ (w.heap.size+1+1+1)
 have HBL:=qQ (And.intro hrb (And.intro hg (And.intro hh2 hcb)))
 have HW4:=qQ hw4
 have HRC:=qQ (And.intro hrs hcs)
 rw[←hcb,←hh2,←hg,←hrb] at HCF
 clear hw4 hob s0 hrb hg hh2 hcb hrs hcs
 go_enter Tryz.func13,Tryz.ntmps13
 go_wp2_with fail
 rw[←HRC.out.1,←HRC.out.2,←HW4.out,←HBL.out.2.2.2,←HBL.out.2.2.1,←HBL.out.2.1,←HBL.out.1]
 clear hmk HW4
 have HG:=qQ (show g≠rb∧g≠h2∧g≠cb∧rb≠cb∧rb≠h2∧w.heap.size≤g∧w.heap.size≤rb∧w.heap.size≤h2 from by have:=HBL.out;omega)
 go_loopw [62] (λi wr=>∃(a:Nat),a≤n∧i= .int .i64 a∧Cf w n wd rb g h2 cb cs rs a 0 wr) (λi _=>n-(intOf i).toNat)
 case atStart=>exact⟨0,by omega,rfl,HCF.out⟩
 case round=>
  obtain⟨a,hak,rfl,hC⟩:=hrel
  by_cases hlt:a<n
  ·have i1:(a:Int)<(n:Int):=by omega
   have HC:=qQ hC
   clear hC
   go_wp2_with fail
   go_loopw [66] (λj wr2=>∃(b:Nat),b≤n∧j= .int .i64 b∧Cf w n wd rb g h2 cb cs rs a b wr2) (λj _=>n-(intOf j).toNat)
   case atStart=>exact⟨0,by omega,rfl,HC.out⟩
   case round=>
    obtain⟨b,hbk,rfl,hC⟩:=hrel
    by_cases hltb:b<n
    ·have j1:(b:Int)<(n:Int):=by omega
     have k1:IntKind.i64.wrap ((a:Int)-(b:Int))=(a:Int)-(b:Int):=IntWalk.i64_in _ (by omega)
     have k2:IntKind.i64.wrap ((b:Int)-(a:Int))=(b:Int)-(a:Int):=IntWalk.i64_in _ (by omega)
     have HC:=qQ hC
     clear hC
     by_cases hab:a=b
     ·have t71:((a:Int) != (b:Int))=false:=by simp;omega
      have HNB:=qQ (show vh wd a b=false from by unfold vh;simp[hab])
      clear hab
      go_wp2_with fail
      go_roundw
      case measure=>simp[intOf];omega
      case rel=>exact⟨b+1,by omega,by go_num,by have:=HC.out;obtain⟨p1,p2,p3,p4,p5⟩:=this;exact⟨p1,by rw[rowN_skip HNB.out];exact p2,p3,p4,p5⟩⟩
     ·have t71:((a:Int) != (b:Int))=true:=by simp;omega
      by_cases h1:(a:Int)-(b:Int)≤(wd:Int)
      ·have t77:decide ((a:Int)-(b:Int)≤(wd:Int))=true:=decide_eq_true h1
       by_cases h3:(b:Int)-(a:Int)≤(wd:Int)
       ·have t84:decide ((b:Int)-(a:Int)≤(wd:Int))=true:=decide_eq_true h3
        have HNB:=qQ (show vh wd a b=true from by unfold vh;simp only[Bool.and_eq_true,decide_eq_true_eq];omega)
        clear hab h1 h3
        have c1:wr.cell? ⟨cb,1,none⟩=some (.slice (some ⟨g,0,none⟩) n n):=by
         rw[qJ HC.out.c,HRC.out.2,HBL.out.2.1];rfl
        have cg:wr.cell? ⟨g,a,none⟩=some (.int .u64 ((vv wd a b:Nat):Int)):=by
         rw[qJ HC.out.g]
         simp only[List.getElem?_toArray,List.getElem?_map,vD hlt,if_neg (Nat.lt_irrefl a),if_true]
         rfl
        have fg:=qK HC.out.g a
        have kw:IntKind.u64.wrap (b:Int)=(b:Int):=by show (b:Int) % 18446744073709551616=b;omega
        have kb:(b:Int)<64:=by omega
        have kb2:((b:Int)).toNat=b:=by omega
        have hlt8:vv wd a b<18446744073709551616:=by
         have h1:=nearP_lt wd a b
         have h2:2^b≤2^8:=Nat.pow_le_pow_right (by decide) (by omega)
         omega
        have kor:bits BinOp.or IntKind.u64 ((vv wd a b:Nat):Int) (IntKind.u64.wrap (2^b))=((vv wd a b+2^b:Nat):Int):=by
         rw[set1_is _ _ hlt8 (by omega),or_pow _ _ (nearP_lt wd a b)]
        go_wp2_with fail
        go_roundw
        case measure=>simp[intOf];omega
        case rel=>exact⟨b+1,by omega,by go_num,by
         have hh:=HC.out.set HNB.out hlt ⟨HG.out.1,HG.out.2.1,HG.out.2.2.1⟩ HG.out.2.2.2.2.2.1
         have e:((vv wd a b+2^b:Nat):Int)=((vv wd a b:Nat):Int)+2^b:=by push_cast;rfl
         rw[e] at hh
         exact hh⟩
       ·have t84:decide ((b:Int)-(a:Int)≤(wd:Int))=false:=decide_eq_false h3
        have HNB:=qQ (show vh wd a b=false from by unfold vh;simp;omega)
        clear hab h1 h3
        go_wp2_with fail
        go_roundw
        case measure=>simp[intOf];omega
        case rel=>exact⟨b+1,by omega,by go_num,by have:=HC.out;obtain⟨p1,p2,p3,p4,p5⟩:=this;exact⟨p1,by rw[rowN_skip HNB.out];exact p2,p3,p4,p5⟩⟩
      ·have t77:decide ((a:Int)-(b:Int)≤(wd:Int))=false:=decide_eq_false h1
       have HNB:=qQ (show vh wd a b=false from by unfold vh;simp;omega)
       clear hab h1
       go_wp2_with fail
       go_roundw
       case measure=>simp[intOf];omega
       case rel=>exact⟨b+1,by omega,by go_num,by have:=HC.out;obtain⟨p1,p2,p3,p4,p5⟩:=this;exact⟨p1,by rw[rowN_skip HNB.out];exact p2,p3,p4,p5⟩⟩
    ·obtain rfl:b=n:=by omega
     have HC:=qQ hC
     clear hC
     go_wp2_with fail
     go_roundw
     case measure=>simp[intOf];omega
     case rel=>exact⟨a+1,by omega,by go_num,by have:=HC.out;obtain⟨p1,p2,p3,p4,p5⟩:=this;exact⟨p1,by rw[←rowN_next];exact p2,p3,p4,p5⟩⟩
  ·obtain rfl:a=n:=by omega
   have hr:=hC.r
   have hc:=hC.c
   rw[HRC.out.1] at hr
   rw[HRC.out.2,←HBL.out.2.2.1,←HBL.out.2.1] at hc
   have r0:wr.cell? ⟨rb,0,none⟩=_:=qJ hr 0
   have r1:wr.cell? ⟨rb,1,none⟩=_:=qJ hr 1
   have r2:wr.cell? ⟨rb,2,none⟩=_:=qJ hr 2
   have r3:wr.cell? ⟨rb,3,none⟩=_:=qJ hr 3
   have r4:wr.cell? ⟨rb,4,none⟩=_:=qJ hr 4
   have r5:wr.cell? ⟨rb,5,none⟩=_:=qJ hr 5
   have r6:wr.cell? ⟨rb,6,none⟩=_:=qJ hr 6
   have r7:wr.cell? ⟨rb,7,none⟩=_:=qJ hr 7
   have r8:wr.cell? ⟨rb,8,none⟩=_:=qJ hr 8
   have c0:wr.cell? ⟨cb,0,none⟩=some (.int .i64 a):=qJ hc 0
   have c1:wr.cell? ⟨cb,1,none⟩=some (.slice (some ⟨g,0,none⟩) a a):=qJ hc 1
   have c2:wr.cell? ⟨cb,2,none⟩=some (.slice (some ⟨h2,0,none⟩) 3 3):=qJ hc 2
   have c3:wr.cell? ⟨cb,3,none⟩=some (.int .i64 300):=qJ hc 3
   have c4:wr.cell? ⟨cb,4,none⟩=some (.int .i64 em):=qJ hc 4
   have c5:wr.cell? ⟨cb,5,none⟩=some (.int .i64 (1+km)):=qJ hc 5
   have c6:wr.cell? ⟨cb,6,none⟩=some (.int .i64 (2*a+lm)):=qJ hc 6
   have c7:wr.cell? ⟨cb,7,none⟩=some (.int .i64 (1+qm)):=qJ hc 7
   have c8:wr.cell? ⟨cb,8,none⟩=some (.int .i64 (1+fm)):=qJ hc 8
   have fr:=λk=>qK hr k
   have f0:=fr 0
   have f1:=fr 1
   have f2:=fr 2
   have f3:=fr 3
   have f4:=fr 4
   have f5:=fr 5
   have f6:=fr 6
   have f7:=fr 7
   have f8:=fr 8
   have HC:=qQ hC
   have HR:=qQ hr
   clear hC hr hc fr
   go_wp2_with fail
   have gs:=set9 wr rb (.int .i64 a) (.slice (some ⟨g,0,none⟩) a a) (.slice (some ⟨h2,0,none⟩) 3 3) (.int .i64 300) (.int .i64 em) (.int .i64 (1+km)) (.int .i64 (2*a+lm)) (.int .i64 (1+qm)) (.int .i64 (1+fm))
   have hbk:=set9b HR.out (.int .i64 a) (.slice (some ⟨g,0,none⟩) a a) (.slice (some ⟨h2,0,none⟩) 3 3) (.int .i64 300) (.int .i64 em) (.int .i64 (1+km)) (.int .i64 (2*a+lm)) (.int .i64 (1+qm)) (.int .i64 (1+fm))
   have k0:=qJ hbk 0
   have k1:=qJ hbk 1
   have k2:=qJ hbk 2
   have k3:=qJ hbk 3
   have k4:=qJ hbk 4
   have k5:=qJ hbk 5
   have k6:=qJ hbk 6
   have k7:=qJ hbk 7
   have k8:=qJ hbk 8
   have hg:=Chg.keep gs HC.out.g (λe=>HG.out.1 e)
   have hh:=Chg.keep gs HC.out.h (λe=>HG.out.2.2.2.2.1 e.symm)
   rw[rowN_done] at hg
   exact bodyPost_ret (v:=cfgV (cG a wd (1+km) (2*(a:Nat)+lm) (1+qm) (1+fm) em) (.slice (some ⟨g,0,none⟩) a a) (.slice (some ⟨h2,0,none⟩) 3 3)) (by simp[results,Tryz.results13,go_sem,cfgV,cG,cT,k0,k1,k2,k3,k4,k5,k6,k7,k8]) rfl
    ⟨g,h2,rfl,hg,hh,HG.out.2.2.2.2.2.1,HG.out.2.2.2.2.2.2.2,(HC.out.chg.trans (gs.mono (λj _ e=>by rw[show j=rb from e];exact HG.out.2.2.2.2.2.2.1))).fresh⟩
def InM(c:Cfg)(L:List Int):Prop:=∀z∈L,0≤z∧z<c.nodes
def QOk(c:Cfg)(i:Nat)(p:Int×List Int):Prop:=p.2.length≤100∧(p.1=64∨(0≤p.1∧p.1<c.nodes∧p.1≠i))
structure GN(c:Cfg)(i:Nat)(t:Int)(s:NSt):Prop where
 base: -1000000000000≤s.base∧s.base≤1000000000000
 sum: -(1000000*t)≤s.sum∧s.sum≤1000000*t
 slots:0≤s.slots∧s.slots≤t
 lis:0≤s.listened∧s.listened≤t
 seq:0≤s.seq∧s.seq≤255
 last: -1≤s.last∧s.last≤70368744177663
 tries:0≤s.tries∧s.tries≤7
 ql:s.q.length≤32
 q:∀p∈s.q,QOk c i p
 pk:(s.synced=true→i≠0→s.p≠none)∧(s.p≠none→s.k≠none)
 pa:∀R L,s.p=some (R,L)→∀a∈L,0≤a.node∧a.node<c.nodes∧a.node≠i
 paths:∀z L,s.paths z=some L→2≤L.length∧L.length≤17∧L.getD 0 1=0∧InM c L
def SO(c:Cfg)(i:Nat)(s:NSt):Prop:=s.sopen=true→(0≤s.sdst∧s.sdst<c.nodes∧s.sdst≠i)∧(s.skind=1→s.q≠[])
section
variable {c:Cfg}{i:Nat}{t now:Int}{s:NSt}
theorem GN.evN(h:GN c i t s)(e:Ev):GN c i t (evN s e):=⟨h.base,h.sum,h.slots,h.lis,h.seq,h.last,h.tries,h.ql,h.q,h.pk,h.pa,h.paths⟩
theorem GN.noEv(h:GN c i t s):GN c i t (noEv s):=⟨h.base,h.sum,h.slots,h.lis,h.seq,h.last,h.tries,h.ql,h.q,h.pk,h.pa,h.paths⟩
theorem GN.opn(h:GN c i t s)(b:Bool):GN c i t (opnN s b):=⟨h.base,h.sum,h.slots,h.lis,h.seq,h.last,h.tries,h.ql,h.q,h.pk,h.pa,h.paths⟩
theorem GN.way(h:GN c i t s)(p:Pk)(f:Seen):GN c i t (jH i s p f):=by
 unfold jH gotS downS upS
 split
 ·exact⟨h.base,h.sum,h.slots,h.lis,h.seq,h.last,h.tries,h.ql,h.q,h.pk,h.pa,h.paths⟩
 ·split
  ·exact⟨h.base,h.sum,h.slots,h.lis,h.seq,h.last,h.tries,h.ql,h.q,h.pk,h.pa,h.paths⟩
  ·exact⟨h.base,h.sum,h.slots,h.lis,h.seq,h.last,h.tries,h.ql,h.q,h.pk,h.pa,h.paths⟩
theorem GN.mono(h:GN c i t s){t':Int}(e:t≤t'):GN c i t' s:=by
 obtain⟨h1,h2,h3,h4,h5,h6,h7,h8,h9,ha,hb,hc⟩:=h
 exact⟨h1,by omega,by omega,by omega,h5,h6,h7,h8,h9,ha,hb,hc⟩
theorem GN.new(i:Nat)(ht:0≤t):GN c i t (newN i):=by
 unfold newN
 refine⟨by dsimp only;omega,by dsimp only;omega,by dsimp only;omega,by dsimp only;omega,by dsimp only;omega,by dsimp only;omega,by dsimp only;omega,by simp,(λp hp=>by cases hp),⟨λh1 h2=>?_,λh1=>absurd rfl h1⟩,(λR L h=>by cases h),(λz L h=>by cases h)⟩
 dsimp only at h1
 simp at h1
 exact absurd h1 h2
theorem cutf_bd2(n m:Int)(h:0≤m): -m≤cutf n m∧cutf n m≤m:=by unfold cutf;omega
theorem GN.slot(h:GN c i t s)(p:Int):GN c i (t+1) (slotN i p s):=by
 obtain⟨h1,h2,h3,h4,h5,h6,h7,h8,h9,ha,hb,hc⟩:=h
 have k:=cutf_bd2 (if i=0 then 0 else p) 100 (by omega)
 unfold slotN lisN clkN
 refine⟨h1,?_,?_,?_,h5,h6,h7,h8,h9,ha,hb,hc⟩
 ·dsimp only;omega
 ·dsimp only;omega
 ·dsimp only;split <;> omega
theorem GN.reboot(h:GN c i t s):GN c i t (vF i s):=by
 have ht:0≤t:=by have:=h.slots;omega
 obtain⟨h1,h2,h3,h4,h5,h6,h7,h8,h9,ha,hb,hc⟩:=GN.new (c:=c) i ht
 have k:=cutf_bd2 (offN s) 1000000000000 (by omega)
 unfold vF clkN
 exact⟨k,by dsimp only;omega,by dsimp only;omega,h4,h5,h6,h7,h8,h9,ha,hb,hc⟩
theorem GN.first(h:GN c i t s):qR s=64∨(0≤qR s∧qR s<c.nodes∧qR s≠i):=by
 unfold qR
 split
 ·rename_i R p L e
  exact .inr (h.pa R (p::L) e p (by simp))
 ·exact .inl rfl
theorem GN.heard(h:GN c i t s)(src rk:Int)(hs:0≤src∧src<c.nodes∧src≠i):GN c i t (jd s src rk now):=by
 obtain⟨h1,h2,h3,h4,h5,h6,h7,h8,h9,ha,hb,hc⟩:=h
 unfold jd pN
 refine⟨h1,h2,h3,h4,h5,h6,h7,h8,h9,⟨λk1 k2=>?_,λk=>ha.2 ?_⟩,λR L e a hm=>?_,hc⟩
 ·have:=ha.1 k1 k2
  cases hp:s.p with
  |none=>exact absurd hp this
  |some x=>obtain⟨R,L⟩:=x;simp
 ·intro e
  rw[e] at k
  exact k rfl
 ·dsimp only at e
  cases hp:s.p with
  |none=>rw[hp] at e;cases e
  |some x=>
   obtain⟨R0,L0⟩:=x
   rw[hp] at e
   dsimp only at e
   have e2:jh R0 L0 src rk now=(R,L):=Option.some.inj e
   have e3:L=(jh R0 L0 src rk now).2:=by rw[e2]
   rw[e3] at hm
   rcases mem_hearL hm with rfl|⟨hm,_⟩
   ·exact hs
   ·exact hb R0 L0 hp a hm
theorem GN.moves(h:GN c i t s)(src n:Int):GN c i t (movesN i s src n):=by
 obtain⟨h1,h2,h3,h4,h5,h6,h7,h8,h9,ha,hb,hc⟩:=h
 have k:=cutf_bd2 (s.base+cutf n 1000000) 1000000000000 (by omega)
 unfold movesN
 apply GN.evN
 unfold moveN clkN kN
 exact⟨k,h2,h3,h4,h5,h6,h7,h8,h9,⟨ha.1,λ_=>by simp⟩,hb,hc⟩
theorem GN.follows(h:GN c i t s)(was:Int):GN c i t (zQ i s was):=by
 unfold zQ
 split
 ·exact h
 ·exact h.evN _
theorem GN.hears(h:GN c i t s)(src rk tk:Int)(hs:0≤src∧src<c.nodes∧src≠i):GN c i t (qx i s src rk now tk):=by
 unfold qx zY
 apply GN.follows
 split
 ·exact (h.heard src rk hs).moves _ _
 ·exact h.heard src rk hs
theorem GN.adopt(h:GN c i t s)(f:Fr)(rk ms:Int)(hs:0≤f.src∧f.src<c.nodes∧f.src≠i):GN c i t (adoptN i c s f rk now ms):=by
 unfold adoptN
 split
 ·unfold adopt2N
  apply GN.evN
  apply GN.evN
  apply GN.moves
  apply GN.evN
  obtain⟨h1,h2,h3,h4,h5,h6,h7,h8,h9,ha,hb,hc⟩:=h
  unfold adopt1N adopt0N pN kN synN
  refine⟨h1,h2,h3,h4,h5,h6,h7,h8,h9,⟨λ_ _=>by simp,λ_=>by simp⟩,λR L e a hm=>?_,hc⟩
  have e2:jh (rk+1) [] f.src rk now=(R,L):=Option.some.inj e
  have e3:L=(jh (rk+1) [] f.src rk now).2:=by rw[e2]
  rw[e3] at hm
  rcases mem_hearL hm with rfl|⟨hm,_⟩
  ·exact hs
  ·cases hm
 ·exact h
theorem GN.leave(h:GN c i t s):GN c i t (qT s):=by
 obtain⟨h1,h2,h3,h4,h5,h6,h7,h8,h9,ha,hb,hc⟩:=h
 unfold qT
 exact⟨h1,h2,h3,h4,h5,h6,⟨by dsimp only;omega,by dsimp only;omega⟩,by rw[List.length_tail];omega,λp hp=>h9 p (List.mem_of_mem_tail hp),ha,hb,hc⟩
theorem GN.qadd(hc:CfgOk c)(h:GN c i t s){p:Pk}(hp:mayP p=true){tt:Int}(ht:tt=64∨(0≤tt∧tt<c.nodes∧tt≠i))(hq:(s.q.length:Int)<c.queue):GN c i t {s with q:=s.q++[(tt,encP p)]}:=by
 obtain⟨h1,h2,h3,h4,h5,h6,h7,h8,h9,ha,hb,hd⟩:=h
 have:=hc.q
 have:=encP_len hp
 refine⟨h1,h2,h3,h4,h5,h6,h7,by show (s.q++[(tt,encP p)]).length≤32;rw[List.length_append];show s.q.length+1≤32;omega,λx hx=>?_,ha,hb,hd⟩
 rcases List.mem_append.1 hx with hx|hx
 ·exact h9 x hx
 ·simp at hx
  rw[hx]
  exact⟨by show (encP p).length≤100;omega,ht⟩
theorem GN.put(hc:CfgOk c)(h:GN c i t s)(p:Pk){tt:Int}(came:Pk)(ht:mayP p=true→tt=64∨(0≤tt∧tt<c.nodes∧tt≠i)):GN c i t (putN c i s p tt came):=by
 unfold putN
 split
 ·rename_i k
  exact h.qadd hc k.1 (ht k.1) k.2
 ·exact h.evN _
theorem GN.rises(hc:CfgOk c)(h:GN c i t s)(p:Pk):GN c i t (vm c i s p):=by
 unfold vm
 split
 ·exact h.evN _
 ·exact h.put hc _ _ (λ_=> .inl rfl)
theorem indexI_is{L:List Int}{x:Int}{k:Nat}(h:zp L x=k):L[k]? =some x:=by
 unfold zp at h
 split at h
 ·rename_i j e
  rw[List.findIdx?_eq_some_iff_getElem] at e
  obtain⟨e1,e2,_⟩:=e
  have:j=k:=by omega
  subst this
  rw[List.getElem?_eq_getElem e1]
  simpa using e2
 ·omega
theorem downP_tgt{p:Pk}{i:Nat}(h:(downP p i).1=0):(downP p i).2.1∈p.path∧(downP p i).2.1≠(i:Int):=by
 obtain⟨x,hx⟩:∃x,stepP p i=x:=⟨_,rfl⟩
 unfold downP at h ⊢
 rw[hx] at h ⊢
 dsimp only at h ⊢
 unfold stepP at hx
 by_cases hm:(mayP p&&zD i)=true
 ·simp only[hm,Bool.not_true,Bool.false_eq_true,if_false] at hx
  by_cases hl:p.life=0
  ·rw[if_pos hl] at hx
   rw[←hx] at h
   dsimp only at h
   rw[if_pos (by decide)] at h
   exact absurd h (by decide)
  ·rw[if_neg hl] at hx
   rw[←hx] at h ⊢
   dsimp only at h ⊢
   rw[if_neg (by simp)] at h ⊢
   by_cases hk:zp p.path i<0∨zp p.path i=(p.path.length:Int)-1
   ·rw[if_pos hk] at h
    exact absurd h (by decide)
   ·rw[if_neg hk] at h ⊢
    dsimp only at h ⊢
    obtain⟨b1,b2⟩:=indexI_bd p.path (i:Int)
    obtain⟨k,hk2⟩:=Int.eq_ofNat_of_zero_le (show 0≤zp p.path i by omega)
    have hg:=indexI_is hk2
    rw[hk2] at hk b2 ⊢
    have hlt:k+1<p.path.length:=by omega
    have hgd:p.path.getD (k+1) 0=p.path[k+1]:=by rw[List.getD_eq_getElem?_getD,List.getElem?_eq_getElem hlt];rfl
    rw[Int.toNat_natCast,hgd]
    refine⟨List.getElem_mem hlt,λe=>?_⟩
    have hnd:=(zm (by simp only[Bool.and_eq_true] at hm;exact hm.1)).2.2.2.2.2.1.2.2
    have hlt0:k<p.path.length:=by omega
    rw[List.getElem?_eq_getElem hlt0] at hg
    have he:p.path[k]=p.path[k+1]:=by rw[e];exact Option.some.inj hg
    have:=(List.getElem_inj hnd).1 he
    omega
 ·have hm2:(!(mayP p&&zD i))=true:=by rw[Bool.not_eq_true'];exact Bool.not_eq_true _▸hm
  rw[if_pos hm2] at hx
  rw[←hx] at h
  dsimp only at h
  rw[if_pos (by decide)] at h
  exact absurd h (by decide)
theorem GN.hands(hc:CfgOk c)(h:GN c i t s)(p came:Pk)(hp:InM c p.path):GN c i t (js c i s p came):=by
 unfold js
 split
 ·exact h.evN _
 ·split
  ·exact h.evN _
  ·rename_i h1 h2
   have h0:(downP p i).1=0:=Classical.not_not.1 h2
   obtain⟨k1,k2⟩:=downP_tgt h0
   have:=hp _ k1
   exact h.put hc _ _ (λ_=> .inr ⟨this.1,this.2,k2⟩)
theorem GN.turns(hc:CfgOk c)(h:GN c i t s)(p:Pk):GN c i t (vk c i s p):=by
 unfold vk
 split
 ·exact h.evN _
 ·rename_i L e
  exact h.hands hc _ _ (h.paths _ L e).2.2.2
theorem knownB_in{p:Pk}(h:knownB c p=true):InM c p.path:=λz hz=>by
 unfold knownB at h
 simp only[Bool.and_eq_true,Bool.not_eq_true',List.any_eq_false,Bool.not_eq_true',Bool.not_eq_false] at h
 have:=h.2 z hz
 unfold hasB inR at this
 simp only[Bool.and_eq_true,decide_eq_true_eq] at this
 omega
theorem GN.learns(hc:CfgOk c)(h:GN c i t s)(p:Pk)(hk:knownB c p=true):GN c i t (jS i s p):=by
 unfold jS
 split
 ·rename_i hl
  obtain⟨h1,h2,h3,h4,h5,h6,h7,h8,h9,ha,hb,hd⟩:=h
  refine⟨h1,h2,h3,h4,h5,h6,h7,h8,h9,ha,hb,λz L e=>?_⟩
  dsimp only at e
  by_cases hz:z=p.src
  ·rw[if_pos hz] at e
   have e2:0::p.path.reverse=L:=Option.some.inj e
   rw[←e2]
   unfold learnB at hl
   simp only[Bool.and_eq_true,decide_eq_true_eq] at hl
   have hne:p.path≠[]:=λe=>by rw[e] at hl;cases hl.1.1.2
   have hpos:0<p.path.length:=List.length_pos_iff.2 hne
   have hlen:(0::p.path.reverse).length=p.path.length+1:=by simp
   refine⟨by rw[hlen];omega,by rw[hlen];omega,rfl,λx hx=>?_⟩
   have hn0:=hc.n0
   rcases List.mem_cons.1 hx with rfl|hx
   ·omega
   ·exact knownB_in hk x (List.mem_reverse.1 hx)
  ·rw[if_neg hz] at e
   exact hd z L e
 ·exact h
theorem GN.takes(hc:CfgOk c)(h:GN c i t s)(L:List Int):GN c i t (vl c i s L):=by
 unfold vl
 split
 ·exact h
 ·split
  ·rename_i hk
   unfold take2N
   split
   ·unfold vQ
    have hw:=h.way (decP L).2 (nextf (wayS i s (decP L).2) (decP L).2.src (decP L).2.n)
    split
    ·exact (hw.learns hc _ hk).evN _
    ·split
     ·exact hw.hands hc _ _ (knownB_in hk)
     ·split
      ·exact hw.turns hc _
      ·exact hw.rises hc _
   ·exact (h.way _ _).evN _
  ·exact h
theorem GN.back(hc:CfgOk c)(h:GN c i t s)(f:Fr):GN c i t (z7 c i f s):=by
 unfold z7
 split
 ·exact h.takes hc _
 ·exact h
theorem goodF_src{X:Int×Fr}(h:goodF i c X=true):0≤X.2.src∧X.2.src<c.nodes∧X.2.src≠i:=by
 unfold goodF inR at h
 simp only[Bool.and_eq_true,decide_eq_true_eq,Bool.not_eq_true',beq_eq_false_iff_ne] at h
 exact⟨by omega,by omega,h.2.2⟩
theorem GN.hear(hc:CfgOk c)(h:GN c i t s)(X:Int×Fr)(ms:Int):GN c i t (zq i c s X now ms (z7 c i X.2)):=by
 unfold zq
 split
 ·rename_i hg
  simp only[Bool.and_eq_true] at hg
  have hs:=goodF_src hg.1
  split
  ·unfold hear2N
   split
   ·exact (h.evN _).back hc _
   ·split
    ·exact (h.evN _).hears _ _ _ hs
    ·exact ((h.evN _).hears _ _ _ hs).back hc _
  ·exact h.adopt _ _ _ hs
 ·exact h
/- what it sends -/
theorem GN.nextd(h:GN c i t s)(hk:(vJ c i s now).kind≠3):(0≤(vJ c i s now).dst∧(vJ c i s now).dst<c.nodes∧(vJ c i s now).dst≠i)∧((vJ c i s now).kind=1→s.q≠[]):=by
 have hf:=h.first
 have hq:=h.q
 unfold vJ at hk ⊢
 by_cases h1:(pktN s).2.2=true
 ·rw[if_pos h1] at hk ⊢
  dsimp only at hk ⊢
  unfold pktN at h1 ⊢
  cases e:s.q with
  |nil=>rw[e] at h1;cases h1
  |cons p rest=>
   obtain⟨d,L⟩:=p
   rw[e] at h1 hq
   dsimp only at h1 ⊢
   have hd:=(hq (d,L) (by simp)).2
   dsimp only at hd
   by_cases hd64:d=64
   ·rw[if_pos hd64] at h1 ⊢
    have h1:qR s≠64:=of_decide_eq_true h1
    rcases hf with hf|hf
    ·exact absurd hf h1
    ·exact⟨hf,λ_=>by simp⟩
   ·rw[if_neg hd64] at h1 ⊢
    rcases hd with hd|hd
    ·exact absurd hd hd64
    ·exact⟨hd,λ_=>by simp⟩
 ·rw[if_neg h1] at hk ⊢
  by_cases h2:qR s≠64∧dueN c s=true
  ·rw[if_pos h2] at hk ⊢
   dsimp only at hk ⊢
   rcases hf with hf|hf
   ·exact absurd hf h2.1
   ·exact⟨hf,λe=>by omega⟩
  ·rw[if_neg h2] at hk
   exact absurd rfl hk
theorem GN.plan(h:GN c i t s):GN c i t (zS c i s now).1:=by
 unfold zS
 split
 ·obtain⟨h1,h2,h3,h4,h5,h6,h7,h8,h9,ha,hb,hd⟩:=h
  unfold sendN
  exact⟨h1,h2,h3,h4,⟨by dsimp only;omega,by dsimp only;omega⟩,h6,h7,h8,h9,ha,hb,hd⟩
 ·exact h
theorem GN.planS(h:GN c i t s)(hs:(zS c i s now).2.2.isEmpty=false):SO c i (zS c i s now).1:=by
 unfold zS at hs ⊢
 split
 ·intro ho
  have hk:(vJ c i s now).kind≠3:=by
   have ho:((vJ c i s now).kind != 3)=true:=ho
   simpa using ho
  exact h.nextd hk
 ·rename_i hn
  rw[if_neg hn] at hs
  cases hs
/- answers -/
theorem GN.done(h:GN c i t s)(f:Fr)(tt rk:Int)(hs:0≤tt∧tt<c.nodes∧tt≠i):GN c i t (j7 i s f tt rk now):=by
 unfold j7
 split
 ·exact h.hears _ _ _ hs
 ·exact h
theorem GN.ack(h:GN c i t s)(ho:SO c i s)(L:List Int):GN c i t (z8 i s L now):=by
 unfold z8
 split
 ·rename_i hx
  simp only[Bool.and_eq_true] at hx
  obtain⟨hs,_⟩:=ho hx.1.2
  split
  ·unfold acksN
   split
   ·exact (h.opn false).leave.done _ _ _ hs
   ·exact (h.opn false).done _ _ _ hs
  ·unfold failN
   split
   ·split
    ·split
     ·exact (h.opn false).leave.evN _
     ·exact (h.opn false).leave
    ·rename_i h8
     obtain⟨h1,h2,h3,h4,h5,h6,h7,h8,h9,ha,hb,hd⟩:=h.opn false
     exact⟨h1,h2,h3,h4,h5,h6,⟨by dsimp only;omega,by dsimp only;omega⟩,h8,h9,ha,hb,hd⟩
   ·exact h.opn false
 ·exact h
/- the end -/
theorem GN.drops(L:List (Int×List Int)):∀{s:NSt},GN c i t s→GN c i t (jg i L s):=by
 induction L with
 |nil=>intro s h;exact h
 |cons p rest ih=>
  intro s h
  unfold jg
  apply ih
  split
  ·exact h.leave.evN _
  ·exact h.leave
theorem GN.endD(h:GN c i t s):GN c i t (j6 c i s now):=by
 unfold j6
 split
 ·exact h
 ·rename_i h0
  cases hp:s.p with
  |none=>exact h
  |some y=>
   obtain⟨R,L⟩:=y
   cases hk:s.k with
   |none=>exact h
   |some x=>
    dsimp only
    split
    ·unfold endLN
     apply GN.drops
     apply GN.evN
     obtain⟨h1,h2,h3,h4,h5,h6,h7,h8,h9,ha,hb,hd⟩:=h
     unfold lost0N
     have:0≤t:=by omega
     exact⟨h1,h2,h3,⟨by dsimp only;omega,by dsimp only;omega⟩,h5,h6,h7,h8,h9,⟨(λe=>by cases e),(λe=>absurd rfl e)⟩,(λR L e=>nomatch e),hd⟩
    ·unfold endN
     apply GN.follows
     obtain⟨h1,h2,h3,h4,h5,h6,h7,h8,h9,ha,hb,hd⟩:=h
     unfold pN kN
     refine⟨h1,h2,h3,h4,h5,h6,h7,h8,h9,⟨λ_ _=>by simp,λ_=>by simp⟩,λR' L' e a hm=>?_,hd⟩
     have e2:(R,keptL L now c.loss)=(R',L'):=Option.some.inj e
     have e3:L'=keptL L now c.loss:=by rw[Prod.mk.injEq] at e2;exact e2.2.symm
     rw[e3] at hm
     unfold keptL at hm
     exact hb R L hp a (List.mem_filter.1 hm).1
/- what is sent up or down -/
theorem nodup_01{L:List Int}(h:L.Nodup)(hl:2≤L.length)(h0:L.getD 0 1=0):L.getD 1 0≠0:=by
 cases L with
 |nil=>simp at hl
 |cons a L=>
  cases L with
  |nil=>simp at hl
  |cons b L=>
   simp at h0 h ⊢
   rw[h0] at h
   intro e
   rw[e] at h
   exact absurd rfl h.1.1
theorem GN.post2(hc:CfgOk c)(h:GN c i t s)(p:Pk)(hn:s.last+1≤p.n)(goes:Int)(hg:mayP p=true→goes=64∨(0≤goes∧goes<c.nodes∧goes≠i)):GN c i t (zR c s p goes).1:=by
 unfold zR
 split
 ·exact h
 ·rename_i hx
  have hx1:p.n≤70368744177663:=by omega
  have hx2:mayP p=true:=by
   cases hm:mayP p with
   |true=>rfl
   |false=>exact absurd (.inr (.inl hm)) hx
  have hx3:(s.q.length:Int)<c.queue:=by
   by_cases hq:(s.q.length:Int)<c.queue
   ·exact hq
   ·exact absurd (.inr (.inr (by omega))) hx
  have hl:=h.last
  obtain⟨h1,h2,h3,h4,h5,h6,h7,h8,h9,ha,hb,hd⟩:=h.qadd hc hx2 (hg hx2) hx3
  exact⟨h1,h2,h3,h4,h5,⟨by dsimp only;omega,by dsimp only;omega⟩,h7,h8,h9,ha,hb,hd⟩
theorem GN.post(hc:CfgOk c)(h:GN c i t s)(tw:Int)(T:List Int):GN c i t (postN c i s now tw T).1:=by
 unfold postN
 split
 ·exact h
 ·split
  ·exact h
  ·have hm:∀L,s.last+1≤(vG c i s now tw T L).n:=λL=>by unfold vG;dsimp only;omega
   split
   ·rename_i hi
    subst hi
    split
    ·exact h
    ·rename_i L e
     obtain⟨k1,k2,k3,k4⟩:=h.paths _ L e
     refine h.post2 hc _ (hm L) _ (λhp=> .inr ?_)
     have hnd:=(zm hp).2.2.2.2.2.1.2.2
     have hlt:1<L.length:=by omega
     have hmem:L.getD 1 0∈L:=by rw[List.getD_eq_getElem?_getD,List.getElem?_eq_getElem hlt];exact List.getElem_mem hlt
     have:=k4 _ hmem
     exact⟨this.1,this.2,nodup_01 hnd k1 k3⟩
   ·exact h.post2 hc _ (hm _) _ (λ_=> .inl rfl)
end
end Go.Proofs.YtnpihllannobgaaGreatDoor
