/- Steps of the proof, part G32. No condition. -/
import Derived.Test.YtnpihllannobgaaGreatDoorG31
import Derived.Test.YtnpihllannobgaaGreatDoorG16
import Derived.Deep.RegionHeld3
import Derived.WalkSmall
namespace Go.Proofs.YtnpihllannobgaaGreatDoor
set_option linter.unusedVariables false
set_option linter.unusedSimpArgs false
set_option maxRecDepth 100000
set_option maxHeartbeats 32000000
open Go.ChangeShapes Go.WideShapes Go.ChangeAt Go.RowKit
theorem planF_len(c:Cfg)(now:Int)(x:WM):∀k,(iter (jT c now) k x).air.length=x.air.length∧(iter (jT c now) k x).ev=x.ev∧(iter (jT c now) k x).bound=x.bound∧(iter (jT c now) k x).back=x.back:=by
 intro k
 induction k with
 |zero=>exact⟨rfl,rfl,rfl,rfl⟩
 |succ k ih=>
  obtain⟨h1,h2,h3,h4⟩:=ih
  exact⟨by show (List.set _ _ _).length=_;rw[List.length_set];exact h1,h2,h3,h4⟩
def slotA(d:Dr)(c:Cfg)(x:WM):WM:={qR d c.nodes x with air:=List.replicate c.nodes (0,[],0)}
def kD(c:Cfg)(d:Dr)(now:Int)(x:WM):WM:={zp c d c.nodes now x with back:=List.replicate c.nodes none}
def PWa(w0:World)(o0:Cls)(c:Cfg)(W:Nat)(x:WM)(asn:Int)(r:WR)(J:Inj)(v:Value)(en:Ending)(w':World):Prop:=
 ∃o' r',en= .returned v∧WAt w0 o0 c W x asn w' o' r'∧r'.lv=r.lv∧r'.bs=r.bs∧r'.ij=J
section
variable {w0 w w':World}{o0 o o':Cls}{c:Cfg}{W:Nat}{x x':WM}{asn:Int}{r r':WR}{d:Dr}{dr lo ac er da:Value}{S:Nat→Prop}
theorem Ao.fr{g n cap:Nat}{air:List Snd}(h:Ao w o (.slice (some ⟨g,0,none⟩) n cap) air)(k:Nat):w.frozen? ⟨g,k,none⟩=false:=by
 obtain⟨vs,h1,_⟩:=h
 rcases h1.2 with ⟨e,_⟩|⟨g2,c2,cur,e,_,hb2,_⟩
 ·cases e
 ·cases e;exact qK hb2 k
theorem planN_bs(c:Cfg)(i:Nat)(s:NSt)(now:Int):(jK c i s now).1.base=s.base∧(jK c i s now).1.sum=s.sum:=by
 unfold jK
 split
 ·exact⟨rfl,rfl⟩
 ·exact⟨rfl,rfl⟩
end
theorem ackV_air(c:Cfg)(d:Dr)(known:List Int)(now:Int)(x:WM):∀k,(iter (ackV c d known now) k x).air=x.air∧(iter (ackV c d known now) k x).back=x.back:=by
 intro k
 induction k with
 |zero=>exact⟨rfl,rfl⟩
 |succ k ih=>
  obtain⟨h1,h2⟩:=ih
  show (ackV c d known now k (iter (ackV c d known now) k x)).air=_∧(ackV c d known now k (iter (ackV c d known now) k x)).back=_
  unfold ackV
  split
  ·exact⟨h1,h2⟩
  ·exact⟨h1,h2⟩
structure SlotOkV(c:Cfg)(d:Dr)(ij:Inj)(now:Int)(x:WM):Prop where
 drift:∀i,i<c.nodes→DriftOk d i (x.nd i)
 bnd:BndOk x
 known:(qR d c.nodes x).bound.length=c.nodes∧∀z∈(qR d c.nodes x).bound,-1≤z∧z≤1000000000000
 plan:∀q,q<c.nodes→PlanOk q ((iter (jT c now) q (slotA d c x)).nd q)
 off:∀j,OffOk ((zp c d c.nodes now x).snd j).2.2
 hear:∀q,q<c.nodes→HearOkV c d ij (iter (qj c d (qR d c.nodes x).bound now ij) q (kD c d now x)) q
 hev:∀q,q≤c.nodes→(iter (qj c d (qR d c.nodes x).bound now ij) q (kD c d now x)).ev.length≤100000
 ack:∀q,q<c.nodes→((zW c d c.nodes now ij x).snd q).2.1.isEmpty=false→((zW c d c.nodes now ij x).snd q).2.1.length≤100000∧
  AckOkV c q ((iter (ackV c d (qR d c.nodes x).bound now) q (zW c d c.nodes now ij x)).nd q) ((jk c d (iter (ackV c d (qR d c.nodes x).bound now) q (zW c d c.nodes now ij x)) q).getD []) now
 aev:∀q,q≤c.nodes→(iter (ackV c d (qR d c.nodes x).bound now) q (zW c d c.nodes now ij x)).ev.length≤100000
 fin:∀q,q<c.nodes→EndOkV c q ((iter (endV c (qR d c.nodes x).bound now) q (vY c d c.nodes now ij x)).nd q) now
 eev:∀q,q≤c.nodes→(iter (endV c (qR d c.nodes x).bound now) q (vY c d c.nodes now ij x)).ev.length≤100000
section
variable {w0 w w':World}{o0 o o':Cls}{c:Cfg}{W:Nat}{x x':WM}{asn:Int}{r r':WR}{d:Dr}{dr lo ac er da:Value}{S:Nat→Prop}
theorem wslotV_any(hc:CfgOk c)(h:WAt w0 o0 c W x asn w o r)(ha:0≤asn∧asn<1099511627775)(k i' t:Int)(hs:So w o d dr lo ac er da)(hok:SlotOkV c d r.ij asn x):
  Calls Tryz.prog 18 #[VP W,stpV k i' t dr lo ac er da] w (PWa w0 o0 c W (qp c d c.nodes asn r.ij x) (asn+1) r qG (.int .i64 0)):=by
 have hn0:=hc.n0
 have hn1:=hc.n1
 have HSO:=qQ hs
 obtain⟨dA,dc,hdr,_⟩:=hs.drift
 obtain⟨lA,lc,hlo,_⟩:=hs.lost
 obtain⟨aA,acp,hac,_⟩:=hs.acks
 obtain⟨eA,ec,her,_⟩:=hs.err
 obtain⟨xA,xn,xc,hda⟩:=hs.da
 obtain⟨dn,hdn⟩:∃n,n=d.drift.length:=⟨_,rfl⟩
 obtain⟨ln,hln⟩:∃n,n=d.lost.length:=⟨_,rfl⟩
 obtain⟨an,han⟩:∃n,n=d.acks.length:=⟨_,rfl⟩
 obtain⟨en,hen⟩:∃n,n=d.err.length:=⟨_,rfl⟩
 rw[←hdn] at hdr
 rw[←hln] at hlo
 rw[←han] at hac
 rw[←hen] at her
 subst hdr hlo hac her hda
 have H:=qQ h
 have HOK:=qQ hok
 obtain⟨lg,lcap,hlv,hlc⟩:=h.rowval (by omega)
 have HLC:=qQ (And.intro hlv hlc)
 have ga:=Chg.alloc (λ_=>False) w (.cells #[.int .i64 k,.int .i64 i',.int .i64 t,.slice dA dn dc,.slice lA ln lc,.slice aA an acp,.slice eA en ec,.slice xA xn xc] 35)
 have hba:=qV w (.cells #[.int .i64 k,.int .i64 i',.int .i64 t,.slice dA dn dc,.slice lA ln lc,.slice aA an acp,.slice eA en ec,.slice xA xn xc] 35)
 have HB:=qQ (And.intro hba (h.z _ (Nat.le_refl _)))
 have HA:=qQ (And.intro (h.kept hn1 ga) ga)
 have c10:(w.alloc (.cells #[.int .i64 k,.int .i64 i',.int .i64 t,.slice dA dn dc,.slice lA ln lc,.slice aA an acp,.slice eA en ec,.slice xA xn xc] 35)).cell? ⟨W,10,none⟩=some (.int .i64 asn):=(h.kept hn1 ga).cell 10
 obtain⟨d0,d1,d2,d3,d4,d5,d6,d7⟩:=cell8 hba
 have hdrf:=wdrift_any hc (WAt.start (h.kept hn1 ga).wd (h.kept hn1 ga).z) ⟨ha.1,by omega⟩ k i' t (hs.step (Ext.refl _ _) ga (λ_ _ e=>e)) hok.drift hok.bnd
 have HDR:=qQ hdrf
 have t1:decide ((1099511627775:Int)≤asn)=false:=by simp;omega
 have ta:¬(1099511627775:Int)≤asn:=by omega
 have HC:=qQ hc
 clear h hs hdn hln han hen hok hlv hlc ga hba hdrf
 unfold VP stpV at *
 go_enter Tryz.func18,Tryz.ntmps18
 go_wp2_with fail
 generalize w.alloc (.cells #[.int .i64 k,.int .i64 i',.int .i64 t,.slice dA dn dc,.slice lA ln lc,.slice aA an acp,.slice eA en ec,.slice xA xn xc] 35)=w1 at *
 obtain⟨sb,hsb⟩:=qZ w.heap.size
 rw[←hsb] at HB ⊢
 clear hsb d0 d1 d2 d3 d4 d5 d6 d7 c10 t1 ta
 with_reducible refine HDR.out.mono ?_
 rintro en2 w2 ⟨kv,o2,r2,rfl,hA2,hs2,hkv⟩
 obtain⟨known,hkn⟩:∃kn,kn=(qR d c.nodes x).bound:=⟨_,rfl⟩
 rw[←hkn] at hkv
 obtain⟨kA,kc,hke,_⟩:=id hkv
 obtain⟨kl,hkl⟩:∃n,n=known.length:=⟨_,rfl⟩
 rw[←hkl] at hke
 subst hke
 have hkl2:kl=c.nodes:=by rw[hkl,hkn];exact HOK.out.known.1
 subst hkl2
 have c9:w2.cell? ⟨W,9,none⟩=some (.slice (some ⟨lg,0,none⟩) c.nodes lcap):=by rw[←HLC.out.1,←hs2.1];exact hA2.cell 9
 have c9b:=qN c9 (ob86 c.nodes)
 have hmk:=mk86 c.nodes hn1
 obtain⟨o3,hA3,hE3,hO3⟩:=hA2.mka hn1 c.nodes hn1
 have hk3:RV VI (w2.alloc (ob86 c.nodes)) o3 (.slice kA c.nodes kc) known:=hkv.step hE3 (Chg.alloc (λ_=>False) w2 _) (λ_ _ e=>e)
 have H3:=qQ (And.intro hA3 (And.intro hO3 hk3))
 have HS2:=qQ hs2
 have HKN:=qQ hkn
 have hwl:w1.heap.size≤w2.heap.size:=hA2.chg.size
 clear HDR hA2 hs2 hkv hkl hkn hA3 hE3 hO3 hk3
 go_wp2_with fail
 generalize w2.alloc (ob86 c.nodes)=w3 at *
 obtain⟨ag,hag⟩:=qZ w2.heap.size
 rw[←hag] at H3 hwl ⊢
 have HAG:=qQ hwl
 clear hag hwl c9 c9b
 go_loopw [35] (λi wr=>∃(q:Nat),q≤c.nodes∧i= .int .i64 q∧∃o',WAt w1 o c W (iter (jT c asn) q (slotA d c x)) asn wr o' r2∧Ao wr o' (.slice (some ⟨ag,0,none⟩) c.nodes c.nodes) (iter (jT c asn) q (slotA d c x)).air∧RV VI wr o' (.slice kA c.nodes kc) known) (λi _=>c.nodes-(intOf i).toNat)
 case atStart=>exact⟨0,by omega,rfl,o3,H3.out.1.cong rfl rfl rfl,H3.out.2.1,H3.out.2.2⟩
 case round=>
  obtain⟨q,hq,rfl,o4,hA,hO,hK⟩:=hrel
  obtain⟨X,hX⟩:=qZ (iter (jT c asn) q (slotA d c x))
  rw[←hX] at hA hO
  have hal:X.air.length=c.nodes:=by rw[hX,(planF_len c asn (slotA d c x) q).1];unfold slotA;simp
  by_cases hlt:q<c.nodes
  ·obtain⟨b,nr,hbs,hN⟩:=hA.get q hlt
   obtain⟨g2,cap2,hg2,hrc⟩:=hA.rowval (by omega)
   have hbc:=hrc q b hbs
   rw[HS2.out.1,HLC.out.1] at hg2
   cases hg2
   have i1:(q:Int)<(c.nodes:Int):=by omega
   have hpo:=HOK.out.plan q hlt
   rw[←hX] at hpo
   have HPL:=qQ (nplan_all hc hN asn ha.1 (by omega) hpo)
   have c10:wr.cell? ⟨W,10,none⟩=some (.int .i64 asn):=hA.cell 10
   have HNX:=qQ (show iter (jT c asn) (q+1) (slotA d c x)=jT c asn q X from by rw[hX];rfl)
   have HPO:=qQ hpo
   have HQ:=qQ (And.intro hA (And.intro hO (And.intro hK (And.intro hbs hal))))
   unfold VP at hbc
   clear hX hA hO hK hbs hN hrc hpo hal
   go_wp2_with fail
   with_reducible refine HPL.out.mono ?_
   rintro en5 w4 ⟨v4,o5,nr5,rfl,hN5,bv,rfl,hbo⟩
   obtain⟨⟨bA,bcp,hbe,_⟩,_⟩:=id hbo
   obtain⟨P,hP⟩:=qZ (jK c q (X.nd q) asn)
   have hpb:=planN_bs c q (X.nd q) asn
   rw[←hP] at hN5 hbo hbe hpb
   obtain⟨bl,hbl⟩:∃n,n=P.2.2.length:=⟨_,rfl⟩
   rw[←hbl] at hbe
   subst hbe
   have HOF:=qQ (noff_any hN5 (by rw[hpb.1];exact HPO.out.base) (by rw[hpb.2];exact HPO.out.sum))
   obtain⟨of,hof⟩:∃z,z=offN P.1:=⟨_,rfl⟩
   rw[←hof] at HOF
   obtain⟨ch,hch⟩:∃z,z=P.2.1:=⟨_,rfl⟩
   rw[←hP,←hch]
   have HP:=qQ (And.intro hP (And.intro hof hch))
   have HN5:=qQ (And.intro hN5 hbo)
   clear hP hpb hbl hof hch hN5 hbo HPL c10 HPO
   go_wp2_with fail
   with_reducible refine HOF.out.mono ?_
   rintro en6 w5 ⟨rfl,hG5⟩
   have hA5:=(HQ.out.1.node hn1 hlt HQ.out.2.2.2.1 HN5.out.1).kept hn1 hG5
   have hO5:=(HQ.out.2.1.step HN5.out.1.ext HN5.out.1.chg (off_nd q (by omega) 5 (by omega))).step (Ext.refl _ _) hG5 (λ_ _ e=>e)
   have hK5:=(HQ.out.2.2.1.step HN5.out.1.ext HN5.out.1.chg (λk hk hs=>by obtain⟨j,_,hs⟩:=hs;rw[hk] at hs;exact qf q j hs.symm)).step (Ext.refl _ _) hG5 (λ_ _ e=>e)
   have hbo5:=HN5.out.2.keep hG5 (λ_ _ e=>e)
   have hset:=hA5.seta hn1 hO5 HAG.out q (by rw[HQ.out.2.2.2.2];exact hlt) ch of P.2.2 (.slice bA bl bcp) hbo5
   obtain⟨ag2,acap2,ae2,haa⟩:=hO5.val (by rw[HQ.out.2.2.2.2];omega)
   rw[HQ.out.2.2.2.2] at ae2 haa
   cases ae2
   obtain⟨zA,zc,z0,z1,z2,_⟩:=haa q hlt
   have f0:=hO5.fr (q*3)
   have f1:=hO5.fr (q*3+1)
   have f2:=hO5.fr (q*3+2)
   obtain⟨zn,hzn⟩:∃n,n=(X.air.getD q (0,[],0)).2.1.length:=⟨_,rfl⟩
   rw[←hzn] at z1
   have HSET:=qQ (And.intro hset hK5)
   clear hA5 hO5 hK5 hbo5 hset haa hzn hG5 HOF HN5
   go_wp2_with fail
   go_roundw
   case measure=>simp[intOf];omega
   case rel=>
    obtain⟨⟨s1,s2,s3,s4⟩,s5⟩:=HSET.out
    obtain⟨p1,p2,p3⟩:=HP.out
    refine⟨q+1,by omega,by go_num,o5,?_,?_,s5.step (Ext.refl _ _) s3 (λk hk e=>by subst e;rw[s4] at hk;exact qf 16 5 hk)⟩
    ·rw[HNX.out]
     exact s1.cong (by unfold jT WM.put;rw[←p1]) rfl rfl
    ·rw[HNX.out]
     have e:(jT c asn q X).air=X.air.set q (ch,P.2.2,of):=by unfold jT;rw[←p1,p2,p3]
     rw[e]
     exact s2
  ·obtain rfl:q=c.nodes:=by omega
   have hX2:X=zp c d c.nodes asn x:=hX
   have hS1:So w1 o d (.slice dA dn dc) (.slice lA ln lc) (.slice aA an acp) (.slice eA en ec) (.slice xA xn xc):=HSO.out.step (Ext.refl _ _) HA.out.2 (λ_ _ e=>e)
   have hhr:=whearV_any (d:=d) hc (WAt.start hA.wd hA.z) ⟨ha.1,by omega⟩ k i' t (hA.so hS1) (.slice (some ⟨ag,0,none⟩) c.nodes c.nodes) (.slice kA c.nodes kc) known hO hal ⟨hK,by rw[HKN.out];exact HOK.out.known⟩ (by rw[hX2];exact HOK.out.off)
    (by rw[hX2,HKN.out,HS2.out.2.2.2.2.2];exact HOK.out.hear) (by rw[hX2,HKN.out,HS2.out.2.2.2.2.2];exact HOK.out.hev)
   rw[HS2.out.2.2.2.2.2] at hhr
   unfold VP stpV at hhr
   have HHR:=qQ hhr
   obtain⟨Y,hY⟩:=qZ (iter (qj c d known asn r.ij) c.nodes {X with back:=List.replicate c.nodes none})
   rw[←hY] at HHR
   have HY3:=qQ (show Y=zW c d c.nodes asn r.ij x from by rw[hY,HKN.out,hX2];rfl)
   have hYa:Y.air=X.air∧Y.back.length=c.nodes:=by
    obtain⟨h1,h2⟩:=iterV_air c d known asn r.ij {X with back:=List.replicate c.nodes none} c.nodes
    rw[hY,h1,h2];exact⟨rfl,by simp⟩
   have HYA:=qQ (And.intro hYa.1 (And.intro hYa.2 hal))
   have hbx:=Chg.keep hA.chg HB.out.1 (λe=>e.1 HB.out.2)
   obtain⟨d0,d1,d2,d3,d4,d5,d6,d7⟩:=cell8 hbx
   have HQ:=qQ (And.intro hA (And.intro hO hK))
   have HS1:=qQ hS1
   clear hX hX2 hY hYa hA hO hK hal hhr hbx H3 hq hlt hS1
   go_wp2_with fail
   with_reducible refine HHR.out.mono ?_
   rintro en5 w5 ⟨bkv,o5,r5,rfl,hA5,hs5,hbk5⟩
   have hA15:=HQ.out.1.trans hA5
   have hO5:=hA5.air HQ.out.2.1
   have hK5:=HQ.out.2.2.step hA5.ext hA5.chg (λk hk hs=>hs.1 hk)
   have hs25:=HS2.out.trans hs5
   obtain⟨bg,bcap,hbe,hbat⟩:=hbk5.val (by rw[HYA.out.2.1];omega)
   rw[HYA.out.2.1] at hbe
   subst hbe
   have hb5:=Chg.keep hA15.chg HB.out.1 (λe=>e.1 HB.out.2)
   have hz5:o5 sb=0:=by rw[hA15.ext sb (qX HB.out.1)];exact HB.out.2
   have c9:w5.cell? ⟨W,9,none⟩=some (.slice (some ⟨lg,0,none⟩) c.nodes lcap):=by rw[←HLC.out.1,←hs25.1];exact hA5.cell 9
   have H5:=qQ (And.intro hA15 (And.intro (HYA.out.1▸hO5) (And.intro hK5 (And.intro hbk5 (And.intro hb5 hz5)))))
   have HS5:=qQ hs25
   have HSO5:=qQ (hA15.so HS1.out)
   clear hA5 hs5 hbk5 hA15 hO5 hK5 hs25 hbat hb5 hz5 d0 d1 d2 d3 d4 d5 d6 d7 HHR HQ
   go_wp2_with fail
   clear c9
   go_loopw [68] (λi wr=>∃(q:Nat),q≤c.nodes∧i= .int .i64 q∧∃o' r',WAt w5 o5 c W (iter (ackV c d known asn) q Y) asn wr o' r'∧r.same r') (λi _=>c.nodes-(intOf i).toNat)
   case atStart=>exact⟨0,by omega,rfl,o5,r5,WAt.start H5.out.1.wd H5.out.1.z,HS5.out⟩
   case round=>
    obtain⟨q,hq,rfl,o6,r6,hA,hs6⟩:=hrel
    obtain⟨Q,hQ⟩:=qZ (iter (ackV c d known asn) q Y)
    rw[←hQ] at hA
    by_cases hlt:q<c.nodes
    ·obtain⟨b,nr,hbs,hN⟩:=hA.get q hlt
     obtain⟨g2,cap2,hg2,hrc⟩:=hA.rowval (by omega)
     have hbc:=hrc q b hbs
     rw[hs6.1,HLC.out.1] at hg2
     cases hg2
     have i1:(q:Int)<(c.nodes:Int):=by omega
     have hQa:Q.air=Y.air∧Q.back=Y.back:=by rw[hQ];exact ackV_air c d known asn Y q
     have hYl:Y.air.length=c.nodes:=by rw[HYA.out.1];exact HYA.out.2.2
     have hO6:=hA.air H5.out.2.1
     obtain⟨ag2,acap2,ae2,haa⟩:=hO6.val (by rw[hYl];omega)
     rw[hYl] at ae2 haa
     cases ae2
     obtain⟨jA,jc,z0,z1,z2,hjb⟩:=haa q hlt
     obtain⟨L,hL⟩:=qZ ((Y.air.getD q (0,[],0)).2.1)
     rw[←hL] at z1 hjb
     obtain⟨jn,hjn⟩:∃n,n=L.length:=⟨_,rfl⟩
     rw[←hjn] at z1 hjb
     have hYs:∀j,Y.snd j=Q.snd j:=λj=>by unfold WM.snd;rw[hQa.1]
     have hLY:L=(Y.snd q).2.1:=hL
     have hemp:(Y.snd q).2.1.isEmpty=decide (jn=0):=by
      rw[←hLY,hjn]
      cases L <;> simp
     have HNX:=qQ (show iter (ackV c d known asn) (q+1) Y=ackV c d known asn q Q from by rw[hQ];rfl)
     have HEQ:=qQ (show Q.ev.length≤100000 from by rw[hQ,HKN.out,HY3.out];exact HOK.out.aev q (by omega))
     by_cases h0:jn=0
     ·have t0:decide (0<(jn:Int))=false:=by simp;omega
      have t00:¬0<jn:=by omega
      have HSK:=qQ (show ackV c d known asn q Q=Q from by
       unfold ackV;rw[←hYs,hemp,if_pos (by simp[h0])])
      have HQ:=qQ (And.intro hA hs6)
      unfold VP at hbc
      clear hQ hA hs6 hN hrc hO6 haa hjb hL hjn hYs hLY hemp h0 hQa hYl z0 z2
      go_wp2_with fail
      go_roundw
      case measure=>simp[intOf];omega
      case rel=>
       refine⟨q+1,by omega,by go_num,o6,r6,?_,HQ.out.2⟩
       rw[HNX.out,HSK.out];exact HQ.out.1
     ·have t0:decide (0<(jn:Int))=true:=by simp;omega
      have t00:0<jn:=by omega
      have hne:(Y.snd q).2.1.isEmpty=false:=by rw[hemp];simp[h0]
      obtain⟨hll,hko⟩:=HOK.out.ack q hlt (by rw[←HY3.out];exact hne)
      rw[←HKN.out,←HY3.out,←hQ] at hko
      rw[←HY3.out,←hLY] at hll
      obtain⟨a,haw⟩:=qZ (jk c d Q q)
      rw[←haw] at hko
      have HSK:=qQ (show ackV c d known asn q Q=WM.tells c known (Q.put q (noEv (vJ q (Q.nd q) (a.getD []) asn))) (vJ q (Q.nd q) (a.getD []) asn).ev from by
       unfold ackV;rw[←hYs,hne,if_neg (by simp),haw])
      have hbk6:=hA.bck H5.out.2.2.2.1
      have hans:=wanswer_any (d:=d) hc (hA.kept hn1 (Chg.drew _ wr)) k i' t ((hA.so HSO5.out).step (Ext.refl _ _) (Chg.drew (λ_=>False) wr) (λ_ _ e=>e)) (.slice jA jn jc) (.slice (some ⟨bg,0,none⟩) c.nodes bcap) L (hjb.keep (Chg.drew (λ_=>False) wr) (λ_ _ e=>e)) hll q hlt (by rw[←hYs,hLY])
       (by rw[hQa.2];exact hbk6.step (Ext.refl _ _) (Chg.drew (λ_=>False) wr) (λ_ _ e=>e)) (by rw[hQa.2];exact HYA.out.2.1)
      rw[←haw] at hans
      unfold VP stpV at hans
      have HAN:=qQ hans
      have HAK:=qQ (show∀wy yv,AV a yv wy o6→Chg (λ_=>False) wr.drew wy→Calls Tryz.prog 36 #[.pointer (some ⟨b,0,none⟩),.int .i64 asn,yv,.int .i64 0] wy (PN wy o6 c q b (noEv (vJ q (Q.nd q) (a.getD []) asn)) (λv w' o'=>Eo w' o' (cl q 9) v (vJ q (Q.nd q) (a.getD []) asn).ev)) from λwy yv hy g=>by
       have hNy:=hN.kept ((Chg.drew (λ_=>False) wr).trans g)
       refine nackV_all hc (NAt.start hNy.nd hNy.z) hlt asn 0 yv (a.getD []) ?_ hko ha.1
       cases a with
       |none=>have hy:yv= .slice none 0 0:=hy;rw[hy];exact BO.nil _ _
       |some l=>exact hy)
      have HEVP:=qQ (ackV_evp hko)
      obtain⟨A,hA'⟩:∃A,A=vJ q (Q.nd q) (a.getD []) asn:=⟨_,rfl⟩
      rw[←hA'] at HSK HAK HEVP
      have HTT:=qQ (show∀wz oz ev,WAt w5 o5 c W (Q.put q (noEv A)) asn wz oz r6→Eo wz oz (cl q 9) ev A.ev→Calls Tryz.prog 35 #[.pointer (some ⟨W,0,none⟩),ev,.slice kA c.nodes kc] wz (PW wz oz c W (WM.tells c known (Q.put q (noEv A)) A.ev) asn r6 (λv _ _=>v= .tuple #[])) from λwz oz ev hz hE=>
       wtells_any hc (WAt.start hz.wd hz.z) ev A.ev (cl q 9) hE ⟨by unfold cl;omega,by unfold cl;omega,by unfold cl;omega⟩ (.slice kA c.nodes kc) known
        (.inl ⟨H5.out.2.2.1.step hz.ext hz.chg (λk hk hs=>hs.1 hk),by rw[HKN.out];exact HOK.out.known⟩) (λe he=>by
         obtain⟨p1,p2⟩:=HEVP.out.1 e he
         exact⟨λh=>by have:=p1 h;omega,λh=>p2 h⟩) (by have:=HEVP.out.2;omega) HEQ.out)
      have hcag:w5.cell? ⟨ag,q*3+1,none⟩=some (.slice jA jn jc):=by
       have hlt5:ag<w5.heap.size:=by
        obtain⟨g5,c5,e5,h5⟩:=H5.out.2.1.val (by rw[hYl];omega)
        rw[hYl] at e5 h5
        cases e5
        obtain⟨_,_,q0,_⟩:=h5 q hlt
        exact qP q0
       have hb:=hA.chg.block ag hlt5 (λe=>WdS.off 5 (by omega) ag (.inr (by obtain⟨_,_,h2,_⟩:=H5.out.2.1;exact h2 ag rfl)) e)
       unfold World.cell? at z1 ⊢
       rw[←hb];exact z1
      have HSW:=qQ (show∀W5 o' r' X5,WAt w5 o5 c W X5 asn W5 o' r'→((λW'=>W'.cell? ⟨W,10,none⟩=some (.int .i64 asn)∧W'.cell? ⟨ag,q*3+1,none⟩=some (.slice jA jn jc)∧W'.cell? ⟨sb,0,none⟩=some (.int .i64 k)∧W'.cell? ⟨sb,1,none⟩=some (.int .i64 i')∧W'.cell? ⟨sb,2,none⟩=some (.int .i64 t)∧W'.cell? ⟨sb,3,none⟩=some (.slice dA dn dc)∧W'.cell? ⟨sb,4,none⟩=some (.slice lA ln lc)∧W'.cell? ⟨sb,5,none⟩=some (.slice aA an acp)∧W'.cell? ⟨sb,6,none⟩=some (.slice eA en ec)∧W'.cell? ⟨sb,7,none⟩=some (.slice xA xn xc)):World→Prop) W5 from λW5 o' r' X5 h5=>by
       obtain⟨y0,y1,y2,y3,y4,y5,y6,y7⟩:=cell8 (Chg.keep h5.chg H5.out.2.2.2.2.1 (λe=>e.1 H5.out.2.2.2.2.2))
       refine⟨h5.cell 10,?_,y0,y1,y2,y3,y4,y5,y6,y7⟩
       rw[h5.chg.cell (qP hcag) (λe=>WdS.off 5 (by omega) ag (.inr (by obtain⟨_,_,h2,_⟩:=H5.out.2.1;exact h2 ag rfl)) e),hcag])
      have HQ:=qQ (And.intro (hA.kept hn1 (Chg.drew _ wr)) (And.intro hs6 hbs))
      have HQ0:=qQ hA
      unfold VP at hbc
      clear hQ hs6 hN hrc hO6 haa hjb hL hjn hYs hLY hemp h0 hQa hYl z0 z2 hne hll hko haw hbk6 hans hA' hcag
      clear hA
      go_wp2_with fail
      have s0:=HSW.out _ _ _ _ HQ.out.1
      go_region_held3 (λW'=>W'.cell? ⟨W,10,none⟩=some (.int .i64 asn)∧W'.cell? ⟨ag,q*3+1,none⟩=some (.slice jA jn jc)∧W'.cell? ⟨sb,0,none⟩=some (.int .i64 k)∧W'.cell? ⟨sb,1,none⟩=some (.int .i64 i')∧W'.cell? ⟨sb,2,none⟩=some (.int .i64 t)∧W'.cell? ⟨sb,3,none⟩=some (.slice dA dn dc)∧W'.cell? ⟨sb,4,none⟩=some (.slice lA ln lc)∧W'.cell? ⟨sb,5,none⟩=some (.slice aA an acp)∧W'.cell? ⟨sb,6,none⟩=some (.slice eA en ec)∧W'.cell? ⟨sb,7,none⟩=some (.slice xA xn xc))
       (first|exact HSW.out _ _ _ _ HQ.out.1|exact HS7.out|exact HS8.out|exact HS9.out)
       (first
       |(go_at_call 37;refine HAN.out.mono ?_;rintro en1 wy ⟨yv,rfl,hay,gy⟩
         obtain⟨yA,yn,yc,rfl⟩:=hay.shape
         have HY7:=qQ (And.intro hay gy)
         have HS7:=qQ (HSW.out _ _ _ _ (HQ.out.1.kept hn1 gy))
         clear hay gy)
       |(go_at_call 36;refine (HAK.out _ _ HY7.out.1 HY7.out.2).mono ?_;rintro en1 wz ⟨ev,oz,nrz,rfl,hNz,hEz⟩
         have hAz:=(HQ.out.1.kept hn1 HY7.out.2).node hn1 hlt HQ.out.2.2 hNz
         have HZ7:=qQ (And.intro hAz hEz)
         have HS8:=qQ (HSW.out _ _ _ _ hAz)
         clear hAz hEz hNz)
       |(go_at_call 35;refine (HTT.out _ _ _ HZ7.out.1 HZ7.out.2).mono ?_;rintro en1 wt ⟨v6,o7,r7,rfl,hA7,hs7,rfl⟩
         have HT7:=qQ (And.intro (HZ7.out.1.trans hA7) hs7)
         have HS9:=qQ (HSW.out _ _ _ _ HT7.out.1)
         clear hA7 hs7))
      all_goals
       go_wp2_with fail
       go_roundw
       case measure=>simp[intOf];omega
       case rel=>
        refine⟨q+1,by omega,by go_num,o7,r7,?_,HQ.out.2.1.trans HT7.out.2⟩
        rw[HNX.out,HSK.out];exact HT7.out.1
    ·obtain rfl:q=c.nodes:=by omega
     have hQ4:Q=vY c d c.nodes asn r.ij x:=by rw[hQ,HKN.out,HY3.out];rfl
     have HQ4:=qQ hQ4
     have c9:wr.cell? ⟨W,9,none⟩=some (.slice (some ⟨lg,0,none⟩) c.nodes lcap):=by rw[←HLC.out.1,←hs6.1];exact hA.cell 9
     have HQ:=qQ (And.intro hA hs6)
     clear hQ hQ4 hA hs6 hq hlt
     go_wp2_with fail
     clear c9
     go_loopw [105] (λi wr=>∃(q:Nat),q≤c.nodes∧i= .int .i64 q∧∃o' r',WAt w5 o5 c W (iter (endV c known asn) q Q) asn wr o' r'∧r.same r') (λi _=>c.nodes-(intOf i).toNat)
     case atStart=>exact⟨0,by omega,rfl,o6,r6,HQ.out.1,HQ.out.2⟩
     case round=>
      obtain⟨q,hq,rfl,o7,r7,hA,hs7⟩:=hrel
      obtain⟨E,hE⟩:=qZ (iter (endV c known asn) q Q)
      rw[←hE] at hA
      by_cases hlt:q<c.nodes
      ·obtain⟨b,nr,hbs,hN⟩:=hA.get q hlt
       obtain⟨g2,cap2,hg2,hrc⟩:=hA.rowval (by omega)
       have hbc:=hrc q b hbs
       rw[hs7.1,HLC.out.1] at hg2
       cases hg2
       have i1:(q:Int)<(c.nodes:Int):=by omega
       have hko:=HOK.out.fin q hlt
       rw[←HKN.out,←HQ4.out,←hE] at hko
       have HNX:=qQ (show iter (endV c known asn) (q+1) Q=WM.tells c known (E.put q (noEv (jx c q (E.nd q) asn))) (jx c q (E.nd q) asn).ev from by rw[hE];rfl)
       have HEQ:=qQ (show E.ev.length≤100000 from by rw[hE,HKN.out,HQ4.out];exact HOK.out.eev q (by omega))
       have HEN:=qQ (nendV_all hc hN hlt asn ha.1 (by omega) hko)
       have HEVP:=qQ (endV_evp (c:=c) hko)
       obtain⟨A,hA'⟩:∃A,A=jx c q (E.nd q) asn:=⟨_,rfl⟩
       rw[←hA'] at HNX HEN HEVP
       have HTT:=qQ (show∀wz oz ev,WAt w5 o5 c W (E.put q (noEv A)) asn wz oz r7→Eo wz oz (cl q 9) ev A.ev→Calls Tryz.prog 35 #[.pointer (some ⟨W,0,none⟩),ev,.slice kA c.nodes kc] wz (PW wz oz c W (WM.tells c known (E.put q (noEv A)) A.ev) asn r7 (λv _ _=>v= .tuple #[])) from λwz oz ev hz hE=>
        wtells_any hc (WAt.start hz.wd hz.z) ev A.ev (cl q 9) hE ⟨by unfold cl;omega,by unfold cl;omega,by unfold cl;omega⟩ (.slice kA c.nodes kc) known
         (.inl ⟨H5.out.2.2.1.step hz.ext hz.chg (λk hk hs=>hs.1 hk),by rw[HKN.out];exact HOK.out.known⟩) (λe he=>by
          obtain⟨p1,p2⟩:=HEVP.out.1 e he
          exact⟨λh=>by have:=p1 h;omega,λh=>p2 h⟩) (by have:=HEVP.out.2;omega) HEQ.out)
       have c10:wr.cell? ⟨W,10,none⟩=some (.int .i64 asn):=hA.cell 10
       have HR:=qQ (And.intro hA (And.intro hs7 hbs))
       unfold VP at hbc
       clear hE hA hs7 hbs hN hrc hko hA'
       go_wp2_with fail
       with_reducible refine HEN.out.mono ?_
       rintro en8 w8 ⟨ev,o8,nr8,rfl,hN8,hE8⟩
       have hA8:=HR.out.1.node hn1 hlt HR.out.2.2 hN8
       have HT8:=qQ (HTT.out _ _ _ hA8 hE8)
       have HA8:=qQ hA8
       clear hA8 hE8 hN8 HEN HTT c10
       go_wp2_with fail
       with_reducible refine HT8.out.mono ?_
       rintro en9 w9 ⟨v9,o9,r9,rfl,hA9,hs9,rfl⟩
       have HA9:=qQ (And.intro (HA8.out.trans hA9) hs9)
       clear hA9 hs9 HT8
       go_wp2_with fail
       go_roundw
       case measure=>simp[intOf];omega
       case rel=>
        refine⟨q+1,by omega,by go_num,o9,r9,?_,HR.out.2.1.trans HA9.out.2⟩
        rw[HNX.out];exact HA9.out.1
      ·obtain rfl:q=c.nodes:=by omega
       have hE5:E=qp c d c.nodes asn r.ij x:=by rw[hE,HKN.out,HQ4.out];rfl
       have hAT:=HA.out.1.trans (H5.out.1.trans hA)
       rw[hE5] at hAT
       have c10:wr.cell? ⟨W,10,none⟩=some (.int .i64 asn):=hAT.cell 10
       have f10:=hAT.f 10
       have e1:IntKind.i64.wrap (asn+1)=asn+1:=IntWalk.i64_in _ (by omega)
       have hAa:=hAT.aset hn1 (asn+1)
       have c12:wr.cell? ⟨W,12,none⟩=some (.map (some r7.inj)):=hAT.cell 12
       have f12:=hAT.f 12
       obtain⟨o9,hI⟩:=hAa.iset hn1
       have HI:=qQ (And.intro hI hs7)
       have hmm:=@run_makeMap Tryz.prog
       have hszs:(wr.setCell ⟨W,10,none⟩ (.int .i64 (asn+1))).heap.size=wr.heap.size:=by simp[World.setCell]
       have hWl:W<wr.heap.size:=qP c10
       have hWn:¬W=wr.heap.size:=by omega
       have hWn2:¬wr.heap.size=W:=by omega
       clear hE hE5 hA hAT hAa hI hs7 hq hlt
       go_wp2_with fail
       go_ret
       have hI:=HI.out.1
       rw[hszs,World.setCell_alloc_past (w:=wr.setCell ⟨W,10,none⟩ (.int .i64 (asn+1))) (.map #[] 0) W 12 (.map (some wr.heap.size)) (by rw[hszs];exact hWl)] at hI
       exact⟨o9,_,rfl,hI,HI.out.2.1,HI.out.2.2.1,rfl⟩
end
def cfgB(c:Cfg)(nv hv:Value):Obj:= .cells #[.int .i64 c.nodes,nv,hv,.int .i64 c.guard,.int .i64 c.err,.int .i64 c.keep,.int .i64 c.loss,.int .i64 c.queue,.int .i64 c.life] 26
theorem kW{w:World}{b:Nat}{t:TypeId}{v0 v1 v2 v3 v4 v5 v6 v7 v8:Value}(h:w.heap[b]? =some (.cells #[v0,v1,v2,v3,v4,v5,v6,v7,v8] t (0,0))):
  w.cell? ⟨b,0,none⟩=some v0∧w.cell? ⟨b,1,none⟩=some v1∧w.cell? ⟨b,2,none⟩=some v2∧w.cell? ⟨b,3,none⟩=some v3∧w.cell? ⟨b,4,none⟩=some v4∧w.cell? ⟨b,5,none⟩=some v5∧w.cell? ⟨b,6,none⟩=some v6∧w.cell? ⟨b,7,none⟩=some v7∧w.cell? ⟨b,8,none⟩=some v8:=by
 refine⟨?_,?_,?_,?_,?_,?_,?_,?_,?_⟩ <;> rw[qJ h] <;> rfl
theorem nin_yes(n a b:Int)(h1:a≤n)(h2:n≤b)(w:World):Calls Tryz.prog 48 #[.int .i64 n,.int .i64 a,.int .i64 b] w λe w'=>e= .returned (.bool true)∧w'=w:=by
 have:=nin_any n a b w
 rw[jG h1 h2] at this
 exact this
section
variable {w0 w w':World}{o0 o o':Cls}{c:Cfg}
theorem nmay_any(hc:CfgOk c)(nv hv:Value)(hn:RV VU w o nv c.near)(hh:RV VI w o hv c.hops):Calls Tryz.prog 27 #[cfgV c nv hv] w (PV (.bool true) w):=by
 obtain⟨nA,ncap,rfl,hnr,_⟩:=hn
 obtain⟨hA,hcap,rfl,hhr,hh0,hh1,hh2⟩:=hh
 have hnl:=hc.near
 rw[hnl] at hnr ⊢
 obtain⟨hl,hhl⟩:∃n,n=c.hops.length:=⟨_,rfl⟩
 have ga:=Chg.alloc (λ_=>False) w (cfgB c (.slice nA c.nodes ncap) (.slice hA hl hcap))
 have hb:=qV w (cfgB c (.slice nA c.nodes ncap) (.slice hA hl hcap))
 unfold cfgB at hb ga
 have HM:=qQ (hopmay_any _ hA c.hops.length hcap c.hops ((hhr.keep ga (λ_ _ e=>e)).rs) hh1 hh2 hc.hops)
 rw[←hhl] at HM ⊢
 obtain⟨d0,d1,d2,d3,d4,d5,d6,d7,d8⟩:=kW hb
 have HG:=qQ ga
 have HB:=qQ hb
 have HN:=qQ (hnr.keep ga (λ_ _ e=>e))
 have HC:=qQ hc
 have hn0:=hc.n0
 have hn1:=hc.n1
 have I1:=qQ (λW=>nin_yes c.nodes 2 16 (by omega) (by omega) W)
 have I2:=qQ (λW=>nin_yes c.guard 1 4000 hc.g.1 hc.g.2 W)
 have I3:=qQ (λW=>nin_yes c.err 0 1000 hc.e.1 hc.e.2 W)
 have I4:=qQ (λW=>nin_yes c.keep 1 10000 hc.k.1 hc.k.2 W)
 have I5:=qQ (λW=>nin_yes c.loss 1 10000 (by have:=hc.l.1;omega) hc.l.2 W)
 have I6:=qQ (λW=>nin_yes c.queue 1 32 hc.q.1 hc.q.2 W)
 have I7:=qQ (λW=>nin_yes c.life 1 15 hc.f.1 hc.f.2 W)
 unfold cfgV
 have b1:((c.nodes:Int) != (c.nodes:Int))=false:=by simp
 clear hnr hhr hhl ga hb hc hnl
 go_enter Tryz.func27,Tryz.ntmps27
 go_wp2_with fail
 (with_reducible refine (I1.out _).mono ?_)
 rintro en w1 ⟨rfl,rfl⟩
 go_wp2_with fail
 with_reducible refine HM.out.mono ?_
 rintro en w1 ⟨rfl,hG⟩
 have hb1:=Chg.keep hG HB.out (λe=>e)
 have HG1:=qQ (HG.out.trans hG)
 have HN1:=qQ (HN.out.keep hG (λ_ _ e=>e))
 obtain⟨fb,hfb⟩:∃x,x=w.heap.size:=⟨_,rfl⟩
 rw[←hfb] at hb1 ⊢
 clear d0 d1 d2 d3 d4 d5 d6 d7 d8 hG HB HN HG hfb HM
 obtain⟨d0,d1,d2,d3,d4,d5,d6,d7,d8⟩:=kW hb1
 clear hb1
 go_wp2_with fail
 go_loopw [26] (λi wr=>∃(k:Nat),k≤c.nodes∧i= .int .i64 k∧wr=w1) (λi _=>c.nodes-(intOf i).toNat)
 case atStart=>exact⟨0,by omega,rfl,rfl⟩
 case round=>
  obtain⟨k,hk,rfl,rfl⟩:=hrel
  by_cases hlt:k<c.nodes
  ·obtain⟨p,z,rfl,hz,hcell⟩:=HN1.out.at hlt
   obtain⟨z0,z1,z2,z3⟩:=HC.out.nearb k z hz
   have i1:(k:Int)<(c.nodes:Int):=by omega
   unfold VU at hcell
   have hd0:0≤z / 2^k:=Int.ediv_nonneg z0 (Int.le_of_lt (Int.pow_pos (by omega)))
   have hd1:z / 2^k≤z:=Int.ediv_le_self _ z0
   have a1:bits BinOp.and IntKind.u64 (z / 2^k) 1=0:=by rw[and_one_u64 _ hd0 (by omega)];exact z3
   have a2:z / 2^c.nodes=0:=Int.ediv_eq_zero_of_lt z0 z2
   clear hz hd0 hd1 z2 z3
   go_wp2_with fail
   go_roundw
   case measure=>simp[intOf];omega
   case rel=>exact⟨k+1,by omega,by go_num,trivial⟩
  ·obtain rfl:k=c.nodes:=by omega
   go_wp2_with fail
   (with_reducible refine (I2.out _).mono ?_)
   rintro en w2 ⟨rfl,rfl⟩
   go_wp2_with fail
   (with_reducible refine (I3.out _).mono ?_)
   rintro en w2 ⟨rfl,rfl⟩
   go_wp2_with fail
   (with_reducible refine (I4.out _).mono ?_)
   rintro en w2 ⟨rfl,rfl⟩
   go_wp2_with fail
   (with_reducible refine (I5.out _).mono ?_)
   rintro en w2 ⟨rfl,rfl⟩
   go_wp2_with fail
   (with_reducible refine (I6.out _).mono ?_)
   rintro en w2 ⟨rfl,rfl⟩
   go_wp2_with fail
   (with_reducible refine (I7.out _).mono ?_)
   rintro en w2 ⟨rfl,rfl⟩
   go_wp2_with fail
   go_ret
   exact⟨rfl,HG1.out⟩
end
def newN(i:Nat):NSt:=⟨0,0,0,[],λ_=>none,λ_=>none,λ_=>none,0,-1,0,((i:Int)==0),none,none,0,λ_=>none,0,0,0,0,0,false,[]⟩
def ownN(o:Cls)(i b ck q u1 m1 u2 m2 u3 m3 pm:Nat):Cls:=λk=>
 if k=b then cl i 0 else if k=ck then cl i 1 else if k=q then cl i 2 else if k=u1 then cl i 3 else if k=m1 then cl i 3 else if k=u2 then cl i 4 else if k=m2 then cl i 4 else
 if k=u3 then cl i 5 else if k=m3 then cl i 5 else if k=pm then cl i 8 else o k
def newR(nv hv:Value)(ck q u1 u2 u3 pm:Nat):NR:=⟨nv,hv,ck,q,u1,u2,u3,.pointer none,.pointer none,pm,none,0,0,none,0,0,.slice none 0 0⟩
structure NodeB(w W:World)(b ck q u1 m1 u2 m2 u3 m3 pm:Nat):Prop where
 lo:∀k,k∈[b,ck,q,u1,m1,u2,m2,u3,m3,pm]→w.heap.size≤k∧k<W.heap.size
 nd:[b,ck,q,u1,m1,u2,m2,u3,m3,pm].Nodup
theorem Nd.made{w W:World}{o:Cls}{c:Cfg}{i b ck q u1 m1 u2 m2 u3 m3 pm:Nat}{nv hv:Value}(hz:Z w o)(hG:Chg (λ_=>False) w W)(hB:NodeB w W b ck q u1 m1 u2 m2 u3 m3 pm)
  (hn:RV VU w o nv c.near) (hh:RV VI w o hv c.hops) (h1:Ck W ck 0 0 0) (h2:Qb W q c.queue (.slice none 0 0) 0 []) (h3:Wk W u1 m1 (λ_=>none)) (h4:Wk W u2 m2 (λ_=>none)) (h5:Wk W u3 m3 (λ_=>none)) (h6:Mp W pm (λ_=>none))
  (hb:W.heap[b]? =some (.cells (vt c i (newR nv hv ck q u1 u2 u3 pm) (newN i)) 75 (0,0))):
  Ext w o (ownN o i b ck q u1 m1 u2 m2 u3 m3 pm)∧Z W (ownN o i b ck q u1 m1 u2 m2 u3 m3 pm)∧Nd W (ownN o i b ck q u1 m1 u2 m2 u3 m3 pm) c i b (newR nv hv ck q u1 u2 u3 pm) (newN i):=by
 have hlo:=hB.lo
 simp only[List.mem_cons,List.not_mem_nil,or_false,forall_eq_or_imp,forall_eq] at hlo
 obtain⟨l0,l1,l2,l3,l4,l5,l6,l7,l8,l9⟩:=hlo
 have hE:Ext w o (ownN o i b ck q u1 m1 u2 m2 u3 m3 pm):=λk hk=>by
  unfold ownN
  rw[if_neg (by omega),if_neg (by omega),if_neg (by omega),if_neg (by omega),if_neg (by omega),if_neg (by omega),if_neg (by omega),if_neg (by omega),if_neg (by omega),if_neg (by omega)]
 have hZ:Z W (ownN o i b ck q u1 m1 u2 m2 u3 m3 pm):=λk hk=>by
  unfold ownN
  rw[if_neg (by omega),if_neg (by omega),if_neg (by omega),if_neg (by omega),if_neg (by omega),if_neg (by omega),if_neg (by omega),if_neg (by omega),if_neg (by omega),if_neg (by omega)]
  exact hz k (by have:=hG.size;omega)
 have hnd:=hB.nd
 simp only[List.nodup_cons,List.mem_cons,List.not_mem_nil,or_false,not_or,List.nodup_nil,and_true] at hnd
 obtain⟨⟨a1,a2,a3,a4,a5,a6,a7,a8,a9⟩,⟨b2,b3,b4,b5,b6,b7,b8,b9⟩,⟨c3,c4,c5,c6,c7,c8,c9⟩,⟨d4,d5,d6,d7,d8,d9⟩,⟨e5,e6,e7,e8,e9⟩,⟨f6,f7,f8,f9⟩,⟨g7,g8,g9⟩,⟨i8,i9⟩,⟨j9,_⟩⟩:=hnd
 have v0:ownN o i b ck q u1 m1 u2 m2 u3 m3 pm b=cl i 0:=by unfold ownN;rw[if_pos rfl]
 have v1:ownN o i b ck q u1 m1 u2 m2 u3 m3 pm ck=cl i 1:=by unfold ownN;rw[if_neg (λe=>a1 e.symm),if_pos rfl]
 have v2:ownN o i b ck q u1 m1 u2 m2 u3 m3 pm q=cl i 2:=by unfold ownN;rw[if_neg (λe=>a2 e.symm),if_neg (λe=>b2 e.symm),if_pos rfl]
 have v3:ownN o i b ck q u1 m1 u2 m2 u3 m3 pm u1=cl i 3:=by unfold ownN;rw[if_neg (λe=>a3 e.symm),if_neg (λe=>b3 e.symm),if_neg (λe=>c3 e.symm),if_pos rfl]
 have v4:ownN o i b ck q u1 m1 u2 m2 u3 m3 pm m1=cl i 3:=by unfold ownN;rw[if_neg (λe=>a4 e.symm),if_neg (λe=>b4 e.symm),if_neg (λe=>c4 e.symm),if_neg (λe=>d4 e.symm),if_pos rfl]
 have v5:ownN o i b ck q u1 m1 u2 m2 u3 m3 pm u2=cl i 4:=by unfold ownN;rw[if_neg (λe=>a5 e.symm),if_neg (λe=>b5 e.symm),if_neg (λe=>c5 e.symm),if_neg (λe=>d5 e.symm),if_neg (λe=>e5 e.symm),if_pos rfl]
 have v6:ownN o i b ck q u1 m1 u2 m2 u3 m3 pm m2=cl i 4:=by unfold ownN;rw[if_neg (λe=>a6 e.symm),if_neg (λe=>b6 e.symm),if_neg (λe=>c6 e.symm),if_neg (λe=>d6 e.symm),if_neg (λe=>e6 e.symm),if_neg (λe=>f6 e.symm),if_pos rfl]
 have v7:ownN o i b ck q u1 m1 u2 m2 u3 m3 pm u3=cl i 5:=by unfold ownN;rw[if_neg (λe=>a7 e.symm),if_neg (λe=>b7 e.symm),if_neg (λe=>c7 e.symm),if_neg (λe=>d7 e.symm),if_neg (λe=>e7 e.symm),if_neg (λe=>f7 e.symm),if_neg (λe=>g7 e.symm),if_pos rfl]
 have v8:ownN o i b ck q u1 m1 u2 m2 u3 m3 pm m3=cl i 5:=by unfold ownN;rw[if_neg (λe=>a8 e.symm),if_neg (λe=>b8 e.symm),if_neg (λe=>c8 e.symm),if_neg (λe=>d8 e.symm),if_neg (λe=>e8 e.symm),if_neg (λe=>f8 e.symm),if_neg (λe=>g8 e.symm),if_neg (λe=>i8 e.symm),if_pos rfl]
 have v9:ownN o i b ck q u1 m1 u2 m2 u3 m3 pm pm=cl i 8:=by unfold ownN;rw[if_neg (λe=>a9 e.symm),if_neg (λe=>b9 e.symm),if_neg (λe=>c9 e.symm),if_neg (λe=>d9 e.symm),if_neg (λe=>e9 e.symm),if_neg (λe=>f9 e.symm),if_neg (λe=>g9 e.symm),if_neg (λe=>i9 e.symm),if_neg (λe=>j9 e.symm),if_pos rfl]
 have p1:=hn.step hE hG (λ_ _ e=>e)
 have p2:=hh.step hE hG (λ_ _ e=>e)
 generalize ownN o i b ck q u1 m1 u2 m2 u3 m3 pm=O at *
 clear l0 l1 l2 l3 l4 l5 l6 l7 l8 l9 a1 a2 a3 a4 a5 a6 a7 a8 a9 b2 b3 b4 b5 b6 b7 b8 b9 c3 c4 c5 c6 c7 c8 c9 d4 d5 d6 d7 d8 d9 e5 e6 e7 e8 e9 f6 f7 f8 f9 g7 g8 g9 i8 i9 j9
 have p3:Co W O (cl i 1) ck 0 0 0:=⟨h1,v1⟩
 have p4:Qo W O (cl i 2) q c.queue []:=Qo.of h2 v2 (by omega) (by omega) (λk hk=>by cases hk) (λp hp=>by cases hp)
 have p5:Wo W O (cl i 3) u1 (λ_=>none):=⟨m1,h3,v3,v4,Fine.none⟩
 have p6:Wo W O (cl i 4) u2 (λ_=>none):=⟨m2,h4,v5,v6,Fine.none⟩
 have p7:Wo W O (cl i 5) u3 (λ_=>none):=⟨m3,h5,v7,v8,Fine.none⟩
 have p8:Mo W O (cl i 8) pm (λ_=>none):=⟨_,h6,v9,λn=>rfl⟩
 exact⟨hE,hZ,⟨hb,v0,p1,p2,p3,p4,p5,p6,p7,rfl,rfl,p8,Eo.nil _ _ _⟩⟩
def PNode(w:World)(o:Cls)(c:Cfg)(i:Nat)(en:Ending)(w':World):Prop:=
 ∃b o' r,en= .returned (VP b)∧w.heap.size≤b∧Ext w o o'∧Z w' o'∧Nd w' o' c i b r (newN i)∧Chg (λ_=>False) w w'∧(∀k,w.heap.size≤k→o' k≠0→NdS o' i k)
end Go.Proofs.YtnpihllannobgaaGreatDoor
