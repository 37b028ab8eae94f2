/- Steps of the proof, part H42. No condition. -/
import Derived.Test.YtnpihllannobgaaGreatDoorH35
import Derived.Test.YtnpihllannobgaaGreatDoorH23
import Derived.Test.YtnpihllannobgaaGreatDoorH41
import Derived.Deep.RegionHeld3
namespace Go.Proofs.YtnpihllannobgaaGreatDoor
set_option linter.unusedVariables false
set_option linter.unusedSimpArgs false
set_option maxRecDepth 100000
set_option maxHeartbeats 32000000
open Go.ChangeShapes Go.WideShapes Go.ChangeAt Go.RowKit
theorem evP_keep{i n:Nat}{l:List Ev}(h:EvP i n l){m:List Ev}(hm:∀e∈m,e.kind=4∨e.kind=5):EvP i n (l++m):=λx hx=>by
 rcases List.mem_append.1 hx with hx|hx
 ·exact h x hx
 ·have:=hm x hx
  exact⟨λe=>by omega,λe=>by omega⟩
def PkE(s s':NSt):Prop:=∃m:List Ev,s'.ev=s.ev++m∧m.length≤1∧∀e∈m,e.kind=4∨e.kind=5
theorem PkE.refl(s:NSt):PkE s s:=⟨[],by simp,by simp,λe he=>by cases he⟩
theorem PkE.one(s:NSt)(e:Ev)(h:e.kind=4∨e.kind=5):PkE s (evN s e):=⟨[e],rfl,by simp,λx hx=>by simp at hx;rw[hx];exact h⟩
theorem PkE.of{s s1 s':NSt}(h:s1.ev=s.ev)(k:PkE s1 s'):PkE s s':=by obtain⟨m,a,b,c⟩:=k;exact⟨m,by rw[a,h],b,c⟩
theorem putN_pk(c:Cfg)(i:Nat)(s:NSt)(p:Pk)(t:Int)(came:Pk):PkE s (putN c i s p t came):=by
 unfold putN
 split
 ·exact PkE.of rfl (PkE.refl _)
 ·exact PkE.one _ _ (.inr rfl)
theorem risesN_pk(c:Cfg)(i:Nat)(s:NSt)(p:Pk):PkE s (vm c i s p):=by
 unfold vm
 split
 ·exact PkE.one _ _ (.inr rfl)
 ·exact putN_pk _ _ _ _ _ _
theorem handsN_pk(c:Cfg)(i:Nat)(s:NSt)(p came:Pk):PkE s (js c i s p came):=by
 unfold js
 split
 ·exact PkE.one _ _ (.inr rfl)
 ·split
  ·exact PkE.one _ _ (.inr rfl)
  ·exact putN_pk _ _ _ _ _ _
theorem turnsN_pk(c:Cfg)(i:Nat)(s:NSt)(p:Pk):PkE s (vk c i s p):=by
 unfold vk
 split
 ·exact PkE.one _ _ (.inr rfl)
 ·exact handsN_pk _ _ _ _ _
theorem take3N_pk(c:Cfg)(i:Nat)(s:NSt)(p:Pk):PkE s (vQ c i s p):=by
 unfold vQ
 split
 ·exact PkE.of (learnsN_qev i s p).2 (PkE.one _ _ (.inl rfl))
 ·split
  ·exact handsN_pk _ _ _ _ _
  ·split
   ·exact turnsN_pk _ _ _ _
   ·exact risesN_pk _ _ _ _
theorem takesN_pk(c:Cfg)(i:Nat)(s:NSt)(L:List Int):PkE s (vl c i s L):=by
 unfold vl
 split
 ·exact PkE.refl _
 ·split
  ·unfold take2N
   split
   ·exact PkE.of (jG i s _ _).2.1 (take3N_pk _ _ _ _)
   ·exact PkE.of (jG i s _ _).2.1 (PkE.one _ _ (.inr rfl))
  ·exact PkE.refl _
theorem backS_pk(c:Cfg)(i:Nat)(f:Fr)(s:NSt):PkE s (z7 c i f s):=by
 unfold z7
 split
 ·exact takesN_pk _ _ _ _
 ·exact PkE.refl _
theorem PkE.evp{i n:Nat}{s s':NSt}(k:PkE s s')(h:EvP i n s.ev):EvP i n s'.ev∧s'.ev.length≤s.ev.length+1:=by
 obtain⟨m,a,b,c⟩:=k
 rw[a]
 exact⟨evP_keep h c,by rw[List.length_append];omega⟩
theorem hearN_evpV{i:Nat}{c:Cfg}{s:NSt}(hev:s.ev=[])(X:Int×Fr)(now ms:Int):EvP i c.nodes (zq i c s X now ms (z7 c i X.2)).ev∧(zq i c s X now ms (z7 c i X.2)).ev.length≤10:=by
 unfold zq
 by_cases hg:(goodF i c X&&(zZ X.2 now).2)=true
 ·rw[if_pos hg]
  simp only[Bool.and_eq_true] at hg
  have hsrc:0≤X.2.src∧X.2.src<c.nodes:=by
   have:=hg.1
   unfold goodF inR at this
   simp only[Bool.and_eq_true,decide_eq_true_eq] at this
   omega
  have h0:EvP i c.nodes (evN s ⟨1,i,X.2.src,0,pk0⟩).ev:=by
   show EvP i c.nodes (s.ev++[_])
   rw[hev]
   exact EvP.snoc (EvP.nil _ _) _ (λe=>by rcases e with e|e <;> cases e) (λe=>by cases e)
  have l0:(evN s ⟨1,i,X.2.src,0,pk0⟩).ev.length=1:=by show (s.ev++[_]).length=1;rw[hev];rfl
  by_cases hsy:s.synced=true
  ·rw[if_pos hsy]
   obtain⟨k1,k2⟩:=hearsN_evp h0 X.2.src (zZ X.2 now).1 now ms hsrc
   unfold hear2N
   by_cases hi:i=0
   ·rw[if_pos hi]
    obtain⟨j1,j2⟩:=(backS_pk c i X.2 (evN s ⟨1,i,X.2.src,0,pk0⟩)).evp h0
    exact⟨j1,by omega⟩
   ·rw[if_neg hi]
    by_cases hf:qR (qx i (evN s ⟨1,i,X.2.src,0,pk0⟩) X.2.src (zZ X.2 now).1 now ms)=64
    ·rw[if_pos hf];exact⟨k1,by omega⟩
    ·rw[if_neg hf]
     obtain⟨j1,j2⟩:=(backS_pk c i X.2 (qx i (evN s ⟨1,i,X.2.src,0,pk0⟩) X.2.src (zZ X.2 now).1 now ms)).evp k1
     exact⟨j1,by omega⟩
  ·have:=hearN_evp (i:=i) (c:=c) hev X now ms
   unfold zq at this
   have hg':(goodF i c X&&(zZ X.2 now).2)=true:=by simp only[Bool.and_eq_true];exact hg
   rw[if_pos hg',if_neg hsy] at this
   rw[if_neg hsy]
   exact this
 ·rw[if_neg hg,hev];exact⟨EvP.nil _ _,by simp⟩
theorem hearV_air(c:Cfg)(d:Dr)(known:List Int)(now:Int)(ij:Inj)(i:Nat)(x:WM):(qz c d known now ij i x).air=x.air∧(qz c d known now ij i x).back.length=x.back.length:=by
 unfold qz
 split
 ·split
  ·exact⟨rfl,by unfold hear1V;simp⟩
  ·split
   ·exact⟨rfl,rfl⟩
   ·exact⟨rfl,rfl⟩
  ·exact⟨rfl,rfl⟩
 ·exact⟨rfl,rfl⟩
theorem iterV_air(c:Cfg)(d:Dr)(known:List Int)(now:Int)(ij:Inj)(x:WM):∀k,(iter (qz c d known now ij) k x).air=x.air∧(iter (qz c d known now ij) k x).back.length=x.back.length:=by
 intro k
 induction k with
 |zero=>exact⟨rfl,rfl⟩
 |succ k ih=>
  obtain⟨h1,h2⟩:=hearV_air c d known now ij k (iter (qz c d known now ij) k x)
  exact⟨h1.trans ih.1,h2.trans ih.2⟩
theorem msW_bd(c:Cfg)(d:Dr)(x:WM)(i j:Nat): -30000≤msW c d x i j∧msW c d x i j≤30000:=by
 unfold msW meas cutf;omega
def HearOkV(c:Cfg)(d:Dr)(ij:Inj)(x:WM)(i:Nat):Prop:=
 (x.snd i).2.1.isEmpty=true→
  ((x.nd i).ev=[]∧(-1000000000000000≤(x.nd i).base∧(x.nd i).base≤1000000000000000)∧((x.nd i).synced=true→i≠0→(x.nd i).p≠none∧(x.nd i).k≠none)∧
  ((x.nd i).q.length≤900∧∀n L,(x.nd i).paths n=some L→L.length≤100000))∧
  (∀j,heardW c d x i=[j]→(x.snd j).2.1.length≤100000)∧(heardW c d x i=[]→∀b,ij i=some b→b.length≤100000)
section
variable {w0 w w':World}{o0 o o':Cls}{c:Cfg}{W:Nat}{x x':WM}{asn:Int}{r r':WR}{d:Dr}{dr lo ac er da:Value}{S:Nat→Prop}
theorem whearV_any(hc:CfgOk c)(h:WAt w0 o0 c W x asn w o r)(ha:0≤asn∧asn<1099511627776)(k i' t:Int)(hs:So w o d dr lo ac er da)(av kv:Value)(known:List Int)(hair:Ao w o av x.air)(hal:x.air.length=c.nodes)
  (hkv:RV VI w o kv known∧known.length=c.nodes∧∀z∈known,-1≤z∧z≤1000000000000) (hoff:∀j,OffOk (x.snd j).2.2) (hok:∀q,q<c.nodes→HearOkV c d r.ij (iter (qz c d known asn r.ij) q {x with back:=List.replicate c.nodes none}) q)
  (hev:∀q,q≤c.nodes→(iter (qz c d known asn r.ij) q {x with back:=List.replicate c.nodes none}).ev.length≤100000):
  Calls Tryz.prog 34 #[VP W,stpV k i' t dr lo ac er da,av,kv] w (PW w0 o0 c W (iter (qz c d known asn r.ij) c.nodes {x with back:=List.replicate c.nodes none}) asn r
   (λv w' o'=>Bk w' o' v (iter (qz c d known asn r.ij) c.nodes {x with back:=List.replicate c.nodes none}).back)):=by
 have hn0:=hc.n0
 have hn1:=hc.n1
 have HSO:=qQ hs
 obtain⟨dA,dc,hdr,_⟩:=hs.drift
 obtain⟨lA,lc,hlo,_⟩:=hs.lost
 obtain⟨aA,acp,hac,_⟩:=hs.acks
 obtain⟨eA,ec,her,_⟩:=hs.err
 obtain⟨xA,xn,xc,hda⟩:=hs.da
 obtain⟨dn,hdn⟩:∃n,n=d.drift.length:=⟨_,rfl⟩
 obtain⟨ln,hln⟩:∃n,n=d.lost.length:=⟨_,rfl⟩
 obtain⟨an,han⟩:∃n,n=d.acks.length:=⟨_,rfl⟩
 obtain⟨en,hen⟩:∃n,n=d.err.length:=⟨_,rfl⟩
 rw[←hdn] at hdr
 rw[←hln] at hlo
 rw[←han] at hac
 rw[←hen] at her
 subst hdr hlo hac her hda
 obtain⟨ag,acap,hav,_⟩:=hair.val (by omega)
 rw[hal] at hav
 subst hav
 obtain⟨kA,kc,hke,_⟩:=hkv.1
 rw[hkv.2.1] at hke
 subst hke
 have H:=qQ h
 have HAIR:=qQ (And.intro hair hal)
 have HKV:=qQ hkv
 have HOFF:=qQ hoff
 have HOK:=qQ hok
 have HEV:=qQ hev
 obtain⟨lg,lcap,hlv,hlc⟩:=h.rowval (by omega)
 have HLC:=qQ (And.intro hlv hlc)
 have ga:=Chg.alloc (λ_=>False) w (.cells #[.int .i64 k,.int .i64 i',.int .i64 t,.slice dA dn dc,.slice lA ln lc,.slice aA an acp,.slice eA en ec,.slice xA xn xc] 35)
 have hba:=qV w (.cells #[.int .i64 k,.int .i64 i',.int .i64 t,.slice dA dn dc,.slice lA ln lc,.slice aA an acp,.slice eA en ec,.slice xA xn xc] 35)
 have c9a:(w.alloc (.cells #[.int .i64 k,.int .i64 i',.int .i64 t,.slice dA dn dc,.slice lA ln lc,.slice aA an acp,.slice eA en ec,.slice xA xn xc] 35)).cell? ⟨W,9,none⟩=some (.slice (some ⟨lg,0,none⟩) c.nodes lcap):=by rw[←hlv];exact (h.kept hn1 ga).cell 9
 have HB:=qQ (And.intro hba (h.z _ (Nat.le_refl _)))
 have HA:=qQ (And.intro (h.kept hn1 ga) ga)
 obtain⟨X0,hX0⟩:∃X0:WM,X0= {x with back:=List.replicate c.nodes none}:=⟨_,rfl⟩
 rw[←hX0] at HOK HEV ⊢
 have HX0:=qQ hX0
 obtain⟨F,hF⟩:=qZ (iter (qz c d known asn r.ij) c.nodes X0)
 rw[←hF]
 have HF:=qQ hF
 have HC:=qQ hc
 have hmk:=mk91 c.nodes hn1
 have c9b:=qL c9a (ob91 c.nodes)
 clear h hs hdn hln han hen hair hal hkv hoff hok hev hlv hlc ga hba hX0 hF
 unfold VP stpV
 go_enter Tryz.func34,Tryz.ntmps34
 go_wp2_with fail
 generalize hw1:w.alloc (.cells #[.int .i64 k,.int .i64 i',.int .i64 t,.slice dA dn dc,.slice lA ln lc,.slice aA an acp,.slice eA en ec,.slice xA xn xc] 35)=w1 at *
 obtain⟨sb,hsb⟩:=qZ w.heap.size
 rw[←hsb] at HB ⊢
 have hsz1:w1.heap.size=w.heap.size+1:=by rw[←hw1];simp
 obtain⟨o2,hA2,hE2,hB2⟩:=(WAt.start HA.out.1.wd HA.out.1.z).mkb hn1 c.nodes hn1
 have HAI:=qQ (show Ao w1 o (.slice (some ⟨ag,0,none⟩) c.nodes acap) x.air from HAIR.out.1.step (Ext.refl _ _) HA.out.2 (λk hk e=>e))
 have HSS:=qQ (HSO.out.step (Ext.refl _ _) HA.out.2 (λ_ _ e=>e))
 have HKS:=qQ (HKV.out.1.step (Ext.refl _ _) HA.out.2 (λ_ _ e=>e))
 have HA2:=qQ hA2
 have hsz2:w1.heap.size=sb+1:=by rw[hsz1,hsb]
 rw[hsz2] at hB2
 have HB2:=qQ hB2
 generalize hw2:w1.alloc (ob91 c.nodes)=w2 at *
 obtain⟨bg,hbg⟩:=qZ (sb+1)
 rw[←hbg] at HB2 ⊢
 have HBG:=qQ (show bg=w1.heap.size from hbg.trans hsz2.symm)
 clear hsz2
 clear hsb hsz1 hw1 hw2 hbg hA2 hE2 hB2 c9a c9b
 go_loopw [28] (λi wr=>∃(q:Nat),q≤c.nodes∧i= .int .i64 q∧∃o' r',WAt w1 o c W (iter (qz c d known asn r.ij) q X0) asn wr o' r'∧r.same r'∧Bk wr o' (.slice (some ⟨bg,0,none⟩) c.nodes c.nodes) (iter (qz c d known asn r.ij) q X0).back) (λi _=>c.nodes-(intOf i).toNat)
 case atStart=>
  refine⟨0,by omega,rfl,o2,r,HA2.out.cong (by rw[HX0.out];rfl) (by rw[HX0.out];rfl) (by rw[HX0.out];rfl),WR.same.refl r,?_⟩
  show Bk _ _ _ X0.back
  rw[HX0.out];exact HB2.out
 case round=>
  obtain⟨q,hq,rfl,o3,r3,hA,hsm,hBk⟩:=hrel
  obtain⟨X,hX⟩:=qZ (iter (qz c d known asn r.ij) q X0)
  rw[←hX] at hA hBk
  obtain⟨hXa,hXb⟩:X.air=x.air∧X.back.length=c.nodes:=by
   obtain⟨h1,h2⟩:=iterV_air c d known asn r.ij X0 q
   rw[hX,h1,h2,HX0.out]
   exact⟨rfl,by simp⟩
  by_cases hlt:q<c.nodes
  ·have hokq:=HOK.out q hlt
   rw[←hX] at hokq
   have hnx:iter (qz c d known asn r.ij) (q+1) X0=qz c d known asn r.ij q X:=by rw[hX];rfl
   have HNX:=qQ hnx
   have HEQ:=qQ (show X.ev.length≤100000 from by rw[hX];exact HEV.out q (by omega))
   obtain⟨b,nr,hbs,hN⟩:=hA.get q hlt
   obtain⟨g2,cap2,hg2,hrc⟩:=hA.rowval (by omega)
   have hbc:=hrc q b hbs
   rw[hsm.1,HLC.out.1] at hg2
   cases hg2
   have i1:(q:Int)<(c.nodes:Int):=by omega
   have hAo:=hA.air HAI.out
   obtain⟨ag2,acap2,hav2,haat⟩:=hAo.val (by rw[HAIR.out.2];omega)
   rw[HAIR.out.2] at hav2 haat
   cases hav2
   obtain⟨jA,jc,a0,a1,a2,abo⟩:=haat q hlt
   obtain⟨jn,hjn⟩:∃n,n=(x.air.getD q (0,[],0)).2.1.length:=⟨_,rfl⟩
   rw[←hjn] at a1
   have hsnd:X.snd q=x.air.getD q (0,[],0):=by unfold WM.snd;rw[hXa]
   have hemp:(X.snd q).2.1.isEmpty=decide (jn=0):=by
    rw[hsnd,hjn]
    cases (x.air.getD q (0,[],0)).2.1 <;> simp
   have HEMP:=qQ hemp
   have HQA:=qQ hA
   have HQB:=qQ hBk
   have HQX:=qQ (And.intro hXa hXb)
   have HQN:=qQ (And.intro hbs hN)
   have HQS:=qQ hsm
   have HQO:=qQ hokq
   have HQC:=qQ haat
   unfold VP at hbc
   clear hX hA hBk hXa hXb hnx hbs hN hrc hAo haat hjn hsnd hemp hsm hokq abo a0 a2
   by_cases h0:jn=0
   ·have t0:decide (0<(jn:Int))=false:=by simp;omega
    have t00:¬0<jn:=by omega
    have T0:=qQ h0
    clear h0
    have c12:wr.cell? ⟨W,12,none⟩=some (.map (some r3.inj)):=HQA.out.cell 12
    obtain⟨jf,jm,jv⟩:=HQA.out.wd.inj
    have hjv:=jv q
    rw[HQS.out.2.2.2.2.2] at hjv
    have hivs:∃iA il ic,(jf (q:Int)).getD (.slice none 0 0)= .slice iA il ic:=by
     cases e:r.ij q with
     |none=>rw[e] at hjv;exact⟨_,_,_,hjv⟩
     |some L=>rw[e] at hjv;obtain⟨_,x5,n5,c5,h5⟩:=hjv;exact⟨_,_,_,h5⟩
    obtain⟨iA,il,ic,hivs⟩:=hivs
    rw[hivs] at hjv
    have hlk:(Instr.lookup 59 (.map (some r3.inj)) (.int .i64 (q:Int)) false).run Tryz.prog wr= .ok (.slice iA il ic) wr:=by
     have:=jm.lookup1 ty59 ty3 (z33 wr) (q:Int)
     rw[hivs] at this
     exact this
    have HJV:=qQ hjv
    clear jm jv hivs hjv
    have hb1:=Chg.keep HQA.out.chg HB.out.1 (λe=>e.1 HB.out.2)
    obtain⟨d0,d1,d2,d3,d4,d5,d6,d7⟩:=vj hb1
    have hhd:=wheard_any (d:=d) hc HQA.out k i' t (HQA.out.so HSS.out) (.slice (some ⟨ag,0,none⟩) c.nodes acap) (by rw[HQX.out.1];exact HQA.out.air HAI.out) (by rw[HQX.out.1];exact HAIR.out.2) q hlt (λj=>by
     have:=HOFF.out j;unfold WM.snd at this ⊢;rw[HQX.out.1];exact this)
    unfold VP stpV at hhd
    have HHD:=qQ hhd
    have hHL:z9 c d X q c.nodes=(heardW c d X q).map (λ(j:Nat)=>(j:Int)):=rfl
    have HHL:=qQ hHL
    have HB1:=qQ hb1
    clear hhd hHL hb1
    go_wp2_with fail
    with_reducible refine HHD.out.mono ?_
    rintro en2 w3 ⟨v,rfl,hO,hG⟩
    rw[HHL.out,List.length_map] at hO
    have HA3:=qQ (HQA.out.kept hn1 hG)
    have HB3:=qQ (HQB.out.step (Ext.refl _ _) hG (λ_ _ e=>e))
    have HG3:=qQ hG
    clear hG d0 d1 d2 d3 d4 d5 d6 d7 c12 hlk HHD
    cases hhw:heardW c d X q with
    |nil=>
     rw[hhw] at hO
     obtain⟨vA,vc,rfl⟩:∃A cp,v= .slice A 0 cp:=by
      rcases qD hO with ⟨e,_⟩|⟨g,cap,e,_⟩
      ·exact⟨_,_,e⟩
      ·exact⟨_,_,e⟩
     cases iA with
     |none=>
      have hrn:r.ij q=none:=by
       have:=HJV.out
       cases e:r.ij q with
       |none=>rfl
       |some L=>rw[e] at this;obtain⟨_,x5,n5,c5,h5⟩:=this;cases h5
      have hfl:qz c d known asn r.ij q X=X:=by unfold qz;rw[HEMP.out,if_pos (by have:=T0.out;simp[this]),hhw];simp only[hrn]
      have HFL:=qQ (HNX.out.trans hfl)
      clear hO hfl hhw hrn
      have heq:(binOp .eql 33 (.slice none il ic) (.slice none 0 0)).run Tryz.prog w3= .ok (.bool true) w3:=nil_eq (P:=Tryz.prog) Tryz.underlying33 w3 il ic
      go_wp2_with fail
      go_roundw
      case measure=>simp[intOf];omega
      case rel=>
       refine⟨q+1,by omega,by go_num,o3,r3,?_,HQS.out,?_⟩
       ·rw[HFL.out];exact HA3.out
       ·rw[HFL.out];exact HB3.out
     |some ix=>
      obtain⟨L,hrn,hLb⟩:∃L,r.ij q=some L∧BO wr o3 (.slice (some ix) il ic) L:=by
       have:=HJV.out
       cases e:r.ij q with
       |none=>rw[e] at this;cases this
       |some L=>rw[e] at this;exact⟨L,rfl,this.1⟩
      have hfl:qz c d known asn r.ij q X=hear0V c d known asn q L X:=by unfold qz;rw[HEMP.out,if_pos (by have:=T0.out;simp[this]),hhw];simp only[hrn]
      have HFL:=qQ (HNX.out.trans hfl)
      have heq:(binOp .eql 33 (.slice (some ix) il ic) (.slice none 0 0)).run Tryz.prog w3= .ok (.bool false) w3:=some_eq (P:=Tryz.prog) Tryz.underlying33 w3 ix il ic
      have tj:((q:Int) != (q:Int))=false:=by simp
      obtain⟨⟨k1,k2,k3,k5⟩,kk1,kk2⟩:=HQO.out (by rw[HEMP.out];have:=T0.out;simp[this])
      have k6:=kk2 hhw L hrn
      have k4:=msW_bd c d X q q
      obtain⟨qbA,qbc,q0,q1,q2,qbo⟩:=HQC.out q hlt
      have hsq:X.snd q=x.air.getD q (0,[],0):=by unfold WM.snd;rw[HQX.out.1]
      rw[←hsq] at q2
      obtain⟨oq,hoq⟩:∃z,z=(X.snd q).2.2:=⟨_,rfl⟩
      rw[←hoq] at q2
      obtain⟨ms,hms⟩:∃m,m=meas oq oq (atL d.err q) c.err:=⟨_,rfl⟩
      have hmsw:msW c d X q q=ms:=by unfold msW;rw[←hoq,hms]
      rw[hmsw] at k4
      have hfl2:hear0V c d known asn q L X=WM.tells c known (X.put q (noEv (zq q c (X.nd q) (decF L) asn ms (z7 c q (decF L).2)))) (zq q c (X.nd q) (decF L) asn ms (z7 c q (decF L).2)).ev:=by
       unfold hear0V;rw[hmsw]
      have HFL:=qQ (HFL.out.trans hfl2)
      have hgd:=HG3.out.trans (Chg.drew _ w3)
      have hNd:=HQN.out.2.kept hgd
      have HHR:=qQ (nhear3v_any hc (NAt.start hNd.nd hNd.z) hlt (.slice (some ix) il ic) L (((hLb.keep HG3.out (λ_ _ e=>e)).keep (Chg.drew (λ_=>False) w3) (λ_ _ e=>e)).bs) k6 asn ms ha.1 ha.2 k1 k4 k2 k3 k5.1 k5.2)
      have HEVP:=qQ (hearN_evpV (i:=q) (c:=c) k1 (decF L) asn ms)
      obtain⟨S,hS⟩:=qZ (zq q c (X.nd q) (decF L) asn ms (z7 c q (decF L).2))
      obtain⟨a,haa⟩:=qZ (ansN q c (X.nd q) (decF L) asn ms (kQ q (decF L).2 asn ms))
      rw[←hS,←haa] at HHR
      rw[←hS] at HFL
      rw[←hS] at HEVP
      have HAT:=qQ (show Calls Tryz.prog 54 #[.slice eA en ec,.int .i64 q] w3.drew (λe w''=>e= .returned (.int .i64 (atL d.err q))∧w''=w3.drew) from
       at54_any (o:=o3) _ _ q ((HQA.out.so HSS.out).err.keep (S:=λ_=>False) hgd (λ_ _ e=>e)))
      have HMS:=qQ (show Calls Tryz.prog 64 #[.int .i64 oq,.int .i64 oq,.int .i64 (atL d.err q),.int .i64 c.err] w3.drew (λe w''=>e= .returned (.int .i64 ms)∧w''=w3.drew) from by
       rw[hms];exact measure_any oq oq (atL d.err q) c.err w3.drew)
      obtain⟨aq,haq⟩:∃z,z=atL d.err q:=⟨_,rfl⟩
      rw[←haq] at HAT HMS
      have kk:∀{p:Addr} {v:Value},wr.cell? p=some v→w3.cell? p=some v:=λ{p v} hp=>by rw[HG3.out.cell (qG hp) (λe=>e),hp]
      have q2':=kk q2
      obtain⟨e0,e1,e2,e3,e4,e5,e6,e7⟩:=vj (Chg.keep HG3.out HB1.out (λe=>e))
      have c10:w3.cell? ⟨W,10,none⟩=some (.int .i64 asn):=HA3.out.cell 10
      have c4:w3.cell? ⟨W,4,none⟩=some (.int .i64 c.err):=HA3.out.cell 4
      have HAD:=qQ (HA3.out.kept hn1 (Chg.drew _ w3))
      have HBD:=qQ (HB3.out.step (Ext.refl _ _) (Chg.drew (λ_=>False) w3) (λ_ _ e=>e))
      have HQB2:=qQ HQN.out.1
      have HOQ:=qQ (show oq=(x.air.getD q (0,[],0)).2.2 from by rw[hoq,hsq])
      clear hhw k1 k2 k3 k4 k5 k6 kk1 kk2 q0 q1 q2 qbo hsq hoq hms hmsw hfl hfl2 hgd hNd hS haa haq HA3 HB3 HQN HQC kk hLb hrn hO
      go_wp2_with fail
      have HSW:=qQ (show∀W5 o5 r5 X5,WAt w1 o c W X5 asn W5 o5 r5→((λW'=>W'.cell? ⟨W,10,none⟩=some (.int .i64 asn)∧W'.cell? ⟨ag,q*3+2,none⟩=some (.int .i64 oq)∧W'.cell? ⟨sb,6,none⟩=some (.slice eA en ec)∧W'.cell? ⟨W,4,none⟩=some (.int .i64 c.err)):World→Prop) W5 from λW5 o5 r5 X5 h5=>by
       obtain⟨g5,c5,e5,h5a⟩:=(h5.air HAI.out).val (by rw[HAIR.out.2];omega)
       rw[HAIR.out.2] at e5 h5a
       cases e5
       obtain⟨_,_,_,_,z2,_⟩:=h5a q hlt
       have hb5:=Chg.keep h5.chg HB.out.1 (λe=>e.1 HB.out.2)
       exact⟨h5.cell 10,by rw[HOQ.out];exact z2,by rw[qJ hb5];rfl,h5.cell 4⟩)
      have HS0:=qQ (HSW.out _ _ _ _ HAD.out)
      have s0:((λW'=>W'.cell? ⟨W,10,none⟩=some (.int .i64 asn)∧W'.cell? ⟨ag,q*3+2,none⟩=some (.int .i64 oq)∧W'.cell? ⟨sb,6,none⟩=some (.slice eA en ec)∧W'.cell? ⟨W,4,none⟩=some (.int .i64 c.err)):World→Prop) w3.drew:=HS0.out
      go_region_held3 (λW'=>W'.cell? ⟨W,10,none⟩=some (.int .i64 asn)∧W'.cell? ⟨ag,q*3+2,none⟩=some (.int .i64 oq)∧W'.cell? ⟨sb,6,none⟩=some (.slice eA en ec)∧W'.cell? ⟨W,4,none⟩=some (.int .i64 c.err))
       (first|exact HS0.out|exact HS5.out)
       (first
       |(go_at_call 54;refine HAT.out.mono ?_;rintro en1 wx ⟨rfl,rfl⟩)
       |(go_at_call 64;refine HMS.out.mono ?_;rintro en1 wx ⟨rfl,rfl⟩)
       |(go_at_call 63;refine HHR.out.mono ?_;rintro en1 w5 ⟨v5,o5,nr5,rfl,hN5,bv,ev,rfl,hbv,hE5⟩
         obtain⟨bA,bn,bcp,rfl⟩:=hbv.shape
         have hA5:=HAD.out.node hn1 hlt HQB2.out hN5
         have HS5:=qQ (HSW.out _ _ _ _ hA5)
         have HA5:=qQ (And.intro hA5 (And.intro hN5 (And.intro hbv hE5)))
         clear hA5 hN5 hbv hE5))
      all_goals
       have HT:=qQ (j8 hc (WAt.start HA5.out.1.wd HA5.out.1.z) ev S.ev (cl q 9) HA5.out.2.2.2 ⟨by unfold cl;omega,by unfold cl;omega,by unfold cl;omega⟩ (.slice kA c.nodes kc) known
        (.inl ⟨HKS.out.step HA5.out.1.ext HA5.out.1.chg (λk hk hs=>hs.1 hk),HKV.out.2⟩) (λe he=>by
         obtain⟨p1,p2⟩:=HEVP.out.1 e he
         exact⟨λh=>by have:=p1 h;omega,λh=>p2 h⟩) (by have:=HEVP.out.2;omega) HEQ.out)
       unfold VP at HT
       clear HHR HAT HMS HS0 s0 c10 c4 e0 e1 e2 e3 e4 e5 e6 e7 q2' HSW
       go_wp2_with fail
       with_reducible refine HT.out.mono ?_
       rintro en6 w6 ⟨v6,o6,r6,rfl,hA6,hs6,rfl⟩
       have hB6:=hA6.bck (HBD.out.step HA5.out.2.1.ext HA5.out.2.1.chg (off_nd q (by omega) 6 (by omega)))
       have hA16:=HA5.out.1.trans hA6
       have HA16:=qQ hA16
       have HB6:=qQ hB6
       have HS6:=qQ (HQS.out.trans hs6)
       clear hB6 hA16 hA6 hs6 HA5 HT HBD HAD
       go_wp2_with fail
       go_roundw
       case measure=>simp[intOf];omega
       case rel=>
        refine⟨q+1,by omega,by go_num,o6,r6,?_,HS6.out,?_⟩
        ·rw[HFL.out];exact HA16.out.cong rfl rfl rfl
        ·rw[HFL.out];exact HB6.out
    |cons j rest=>
     cases rest with
     |cons j2 rest2=>
      rw[hhw] at hO
      have hfl:qz c d known asn r.ij q X=X:=by unfold qz;rw[HEMP.out,if_pos (by have:=T0.out;simp[this]),hhw]
      obtain⟨vn,hvn⟩:∃n,n=(j::j2::rest2).length:=⟨_,rfl⟩
      have hvn2:1<vn:=by rw[hvn];simp
      rw[←hvn] at hO
      obtain⟨vA,vc,rfl⟩:∃A cp,v= .slice A vn cp:=by
       rcases qD hO with ⟨e,h0,_⟩|⟨g,cap,e,_⟩
       ·omega
       ·exact⟨_,_,e⟩
      have HFL:=qQ (HNX.out.trans hfl)
      have t2:decide (1<(vn:Int))=true:=by simp;omega
      clear hO hfl hhw hvn
      go_wp2_with fail
      go_roundw
      case measure=>simp[intOf];omega
      case rel=>
       refine⟨q+1,by omega,by go_num,o3,r3,?_,HQS.out,?_⟩
       ·rw[HFL.out];exact HA3.out
       ·rw[HFL.out];exact HB3.out
     |nil=>
      rw[hhw] at hO
      have hfl:qz c d known asn r.ij q X=hear1V c d known asn q j X:=by unfold qz;rw[HEMP.out,if_pos (by have:=T0.out;simp[this]),hhw]
      obtain⟨vg,vc,hve⟩:∃g cp,v= .slice (some ⟨g,0,none⟩) 1 cp:=by
       rcases qD hO with ⟨e,h0,_⟩|⟨g,cap,e,_⟩
       ·simp at h0
       ·exact⟨g,_,e⟩
      subst hve
      have cj:w3.cell? ⟨vg,0,none⟩=some (.int .i64 (j:Int)):=qp hO 0 _ rfl
      have HFL:=qQ (HNX.out.trans hfl)
      have hjm:j<c.nodes∧jb c d X q j=true:=by
       have:j∈heardW c d X q:=by rw[hhw];simp
       unfold heardW at this
       rw[List.mem_filter,List.mem_range] at this
       exact this
      obtain⟨hjn,hjb⟩:=hjm
      have hjq:¬j=q:=by
       intro e
       subst e
       unfold jb at hjb
       simp only[Bool.and_eq_true] at hjb
       have h1:=hjb.1.1
       unfold bitW at h1
       simp only[Bool.and_eq_true,decide_eq_true_eq] at h1
       have h2:c.near[j]? =some (atL c.near j):=by
        unfold atL
        rw[List.getD_eq_getElem?_getD,List.getElem?_eq_getElem (by rw[hc.near];exact hlt)];rfl
       have h3:=(hc.nearb j _ h2).2.2.2
       omega
      have tj:((j:Int) != (q:Int))=true:=by simp;omega
      obtain⟨⟨k1,k2,k3,k5⟩,kk1,kk2⟩:=HQO.out (by rw[HEMP.out];have:=T0.out;simp[this])
      have k6:=kk1 j hhw
      have k4:=msW_bd c d X q j
      obtain⟨jbA,jbc,j0,j1,j2,jbo⟩:=HQC.out j hjn
      obtain⟨qbA,qbc,q0,q1,q2,qbo⟩:=HQC.out q hlt
      have hsj:X.snd j=x.air.getD j (0,[],0):=by unfold WM.snd;rw[HQX.out.1]
      have hsq:X.snd q=x.air.getD q (0,[],0):=by unfold WM.snd;rw[HQX.out.1]
      rw[←hsj] at j1 j2 jbo
      rw[←hsq] at q2
      obtain⟨L,hL⟩:=qZ ((X.snd j).2.1)
      rw[←hL] at k6 jbo j1
      obtain⟨jl,hjl⟩:∃n,n=L.length:=⟨_,rfl⟩
      rw[←hjl] at j1 jbo
      obtain⟨oq,hoq⟩:∃z,z=(X.snd q).2.2:=⟨_,rfl⟩
      obtain⟨oj,hoj⟩:∃z,z=(X.snd j).2.2:=⟨_,rfl⟩
      rw[←hoq] at q2
      rw[←hoj] at j2
      obtain⟨ms,hms⟩:∃m,m=meas oq oj (atL d.err q) c.err:=⟨_,rfl⟩
      have hmsw:msW c d X q j=ms:=by unfold msW;rw[←hoq,←hoj,hms]
      rw[hmsw] at k4
      have hfl2:hear1V c d known asn q j X= {WM.tells c known (X.put q (noEv (zq q c (X.nd q) (decF L) asn ms (z7 c q (decF L).2)))) (zq q c (X.nd q) (decF L) asn ms (z7 c q (decF L).2)).ev with back:=X.back.set q (ansN q c (X.nd q) (decF L) asn ms (kQ q (decF L).2 asn ms))}:=by
       unfold hear1V;rw[←hL,hmsw]
      have HFL:=qQ (HFL.out.trans hfl2)
      have hgd:=HG3.out.trans (Chg.drew _ w3)
      have hNd:=HQN.out.2.kept hgd
      have HHR:=qQ (nhear3v_any hc (NAt.start hNd.nd hNd.z) hlt (.slice jbA jl jbc) L ((jbo.keep hgd (λ_ _ e=>e)).bs) k6 asn ms ha.1 ha.2 k1 k4 k2 k3 k5.1 k5.2)
      have HEVP:=qQ (hearN_evpV (i:=q) (c:=c) k1 (decF L) asn ms)
      obtain⟨S,hS⟩:=qZ (zq q c (X.nd q) (decF L) asn ms (z7 c q (decF L).2))
      obtain⟨a,haa⟩:=qZ (ansN q c (X.nd q) (decF L) asn ms (kQ q (decF L).2 asn ms))
      rw[←hS,←haa] at HHR HFL
      rw[←hS] at HEVP
      have HAT:=qQ (show Calls Tryz.prog 54 #[.slice eA en ec,.int .i64 q] w3.drew (λe w''=>e= .returned (.int .i64 (atL d.err q))∧w''=w3.drew) from
       at54_any (o:=o3) _ _ q ((HQA.out.so HSS.out).err.keep (S:=λ_=>False) hgd (λ_ _ e=>e)))
      have HMS:=qQ (show Calls Tryz.prog 64 #[.int .i64 oq,.int .i64 oj,.int .i64 (atL d.err q),.int .i64 c.err] w3.drew (λe w''=>e= .returned (.int .i64 ms)∧w''=w3.drew) from by
       rw[hms];exact measure_any oq oj (atL d.err q) c.err w3.drew)
      obtain⟨aq,haq⟩:∃z,z=atL d.err q:=⟨_,rfl⟩
      rw[←haq] at HAT HMS
      have kk:∀{p:Addr} {v:Value},wr.cell? p=some v→w3.cell? p=some v:=λ{p v} hp=>by rw[HG3.out.cell (qG hp) (λe=>e),hp]
      have j1':=kk j1
      have j2':=kk j2
      have q2':=kk q2
      obtain⟨e0,e1,e2,e3,e4,e5,e6,e7⟩:=vj (Chg.keep HG3.out HB1.out (λe=>e))
      have c10:w3.cell? ⟨W,10,none⟩=some (.int .i64 asn):=HA3.out.cell 10
      have c4:w3.cell? ⟨W,4,none⟩=some (.int .i64 c.err):=HA3.out.cell 4
      have i3:(j:Int)<(c.nodes:Int):=by omega
      have HAD:=qQ (HA3.out.kept hn1 (Chg.drew _ w3))
      have HBD:=qQ (HB3.out.step (Ext.refl _ _) (Chg.drew (λ_=>False) w3) (λ_ _ e=>e))
      have HQB2:=qQ HQN.out.1
      have HOQ:=qQ (show oq=(x.air.getD q (0,[],0)).2.2 from by rw[hoq,hsq])
      have HOJ:=qQ (show oj=(x.air.getD j (0,[],0)).2.2 from by rw[hoj,hsj])
      clear hhw hjb k1 k2 k3 k4 k5 k6 kk1 kk2 j0 j1 j2 jbo q0 q1 q2 qbo hsj hsq hL hjl hoq hoj hms hmsw hfl2 hgd hNd hS haa haq HA3 HB3 HQN HQC kk
      go_wp2_with fail
      have HSW:=qQ (show∀W5 o5 r5 X5,WAt w1 o c W X5 asn W5 o5 r5→((λW'=>W'.cell? ⟨W,10,none⟩=some (.int .i64 asn)∧W'.cell? ⟨ag,q*3+2,none⟩=some (.int .i64 oq)∧W'.cell? ⟨ag,j*3+2,none⟩=some (.int .i64 oj)∧W'.cell? ⟨sb,6,none⟩=some (.slice eA en ec)∧W'.cell? ⟨W,4,none⟩=some (.int .i64 c.err)):World→Prop) W5 from λW5 o5 r5 X5 h5=>by
       obtain⟨g5,c5,e5,h5a⟩:=(h5.air HAI.out).val (by rw[HAIR.out.2];omega)
       rw[HAIR.out.2] at e5 h5a
       cases e5
       obtain⟨_,_,_,_,z2,_⟩:=h5a q hlt
       obtain⟨_,_,_,_,z3,_⟩:=h5a j hjn
       have hb5:=Chg.keep h5.chg HB.out.1 (λe=>e.1 HB.out.2)
       exact⟨h5.cell 10,by rw[HOQ.out];exact z2,by rw[HOJ.out];exact z3,by rw[qJ hb5];rfl,h5.cell 4⟩)
      have HS0:=qQ (HSW.out _ _ _ _ HAD.out)
      have s0:((λW'=>W'.cell? ⟨W,10,none⟩=some (.int .i64 asn)∧W'.cell? ⟨ag,q*3+2,none⟩=some (.int .i64 oq)∧W'.cell? ⟨ag,j*3+2,none⟩=some (.int .i64 oj)∧W'.cell? ⟨sb,6,none⟩=some (.slice eA en ec)∧W'.cell? ⟨W,4,none⟩=some (.int .i64 c.err)):World→Prop) w3.drew:=HS0.out
      go_region_held3 (λW'=>W'.cell? ⟨W,10,none⟩=some (.int .i64 asn)∧W'.cell? ⟨ag,q*3+2,none⟩=some (.int .i64 oq)∧W'.cell? ⟨ag,j*3+2,none⟩=some (.int .i64 oj)∧W'.cell? ⟨sb,6,none⟩=some (.slice eA en ec)∧W'.cell? ⟨W,4,none⟩=some (.int .i64 c.err))
       (first|exact HS0.out|exact HS5.out)
       (first
       |(go_at_call 54;refine HAT.out.mono ?_;rintro en1 wx ⟨rfl,rfl⟩)
       |(go_at_call 64;refine HMS.out.mono ?_;rintro en1 wx ⟨rfl,rfl⟩)
       |(go_at_call 63;refine HHR.out.mono ?_;rintro en1 w5 ⟨v5,o5,nr5,rfl,hN5,bv,ev,rfl,hbv,hE5⟩
         obtain⟨bA,bn,bcp,rfl⟩:=hbv.shape
         have hA5:=HAD.out.node hn1 hlt HQB2.out hN5
         have HS5:=qQ (HSW.out _ _ _ _ hA5)
         have HA5:=qQ (And.intro hA5 (And.intro hN5 (And.intro hbv hE5)))
         clear hA5 hN5 hbv hE5))
      all_goals
       have HT:=qQ (j8 hc (WAt.start HA5.out.1.wd HA5.out.1.z) ev S.ev (cl q 9) HA5.out.2.2.2 ⟨by unfold cl;omega,by unfold cl;omega,by unfold cl;omega⟩ (.slice kA c.nodes kc) known
        (.inl ⟨HKS.out.step HA5.out.1.ext HA5.out.1.chg (λk hk hs=>hs.1 hk),HKV.out.2⟩) (λe he=>by
         obtain⟨p1,p2⟩:=HEVP.out.1 e he
         exact⟨λh=>by have:=p1 h;omega,λh=>p2 h⟩) (by have:=HEVP.out.2;omega) HEQ.out)
       unfold VP at HT
       clear HHR HAT HMS HS0 s0 c10 c4 e0 e1 e2 e3 e4 e5 e6 e7 j1' j2' q2' HSW
       go_wp2_with fail
       with_reducible refine HT.out.mono ?_
       rintro en6 w6 ⟨v6,o6,r6,rfl,hA6,hs6,rfl⟩
       have hB6:=hA6.bck (HBD.out.step HA5.out.2.1.ext HA5.out.2.1.chg (off_nd q (by omega) 6 (by omega)))
       have hAV6:=HA5.out.2.2.1.step hA6.ext hA6.chg (λk hk hs=>hs.1 hk)
       have hA16:=HA5.out.1.trans hA6
       have hset:=hA16.setb hn1 hB6 (by rw[HBG.out];exact Nat.le_refl _) q (by rw[HQX.out.2];exact hlt) a (.slice bA bn bcp) hAV6
       obtain⟨bg2,bcap2,be2,hbcell⟩:=hB6.val (by rw[HQX.out.2];omega)
       rw[HQX.out.2] at be2 hbcell
       cases be2
       obtain⟨zA,zn,zcp,hzc,_⟩:=hbcell q hlt
       have hzf:=hB6.fr q
       have HSET:=qQ hset
       have HS6:=qQ (HQS.out.trans hs6)
       clear hB6 hAV6 hA16 hset hbcell hA6 hs6 HA5 HT HBD HAD
       go_wp2_with fail
       go_roundw
       case measure=>simp[intOf];omega
       case rel=>
        refine⟨q+1,by omega,by go_num,o6,r6,?_,HS6.out,?_⟩
        ·rw[HFL.out];exact HSET.out.1.cong rfl rfl rfl
        ·rw[HFL.out];exact HSET.out.2
   ·have t0:decide (0<(jn:Int))=true:=by simp;omega
    have t00:0<jn:=by omega
    have T0:=qQ h0
    clear h0
    go_wp2_with fail
    go_roundw
    case measure=>simp[intOf];omega
    case rel=>
     refine⟨q+1,by omega,by go_num,o3,r3,?_,HQS.out,?_⟩
     ·rw[HNX.out];unfold qz;rw[HEMP.out,if_neg (by have:=T0.out;simp[this])];exact HQA.out
     ·rw[HNX.out];unfold qz;rw[HEMP.out,if_neg (by have:=T0.out;simp[this])];exact HQB.out
  ·obtain rfl:q=c.nodes:=by omega
   go_wp2_with fail
   go_ret
   have hF:F=X:=HF.out.trans hX.symm
   rw[hF]
   exact⟨_,o3,r3,rfl,HA.out.1.trans hA,hsm,hBk⟩
end
structure AckOkV(c:Cfg)(i:Nat)(s:NSt)(L:List Int)(now:Int):Prop where
 ev:s.ev=[]
 len:L.length≤100000
 c:(s.synced=false∨s.sopen=false∨s.sasn≠now)∨
  ((-1000000000000000≤s.base∧s.base≤1000000000000000)∧(s.p≠none→s.k≠none)∧(0≤s.sdst∧s.sdst<c.nodes)∧s.sdst≠i∧
   (s.skind=1→s.q≠[]∧s.q.length≤800∧(∀p∈s.q,p.2.length≤100000)∧(0≤s.tries∧s.tries≤1000)))
theorem ackDN_eq{i:Nat}{s:NSt}{L:List Int}{now:Int}(hk:s.skind≠1):z8 i s L now=ackN i s L now:=by
 unfold z8 ackN
 split
 ·split
  ·unfold acksN
   rw[if_neg (show (opnN s false).skind≠1 from hk)]
   unfold j7
   rfl
  ·unfold failN
   rw[if_neg (show (opnN s false).skind≠1 from hk)]
 ·rfl
theorem ackDN_closed{i:Nat}{s:NSt}{L:List Int}{now:Int}(h:s.synced=false∨s.sopen=false∨s.sasn≠now):z8 i s L now=s:=by
 unfold z8
 rcases h with h|h|h
 ·rw[h];simp
 ·rw[h];simp
 ·rw[decide_eq_false h];simp
section
variable {w0 w w':World}{o0 o o':Cls}{c:Cfg}{i b:Nat}{s s':NSt}{r r':NR}
theorem nackV_all(hc:CfgOk c)(h:NAt w0 o0 c i b s w o r)(hi:i<c.nodes)(now m:Int)(v:Value)(L:List Int)(hv:BO w o v L)(hk:AckOkV c i s L now)(h0:0≤now):
  Calls Tryz.prog 36 #[.pointer (some ⟨b,0,none⟩),.int .i64 now,v,.int .i64 m] w (PN w0 o0 c i b (noEv (z8 i s L now)) (λv w' o'=>Eo w' o' (cl i 9) v (z8 i s L now).ev)):=by
 by_cases hcl:s.synced=false∨s.sopen=false∨s.sasn≠now
 ·rw[ackDN_closed hcl]
  refine (nack_closed h now m v hcl).mono (λen w' hp=>?_)
  obtain⟨rfl,rfl⟩:=hp
  rw[jR hk.ev,hk.ev]
  exact⟨_,o,r,rfl,h,Eo.nil _ _ _⟩
 ·rcases hk.c with hx|⟨k2,k3,k4,k5,k6⟩
  ·exact absurd hx hcl
  ·simp only[not_or,ne_eq,Classical.not_not] at hcl
   have hn:=hc.n1
   have hs:s.synced=true∧s.sopen=true∧s.sasn=now:=⟨by simpa using hcl.1,by simpa using hcl.2.1,hcl.2.2⟩
   by_cases h1:s.skind=1
   ·obtain⟨a1,a2,a3,a4⟩:=k6 h1
    exact nackd_any h now m v L hv hk.len hs h1 a1 (by omega) a2 a3 a4 hk.ev k2 k3 ⟨k4.1,by omega⟩ k5 h0
   ·rw[ackDN_eq h1]
    exact nack_any h now m v L hv hk.len hs h1 hk.ev k2 k3 ⟨k4.1,by omega⟩ k5 h0
theorem doneN_evp{s:NSt}{f:Fr}{tt rk now:Int}(hs:EvP i c.nodes s.ev)(ht:0≤tt∧tt<c.nodes):EvP i c.nodes (j7 i s f tt rk now).ev∧(j7 i s f tt rk now).ev.length≤s.ev.length+2:=by
 unfold j7
 split
 ·exact hearsN_evp hs _ _ _ _ ht
 ·exact⟨hs,by omega⟩
theorem ackV_evp{L:List Int}{now:Int}(hk:AckOkV c i s L now):EvP i c.nodes (z8 i s L now).ev∧(z8 i s L now).ev.length≤10:=by
 by_cases hcl:s.synced=false∨s.sopen=false∨s.sasn≠now
 ·rw[ackDN_closed hcl,hk.ev];exact⟨EvP.nil _ _,by simp⟩
 ·rcases hk.c with hx|⟨k2,k3,k4,k5,k6⟩
  ·exact absurd hx hcl
  ·have hE:EvP i c.nodes s.ev:=by rw[hk.ev];exact EvP.nil _ _
   have h0:s.ev.length=0:=by rw[hk.ev];rfl
   unfold z8
   split
   ·split
    ·unfold acksN
     split
     ·obtain⟨a1,a2⟩:=doneN_evp (i:=i) (c:=c) (s:=qT (opnN s false)) (f:=(decF L).2) (tt:=s.sdst) (rk:=(zZ (decF L).2 now).1) (now:=now) hE k4
      exact⟨a1,by have:(qT (opnN s false)).ev.length=0:=h0;omega⟩
     ·obtain⟨a1,a2⟩:=doneN_evp (i:=i) (c:=c) (s:=opnN s false) (f:=(decF L).2) (tt:=s.sdst) (rk:=(zZ (decF L).2 now).1) (now:=now) hE k4
      exact⟨a1,by have:(opnN s false).ev.length=0:=h0;omega⟩
    ·unfold failN
     split
     ·split
      ·split
       ·refine⟨EvP.snoc (l:=s.ev) hE _ (λe=>by rcases e with e|e <;> cases e) (λe=>by cases e),?_⟩
        show (s.ev++[_]).length≤10
        rw[List.length_append];simp;omega
       ·exact⟨hE,by show s.ev.length≤10;omega⟩
      ·exact⟨hE,by show s.ev.length≤10;omega⟩
     ·exact⟨hE,by show s.ev.length≤10;omega⟩
   ·exact⟨hE,by omega⟩
theorem endDS_eq{now:Int}(hk:EndOk c i s now):j6 c i s now=endS c i s now:=by
 unfold j6 endS
 split
 ·rfl
 ·rename_i ho
  rcases hk.c with hx|⟨R,L,x,k1,k2,k3⟩
  ·exact absurd hx ho
  ·rw[k1,k2]
   dsimp only
   rw[if_neg k3]
theorem dropsN_evp{n:Nat}(L:List (Int×List Int)):∀s:NSt,EvP i n s.ev→EvP i n (jg i L s).ev∧(jg i L s).ev.length≤s.ev.length+L.length:=by
 induction L with
 |nil=>intro s h;exact⟨h,by show s.ev.length≤_;omega⟩
 |cons p rest ih=>
  intro s h
  unfold jg
  split
  ·obtain⟨a,b⟩:=ih (evN (qT s) ⟨5,i,0,3,(decP p.2).2⟩) (EvP.snoc (l:=s.ev) h _ (λe=>by rcases e with e|e <;> cases e) (λe=>by cases e))
   refine⟨a,?_⟩
   have:(evN (qT s) ⟨5,i,0,3,(decP p.2).2⟩).ev.length=s.ev.length+1:=by show (s.ev++[_]).length=_;simp
   simp only[List.length_cons]
   omega
  ·obtain⟨a,b⟩:=ih (qT s) h
   refine⟨a,?_⟩
   have:(qT s).ev.length=s.ev.length:=rfl
   simp only[List.length_cons]
   omega
structure EndOkV(c:Cfg)(i:Nat)(s:NSt)(now:Int):Prop where
 ev:s.ev=[]
 c:(i=0∨s.synced=false)∨∃R L x,s.p=some (R,L)∧s.k=some x∧(qR (pN (kN s (some (vf x))) (some (R,keptL L now c.loss)))≠64∨(s.q.length≤800∧∀p∈s.q,p.2.length≤100000))
theorem EndOkV.cases{now:Int}(h:EndOkV c i s now):EndOk c i s now∨(i≠0∧s.synced=true∧∃R L x,s.p=some (R,L)∧s.k=some x∧qR (pN (kN s (some (vf x))) (some (R,keptL L now c.loss)))=64∧s.q.length≤800∧(∀p∈s.q,p.2.length≤100000)∧j6 c i s now=endLN i s):=by
 by_cases h0:i=0∨s.synced=false
 ·exact .inl ⟨h.ev,.inl h0⟩
 ·rcases h.c with hx|⟨R,L,x,k1,k2,k3⟩
  ·exact absurd hx h0
  ·by_cases hf:qR (pN (kN s (some (vf x))) (some (R,keptL L now c.loss)))=64
   ·rcases k3 with k3|⟨k3,k4⟩
    ·exact absurd hf k3
    ·refine .inr ⟨λe=>h0 (.inl e),?_,R,L,x,k1,k2,hf,k3,k4,?_⟩
     ·cases hs:s.synced with
      |true=>rfl
      |false=>exact absurd (.inr hs) h0
     ·unfold j6
      rw[if_neg h0,k1,k2]
      dsimp only
      rw[if_pos hf]
   ·exact .inl ⟨h.ev,.inr ⟨R,L,x,k1,k2,hf⟩⟩
theorem nendV_all(hc:CfgOk c)(h:NAt w0 o0 c i b s w o r)(hi:i<c.nodes)(now:Int)(h0:0≤now)(h1:now<1099511627776)(hk:EndOkV c i s now):
  Calls Tryz.prog 38 #[.pointer (some ⟨b,0,none⟩),.int .i64 now] w (PN w0 o0 c i b (noEv (j6 c i s now)) (λv w' o'=>Eo w' o' (cl i 9) v (j6 c i s now).ev)):=by
 rcases hk.cases with ho|⟨a1,a2,R,L,x,a3,a4,a5,a6,a7,a8⟩
 ·rw[endDS_eq ho]
  exact nend_all hc h now h0 h1 ho
 ·rw[a8]
  exact nend_lost hc h hi now h0 h1 a1 a2 R L x a3 a4 (by rw[hk.ev];simp) a6 a7 a5
theorem endV_evpO{now:Int}(hk:EndOk c i s now):EvP i c.nodes (j6 c i s now).ev∧(j6 c i s now).ev.length≤10:=by
 rw[endDS_eq hk]
 exact end_evp hk
theorem endV_evp{now:Int}(hk:EndOkV c i s now):EvP i c.nodes (j6 c i s now).ev∧(j6 c i s now).ev.length≤1000:=by
 rcases hk.cases with ho|⟨a1,a2,R,L,x,a3,a4,a5,a6,a7,a8⟩
 ·obtain⟨b1,b2⟩:=endV_evpO ho
  exact⟨b1,by omega⟩
 ·rw[a8]
  unfold endLN
  obtain⟨b1,b2⟩:=dropsN_evp (i:=i) (n:=c.nodes) s.q (evN (lost0N s) ⟨3,i,0,0,pk0⟩) (by
   show EvP i c.nodes (s.ev++[_])
   rw[hk.ev]
   exact EvP.snoc (EvP.nil _ _) _ (λ_=>rfl) (λe=>by cases e))
  refine⟨b1,?_⟩
  have:(evN (lost0N s) ⟨3,i,0,0,pk0⟩).ev.length=1:=by show (s.ev++[_]).length=1;rw[hk.ev];rfl
  omega
end
end Go.Proofs.YtnpihllannobgaaGreatDoor
