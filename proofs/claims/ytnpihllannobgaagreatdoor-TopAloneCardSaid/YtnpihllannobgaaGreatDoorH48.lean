/- Steps of the proof, part H48. No condition. -/
import Derived.Test.YtnpihllannobgaaGreatDoorH46
import Derived.Test.YtnpihllannobgaaGreatDoorH47
import Derived.Test.YtnpihllannobgaaGreatDoorH44
namespace Go.Proofs.YtnpihllannobgaaGreatDoor
set_option linter.unusedVariables false
set_option linter.unusedSimpArgs false
set_option maxRecDepth 100000
set_option maxHeartbeats 32000000
open Go.ChangeShapes Go.WideShapes Go.ChangeAt Go.RowKit
section
variable {w0 w w':World}{o0 o o':Cls}{c:Cfg}{W:Nat}{x x':WM}{asn asn' t now:Int}{r r':WR}{s:NSt}{i:Nat}
theorem post_ev(tw:Int)(T:List Int):(postN c i s now tw T).1.ev=s.ev:=by
 have k:∀p g,(zR c s p g).1.ev=s.ev:=λp g=>by unfold zR;split <;> rfl
 unfold postN
 split
 ·rfl
 ·split
  ·rfl
  ·split
   ·split
    ·rfl
    ·exact k _ _
   ·exact k _ _
theorem GN.sendOk(h:GN c i t s):SendOk c s:=by
 have h6:=h.last
 exact⟨by omega,λn L hL=>by have:=h.paths n L hL;omega,by have:=h.ql;omega⟩
theorem GW.put(h:GW c t x)(hi:i<c.nodes)(hs:GN c i t s)(he:s.ev=[])(b:List Int)(hb:Bd c.nodes (2000*t) b)(ev:List Ev)(air:List Snd)(bk:List (Option (List Int))):GW c t (WM.mk (x.nodes.set i s) b ev air bk):=by
 refine⟨by simp[h.nl],hb,λj hj=>?_⟩
 rw[nd_set x i j s (by rw[h.nl];exact hi)]
 by_cases e:j=i
 ·subst e;rw[if_pos rfl];exact⟨hs,he⟩
 ·rw[if_neg e];exact h.nd j hj
def PDA(w0:World)(o0:Cls)(c:Cfg)(W:Nat)(asn t k:Int)(r:WR)(en:Ending)(w':World):Prop:=
 ∃v o' r' e x' asn',en= .returned (.tuple #[v,.int .i64 e])∧WAt w0 o0 c W (zh x') asn' w' o' r'∧Eo w' o' (cl 16 4) v x'.ev∧GW c (t+1) (zh x')∧(asn≤asn'∧asn'≤asn+1)∧
  (∀j b,r'.ij j=some b→b.length≤100000)∧(k≠4→r.ij=qh→r'.ij=qh)∧(k=1→r.ij=qh→∀e∈x'.ev,e.kind=1→e.src=asn % (c.nodes:Int))
theorem GW.same(h:GW c t x)(hx:x.ev=[]):GW c (t+1) (zh x):=by
 have:=h.mono (show t≤t+1 by omega)
 exact⟨this.nl,this.bd,this.nd⟩
theorem PDk.a{Jp:Inj→Prop}{k:Int}(h1:GW c (t+1) (zh x'))(h2:asn≤asn'∧asn'≤asn+1)(h3:∀J,Jp J→(∀j b,J j=some b→b.length≤100000)∧(k≠4→r.ij=qh→J=qh))(h4:k=1→r.ij=qh→∀e∈x'.ev,e.kind=1→e.src=asn % (c.nodes:Int))
  {en:Ending} (h:PDk w0 o0 c W x' asn' Jp en w'):PDA w0 o0 c W asn t k r en w':=by
 obtain⟨v,o',r',e,a,b,d,f⟩:=h
 exact⟨v,o',r',e,x',asn',a,b,d,h1,h2,(h3 _ f).1,(h3 _ f).2,h4⟩
theorem wdo_all(hc:CfgOk c)(h:WAt w0 o0 c W x asn w o r)(ha:0≤asn∧asn<1000000)(hG:GW c t x)(hx:x.ev=[])(ht:0≤t∧t≤99999)(z:Stp)(hz:StpOk w o z)(hij:∀j b,r.ij j=some b→b.length≤100000):
  Calls Tryz.prog 7 #[VP W,stpV z.k z.i z.t z.dr z.lo z.ac z.er z.da] w (PDA w0 o0 c W asn t z.k r):=by
 obtain⟨k,i,tt,dr,lo,ac,er,da,d,T⟩:=z
 obtain⟨hs,hda⟩:=hz
 dsimp only at hs hda ⊢
 have hn1:=hc.n1
 have hn0:=hc.n0
 have hsame:=hG.same hx
 obtain⟨dA,dc,hdr,_⟩:=hs.drift
 obtain⟨lA,lc,hlo,_⟩:=hs.lost
 obtain⟨aA,acp,hac,_⟩:=hs.acks
 obtain⟨eA,ec,her,_⟩:=hs.err
 obtain⟨xA,xn,xc,hxa⟩:=hs.da
 subst hdr hlo hac her hxa
 have ga:=Chg.alloc (λ_=>False) w (.cells #[.int .i64 k,.int .i64 i,.int .i64 tt,.slice dA d.drift.length dc,.slice lA d.lost.length lc,.slice aA d.acks.length acp,.slice eA d.err.length ec,.slice xA xn xc] 35)
 have hk:=h.kept hn1 ga
 have hs1:=hs.step (Ext.refl _ _) ga (λ_ _ e=>e)
 have hd1:=hda.keep ga (λ_ _ e=>e)
 by_cases k1:k=1
 ·subst k1
  have hgs:=hG.slot hc hx ⟨ht.1,by omega⟩ d asn r.ij
  have hok:=hgs.ok hG hc ht hij
  have HS:=(wslotV_any hc hk ⟨ha.1,by omega⟩ 1 i tt hs1 hok).mono (λen w' p=>PWa.k (Jp:=λJ=>J=qh) rfl p)
  exact (wdo_k1 hn1 HS).mono (λen w' p=>p.a hgs.fin.1 (by omega) (λJ e=>⟨(λj b h=>by rw[e] at h;cases h),(λ_ _=>e)⟩) (λ_ e=>hgs.fin.2 e))
 ·by_cases k2:k=2
  ·subst k2
   have hJ:∀J,J=r.ij→(∀j b,J j=some b→b.length≤100000)∧((2:Int)≠4→r.ij=qh→J=qh):=λJ e=>⟨by rw[e];exact hij,λ_ h=>by rw[e,h]⟩
   cases hi:inR i 0 ((c.nodes:Int)-1) with
   |false=>
    have HS:=wsend_bad (Jp:=λJ=>J=r.ij) (t:=tt) hc hk i hi hs1 rfl
    exact (wdo_k2 hn1 HS).mono (λen w' p=>p.a hsame (by omega) hJ (λe=>by cases e))
   |true=>
    have hir:0≤i∧i≤(c.nodes:Int)-1:=by
     unfold inR at hi
     simpa using hi
    obtain⟨n,rfl⟩:=Int.eq_ofNat_of_zero_le hir.1
    have hn:n<c.nodes:=by omega
    obtain⟨g1,g2⟩:=hG.nd n hn
    have HS:=(wsend_any hc hk ⟨ha.1,by omega⟩ n hn tt T hs1 hd1 g1.sendOk).mono (λen w' p=>PWa.k (Jp:=λJ=>J=r.ij) rfl p)
    have hfin:GW c (t+1) (zh (sendW c n asn tt T x)):=(hG.mono (show t≤t+1 by omega)).put hn ((g1.post hc tt T).mono (by omega)) (by rw[post_ev];exact g2) _ (hG.bd.mono (by omega)) _ _ _
    exact (wdo_k2 hn1 HS).mono (λen w' p=>p.a hfin (by omega) hJ (λe=>by cases e))
  ·by_cases k3:k=3
   ·subst k3
    have hJ:∀J,J=r.ij→(∀j b,J j=some b→b.length≤100000)∧((3:Int)≠4→r.ij=qh→J=qh):=λJ e=>⟨by rw[e];exact hij,λ_ h=>by rw[e,h]⟩
    by_cases hb:inR i 0 ((c.nodes:Int)-1)=false∨i=0
    ·have HS:=wreboot_bad (Jp:=λJ=>J=r.ij) hc hk i hb rfl
     exact (wdo_k3 hn1 HS).mono (λen w' p=>p.a hsame (by omega) hJ (λe=>by cases e))
    ·have hir:0≤i∧i≤(c.nodes:Int)-1:=by
      cases e:inR i 0 ((c.nodes:Int)-1) with
      |false=>exact absurd (.inl e) hb
      |true=>unfold inR at e;simpa using e
     obtain⟨n,rfl⟩:=Int.eq_ofNat_of_zero_le hir.1
     have hn:n<c.nodes:=by omega
     have hn0:n≠0:=λe=>hb (.inr (by rw[e];rfl))
     obtain⟨g1,g2⟩:=hG.nd n hn
     have q1:=g1.base
     have q2:=g1.sum
     have HS:=(wreboot_any hc hk n hn hn0 (by omega) (by omega) (by rw[hx];simp)).mono (λen w' p=>PWa.k (Jp:=λJ=>J=r.ij) rfl p)
     have hfin:GW c (t+1) (zh (rebootW c n x)):=by
      have hG1:=hG.mono (show t≤t+1 by omega)
      have hr:GN c n (t+1) (vF n (x.nd n)):=(g1.reboot).mono (by omega)
      unfold rebootW
      split
      ·exact hG1.put hn hr rfl _ (Bd.tells (K:=2000*t) (M:=2000*(t+1)) hG.bd (by omega) hc.e.1 (by have:=hc.e;omega) _ (hG.bd.mono (by omega))) _ _ _
      ·exact hG1.put hn hr rfl _ (hG.bd.mono (by omega)) _ _ _
     exact (wdo_k3 hn1 HS).mono (λen w' p=>p.a hfin (by omega) hJ (λe=>by cases e))
   ·by_cases k4:k=4
    ·subst k4
     have HS:=winject_any (t:=tt) hc hk i hs1 hd1
     exact (wdo_k4 hn1 HS).mono (λen w' p=>p.a hsame (by omega) (λJ hJ=>⟨λj b e=>by
      rcases hJ j b e with q|q
      ·omega
      ·exact hij j b q,λe=>absurd rfl e⟩) (λe=>by cases e))
    ·exact (wdo_kd hn1 ⟨k1,k2,k3,k4⟩ (Jp:=λJ=>J=r.ij) ⟨hk,rfl⟩).mono (λen w' p=>p.a hsame (by omega) (λJ e=>⟨by rw[e];exact hij,λ_ h=>by rw[e,h]⟩) (λe=>absurd e k1))
end
def cA(n wd:Nat):Cfg:=cG n wd (1+((9:Nat):Int)) (2*(n:Int)+((9:Nat):Int)) (1+((5:Nat):Int)) (1+((9:Nat):Int)) ((1:Nat):Int)
theorem cA_ok{n wd:Nat}(hn:2≤n∧n≤8)(hw:1≤wd∧wd≤3):CfgOk (cA n wd):=by
 have h:=cT_ok hn hw
 refine⟨h.n0,h.n1,h.near,h.nearb,h.hops,h.g,?_,?_,?_,?_,?_⟩
 ·show (0:Int)≤((1:Nat):Int)∧((1:Nat):Int)≤1000;decide
 ·show (1:Int)≤1+((9:Nat):Int)∧1+((9:Nat):Int)≤10000;decide
 ·show (2:Int)≤2*(n:Int)+((9:Nat):Int)∧2*(n:Int)+((9:Nat):Int)≤10000;omega
 ·show (1:Int)≤1+((5:Nat):Int)∧1+((5:Nat):Int)≤32;decide
 ·show (1:Int)≤1+((9:Nat):Int)∧1+((9:Nat):Int)≤15;decide
def SideA(w:World)(cb:Nat)(ob:Obj)(o:Cls)(wr:World):Prop:=(wr.heap[cb]? =some ob∧o cb=0)∧KpW w o wr
theorem SideA.go{w w1 w2:World}{cb:Nat}{ob:Obj}{o o2:Cls}{c:Cfg}{W:Nat}{x:WM}{a:Int}{r:WR}(h:SideA w cb ob o w1)(A:WAt w1 o c W x a w2 o2 r):SideA w cb ob o2 w2:=
 ⟨A.blk0 h.1,h.2.go A⟩
theorem SideA.ch{w w1 w2:World}{cb:Nat}{ob:Obj}{o:Cls}(h:SideA w cb ob o w1)(g:Chg (λ_=>False) w1 w2):SideA w cb ob o w2:=
 ⟨⟨Chg.keep g h.1.1 (λe=>e),h.1.2⟩,h.2.ch g⟩
theorem alone_walk(hAw:∀w,Calls Tryz.prog 12 #[] w (PV (.bool true) w))(nodes wide:Int)(a:Option Addr)(len cap:Nat)(zs:List Stp)(w:World)(hs:Sls 8 VStp w a len zs)(hok:∀z∈zs,StpOk w zc z):
  Calls Tryz.prog 5 #[.int .i64 nodes,.int .i64 wide,.slice a len cap] w (PTrue w):=by
 obtain⟨nm,hn1,hn2⟩:=umod nodes 7 (by decide) (by decide)
 obtain⟨wm,hw1,hw2⟩:=umod wide 3 (by decide) (by decide)
 have HCF0:∀w,Calls Tryz.prog 13 #[.int .i64 nodes,.int .i64 wide,.int .i64 9,.int .i64 9,.int .i64 5,.int .i64 9,.int .i64 1] w (PConf w (cA (2+nm) (1+wm))):=λw=>
  conf_any w nodes wide 9 9 5 9 1 nm wm 9 9 5 9 1 ⟨hn1,hn2⟩ ⟨hw1,hw2⟩ ⟨by decide,by decide+kernel⟩ ⟨by decide,by decide+kernel⟩ ⟨by decide,by decide+kernel⟩ ⟨by decide,by decide+kernel⟩ ⟨by decide,by decide+kernel⟩
 have hcok:CfgOk (cA (2+nm) (1+wm)):=cA_ok ⟨by omega,by omega⟩ ⟨by omega,by omega⟩
 have hhops:(cA (2+nm) (1+wm)).hops=[11,15,20]:=rfl
 obtain⟨c,hcc⟩:=qZ (cA (2+nm) (1+wm))
 rw[←hcc] at HCF0 hcok hhops
 have HCF:=qQ (show∀w,Calls Tryz.prog 13 #[.int .i64 nodes,.int .i64 wide,.int .i64 9,.int .i64 9,.int .i64 5,.int .i64 9,.int .i64 1] w (λen w'=>∃g1 g2:Nat,en= .returned (.agg #[.int .i64 c.nodes,.slice (some ⟨g1,0,none⟩) c.nodes c.nodes,.slice (some ⟨g2,0,none⟩) 3 3,.int .i64 c.guard,.int .i64 c.err,.int .i64 c.keep,.int .i64 c.loss,.int .i64 c.queue,.int .i64 c.life])∧
  w'.heap[g1]? =some (.cells (c.near.map VU).toArray 23 (0,0))∧w'.heap[g2]? =some (.cells #[.int .i64 11,.int .i64 15,.int .i64 20] 3 (0,0))∧w.heap.size≤g1∧w.heap.size≤g2∧Chg (λ_=>False) w w') from λw=>(HCF0 w).mono (λen w' h=>h))
 have HC:=qQ hcok
 have HHO:=qQ hhops
 have hn16:2≤c.nodes∧c.nodes≤16:=⟨hcok.n0,hcok.n1⟩
 have HLT:=qQ (light_any (cap:=cap) hs hok)
 have HSL:=qQ (And.intro hs hok)
 have hlen:=hs.len
 clear HCF0 hcok hhops hcc hn1 hn2 hw1 hw2 hs hok
 go_enter Tryz.func5,Tryz.ntmps5
 go_wp2_with fail
 with_reducible refine HLT.out.mono ?_
 rintro en wl ⟨bb,rfl,hgl,hbl⟩
 have HGL:=qQ (And.intro hgl hbl)
 clear hgl hbl HLT
 cases bb with
 |false=>
  go_wp2_with fail
  (with_reducible refine (hAw wl).mono ?_)
  rintro en w8 ⟨rfl,hg8⟩
  have HG8:=qQ (HGL.out.1.trans hg8)
  clear hg8
  go_wp2_with fail
  go_ret
  exact⟨rfl,HG8.out⟩
 |true=>
 have hl4:len≤400:=by
  have h1:=HGL.out.2 rfl
  have h2:=HSL.out.1.1
  unfold LightOk at h1
  omega
 go_wp2_with fail
 (with_reducible refine (HCF.out wl).mono ?_)
 rintro en w1 ⟨g1,g2,rfl,b1,b2,hg1,hg2,G1⟩
 have HM:Hid (∀W,Chg (λ_=>False) w1 W→Calls Tryz.prog 6 #[.agg #[.int .i64 c.nodes,.slice (some ⟨g1,0,none⟩) c.nodes c.nodes,.slice (some ⟨g2,0,none⟩) 3 3,.int .i64 c.guard,.int .i64 c.err,.int .i64 c.keep,.int .i64 c.loss,.int .i64 c.queue,.int .i64 c.life]] W (PMade W zc c)):=qQ (λW g=>by
  have hl:(c.near).length=c.nodes:=HC.out.near
  have r1:=RV.blk (V:=VU) (Chg.keep g b1 (λe=>e)) (show zc g1=0 from rfl) c.near rfl (by rw[hl];unfold maxLen;omega)
  rw[hl] at r1
  exact made_any HC.out (z_zc _) _ _ r1 (by rw[HHO.out];exact RV.blk (V:=VI) (Chg.keep g b2 (λe=>e)) (show zc g2=0 from rfl) [11,15,20] rfl (by decide)))
 have HG1:=qQ (HGL.out.1.trans G1)
 clear b1 b2 hg1 hg2 G1 HCF HGL
 obtain⟨OB,hOB⟩:=qZ (Obj.cells #[.int .i64 c.nodes,.slice (some ⟨g1,0,none⟩) c.nodes c.nodes,.slice (some ⟨g2,0,none⟩) 3 3,.int .i64 c.guard,.int .i64 c.err,.int .i64 c.keep,.int .i64 c.loss,.int .i64 c.queue,.int .i64 c.life] 26)
 have ga:=Chg.alloc (λ_=>False) w1 OB
 have hba:=qV w1 OB
 have HM2:=qQ (HM.out _ ga)
 have HGA:=qQ (HG1.out.trans ga)
 rw[hOB] at HM2 HGA hba
 clear ga HM hOB
 go_upto_region 4 with fail
 obtain⟨cb,hcb⟩:=qZ w1.heap.size
 rw[←hcb] at hba ⊢
 generalize w1.alloc (.cells #[.int .i64 c.nodes,.slice (some ⟨g1,0,none⟩) c.nodes c.nodes,.slice (some ⟨g2,0,none⟩) 3 3,.int .i64 c.guard,.int .i64 c.err,.int .i64 c.keep,.int .i64 c.loss,.int .i64 c.queue,.int .i64 c.life] 26)=w2 at *
 have HBA:=qQ hba
 have d0:w2.cell? ⟨cb,0,none⟩=some (.int .i64 c.nodes):=qJ hba 0
 have d1:w2.cell? ⟨cb,1,none⟩=some (.slice (some ⟨g1,0,none⟩) c.nodes c.nodes):=qJ hba 1
 have d2:w2.cell? ⟨cb,2,none⟩=some (.slice (some ⟨g2,0,none⟩) 3 3):=qJ hba 2
 have d3:w2.cell? ⟨cb,3,none⟩=some (.int .i64 c.guard):=qJ hba 3
 have d4:w2.cell? ⟨cb,4,none⟩=some (.int .i64 c.err):=qJ hba 4
 have d5:w2.cell? ⟨cb,5,none⟩=some (.int .i64 c.keep):=qJ hba 5
 have d6:w2.cell? ⟨cb,6,none⟩=some (.int .i64 c.loss):=qJ hba 6
 have d7:w2.cell? ⟨cb,7,none⟩=some (.int .i64 c.queue):=qJ hba 7
 have d8:w2.cell? ⟨cb,8,none⟩=some (.int .i64 c.life):=qJ hba 8
 clear hba hcb HG1
 go_wp2_with fail
 with_reducible refine HM2.out.mono ?_
 rintro en w3 ⟨W,o3,r3,rfl,hWd,hz3,hx3,hg3,hij3⟩
 have hb3:=Chg.keep hg3 HBA.out (λe=>e)
 have hcb3:o3 cb=0:=hx3 cb (qX HBA.out)
 have hkp:KpW w o3 w3:=⟨HGA.out.trans hg3,λq hq=>hx3 q (Nat.lt_of_lt_of_le hq HGA.out.size)⟩
 obtain⟨ob,hob⟩:=qZ (Obj.cells #[.int .i64 c.nodes,.slice (some ⟨g1,0,none⟩) c.nodes c.nodes,.slice (some ⟨g2,0,none⟩) 3 3,.int .i64 c.guard,.int .i64 c.err,.int .i64 c.keep,.int .i64 c.loss,.int .i64 c.queue,.int .i64 c.life] 26)
 rw[←hob] at hb3
 have HOB:=qQ (show∀wr:World,wr.heap[cb]? =some ob→wr.cell? ⟨cb,0,none⟩=some (.int .i64 c.nodes) from λwr h=>by rw[hob] at h;exact qJ h 0)
 have HST:Hid (∃x o r,∃a':Int,(0≤a'∧a'≤((0:Nat):Int))∧WAt w3 o c W x a' w3 o r∧SideA w cb ob o w3∧GW c ((0:Nat):Int) x∧x.ev=[]∧(∀j b,r.ij j=some b→b.length≤100000)∧((∀z∈zs.take 0,z.k≠4)→r.ij=qh)):=
  qQ ⟨_,o3,r3,0,⟨by omega,by omega⟩,WAt.start hWd hz3,⟨⟨hb3,hcb3⟩,hkp⟩,GW.new c,rfl,(λj b h=>by rw[hij3] at h;cases h),λ_=>hij3⟩
 clear hWd hz3 hx3 hg3 hij3 hb3 hcb3 hkp hob d0 d1 d2 d3 d4 d5 d6 d7 d8 HM2 HGA HBA
 unfold VP
 go_wp2_with fail
 go_loopw [29] (λi wr=>∃k:Nat,k≤len∧i= .int .i64 k∧∃x o r,∃a':Int,(0≤a'∧a'≤(k:Int))∧WAt wr o c W x a' wr o r∧SideA w cb ob o wr∧GW c (k:Int) x∧x.ev=[]∧(∀j b,r.ij j=some b→b.length≤100000)∧((∀z∈zs.take k,z.k≠4)→r.ij=qh)) (λi _=>len-(intOf i).toNat)
 case atStart=>exact⟨0,by omega,rfl,HST.out⟩
 case round=>
  clear HST
  obtain⟨k,hk,rfl,x,o,r,a',ha,hA,hSd,hG,hx,hij,hnj⟩:=hrel
  by_cases hlt:k<len
  ·have i1:(k:Int)<(len:Int):=by omega
   obtain⟨p,z,rfl,hz,c0,c1,c2,c3,c4,c5,c6,c7⟩:=HSL.out.1.stp (hSd.2.1.none) hlt
   have hzm:=List.mem_of_getElem? hz
   have hzo:StpOk w zc z:=HSL.out.2 z hzm
   have hz1:StpOk wr o z:=hzo.step (λq hq=>(hSd.2.2 q hq).trans rfl) hSd.2.1 (λ_ _ e=>e)
   obtain⟨dA,dc,hdr,_⟩:=hzo.1.drift
   obtain⟨lA,lc,hlo,_⟩:=hzo.1.lost
   obtain⟨aA,acp,hac,_⟩:=hzo.1.acks
   obtain⟨eA,ec,her,_⟩:=hzo.1.err
   obtain⟨xA,xc,hxa,_⟩:=hzo.2.1
   have hnz:(∀y∈zs.take (k+1),y.k≠4)→(∀y∈zs.take k,y.k≠4)∧z.k≠4:=λh=>by
    rw[List.take_add_one,hz] at h
    exact⟨λy hy=>h y (List.mem_append_left _ hy),h z (List.mem_append_right _ (by simp))⟩
   have hfg:r.ij≠qh→vR zs=true:=λh=>by
    cases e:vR zs with
    |true=>rfl
    |false=>
     unfold vR at e
     rw[List.any_eq_false] at e
     exact absurd (hnj (λy hy=>by simpa using e y (List.mem_of_mem_take hy))) h
   have hDO:=λ(w9:World) (g9:Chg (λ_=>False) wr w9)=>wdo_all HC.out ((hA.kept hn16.2 g9).re) ⟨ha.1,by omega⟩ hG hx ⟨by omega,by omega⟩ z (hz1.step (Ext.refl _ _) g9 (λ_ _ e=>e)) hij
   unfold stpV at hDO
   rw[hdr] at c3
   rw[hlo] at c4
   rw[hac] at c5
   rw[her] at c6
   rw[hxa] at c7
   rw[hdr,hlo,hac,her,hxa] at hDO
   generalize z.d.drift.length=nd at *
   generalize z.d.lost.length=nl at *
   generalize z.d.acks.length=na at *
   generalize z.d.err.length=ne at *
   generalize z.data.length=nx at *
   obtain⟨zk,hzk⟩:=qZ z.k
   obtain⟨zi,hzi⟩:=qZ z.i
   obtain⟨zt,hzt⟩:=qZ z.t
   rw[←hzk] at c0 hDO hnz
   rw[←hzi] at c1 hDO
   rw[←hzt] at c2 hDO
   have ga:=Chg.alloc (λ_=>False) wr (.cells #[.int .i64 zk,.int .i64 zi,.int .i64 zt,.slice dA nd dc,.slice lA nl lc,.slice aA na acp,.slice eA ne ec,.slice xA nx xc] 35)
   have hsb:=qV wr (.cells #[.int .i64 zk,.int .i64 zi,.int .i64 zt,.slice dA nd dc,.slice lA nl lc,.slice aA na acp,.slice eA ne ec,.slice xA nx xc] 35)
   have hso:o wr.heap.size=0:=hA.z _ (Nat.le_refl _)
   have HASN:=qQ (wasn_any (hA.kept hn16.2 ga))
   have HDO:=qQ (hDO _ ga)
   have HSB:=qQ (And.intro hsb hso)
   have HSD:=qQ (hSd.ch ga)
   have HZ:=qQ (And.intro hnz (And.intro hfg hnj))
   obtain⟨e0,e1,e2,e3,e4,e5,e6,e7⟩:=vj hsb
   have ha0:0≤a'∧a'≤400:=⟨ha.1,by omega⟩
   have HA2:=qQ ha
   clear hz hzm hzo hz1 hdr hlo hac her hxa hnz hfg hDO hzk hzi hzt ga hsb hso hA hSd hG hx hij hnj ha
   unfold VP at HASN HDO
   go_upto_region 10 with fail
   generalize wr.alloc (.cells #[.int .i64 zk,.int .i64 zi,.int .i64 zt,.slice dA nd dc,.slice lA nl lc,.slice aA na acp,.slice eA ne ec,.slice xA nx xc] 35)=w4 at *
   clear c0 c1 c2 c3 c4 c5 c6 c7
   generalize wr.heap.size=sb at *
   go_wp2_with fail
   with_reducible refine HASN.out.mono ?_
   rintro en w5 ⟨rfl,hw5⟩
   subst hw5
   go_wp2_with fail
   with_reducible refine HDO.out.mono ?_
   rintro en w5 ⟨v,o5,r5,ee,x5,a5,rfl,hA5,hE5,hG5,ha5,hij5,hnj5,hlaw⟩
   have hsb5:=hA5.blk0 HSB.out
   have hSd5:=HSD.out.go hA5
   have HA5:=qQ (And.intro hA5 (And.intro hG5 (And.intro ha5 (And.intro hij5 hnj5))))
   have HB5:=qQ (And.intro hsb5 hSd5)
   have HLAW:=qQ hlaw
   clear hA5 hG5 ha5 hij5 hnj5 hsb5 hSd5 hlaw HASN HDO HSB HSD e0 e1 e2 e3 e4 e5 e6 e7
   obtain⟨ps,p1,p2,p3,p4⟩:=hE5
   obtain⟨m,hm⟩:=qZ ps.length
   rw[←hm] at p1
   have hvv:∃vA vc,v= .slice vA m vc∧m≤9223372036854775807:=by
    rcases qD p1 with ⟨e,h0,_⟩|⟨g,cap,e,_,_,h1,h2⟩
    ·exact⟨none,0,by rw[e,h0],by omega⟩
    ·exact⟨_,_,e,by unfold maxLen at h2;omega⟩
   obtain⟨vA,vc,rfl,hmb⟩:=hvv
   have HP:=qQ (And.intro p1 (And.intro p3 (And.intro hm p4)))
   clear p1 p2 p3 p4 hm
   obtain⟨rm,hrm⟩:∃rm:Int,rm=a' % (c.nodes:Int):=⟨_,rfl⟩
   have t1:a'.tmod (c.nodes:Int)=rm:=by rw[hrm];exact Int.tmod_eq_emod_of_nonneg ha0.1
   have t2:IntKind.i64.wrap rm=rm:=IntWalk.i64_in _ (by rw[hrm];have:=Int.emod_nonneg a' (show (c.nodes:Int)≠0 by omega);have:=Int.emod_lt_of_pos a' (show (0:Int)<c.nodes by omega);omega)
   have t4:¬c.nodes=0:=by omega
   rw[←hrm] at HLAW
   clear hrm
   go_wp2_with fail
   go_loopw [43] (λi wx=>∃q:Nat,q≤m∧i= .int .i64 q∧Chg (λ_=>False) w5 wx) (λi _=>m-(intOf i).toNat)
   case atStart=>exact⟨0,by omega,rfl,Chg.refl _ _⟩
   case round=>
    obtain⟨q,hq,rfl,hG⟩:=hrel
    by_cases hlq:q<m
    ·obtain⟨⟨e,pv,dv⟩,hzz⟩:∃y,ps[q]? =some y:=⟨_,List.getElem?_eq_getElem (by have:=HP.out.2.2.1;omega)⟩
     have i4:(q:Int)<(m:Int):=by omega
     obtain⟨g,cap2,hvv⟩:∃g cap2,vA=some ⟨g,0,none⟩∧vc=cap2:=by
      rcases qD HP.out.1 with ⟨e,h1,_⟩|⟨g,cap2,e,_⟩
      ·omega
      ·cases e;exact⟨_,_,rfl,rfl⟩
     obtain⟨rfl,rfl⟩:=hvv
     have hrow:=qY HP.out.1 hG (λ_ _ e=>e)
     obtain⟨d0,d1,d2,d3,d4,d5,d6,d7,d8,d9⟩:=evAt hrow hzz
     have hme:e∈x5.ev:=by rw[HP.out.2.2.2];exact List.mem_map_of_mem (f:=Prod.fst) (List.mem_of_getElem? hzz)
     have hpv:∃A n c,pv= .slice A n c:=by
      obtain⟨⟨A,c,e,_⟩,_⟩:=HP.out.2.1 _ (List.mem_of_getElem? hzz)
      exact⟨_,_,_,e⟩
     have hdv:∃A n c,dv= .slice A n c:=by
      obtain⟨_,⟨A,c,e,_⟩,_⟩:=HP.out.2.1 _ (List.mem_of_getElem? hzz)
      exact⟨_,_,_,e⟩
     obtain⟨pA2,pn2,pc2,rfl⟩:=hpv
     obtain⟨dA2,dn2,dc2,rfl⟩:=hdv
     dsimp only at d0 d1 d2 d3 d4 d5 d6 d7 d8 d9
     have hlw:zk=1→r.ij=qh→e.kind=1→e.src=rm:=λh1 h2 h3=>HLAW.out h1 h2 e hme h3
     have ga:=Chg.alloc (λ_=>False) wr (.cells #[.int .i64 e.kind,.int .i64 e.i,.int .i64 e.src,.int .i64 e.code,.int .i64 e.p.src,.int .i64 e.p.dst,.int .i64 e.p.n,.int .i64 e.p.life,.slice pA2 pn2 pc2,.slice dA2 dn2 dc2] 44)
     have hsx:=Chg.keep ga (Chg.keep hG HB5.out.1.1 (λe=>e)) (λe=>e)
     have hcx:=HOB.out _ (Chg.keep ga (Chg.keep hG HB5.out.2.1.1 (λe=>e)) (λe=>e))
     obtain⟨y0,y1,y2,y3,y4,y5,y6,y7,y8,y9⟩:=cell10 (qV wr (.cells #[.int .i64 e.kind,.int .i64 e.i,.int .i64 e.src,.int .i64 e.code,.int .i64 e.p.src,.int .i64 e.p.dst,.int .i64 e.p.n,.int .i64 e.p.life,.slice pA2 pn2 pc2,.slice dA2 dn2 dc2] 44))
     have s0:_=some (Value.int .i64 zk):=qJ hsx 0
     have HGA:=qQ (hG.trans ga)
     have HLW:=qQ hlw
     clear hzz hrow hme hlw ga hsx hG
     go_upto_region 15 with fail
     obtain⟨eb,heb⟩:=qZ wr.heap.size
     rw[←heb] at y0 y1 y2 y3 y4 y5 y6 y7 y8 y9 ⊢
     generalize wr.alloc (.cells #[.int .i64 e.kind,.int .i64 e.i,.int .i64 e.src,.int .i64 e.code,.int .i64 e.p.src,.int .i64 e.p.dst,.int .i64 e.p.n,.int .i64 e.p.life,.slice pA2 pn2 pc2,.slice dA2 dn2 dc2] 44)=we at *
     clear heb y1 y3 y4 y5 y6 y7 y8 y9 d0 d1 d2 d3 d4 d5 d6 d7 d8 d9
     obtain⟨I,F1,hI,hF1,hFA⟩:=clsF we
     have f0:=qF hF1 y0
     have f1:=qF hF1 y2
     have f2:=qF hF1 s0
     have f3:=qF hF1 hcx
     have HFF:=qQ hF1
     have HFA:=qQ (hFA _ (Chg.drew _ _))
     have HFG:=qQ (show∀n,Calls Tryz.prog 16 #[.slice (some p) len cap] (F1 n) (λe w'=>e= .returned (.bool (vR zs))∧∃m,w'=F1 m) from λn=>
      PV.cls hF1 hFA (forged_any HSL.out.1 HSL.out.2 ((HB5.out.2.2.1.trans (HGA.out.trans (hF1 n))).none)))
     generalize e.kind=ek at *
     generalize e.src=es at *
     clear hF1 hFA y0 y2 s0 hcx
     with_reducible refine qW F1 (by kernel_rfl) (by kernel_rfl) HFA.out ?_
     by_cases h1:ek=1
     ·have b1:(ek==1)=true:=by simpa using h1
      by_cases h2:zk=1
      ·have b2:(zk==1)=true:=by simpa using h2
       by_cases h3:es=rm
       ·have b3:(es != rm)=false:=by simpa using h3
        clear h1 h2 h3
        repeat ((with_reducible refine wpQuiet_step (λK hK=>?_));go_simp;(try (rw[if_neg];rotate_left;(intro h;cases h)));first|((with_reducible refine hK _ ?_);clear hK K)|(apply Exists.intro;(with_reducible refine⟨λ_=>?_,hK _ ?_⟩);(exact HFG.out _);clear hK K))
        with_reducible refine wpQuiet_nil ?_
        intro _ hw'
        obtain⟨nq,rfl⟩:=hw'
        have HG9:=qQ (HGA.out.trans (HFF.out nq))
        clear f0 f1 f2 f3 HFF HFA HFG hI HGA HLW
        generalize F1 nq=w9 at *
        go_wp2_with fail
        exact⟨⟨q+1,by omega,by go_num,HG9.out⟩,by simp[intOf];omega⟩
       ·have b3:(es != rm)=true:=by simpa using h3
        have hfo:vR zs=true:=HZ.out.2.1 (λh=>h3 (HLW.out h2 h h1))
        rw[hfo] at HFG
        clear h1 h2 h3 hfo
        repeat ((with_reducible refine wpQuiet_step (λK hK=>?_));go_simp;(try (rw[if_neg];rotate_left;(intro h;cases h)));first|((with_reducible refine hK _ ?_);clear hK K)|(apply Exists.intro;(with_reducible refine⟨λ_=>?_,hK _ ?_⟩);(exact HFG.out _);clear hK K))
        with_reducible refine wpQuiet_nil ?_
        intro _ hw'
        obtain⟨nq,rfl⟩:=hw'
        have HG9:=qQ (HGA.out.trans (HFF.out nq))
        clear f0 f1 f2 f3 HFF HFA HFG hI HGA HLW
        generalize F1 nq=w9 at *
        go_wp2_with fail
        exact⟨⟨q+1,by omega,by go_num,HG9.out⟩,by simp[intOf];omega⟩
      ·have b2:(zk==1)=false:=by simpa using h2
       clear h1 h2
       repeat ((with_reducible refine wpQuiet_step (λK hK=>?_));go_simp;(try (rw[if_neg];rotate_left;(intro h;cases h)));first|((with_reducible refine hK _ ?_);clear hK K)|(apply Exists.intro;(with_reducible refine⟨λ_=>?_,hK _ ?_⟩);(exact HFG.out _);clear hK K))
       with_reducible refine wpQuiet_nil ?_
       intro _ hw'
       obtain⟨nq,rfl⟩:=hw'
       have HG9:=qQ (HGA.out.trans (HFF.out nq))
       clear f0 f1 f2 f3 HFF HFA HFG hI HGA HLW
       generalize F1 nq=w9 at *
       go_wp2_with fail
       exact⟨⟨q+1,by omega,by go_num,HG9.out⟩,by simp[intOf];omega⟩
     ·have b1:(ek==1)=false:=by simpa using h1
      clear h1
      repeat ((with_reducible refine wpQuiet_step (λK hK=>?_));go_simp;(try (rw[if_neg];rotate_left;(intro h;cases h)));first|((with_reducible refine hK _ ?_);clear hK K)|(apply Exists.intro;(with_reducible refine⟨λ_=>?_,hK _ ?_⟩);(exact HFG.out _);clear hK K))
      with_reducible refine wpQuiet_nil ?_
      intro _ hw'
      obtain⟨nq,rfl⟩:=hw'
      have HG9:=qQ (HGA.out.trans (HFF.out nq))
      clear f0 f1 f2 f3 HFF HFA HFG hI HGA HLW
      generalize F1 nq=w9 at *
      go_wp2_with fail
      exact⟨⟨q+1,by omega,by go_num,HG9.out⟩,by simp[intOf];omega⟩
    ·obtain rfl:m=q:=by omega
     have hA8:=(HA5.out.1.kept hn16.2 hG).re
     have HE8:=qQ (And.intro hA8 (HB5.out.2.ch hG))
     have hb5:=HA5.out.2.2.1
     have hh2:=HA2.out
     clear hA8 hG
     have ek:IntKind.i64.wrap ((k:Int)+1)=(k:Int)+1:=IntWalk.i64_in _ (by omega)
     go_wp2_with fail
     refine⟨⟨k+1,by omega,by go_num,_,o5,r5,a5,⟨by omega,by push_cast;omega⟩,HE8.out.1,HE8.out.2,by push_cast;exact HA5.out.2.1,rfl,HA5.out.2.2.2.1,λh=>?_⟩,by simp[intOf];omega⟩
     obtain⟨h1,h2⟩:=HZ.out.1 h
     exact HA5.out.2.2.2.2 h2 (HZ.out.2.2 h1)
  ·obtain rfl:k=len:=by omega
   have HK:=qQ hSd.2.1
   clear hA hSd hG hx hij hnj ha hlt
   go_wp2_with fail
   (with_reducible refine (hAw wr).mono ?_)
   rintro en w8 ⟨rfl,hg8⟩
   have HG8:=qQ (HK.out.trans hg8)
   clear hg8
   go_wp2_with fail
   go_ret
   exact⟨rfl,HG8.out⟩
end Go.Proofs.YtnpihllannobgaaGreatDoor
