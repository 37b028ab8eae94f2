/- Steps of the proof, part G38. No condition. -/
import Derived.Test.YtnpihllannobgaaGreatDoorG33
import Derived.Test.YtnpihllannobgaaGreatDoorG32
import Derived.Test.YtnpihllannobgaaGreatDoorG37
import Derived.Test.YtnpihllannobgaaGreatDoorG15
import Derived.Deep.RegionHeld3
namespace Go.Proofs.YtnpihllannobgaaGreatDoor
set_option linter.unusedVariables false
set_option linter.unusedSimpArgs false
set_option maxRecDepth 100000
set_option maxHeartbeats 32000000
open Go.ChangeShapes Go.WideShapes Go.ChangeAt Go.RowKit
structure SendOk(c:Cfg)(s:NSt):Prop where
 last: -1≤s.last∧s.last≤140737488355328
 paths:∀n L,s.paths n=some L→2≤L.length∧L.length≤100000
 q:s.q.length≤900
def sendW(c:Cfg)(i:Nat)(now tw:Int)(T:List Int)(x:WM):WM:=x.put i (postN c i (x.nd i) now tw T).1
def sendE(c:Cfg)(i:Nat)(now tw:Int)(T:List Int)(x:WM):Int:=(postN c i (x.nd i) now tw T).2.2
def PDoE(w0:World)(o0:Cls)(c:Cfg)(W:Nat)(x:WM)(asn:Int)(r:WR)(J:Inj)(e:Int)(en:Ending)(w':World):Prop:=
 ∃v o' r',en= .returned (.tuple #[v,.int .i64 e])∧WAt w0 o0 c W (zX x) asn w' o' r'∧Eo w' o' (cl 16 4) v x.ev∧r'.lv=r.lv∧r'.bs=r.bs∧r'.ij=J
section
variable {w0 w w':World}{o0 o o':Cls}{c:Cfg}{W:Nat}{x x':WM}{asn:Int}{r r':WR}{d:Dr}{dr lo ac er da:Value}
theorem wsend_any(hc:CfgOk c)(h:WAt w0 o0 c W x asn w o r)(ha:0≤asn∧asn<1099511627775)(i:Nat)(hi:i<c.nodes)(tw:Int)(T:List Int)(hT:T.length≤100000)(hs:So w o d dr lo ac er da)(hda:BO w o da T)(hok:SendOk c (x.nd i)):
  Calls Tryz.prog 19 #[VP W,stpV 2 i tw dr lo ac er da] w (PWa w0 o0 c W (sendW c i asn tw T x) asn r r.ij (.int .i64 (sendE c i asn tw T x))):=by
 have hn1:=hc.n1
 have hn0:=hc.n0
 obtain⟨dA,dc,hdr,_⟩:=hs.drift
 obtain⟨lA,lc,hlo,_⟩:=hs.lost
 obtain⟨aA,acp,hac,_⟩:=hs.acks
 obtain⟨eA,ec,her,_⟩:=hs.err
 obtain⟨xA,xc,hxa,_⟩:=hda.1
 obtain⟨dn,hdn⟩:∃n,n=d.drift.length:=⟨_,rfl⟩
 obtain⟨ln,hln⟩:∃n,n=d.lost.length:=⟨_,rfl⟩
 obtain⟨an,han⟩:∃n,n=d.acks.length:=⟨_,rfl⟩
 obtain⟨en,hen⟩:∃n,n=d.err.length:=⟨_,rfl⟩
 obtain⟨xn,hxn⟩:∃n,n=T.length:=⟨_,rfl⟩
 rw[←hdn] at hdr
 rw[←hln] at hlo
 rw[←han] at hac
 rw[←hen] at her
 rw[←hxn] at hxa
 subst hdr hlo hac her hxa
 have ga:=Chg.alloc (λ_=>False) w (.cells #[.int .i64 2,.int .i64 i,.int .i64 tw,.slice dA dn dc,.slice lA ln lc,.slice aA an acp,.slice eA en ec,.slice xA xn xc] 35)
 have hba:=qV w (.cells #[.int .i64 2,.int .i64 i,.int .i64 tw,.slice dA dn dc,.slice lA ln lc,.slice aA an acp,.slice eA en ec,.slice xA xn xc] 35)
 obtain⟨d0,d1,d2,d3,d4,d5,d6,d7⟩:=cell8 hba
 have h1:=h.kept hn1 ga
 have hda1:=hda.keep ga (λ_ _ e=>e)
 obtain⟨w1,hw1⟩:=qZ (w.alloc (.cells #[.int .i64 2,.int .i64 i,.int .i64 tw,.slice dA dn dc,.slice lA ln lc,.slice aA an acp,.slice eA en ec,.slice xA xn xc] 35))
 obtain⟨sb,hsb⟩:=qZ w.heap.size
 rw[←hw1] at h1 hda1 d0 d1 d2 d3 d4 d5 d6 d7
 rw[←hsb] at d0 d1 d2 d3 d4 d5 d6 d7
 have HW1:=qQ hw1
 have HSB:=qQ hsb
 have HH:=qQ (whas_any h1 (by omega) i)
 rw[jG (by omega) (by omega)] at HH
 obtain⟨b,q,hbs,hN⟩:=h1.get i hi
 obtain⟨lg,lcap,hlv,hrc⟩:=h1.rowval (by omega)
 have hbc:=hrc i b hbs
 have c9:w1.cell? ⟨W,9,none⟩=some r.lv:=h1.cell 9
 rw[hlv] at c9
 have c10:w1.cell? ⟨W,10,none⟩=some (.int .i64 asn):=h1.cell 10
 have i1:(i:Int)<(c.nodes:Int):=by omega
 have i0:(0:Int)≤(i:Int):=by omega
 have i2:((i:Int)).toNat=i:=by omega
 have i3:i<c.nodes:=hi
 have HP:=qQ (show∀W1,Chg (λ_=>False) w1 W1→Calls Tryz.prog 39 #[.pointer (some ⟨b,0,none⟩),.int .i64 asn,.int .i64 tw,.slice xA xn xc] W1 (PN w1 o c i b (postN c i (x.nd i) asn tw T).1 (PPost (postN c i (x.nd i) asn tw T))) from λW1 g=>
  npost_any hc (hN.kept g) hi asn tw _ T (by rw[hxn];exact (hxn▸hda1).keep g (λ_ _ e=>e)) hT ha.1 (by omega) hok.last hok.paths hok.q)
 have H:=qQ (And.intro h1 (And.intro hbs hi))
 have HFIN:=qQ (And.intro (show sendW c i asn tw T x=x.put i (postN c i (x.nd i) asn tw T).1 from rfl) (show sendE c i asn tw T x=(postN c i (x.nd i) asn tw T).2.2 from rfl))
 obtain⟨X,hX⟩:=qZ (postN c i (x.nd i) asn tw T)
 rw[←hX] at HP HFIN
 obtain⟨FW,hFW⟩:=qZ (sendW c i asn tw T x)
 obtain⟨FE,hFE⟩:=qZ (sendE c i asn tw T x)
 rw[←hFW,←hFE] at HFIN ⊢
 have hosb:o sb=0:=by rw[hsb];exact h.z _ (Nat.le_refl _)
 have hbb1:w1.heap[sb]? =some (.cells #[.int .i64 2,.int .i64 i,.int .i64 tw,.slice dA dn dc,.slice lA ln lc,.slice aA an acp,.slice eA en ec,.slice xA xn xc] 35 (0,0)):=by rw[hw1,hsb];exact hba
 have HSW:=qQ (show∀W5,Chg (λ_=>False) w1 W5→((λW'=>W'.cell? ⟨W,9,none⟩=some (.slice (some ⟨lg,0,none⟩) c.nodes lcap)∧W'.cell? ⟨W,10,none⟩=some (.int .i64 asn)∧W'.cell? ⟨lg,i,none⟩=some (.pointer (some ⟨b,0,none⟩))∧W'.cell? ⟨sb,1,none⟩=some (.int .i64 i)∧W'.cell? ⟨sb,2,none⟩=some (.int .i64 tw)∧W'.cell? ⟨sb,7,none⟩=some (.slice xA xn xc)):World→Prop) W5 from λW5 g=>by
  have hb5:=Chg.keep g hbb1 (λe=>e)
  exact⟨by rw[g.cell (qP c9) (λe=>e)];exact c9,by rw[g.cell (qP c10) (λe=>e)];exact c10,by rw[g.cell (qP hbc) (λe=>e)];exact hbc,qJ hb5 1,qJ hb5 2,qJ hb5 7⟩)
 have HSN:=qQ (show∀(sN:NSt) W5 o5 q5,NAt w1 o c i b sN W5 o5 q5→((λW'=>W'.cell? ⟨W,9,none⟩=some (.slice (some ⟨lg,0,none⟩) c.nodes lcap)∧W'.cell? ⟨W,10,none⟩=some (.int .i64 asn)∧W'.cell? ⟨lg,i,none⟩=some (.pointer (some ⟨b,0,none⟩))∧W'.cell? ⟨sb,1,none⟩=some (.int .i64 i)∧W'.cell? ⟨sb,2,none⟩=some (.int .i64 tw)∧W'.cell? ⟨sb,7,none⟩=some (.slice xA xn xc)):World→Prop) W5 from λsN W5 o5 q5 k=>by
  have hA:=h1.node hn1 hi hbs k
  have hb5:=Chg.keep k.chg hbb1 (λe=>by obtain⟨j,_,e⟩:=e;rw[hosb] at e;exact qf i j e.symm)
  obtain⟨g2,cap2,hg2,hrc2⟩:=hA.rowval (by omega)
  rw[hlv] at hg2
  cases hg2
  exact⟨by rw[←hlv];exact hA.cell 9,hA.cell 10,hrc2 i b hbs,qJ hb5 1,qJ hb5 2,qJ hb5 7⟩)
 clear h hs hda hok ga hba hbb1 hosb hdn hln han hen hxn hc h1 hda1 hw1 hsb hbs hN hlv hrc hX hFW hFE
 unfold VP stpV at *
 go_enter Tryz.func19,Tryz.ntmps19
 go_upto_region 1 with fail
 rw[←HW1.out,←HSB.out]
 clear HW1
 go_wp2_with fail
 with_reducible refine HH.out.mono ?_
 rintro en w2 ⟨rfl,hw2⟩
 subst hw2
 go_wp2_with fail
 have s0:=HSW.out w2 (Chg.refl _ _)
 go_region_held3 (λW'=>W'.cell? ⟨W,9,none⟩=some (.slice (some ⟨lg,0,none⟩) c.nodes lcap)∧W'.cell? ⟨W,10,none⟩=some (.int .i64 asn)∧W'.cell? ⟨lg,i,none⟩=some (.pointer (some ⟨b,0,none⟩))∧W'.cell? ⟨sb,1,none⟩=some (.int .i64 i)∧W'.cell? ⟨sb,2,none⟩=some (.int .i64 tw)∧W'.cell? ⟨sb,7,none⟩=some (.slice xA xn xc))
  (first|(with_reducible exact HSW.out _ (Chg.refl _ _))|(with_reducible exact HSW.out _ (Chg.drew _ _))|(with_reducible exact HS3.out))
  (first
  |(go_at_call 39;refine (HP.out _ (by first|exact Chg.drew _ _|exact Chg.refl _ _)).mono ?_;rintro en w3 ⟨v3,o3,q3,rfl,hN3,rfl⟩
    have hA3:=H.out.1.node hn1 H.out.2.2 H.out.2.1 hN3
    have H3:=qQ hA3
    have HS3:=qQ (HSN.out _ _ _ _ hN3)
    clear hN3 hA3))
 all_goals
  go_wp2_with fail
  go_ret
  rw[HFIN.out.1,HFIN.out.2]
  exact⟨o3,r,rfl,H3.out,rfl,rfl,rfl⟩
theorem wdo_slotV(hc:CfgOk c)(h:WAt w0 o0 c W x asn w o r)(ha:0≤asn∧asn<1099511627775)(i' t:Int)(hs:So w o d dr lo ac er da)(hok:SlotOkV c d r.ij asn x):
  Calls Tryz.prog 7 #[VP W,stpV 1 i' t dr lo ac er da] w (PDo w0 o0 c W (qp c d c.nodes asn r.ij x) (asn+1) r qG):=by
 have hn1:=hc.n1
 obtain⟨dA,dc,hdr,_⟩:=hs.drift
 obtain⟨lA,lc,hlo,_⟩:=hs.lost
 obtain⟨aA,acp,hac,_⟩:=hs.acks
 obtain⟨eA,ec,her,_⟩:=hs.err
 obtain⟨xA,xn,xc,hda⟩:=hs.da
 obtain⟨dn,hdn⟩:∃n,n=d.drift.length:=⟨_,rfl⟩
 obtain⟨ln,hln⟩:∃n,n=d.lost.length:=⟨_,rfl⟩
 obtain⟨an,han⟩:∃n,n=d.acks.length:=⟨_,rfl⟩
 obtain⟨en,hen⟩:∃n,n=d.err.length:=⟨_,rfl⟩
 rw[←hdn] at hdr
 rw[←hln] at hlo
 rw[←han] at hac
 rw[←hen] at her
 subst hdr hlo hac her hda
 have ga:=Chg.alloc (λ_=>False) w (.cells #[.int .i64 1,.int .i64 i',.int .i64 t,.slice dA dn dc,.slice lA ln lc,.slice aA an acp,.slice eA en ec,.slice xA xn xc] 35)
 have hba:=qV w (.cells #[.int .i64 1,.int .i64 i',.int .i64 t,.slice dA dn dc,.slice lA ln lc,.slice aA an acp,.slice eA en ec,.slice xA xn xc] 35)
 obtain⟨d0,d1,d2,d3,d4,d5,d6,d7⟩:=cell8 hba
 have HS:=qQ (wslotV_any hc (h.kept hn1 ga) ha 1 i' t (hs.step (Ext.refl _ _) ga (λ_ _ e=>e)) hok)
 clear h hs hok ga hba hdn hln han hen hc
 unfold VP stpV at *
 go_enter Tryz.func7,Tryz.ntmps7
 go_wp2_with fail
 with_reducible refine HS.out.mono ?_
 rintro en w1 ⟨o1,r1,rfl,hA,hl,hb⟩
 clear d0 d1 d2 d3 d4 d5 d6 d7
 have c13:w1.cell? ⟨W,13,none⟩=some r1.ev:=hA.cell 13
 have f13:=hA.f 13
 obtain⟨vA,vn,vc,hv⟩:=hA.evrow
 have HE:=qQ (And.intro (hA.evset hn1) (And.intro hl (And.intro hb hv)))
 rw[hv] at c13
 clear hA hl hb hv
 go_wp2_with fail
 go_ret2
 obtain⟨⟨k1,k2⟩,k3,k4,k5⟩:=HE.out
 exact⟨_,o1,_,rfl,k1,k5▸k2,k3,k4⟩
theorem wdo_send(hc:CfgOk c)(h:WAt w0 o0 c W x asn w o r)(ha:0≤asn∧asn<1099511627775)(i:Nat)(hi:i<c.nodes)(t:Int)(T:List Int)(hT:T.length≤100000)(hs:So w o d dr lo ac er da)(hda2:BO w o da T)(hok:SendOk c (x.nd i)):
  Calls Tryz.prog 7 #[VP W,stpV 2 i t dr lo ac er da] w (PDoE w0 o0 c W (sendW c i asn t T x) asn r r.ij (sendE c i asn t T x)):=by
 have hn1:=hc.n1
 obtain⟨dA,dc,hdr,_⟩:=hs.drift
 obtain⟨lA,lc,hlo,_⟩:=hs.lost
 obtain⟨aA,acp,hac,_⟩:=hs.acks
 obtain⟨eA,ec,her,_⟩:=hs.err
 obtain⟨xA,xn,xc,hda⟩:=hs.da
 obtain⟨dn,hdn⟩:∃n,n=d.drift.length:=⟨_,rfl⟩
 obtain⟨ln,hln⟩:∃n,n=d.lost.length:=⟨_,rfl⟩
 obtain⟨an,han⟩:∃n,n=d.acks.length:=⟨_,rfl⟩
 obtain⟨en,hen⟩:∃n,n=d.err.length:=⟨_,rfl⟩
 rw[←hdn] at hdr
 rw[←hln] at hlo
 rw[←han] at hac
 rw[←hen] at her
 subst hdr hlo hac her hda
 have ga:=Chg.alloc (λ_=>False) w (.cells #[.int .i64 2,.int .i64 i,.int .i64 t,.slice dA dn dc,.slice lA ln lc,.slice aA an acp,.slice eA en ec,.slice xA xn xc] 35)
 have hba:=qV w (.cells #[.int .i64 2,.int .i64 i,.int .i64 t,.slice dA dn dc,.slice lA ln lc,.slice aA an acp,.slice eA en ec,.slice xA xn xc] 35)
 obtain⟨d0,d1,d2,d3,d4,d5,d6,d7⟩:=cell8 hba
 have HS:=qQ (wsend_any hc (h.kept hn1 ga) ha i hi t T hT (hs.step (Ext.refl _ _) ga (λ_ _ e=>e)) (hda2.keep ga (λ_ _ e=>e)) hok)
 clear h hs hok hda2 ga hba hdn hln han hen hc
 unfold VP stpV at *
 go_enter Tryz.func7,Tryz.ntmps7
 go_wp2_with fail
 with_reducible refine HS.out.mono ?_
 rintro en w1 ⟨o1,r1,rfl,hA,hl,hb⟩
 clear d0 d1 d2 d3 d4 d5 d6 d7
 have c13:w1.cell? ⟨W,13,none⟩=some r1.ev:=hA.cell 13
 have f13:=hA.f 13
 obtain⟨vA,vn,vc,hv⟩:=hA.evrow
 have HE:=qQ (And.intro (hA.evset hn1) (And.intro hl (And.intro hb hv)))
 rw[hv] at c13
 clear hA hl hb hv
 go_wp2_with fail
 go_ret2
 obtain⟨⟨k1,k2⟩,k3,k4,k5⟩:=HE.out
 exact⟨_,o1,_,rfl,k1,k5▸k2,k3,k4⟩
end
def nearP(w i k:Nat):Nat:=(List.range k).foldl (λm j=>if zG w i j then m+2^j else m) 0
theorem nearP_succ(w i k:Nat):nearP w i (k+1)=if zG w i k then nearP w i k+2^k else nearP w i k:=by unfold nearP;rw[List.range_succ,List.foldl_append];rfl
theorem nearP_lt(w i:Nat):∀k,nearP w i k<2^k:=by
 intro k
 induction k with
 |zero=>show (0:Nat)<1;decide
 |succ k ih=>
  rw[nearP_succ,Nat.pow_succ]
  split <;> omega
theorem ElN64:ElS 24 23 1 8:=ElS.of (z:= .int .u64 0) (by kernel_rfl) (by kernel_rfl) (by decide+kernel) (by decide)
def obN(n:Nat):Obj:= .cells (madeCells (Value.int .u64 0).cells (n*1)) 23
theorem madeN(n:Nat)(hn:n≤16):(madeCells (Value.int .u64 0).cells (n*1)).toList=List.replicate n (.int .u64 0):=by
 rw[madeL]
 have:n=0∨n=1∨n=2∨n=3∨n=4∨n=5∨n=6∨n=7∨n=8∨n=9∨n=10∨n=11∨n=12∨n=13∨n=14∨n=15∨n=16:=by omega
 rcases this with rfl|rfl|rfl|rfl|rfl|rfl|rfl|rfl|rfl|rfl|rfl|rfl|rfl|rfl|rfl|rfl|rfl <;> exact rfl
theorem mkN(n:Nat)(hn:n≤16)(W:World):(Instr.makeSlice 24 (.int .i64 (n:Int)) (.int .i64 (n:Int))).run Tryz.prog W= .ok (.slice (some ⟨W.heap.size,0,none⟩) n n) (W.alloc (obN n)):=by
 obtain⟨i,hi⟩:∃i,Tryz.prog.info? 23=some i:=by obtain⟨_,i,z,h,_⟩:=ElN64;exact⟨i,h⟩
 have hx:(Tryz.prog.info? 23).map (λi=>(i.zero,i.size,i.bytes))=some (some (.int .u64 0),1,8):=by kernel_rfl
 rw[hi] at hx
 simp only[Option.map_some,Option.some.injEq,Prod.mk.injEq] at hx
 have:=run_make (P:=Tryz.prog) W 24 23 i (.int .u64 0) ElN64.1 hi hx.1 .i64 .i64 n n (by omega) (by omega) (by rw[hx.2.2];omega) (by omega)
 simp only[Int.toNat_natCast,hx.2.1] at this
 exact this
theorem or_pow(B k:Nat)(hB:B<2^k):B|||2^k=B+2^k:=by
 have:=Nat.two_pow_add_eq_or_of_lt hB 1
 rw[Nat.mul_one] at this
 rw[Nat.or_comm,←this,Nat.add_comm]
def rowN(n w a b:Nat):List Int:=(List.range n).map (λi=>((if i<a then vV n w i else if i=a then nearP w i b else 0:Nat):Int))
theorem vC(n w a b:Nat):(rowN n w a b).length=n:=by unfold rowN;simp
theorem kQ{n w a b i:Nat}(hi:i<n):(rowN n w a b)[i]? =some ((if i<a then vV n w i else if i=a then nearP w i b else 0:Nat):Int):=by
 unfold rowN
 simp[List.getElem?_map,List.getElem?_range,hi]
theorem rowN_first(n w:Nat):rowN n w 0 0=List.replicate n 0:=by
 apply List.ext_getElem?
 intro i
 by_cases hi:i<n
 ·rw[kQ hi,List.getElem?_replicate,if_pos hi,if_neg (by omega)]
  congr 2
  split
  ·rfl
  ·rfl
 ·rw[List.getElem?_eq_none (by rw[vC];omega),List.getElem?_eq_none (by simp;omega)]
theorem rowN_next(n w a:Nat):rowN n w a n=rowN n w (a+1) 0:=by
 apply List.ext_getElem?
 intro i
 by_cases hi:i<n
 ·rw[kQ hi,kQ hi]
  congr 2
  by_cases h1:i<a
  ·rw[if_pos h1,if_pos (by omega)]
  ·rw[if_neg h1]
   by_cases h2:i=a
   ·rw[if_pos h2,if_pos (by omega)];rfl
   ·rw[if_neg h2,if_neg (by omega)]
    split <;> rfl
 ·rw[List.getElem?_eq_none (by rw[vC];omega),List.getElem?_eq_none (by rw[vC];omega)]
theorem rowN_skip{n w a b:Nat}(h:zG w a b=false):rowN n w a (b+1)=rowN n w a b:=by
 apply List.ext_getElem?
 intro i
 by_cases hi:i<n
 ·rw[kQ hi,kQ hi]
  congr 2
  by_cases h1:i<a
  ·rw[if_pos h1,if_pos h1]
  ·rw[if_neg h1,if_neg h1]
   by_cases h2:i=a
   ·subst h2
    rw[if_pos rfl,if_pos rfl,nearP_succ,h,if_neg (by decide)]
   ·rw[if_neg h2,if_neg h2]
 ·rw[List.getElem?_eq_none (by rw[vC];omega),List.getElem?_eq_none (by rw[vC];omega)]
theorem rowN_set{n w a b:Nat}(h:zG w a b=true)(ha:a<n):rowN n w a (b+1)=(rowN n w a b).set a ((nearP w a b+2^b:Nat):Int):=by
 apply List.ext_getElem?
 intro i
 by_cases hi:i<n
 ·by_cases h2:a=i
  ·subst h2
   rw[List.getElem?_set_self (by rw[vC];exact ha),kQ hi,if_neg (Nat.lt_irrefl a),if_pos rfl,nearP_succ,h,if_pos rfl]
  ·rw[List.getElem?_set_ne h2,kQ hi,kQ hi]
   congr 2
   have h3:¬i=a:=λe=>h2 e.symm
   rw[if_neg h3,if_neg h3]
 ·rw[List.getElem?_eq_none (by rw[vC];omega),List.getElem?_eq_none (by rw[List.length_set,vC];omega)]
theorem rowN_done(n w b:Nat):rowN n w n b=(List.range n).map (λi=>(vV n w i:Int)):=by
 unfold rowN
 apply List.map_congr_left
 intro i hi
 rw[List.mem_range] at hi
 rw[if_pos hi]
structure Cf(w0:World)(n wd rb g h2 cb:Nat)(cs rs:Array Value)(a b:Nat)(W:World):Prop where
 r:W.heap[rb]? =some (.cells rs 26 (0,0))
 g:W.heap[g]? =some (.cells ((rowN n wd a b).map VU).toArray 23 (0,0))
 h:W.heap[h2]? =some (.cells #[.int .i64 11,.int .i64 15,.int .i64 20] 3 (0,0))
 c:W.heap[cb]? =some (.cells cs 26 (0,0))
 chg:Chg (λj=>w0.heap.size≤j) w0 W
theorem Cf.set{w0 W:World}{n wd rb g h2 cb:Nat}{cs rs:Array Value}{a b:Nat}(h:Cf w0 n wd rb g h2 cb cs rs a b W)(hn:zG wd a b=true)(ha:a<n)(hd:g≠rb∧g≠h2∧g≠cb)(hg:w0.heap.size≤g):
  Cf w0 n wd rb g h2 cb cs rs a (b+1) (W.setCell ⟨g,a,none⟩ (.int .u64 ((nearP wd a b+2^b:Nat):Int))):=by
 have gs:=chg1 W g a (.int .u64 ((nearP wd a b+2^b:Nat):Int))
 refine⟨Chg.keep gs h.r (λe=>hd.1 e.symm),?_,Chg.keep gs h.h (λe=>hd.2.1 e.symm),Chg.keep gs h.c (λe=>hd.2.2 e.symm),h.chg.trans (gs.mono (λj _ e=>by rw[show j=g from e];exact hg))⟩
 rw[rowN_set hn ha,List.map_set]
 have:=qB h.g a (.int .u64 ((nearP wd a b+2^b:Nat):Int))
 rw[this]
 simp[VU]
theorem set9(w:World)(b:Nat)(v0 v1 v2 v3 v4 v5 v6 v7 v8:Value):Chg (· =b) w (((((((((w.setCell ⟨b,0,none⟩ v0).setCell ⟨b,1,none⟩ v1).setCell ⟨b,2,none⟩ v2).setCell ⟨b,3,none⟩ v3).setCell ⟨b,4,none⟩ v4).setCell ⟨b,5,none⟩ v5).setCell ⟨b,6,none⟩ v6).setCell ⟨b,7,none⟩ v7).setCell ⟨b,8,none⟩ v8):=
 ((((((((chg1 w b 0 v0).trans (chg1 _ b 1 v1)).trans (chg1 _ b 2 v2)).trans (chg1 _ b 3 v3)).trans (chg1 _ b 4 v4)).trans (chg1 _ b 5 v5)).trans (chg1 _ b 6 v6)).trans (chg1 _ b 7 v7)).trans (chg1 _ b 8 v8)
theorem set9b{w:World}{b:Nat}{a0 a1 a2 a3 a4 a5 a6 a7 a8:Value}{t:TypeId}(h:w.heap[b]? =some (.cells #[a0,a1,a2,a3,a4,a5,a6,a7,a8] t (0,0))) (v0 v1 v2 v3 v4 v5 v6 v7 v8:Value):
  (((((((((w.setCell ⟨b,0,none⟩ v0).setCell ⟨b,1,none⟩ v1).setCell ⟨b,2,none⟩ v2).setCell ⟨b,3,none⟩ v3).setCell ⟨b,4,none⟩ v4).setCell ⟨b,5,none⟩ v5).setCell ⟨b,6,none⟩ v6).setCell ⟨b,7,none⟩ v7).setCell ⟨b,8,none⟩ v8).heap[b]? =some (.cells #[v0,v1,v2,v3,v4,v5,v6,v7,v8] t (0,0)):=by
 have h9:=qB (qB (qB (qB (qB (qB (qB (qB (qB h 0 v0) 1 v1) 2 v2) 3 v3) 4 v4) 5 v5) 6 v6) 7 v7) 8 v8
 simpa using h9
def cG(n w:Nat)(K G Q F E:Int):Cfg:={cT n w with keep:=K,loss:=G,queue:=Q,life:=F,err:=E}
def PConf(w:World)(c:Cfg)(en:Ending)(w':World):Prop:=
 ∃g1 g2:Nat,en= .returned (cfgV c (.slice (some ⟨g1,0,none⟩) c.nodes c.nodes) (.slice (some ⟨g2,0,none⟩) 3 3))∧w'.heap[g1]? =some (.cells (c.near.map VU).toArray 23 (0,0))∧w'.heap[g2]? =some (.cells #[.int .i64 11,.int .i64 15,.int .i64 20] 3 (0,0))∧
  w.heap.size≤g1∧w.heap.size≤g2∧Chg (λ_=>False) w w'
theorem conf_any(w:World)(nodes wide keep loss queue life err:Int)(nm wm km lm qm fm em:Nat)(h1:(nm:Int)<7∧wrap64 ((IntKind.u64.wrap nodes).tmod 7)=nm)(h2:(wm:Int)<3∧wrap64 ((IntKind.u64.wrap wide).tmod 3)=wm)
  (h3:(km:Int)<30∧wrap64 ((IntKind.u64.wrap keep).tmod 30)=km) (h4:(lm:Int)<60∧wrap64 ((IntKind.u64.wrap loss).tmod 60)=lm) (h5:(qm:Int)<8∧wrap64 ((IntKind.u64.wrap queue).tmod 8)=qm) (h6:(fm:Int)<15∧wrap64 ((IntKind.u64.wrap life).tmod 15)=fm) (h7:(em:Int)<6∧wrap64 ((IntKind.u64.wrap err).tmod 6)=em):
  Calls Tryz.prog 13 #[.int .i64 nodes,.int .i64 wide,.int .i64 keep,.int .i64 loss,.int .i64 queue,.int .i64 life,.int .i64 err] w (PConf w (cG (2+nm) (1+wm) (1+km) (2*(2+nm:Nat)+lm) (1+qm) (1+fm) em)):=by
 obtain⟨n,hn⟩:∃n:Nat,n=2+nm:=⟨_,rfl⟩
 obtain⟨wd,hwd⟩:∃wd:Nat,wd=1+wm:=⟨_,rfl⟩
 rw[←hn,←hwd]
 obtain⟨q1,q2⟩:=h1
 obtain⟨q3,q4⟩:=h2
 obtain⟨q5,q6⟩:=h3
 obtain⟨q7,q8⟩:=h4
 obtain⟨q9,qa⟩:=h5
 obtain⟨qb,qc⟩:=h6
 obtain⟨qd,qe⟩:=h7
 have hn2:2≤n∧n≤8:=by omega
 have hw2:1≤wd∧wd≤3:=by omega
 have e1:IntKind.i64.wrap (2+(nm:Int))=(n:Int):=(IntWalk.i64_in _ (by omega)).trans (by omega)
 have e2:IntKind.i64.wrap (1+(wm:Int))=(wd:Int):=(IntWalk.i64_in _ (by omega)).trans (by omega)
 have e3:IntKind.i64.wrap (1+(km:Int))=1+(km:Int):=IntWalk.i64_in _ (by omega)
 have e4:IntKind.i64.wrap (2*(n:Int))=2*(n:Int):=IntWalk.i64_in _ (by omega)
 have e5:IntKind.i64.wrap (2*(n:Int)+(lm:Int))=2*(n:Int)+(lm:Int):=IntWalk.i64_in _ (by omega)
 have e6:IntKind.i64.wrap (1+(qm:Int))=1+(qm:Int):=IntWalk.i64_in _ (by omega)
 have e7:IntKind.i64.wrap (1+(fm:Int))=1+(fm:Int):=IntWalk.i64_in _ (by omega)
 have hmk:=mkN n (by omega)
 have HN:=qQ (And.intro hn2 hw2)
 clear hn hwd
 have s0:(w.alloc (.cells #[.int .i64 0,.slice none 0 0,.slice none 0 0,.int .i64 0,.int .i64 0,.int .i64 0,.int .i64 0,.int .i64 0,.int .i64 0] 26)).heap.size=w.heap.size+1:=by simp
 obtain⟨rs,hrs⟩:∃rs:Array Value,rs=#[.int .i64 0,.slice none 0 0,.slice none 0 0,.int .i64 0,.int .i64 0,.int .i64 0,.int .i64 0,.int .i64 0,.int .i64 0]:=⟨_,rfl⟩
 obtain⟨cs,hcs⟩:∃cs:Array Value,cs=#[.int .i64 n,.slice (some ⟨w.heap.size+1,0,none⟩) n n,.slice (some ⟨w.heap.size+1+1,0,none⟩) 3 3,.int .i64 300,.int .i64 em,.int .i64 (1+km),.int .i64 (2*n+lm),.int .i64 (1+qm),.int .i64 (1+fm)]:=⟨_,rfl⟩
 obtain⟨w4,hw4⟩:=qZ ((((w.alloc (.cells rs 26)).alloc (obN n)).alloc (.cells #[.int .i64 11,.int .i64 15,.int .i64 20] 3)).alloc (.cells cs 26))
 have hob:obN n= .cells ((rowN n wd 0 0).map VU).toArray 23:=by
  unfold obN
  rw[rowN_first]
  congr 1
  apply Array.ext'
  rw[madeN n (by omega)]
  simp[VU]
 have HCF:=qQ (show Cf w n wd w.heap.size (w.heap.size+1) (w.heap.size+1+1) (w.heap.size+1+1+1) cs rs 0 0 w4 from by
  have z0:(w.alloc (.cells rs 26)).heap.size=w.heap.size+1:=by simp
  have z1:((w.alloc (.cells rs 26)).alloc (obN n)).heap.size=w.heap.size+1+1:=by simp
  have z2:(((w.alloc (.cells rs 26)).alloc (obN n)).alloc (.cells #[.int .i64 11,.int .i64 15,.int .i64 20] 3)).heap.size=w.heap.size+1+1+1:=by simp
  have b0:=qV w (.cells rs 26)
  have b1:=qV (w.alloc (.cells rs 26)) (obN n)
  have b2:=qV ((w.alloc (.cells rs 26)).alloc (obN n)) (.cells #[.int .i64 11,.int .i64 15,.int .i64 20] 3)
  have b3:=qV (((w.alloc (.cells rs 26)).alloc (obN n)).alloc (.cells #[.int .i64 11,.int .i64 15,.int .i64 20] 3)) (.cells cs 26)
  rw[z0,hob] at b1
  rw[z1] at b2
  rw[z2] at b3
  rw[hob] at b2 b3 hw4
  have g3:=Chg.alloc (λ_=>False) (((w.alloc (.cells rs 26)).alloc (.cells ((rowN n wd 0 0).map VU).toArray 23)).alloc (.cells #[.int .i64 11,.int .i64 15,.int .i64 20] 3)) (.cells cs 26)
  have g2:=(Chg.alloc (λ_=>False) ((w.alloc (.cells rs 26)).alloc (.cells ((rowN n wd 0 0).map VU).toArray 23)) (.cells #[.int .i64 11,.int .i64 15,.int .i64 20] 3)).trans g3
  have g1:=(Chg.alloc (λ_=>False) (w.alloc (.cells rs 26)) (.cells ((rowN n wd 0 0).map VU).toArray 23)).trans g2
  have g0:=(Chg.alloc (λ_=>False) w (.cells rs 26)).trans g1
  rw[hw4]
  exact⟨Chg.keep g1 b0 (λe=>e),Chg.keep g2 b1 (λe=>e),Chg.keep g3 b2 (λe=>e),b3,g0.none⟩)
 obtain⟨rb,hrb⟩:=qZ w.heap.size
 obtain⟨g,hg⟩:=qZ (w.heap.size+1)
 obtain⟨h2,hh2⟩:=qZ (w.heap.size+1+1)
 obtain⟨cb,hcb⟩:=qZ (w.heap.size+1+1+1)
 have HBL:=qQ (And.intro hrb (And.intro hg (And.intro hh2 hcb)))
 have HW4:=qQ hw4
 have HRC:=qQ (And.intro hrs hcs)
 rw[←hcb,←hh2,←hg,←hrb] at HCF
 clear hw4 hob s0 hrb hg hh2 hcb hrs hcs
 go_enter Tryz.func13,Tryz.ntmps13
 go_wp2_with fail
 rw[←HRC.out.1,←HRC.out.2,←HW4.out,←HBL.out.2.2.2,←HBL.out.2.2.1,←HBL.out.2.1,←HBL.out.1]
 clear hmk HW4
 have HG:=qQ (show g≠rb∧g≠h2∧g≠cb∧rb≠cb∧rb≠h2∧w.heap.size≤g∧w.heap.size≤rb∧w.heap.size≤h2 from by have:=HBL.out;omega)
 go_loopw [62] (λi wr=>∃(a:Nat),a≤n∧i= .int .i64 a∧Cf w n wd rb g h2 cb cs rs a 0 wr) (λi _=>n-(intOf i).toNat)
 case atStart=>exact⟨0,by omega,rfl,HCF.out⟩
 case round=>
  obtain⟨a,hak,rfl,hC⟩:=hrel
  by_cases hlt:a<n
  ·have i1:(a:Int)<(n:Int):=by omega
   have HC:=qQ hC
   clear hC
   go_wp2_with fail
   go_loopw [66] (λj wr2=>∃(b:Nat),b≤n∧j= .int .i64 b∧Cf w n wd rb g h2 cb cs rs a b wr2) (λj _=>n-(intOf j).toNat)
   case atStart=>exact⟨0,by omega,rfl,HC.out⟩
   case round=>
    obtain⟨b,hbk,rfl,hC⟩:=hrel
    by_cases hltb:b<n
    ·have j1:(b:Int)<(n:Int):=by omega
     have k1:IntKind.i64.wrap ((a:Int)-(b:Int))=(a:Int)-(b:Int):=IntWalk.i64_in _ (by omega)
     have k2:IntKind.i64.wrap ((b:Int)-(a:Int))=(b:Int)-(a:Int):=IntWalk.i64_in _ (by omega)
     have HC:=qQ hC
     clear hC
     by_cases hab:a=b
     ·have t71:((a:Int) != (b:Int))=false:=by simp;omega
      have HNB:=qQ (show zG wd a b=false from by unfold zG;simp[hab])
      clear hab
      go_wp2_with fail
      go_roundw
      case measure=>simp[intOf];omega
      case rel=>exact⟨b+1,by omega,by go_num,by have:=HC.out;obtain⟨p1,p2,p3,p4,p5⟩:=this;exact⟨p1,by rw[rowN_skip HNB.out];exact p2,p3,p4,p5⟩⟩
     ·have t71:((a:Int) != (b:Int))=true:=by simp;omega
      by_cases h1:(a:Int)-(b:Int)≤(wd:Int)
      ·have t77:decide ((a:Int)-(b:Int)≤(wd:Int))=true:=decide_eq_true h1
       by_cases h3:(b:Int)-(a:Int)≤(wd:Int)
       ·have t84:decide ((b:Int)-(a:Int)≤(wd:Int))=true:=decide_eq_true h3
        have HNB:=qQ (show zG wd a b=true from by unfold zG;simp only[Bool.and_eq_true,decide_eq_true_eq];omega)
        clear hab h1 h3
        have c1:wr.cell? ⟨cb,1,none⟩=some (.slice (some ⟨g,0,none⟩) n n):=by
         rw[qJ HC.out.c,HRC.out.2,HBL.out.2.1];rfl
        have cg:wr.cell? ⟨g,a,none⟩=some (.int .u64 ((nearP wd a b:Nat):Int)):=by
         rw[qJ HC.out.g]
         simp only[List.getElem?_toArray,List.getElem?_map,kQ hlt,if_neg (Nat.lt_irrefl a),if_true]
         rfl
        have fg:=qK HC.out.g a
        have kw:IntKind.u64.wrap (b:Int)=(b:Int):=by show (b:Int) % 18446744073709551616=b;omega
        have kb:(b:Int)<64:=by omega
        have kb2:((b:Int)).toNat=b:=by omega
        have hlt8:nearP wd a b<18446744073709551616:=by
         have h1:=nearP_lt wd a b
         have h2:2^b≤2^8:=Nat.pow_le_pow_right (by decide) (by omega)
         omega
        have kor:bits BinOp.or IntKind.u64 ((nearP wd a b:Nat):Int) (IntKind.u64.wrap (2^b))=((nearP wd a b+2^b:Nat):Int):=by
         rw[set1_is _ _ hlt8 (by omega),or_pow _ _ (nearP_lt wd a b)]
        go_wp2_with fail
        go_roundw
        case measure=>simp[intOf];omega
        case rel=>exact⟨b+1,by omega,by go_num,by
         have hh:=HC.out.set HNB.out hlt ⟨HG.out.1,HG.out.2.1,HG.out.2.2.1⟩ HG.out.2.2.2.2.2.1
         have e:((nearP wd a b+2^b:Nat):Int)=((nearP wd a b:Nat):Int)+2^b:=by push_cast;rfl
         rw[e] at hh
         exact hh⟩
       ·have t84:decide ((b:Int)-(a:Int)≤(wd:Int))=false:=decide_eq_false h3
        have HNB:=qQ (show zG wd a b=false from by unfold zG;simp;omega)
        clear hab h1 h3
        go_wp2_with fail
        go_roundw
        case measure=>simp[intOf];omega
        case rel=>exact⟨b+1,by omega,by go_num,by have:=HC.out;obtain⟨p1,p2,p3,p4,p5⟩:=this;exact⟨p1,by rw[rowN_skip HNB.out];exact p2,p3,p4,p5⟩⟩
      ·have t77:decide ((a:Int)-(b:Int)≤(wd:Int))=false:=decide_eq_false h1
       have HNB:=qQ (show zG wd a b=false from by unfold zG;simp;omega)
       clear hab h1
       go_wp2_with fail
       go_roundw
       case measure=>simp[intOf];omega
       case rel=>exact⟨b+1,by omega,by go_num,by have:=HC.out;obtain⟨p1,p2,p3,p4,p5⟩:=this;exact⟨p1,by rw[rowN_skip HNB.out];exact p2,p3,p4,p5⟩⟩
    ·obtain rfl:b=n:=by omega
     have HC:=qQ hC
     clear hC
     go_wp2_with fail
     go_roundw
     case measure=>simp[intOf];omega
     case rel=>exact⟨a+1,by omega,by go_num,by have:=HC.out;obtain⟨p1,p2,p3,p4,p5⟩:=this;exact⟨p1,by rw[←rowN_next];exact p2,p3,p4,p5⟩⟩
  ·obtain rfl:a=n:=by omega
   have hr:=hC.r
   have hc:=hC.c
   rw[HRC.out.1] at hr
   rw[HRC.out.2,←HBL.out.2.2.1,←HBL.out.2.1] at hc
   have r0:wr.cell? ⟨rb,0,none⟩=_:=qJ hr 0
   have r1:wr.cell? ⟨rb,1,none⟩=_:=qJ hr 1
   have r2:wr.cell? ⟨rb,2,none⟩=_:=qJ hr 2
   have r3:wr.cell? ⟨rb,3,none⟩=_:=qJ hr 3
   have r4:wr.cell? ⟨rb,4,none⟩=_:=qJ hr 4
   have r5:wr.cell? ⟨rb,5,none⟩=_:=qJ hr 5
   have r6:wr.cell? ⟨rb,6,none⟩=_:=qJ hr 6
   have r7:wr.cell? ⟨rb,7,none⟩=_:=qJ hr 7
   have r8:wr.cell? ⟨rb,8,none⟩=_:=qJ hr 8
   have c0:wr.cell? ⟨cb,0,none⟩=some (.int .i64 a):=qJ hc 0
   have c1:wr.cell? ⟨cb,1,none⟩=some (.slice (some ⟨g,0,none⟩) a a):=qJ hc 1
   have c2:wr.cell? ⟨cb,2,none⟩=some (.slice (some ⟨h2,0,none⟩) 3 3):=qJ hc 2
   have c3:wr.cell? ⟨cb,3,none⟩=some (.int .i64 300):=qJ hc 3
   have c4:wr.cell? ⟨cb,4,none⟩=some (.int .i64 em):=qJ hc 4
   have c5:wr.cell? ⟨cb,5,none⟩=some (.int .i64 (1+km)):=qJ hc 5
   have c6:wr.cell? ⟨cb,6,none⟩=some (.int .i64 (2*a+lm)):=qJ hc 6
   have c7:wr.cell? ⟨cb,7,none⟩=some (.int .i64 (1+qm)):=qJ hc 7
   have c8:wr.cell? ⟨cb,8,none⟩=some (.int .i64 (1+fm)):=qJ hc 8
   have fr:=λk=>qK hr k
   have f0:=fr 0
   have f1:=fr 1
   have f2:=fr 2
   have f3:=fr 3
   have f4:=fr 4
   have f5:=fr 5
   have f6:=fr 6
   have f7:=fr 7
   have f8:=fr 8
   have HC:=qQ hC
   have HR:=qQ hr
   clear hC hr hc fr
   go_wp2_with fail
   have gs:=set9 wr rb (.int .i64 a) (.slice (some ⟨g,0,none⟩) a a) (.slice (some ⟨h2,0,none⟩) 3 3) (.int .i64 300) (.int .i64 em) (.int .i64 (1+km)) (.int .i64 (2*a+lm)) (.int .i64 (1+qm)) (.int .i64 (1+fm))
   have hbk:=set9b HR.out (.int .i64 a) (.slice (some ⟨g,0,none⟩) a a) (.slice (some ⟨h2,0,none⟩) 3 3) (.int .i64 300) (.int .i64 em) (.int .i64 (1+km)) (.int .i64 (2*a+lm)) (.int .i64 (1+qm)) (.int .i64 (1+fm))
   have k0:=qJ hbk 0
   have k1:=qJ hbk 1
   have k2:=qJ hbk 2
   have k3:=qJ hbk 3
   have k4:=qJ hbk 4
   have k5:=qJ hbk 5
   have k6:=qJ hbk 6
   have k7:=qJ hbk 7
   have k8:=qJ hbk 8
   have hg:=Chg.keep gs HC.out.g (λe=>HG.out.1 e)
   have hh:=Chg.keep gs HC.out.h (λe=>HG.out.2.2.2.2.1 e.symm)
   rw[rowN_done] at hg
   exact bodyPost_ret (v:=cfgV (cG a wd (1+km) (2*(a:Nat)+lm) (1+qm) (1+fm) em) (.slice (some ⟨g,0,none⟩) a a) (.slice (some ⟨h2,0,none⟩) 3 3)) (by simp[results,Tryz.results13,go_sem,cfgV,cG,cT,k0,k1,k2,k3,k4,k5,k6,k7,k8]) rfl
    ⟨g,h2,rfl,hg,hh,HG.out.2.2.2.2.2.1,HG.out.2.2.2.2.2.2.2,(HC.out.chg.trans (gs.mono (λj _ e=>by rw[show j=rb from e];exact HG.out.2.2.2.2.2.2.1))).fresh⟩
theorem CN.cong{n t i:Nat}{a:AC}{s s':NSt}(h:CN n t i a s)(e:tmOf s'=tmOf s)(ev:s'.ev=[]):CN n t i a s':=by
 unfold tmOf at e
 simp only[Prod.mk.injEq] at e
 obtain⟨e1,e2,e3,e4,e5,e6,e7,e8,e9⟩:=e
 obtain⟨h1,h2,h3,h4,h5,h6,_,h7⟩:=h
 refine⟨by rw[e1];exact h1,by rw[e2];exact h2,by rw[e3];exact h3,by rw[e4];exact h4,by rw[e5];exact h5,by rw[e6];exact h6,ev,?_⟩
 cases a with
 |none=>dsimp only at h7 ⊢;rw[e7,e4,e8];exact h7
 |some q=>obtain⟨R,L⟩:=q;dsimp only at h7 ⊢;rw[e7,e8,e9];exact h7
def Ph(n w f:Nat)(u:Int)(q:Nat)(x:WM):Prop:=
 (q=0→∀i,i<n→dtOf (x.nd i)=dtOf (newN i))∧
 (q=1→∃N,0≤N∧N≤200000∧TpAt n (mU f w) (vU f w) (λi=>dtOf (newN i)) (E_U f w N u) (mU f w) x)
def phI(f q:Nat):Nat:=if q=0 then f else 0
def phT(f q:Nat):Nat:=if q=0 then 0 else f
structure PhS(n w f:Nat)(t:Nat)(A:List AC)(q:Nat)(u b:Int)(x:WM):Prop where
 ok:SendOk (cT n w) (x.nd (phI f q))
 e0:sendE (cT n w) (phI f q) t (phT f q) [b] x=0
 ln:LN n w t A (zX (sendW (cT n w) (phI f q) t (phT f q) [b] x))
 trip:∃m v tt B S0 E got,Trip n w m v tt B S0 E got∧TpAt n m v S0 E 0 (zX (sendW (cT n w) (phI f q) t (phT f q) [b] x))∧m≤7∧m<n∧
  got.kind=4∧got.i=(phT f q:Int)∧got.p.src=(phI f q:Int)∧got.p.data=[b]∧∀y,TpAt n m v S0 E m y→Ph n w f u (q+1) y
section
variable {n w f t:Nat}{A:List AC}{x:WM}{u b:Int}
theorem LN.put(h:LN n w t A x){i:Nat}(hi:i<n){s:NSt}(e:tmOf s=tmOf (x.nd i))(ev:s.ev=[]):LN n w t A (zX (x.put i s)):=by
 have hl:i<x.nodes.length:=by rw[h.hn];exact hi
 refine⟨h.n8,h.w3,h.t2,by show (x.nodes.set i s).length=n;rw[List.length_set];exact h.hn,h.al,λj hj=>?_,rfl,h.bd⟩
 have e1:(zX (x.put i s)).nd j=(x.put i s).nd j:=rfl
 rw[e1,put_nd x i j s hl]
 by_cases hji:j=i
 ·subst hji;rw[if_pos rfl];exact (h.nd j hj).cong e ev
 ·rw[if_neg hji];exact h.nd j hj
theorem mU_lt(hf:1≤f∧f<n)(hw:1≤w∧w≤3):mU f w<n:=by
 unfold mU
 rcases (by omega:w=1∨w=2∨w=3) with rfl|rfl|rfl <;> omega
theorem in1:inR (([b]:List Int).length:Int) 1 24=true:=by simp[inR]
theorem ph_up(h:LN n w t A x)(hS:Std n w A)(hf:1≤f∧f<n)(hp:Ph n w f u 0 x):PhS n w f t A 0 b b x:=by
 have hn:=h.n8
 have hw:=h.w3
 have ht:=h.t2
 have hf7:1≤f∧f≤7:=by omega
 have hd:=hp.1 rfl
 have hdf:=hd f hf.2
 obtain⟨q1,q2,q3,q4,q5,q6⟩:=dt_all (show dtOf (x.nd f)=([],qx,qx,qx,jb,-1) from hdf)
 obtain⟨r,L,ha⟩:=hS.at hf.2
 obtain⟨N,hN⟩:∃N:Int,N=64*(t:Int):=⟨_,rfl⟩
 have hNb:0≤N∧N≤200000:=by omega
 have hpp:vf (cT n w) f (x.nd f) t 0 [b] [(f:Int)]=pU f w N b 0:=by
  unfold vf pU
  have e1:max ((x.nd f).last+1) ((t:Int)*64)=N:=by rw[q6,hN];omega
  have e2:jY f w 0=[(f:Int)]:=by unfold jY vU;simp
  rw[e1,e2];rfl
 have hmay:=mayU (u:=b) hf7 hw hNb (k:=0) (by have:=(vT hf7 hw).m1;omega)
 have hpost:postN (cT n w) f (x.nd f) t 0 [b]=({(x.nd f) with q:=[(64,encP (pU f w N b 0))],last:=N},N,0):=by
  have hb:hasB (cT n w) 0=true:=by
   unfold hasB inR
   show (decide ((0:Int)≤0)&&decide ((0:Int)≤(n:Int)-1))=true
   simp;omega
  have hsy:(x.nd f).synced=true:=(h.rank hf.2 ha).2
  have hfi:qM (x.nd f)=zB (some (r,L)):=(h.first hf.2 ha).1
  have hfc:zB (some (r,L))≠64:=by rw[←ha,hS.fst f hf.2 (by omega)];omega
  unfold postN
  rw[if_neg (by rw[hb,in1];rintro (e|e|e);cases e;omega;cases e),if_neg (by rw[hsy,hfi];rintro (e|e);cases e;exact hfc e.2),if_neg (by omega),hpp]
  unfold z8
  rw[if_neg (by rw[hmay,q1];rintro (e|e|e);(have e:70368744177663<N:=e;omega);cases e;(have e:(6:Int)≤0:=e;omega)),q1]
  rfl
 have hI:phI f 0=f:=rfl
 have hTo:phT f 0=0:=rfl
 have hsw:sendW (cT n w) f t ((0:Nat):Int) [b] x=x.put f {(x.nd f) with q:=[(64,encP (pU f w N b 0))],last:=N}:=by unfold sendW;rw[show ((0:Nat):Int)=0 from rfl,hpost]
 have hl:f<x.nodes.length:=by rw[h.hn];exact hf.2
 have hT:=vT hf7 hw
 refine⟨⟨by rw[hI,q6];omega,λz Lz hz=>(by rw[hI,q5] at hz;cases hz),by rw[hI,q1];simp⟩,by unfold sendE;rw[hI,hTo,show ((0:Nat):Int)=0 from rfl,hpost],?_,mU f w,vU f w,λ_=>64,λk=>encP (pU f w N b k),λi=>dtOf (newN i),E_U f w N b,gotU f w N b,tripU hn hf hw hNb,?_,hT.m7,mU_lt hf hw,rfl,rfl,rfl,rfl,λy hy=>⟨λe=>by omega,λ_=>⟨N,hNb.1,hNb.2,hy⟩⟩⟩
 ·rw[hI,hTo,hsw]
  exact h.put hf.2 rfl (h.nd f hf.2).ev
 ·rw[hI,hTo,hsw]
  have hvf:vU f w 0=f:=by unfold vU;simp
  refine⟨by omega,λj hj=>absurd hj (Nat.not_lt_zero _),?_,λi hi hno=>?_⟩
  ·show dtOf ((x.put f _).nd (vU f w 0))=_
   rw[hvf,put_nd x f f _ hl,if_pos rfl]
   unfold E_U
   rw[if_pos rfl]
   show ([(64,encP (pU f w N b 0))],(x.nd f).up,(x.nd f).down,(x.nd f).got,(x.nd f).paths,N)=_
   rw[q2,q3,q4,q5]
  ·show dtOf ((x.put f _).nd i)=_
   have hif:i≠f:=λe=>hno 0 (by omega) (by rw[hvf,e])
   rw[put_nd x f i _ hl,if_neg hif]
   exact hd i hi
theorem ph_down(h:LN n w t A x)(hS:Std n w A)(hf:1≤f∧f<n)(hp:Ph n w f u 1 x):PhS n w f t A 1 u b x:=by
 have hn:=h.n8
 have hw:=h.w3
 have ht:=h.t2
 have hf7:1≤f∧f≤7:=by omega
 obtain⟨N,n0,n1,hA⟩:=hp.2 rfl
 have hT:=vT hf7 hw
 have hD:=tabD_of hf7 hw
 have m1:=hT.m1
 have hvf:vU f w 0=f:=by unfold vU;simp
 have hcur:=hA.cur
 rw[hT.z] at hcur
 have hE:E_U f w N u (mU f w)=([],qx,qx,upU f N,pathsU f w,-1):=by
  unfold E_U
  rw[if_neg (by omega),if_neg (by omega)];rfl
 rw[hE] at hcur
 obtain⟨q1,q2,q3,q4,q5,q6⟩:=dt_all hcur
 obtain⟨r,L,ha⟩:=hS.at (show 0<n by omega)
 obtain⟨N2,hN2⟩:∃N2:Int,N2=64*(t:Int):=⟨_,rfl⟩
 have hNb:0≤N2∧N2≤200000:=by omega
 have hpp:vf (cT n w) 0 (x.nd 0) t (f:Int) [b] (PL f w)=pD f w N2 b 0:=by
  unfold vf pD
  have e1:max ((x.nd 0).last+1) ((t:Int)*64)=N2:=by rw[q6,hN2];omega
  rw[e1];rfl
 have hmay:=mayD (u:=b) hf7 hw hNb (k:=0) (by omega)
 have hg1:(PL f w).getD 1 0=ttD f w 0:=hD.get 1 (by omega)
 have hpost:postN (cT n w) 0 (x.nd 0) t (f:Int) [b]=({(x.nd 0) with q:=[(ttD f w 0,encP (pD f w N2 b 0))],last:=N2},N2,0):=by
  have hb:hasB (cT n w) (f:Int)=true:=by
   unfold hasB inR
   show (decide ((0:Int)≤f)&&decide ((f:Int)≤(n:Int)-1))=true
   simp;omega
  have hsy:(x.nd 0).synced=true:=(h.rank (show 0<n by omega) ha).2
  have hpa:(x.nd 0).paths (f:Int)=some (PL f w):=by rw[q5];unfold pathsU;rw[if_pos rfl]
  unfold postN
  rw[if_neg (by rw[hb,in1];rintro (e|e|e);cases e;omega;cases e),if_neg (by rw[hsy];rintro (e|e);cases e;exact e.1 rfl),if_pos rfl,hpa]
  dsimp only
  rw[hpp,hg1]
  unfold z8
  rw[if_neg (by rw[hmay,q1];rintro (e|e|e);(have e:70368744177663<N2:=e;omega);cases e;(have e:(6:Int)≤0:=e;omega)),q1]
  rfl
 have hI:phI f 1=0:=rfl
 have hTo:phT f 1=f:=rfl
 have hsw:sendW (cT n w) 0 t (f:Int) [b] x=x.put 0 {(x.nd 0) with q:=[(ttD f w 0,encP (pD f w N2 b 0))],last:=N2}:=by unfold sendW;rw[hpost]
 have hl:0<x.nodes.length:=by rw[h.hn];omega
 have hU:=tripU (N:=N) (u:=u) hn hf hw ⟨n0,n1⟩
 have hat:=λi (hi:i<n)=>hA.at hU hi
 obtain⟨x',hx'⟩:∃x',x'=x.put 0 {(x.nd 0) with q:=[(ttD f w 0,encP (pD f w N2 b 0))],last:=N2}:=⟨_,rfl⟩
 have hnd:∀i,i≠0→x'.nd i=x.nd i:=λi hi=>by rw[hx',put_nd x 0 i _ hl,if_neg hi]
 have hm0:uD f w 0=0:=by unfold uD;rw[Nat.sub_zero];exact hT.z
 have hSv:∀j,0<j→j<mU f w→dtOf (x.nd (vU f w j))=([],upU f N,qx,qx,jb,-1):=λj hj hjm=>by
  rw[hA.old j hjm]
  unfold E_U
  rw[if_neg (by omega),if_pos hjm];rfl
 have hSf:dtOf (x.nd f)=([],qx,qx,qx,jb,N):=by
  have:=hA.old 0 (by omega)
  rw[hvf] at this
  rw[this]
  unfold E_U
  rw[if_pos rfl];rfl
 refine⟨⟨by rw[hI,q6];omega,λz Lz hz=>?_,by rw[hI,q1];simp⟩,by unfold sendE;rw[hI,hTo,hpost],?_,mU f w,uD f w,ttD f w,λk=>encP (pD f w N2 b k),λi=>dtOf (x.nd i),E_D f w N N2 b,gotD f w N2 b,
  tripD hn hf hw ⟨n0,n1⟩ hNb (λi hi=>?_) hSv hSf,?_,hT.m7,mU_lt hf hw,rfl,rfl,rfl,rfl,λy hy=>⟨λe=>by omega,λe=>by omega⟩⟩
 ·rw[hI,q5] at hz
  unfold pathsU at hz
  split at hz
  ·cases hz
   have:=hD.len
   have:=hT.m7
   omega
  ·cases hz
 ·rw[hI,hTo,hsw]
  exact h.put (by omega) rfl (h.nd 0 (by omega)).ev
 ·obtain⟨k1,k2⟩:=hat i hi
  rw[if_neg (by omega)] at k1
  exact⟨k1,k2⟩
 ·rw[hI,hTo,hsw,←hx']
  refine⟨by omega,λj hj=>absurd hj (Nat.not_lt_zero _),?_,λi hi hno=>?_⟩
  ·show dtOf (x'.nd (uD f w 0))=_
   rw[hm0,hx',put_nd x 0 0 _ hl,if_pos rfl]
   unfold E_D
   rw[if_pos rfl]
   show ([(ttD f w 0,encP (pD f w N2 b 0))],(x.nd 0).up,(x.nd 0).down,(x.nd 0).got,(x.nd 0).paths,N2)=_
   rw[q2,q3,q4,q5]
  ·show dtOf (x'.nd i)=_
   rw[hnd i (λe=>hno 0 (by omega) (by rw[hm0,e]))]
end
def zc:Cls:=λ_=>0
theorem z_zc(w:World):Z w zc:=λ_ _=>rfl
theorem RV.blk{w:World}{o:Cls}{b:Nat}{cs:Array Value}{e:TypeId}{V:Int→Value}(hb:w.heap[b]? =some (.cells cs e (0,0))) (ho:o b=0) (L:List Int) (hl:cs=(L.map V).toArray) (hc:L.length≤maxLen):
  RV V w o (.slice (some ⟨b,0,none⟩) L.length L.length) L:=by
 refine⟨some ⟨b,0,none⟩,L.length,rfl,⟨rfl,λi hi=>⟨_,rfl,ho,?_⟩⟩,(λe=>by cases e),Nat.le_refl _,hc⟩
 rw[add_mk,qJ hb,hl]
 simp[List.getElem?_eq_getElem hi]
end Go.Proofs.YtnpihllannobgaaGreatDoor
