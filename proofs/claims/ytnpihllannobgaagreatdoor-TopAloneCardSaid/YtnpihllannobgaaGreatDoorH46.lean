/- Steps of the proof, part H46. No condition. -/
import Derived.Test.YtnpihllannobgaaGreatDoorH43
import Derived.Test.YtnpihllannobgaaGreatDoorH21
import Derived.Test.YtnpihllannobgaaGreatDoorH37
import Derived.Deep.RegionHeld3
namespace Go.Proofs.YtnpihllannobgaaGreatDoor
set_option linter.unusedVariables false
set_option linter.unusedSimpArgs false
set_option maxRecDepth 100000
set_option maxHeartbeats 32000000
open Go.ChangeShapes Go.WideShapes Go.ChangeAt Go.RowKit
structure Stp where
 k:Int
 i:Int
 t:Int
 dr:Value
 lo:Value
 ac:Value
 er:Value
 da:Value
 d:Dr
 data:List Int
def VStp(z:Stp):List Value:=[.int .i64 z.k,.int .i64 z.i,.int .i64 z.t,z.dr,z.lo,z.ac,z.er,z.da]
def StpOk(w:World)(o:Cls)(z:Stp):Prop:=So w o z.d z.dr z.lo z.ac z.er z.da∧BO w o z.da z.data
section
variable {H:Type}{enc:TypeId×Value→H}{P:Program}{w:World}{base:Nat}{held:Bool}
theorem vZ{k:IntKind}{t e:TypeId}(ht:P.underlying t=some (.slice e))(he:P.underlying e=some (.int k))(hc:P.cellsOf e=1){n:Nat}{cs:List Value}{y:DataW H×List MemPlace}
  (h:DataW.trod enc P w base (λ_=>true) held n t cs=some y):∃v L,cs=[v]∧RV (Value.int k) w zc v L∧∀z∈L,(Lit.int k z).wf=true:=by
 rcases Go.Deep.open_slice1 ht hc h with ⟨hcs,_⟩|⟨x,l,c,m,n,V',D,Pl,hcs,hb,hl,hm,hmm,_,hx⟩
 ·exact⟨_,[],hcs,RV.nil _ _ _,λz hz=>by cases hz⟩
 ·have hle:l≤m:=by rw[hmm];simp;omega
  obtain⟨zs,hzl,hz⟩:=list_of_fn (Q:=λi z=>w.cell? (x.add i)=some (Value.int k z)∧(Lit.int k z).wf=true) l (λi hi=>by
   obtain⟨h1,h2⟩:=hx i (by omega)
   obtain⟨z,h3,_,h4⟩:=DataW.trod_int he h2
   rw[(List.cons.inj h3).1] at h1
   exact⟨z,h1,h4⟩)
  refine⟨_,zs,hcs,⟨some x,c,by rw[hzl],⟨hzl▸rfl,λi hi=>⟨x,rfl,rfl,(hz i hi).1⟩⟩,(λe=>by cases e),by rw[hzl];exact hl,hm⟩,λz hz'=>?_⟩
  obtain⟨i,hi,rfl⟩:=List.getElem_of_mem hz'
  exact (hz i hi).2
theorem wf_u64{z:Int}(h:(Lit.int .u64 z).wf=true):0≤z∧z<18446744073709551616:=by
 unfold Lit.wf at h
 simp only[Bool.and_eq_true,decide_eq_true_eq] at h
 have h1:(0:Int)≤z:=h.1
 have h2:z≤(18446744073709551615:Int):=h.2
 omega
theorem wf_u8{z:Int}(h:(Lit.int .u8 z).wf=true):0≤z∧z<256:=by
 unfold Lit.wf at h
 simp only[Bool.and_eq_true,decide_eq_true_eq] at h
 have h1:(0:Int)≤z:=h.1
 have h2:z≤(255:Int):=h.2
 omega
theorem list8{α:Type}{l:List α}(h:l.length=8):∃c0 c1 c2 c3 c4 c5 c6 c7,l=[c0,c1,c2,c3,c4,c5,c6,c7]:=by
 rcases l with _|⟨c0,_|⟨c1,_|⟨c2,_|⟨c3,_|⟨c4,_|⟨c5,_|⟨c6,_|⟨c7,_|⟨c8,l⟩⟩⟩⟩⟩⟩⟩⟩⟩
 all_goals first|exact⟨_,_,_,_,_,_,_,_,rfl⟩|(simp at h)
theorem stp_of_trod{n:Nat}{cs:List Value}{y:DataW H×List MemPlace}(hl:cs.length=8)(h:DataW.trod enc Tryz.prog w base (λ_=>true) held n 35 cs=some y):∃z,cs=VStp z∧StpOk w zc z:=by
 obtain⟨xs,n,_,_,_,hlen,hf⟩:=DataW.trod_struct Tryz.underlying35 h
 have hx:xs.length=8:=hlen
 obtain⟨c0,c1,c2,c3,c4,c5,c6,c7,rfl⟩:=list8 hl
 obtain⟨x0,x1,x2,x3,x4,x5,x6,x7,rfl⟩:=list8 hx
 have e3:Tryz.prog.cellsOf 3=1:=by kernel_rfl
 have e22:Tryz.prog.cellsOf 22=1:=by kernel_rfl
 have e24:Tryz.prog.cellsOf 24=1:=by kernel_rfl
 have e33:Tryz.prog.cellsOf 33=1:=by kernel_rfl
 have e23:Tryz.prog.cellsOf 23=1:=by kernel_rfl
 have e5:Tryz.prog.cellsOf 5=1:=by kernel_rfl
 have f0:DataW.trod enc Tryz.prog w base (λ_=>true) held n 3 (([c0,c1,c2,c3,c4,c5,c6,c7].drop 0).take (Tryz.prog.cellsOf 3))=some x0:=hf 0 _ rfl
 have f1:DataW.trod enc Tryz.prog w base (λ_=>true) held n 3 (([c0,c1,c2,c3,c4,c5,c6,c7].drop 1).take (Tryz.prog.cellsOf 3))=some x1:=hf 1 _ rfl
 have f2:DataW.trod enc Tryz.prog w base (λ_=>true) held n 3 (([c0,c1,c2,c3,c4,c5,c6,c7].drop 2).take (Tryz.prog.cellsOf 3))=some x2:=hf 2 _ rfl
 have f3:DataW.trod enc Tryz.prog w base (λ_=>true) held n 22 (([c0,c1,c2,c3,c4,c5,c6,c7].drop 3).take (Tryz.prog.cellsOf 22))=some x3:=hf 3 _ rfl
 have f4:DataW.trod enc Tryz.prog w base (λ_=>true) held n 24 (([c0,c1,c2,c3,c4,c5,c6,c7].drop 4).take (Tryz.prog.cellsOf 24))=some x4:=hf 4 _ rfl
 have f5:DataW.trod enc Tryz.prog w base (λ_=>true) held n 24 (([c0,c1,c2,c3,c4,c5,c6,c7].drop 5).take (Tryz.prog.cellsOf 24))=some x5:=hf 5 _ rfl
 have f6:DataW.trod enc Tryz.prog w base (λ_=>true) held n 22 (([c0,c1,c2,c3,c4,c5,c6,c7].drop 6).take (Tryz.prog.cellsOf 22))=some x6:=hf 6 _ rfl
 have f7:DataW.trod enc Tryz.prog w base (λ_=>true) held n 33 (([c0,c1,c2,c3,c4,c5,c6,c7].drop 7).take (Tryz.prog.cellsOf 33))=some x7:=hf 7 _ rfl
 rw[e3] at f0 f1 f2
 rw[e22] at f3 f6
 rw[e24] at f4 f5
 rw[e33] at f7
 simp only[List.drop_zero,List.drop_succ_cons,List.take_succ_cons,List.take_zero] at f0 f1 f2 f3 f4 f5 f6 f7
 obtain⟨z0,g0,_,_⟩:=DataW.trod_int Tryz.underlying3 f0
 obtain⟨z1,g1,_,_⟩:=DataW.trod_int Tryz.underlying3 f1
 obtain⟨z2,g2,_,_⟩:=DataW.trod_int Tryz.underlying3 f2
 obtain⟨v3,L3,g3,r3,_⟩:=vZ Tryz.underlying22 Tryz.underlying3 e3 f3
 obtain⟨v4,L4,g4,r4,b4⟩:=vZ Tryz.underlying24 Tryz.underlying23 e23 f4
 obtain⟨v5,L5,g5,r5,b5⟩:=vZ Tryz.underlying24 Tryz.underlying23 e23 f5
 obtain⟨v6,L6,g6,r6,_⟩:=vZ Tryz.underlying22 Tryz.underlying3 e3 f6
 obtain⟨v7,L7,g7,r7,b7⟩:=vZ Tryz.underlying33 Tryz.underlying5 e5 f7
 refine⟨⟨z0,z1,z2,v3,v4,v5,v6,v7,⟨L3,L4,L5,L6⟩,L7⟩,?_,⟨r3,r4,r5,r6,?_,λz hz=>wf_u64 (b4 z hz),λz hz=>wf_u64 (b5 z hz)⟩,r7,λz hz=>wf_u8 (b7 z hz)⟩
 ·unfold VStp
  rw[(List.cons.inj g0).1,(List.cons.inj g1).1,(List.cons.inj g2).1,(List.cons.inj g3).1,(List.cons.inj g4).1,(List.cons.inj g5).1,(List.cons.inj g6).1,(List.cons.inj g7).1]
 ·obtain⟨A,c,e,_⟩:=r7
  exact⟨_,_,_,e⟩
end
theorem StpOk.step{w w':World}{o o':Cls}{S:Nat→Prop}{z:Stp}(h:StpOk w o z)(e:Ext w o o')(g:Chg S w w')(n0:∀k,o k=0→¬S k):StpOk w' o' z:=⟨h.1.step e g n0,h.2.step e g n0⟩
def PWk(w0:World)(o0:Cls)(c:Cfg)(W:Nat)(x:WM)(asn:Int)(Jp:Inj→Prop)(en:Ending)(w':World):Prop:=
 ∃o' r' e,en= .returned (.int .i64 e)∧WAt w0 o0 c W x asn w' o' r'∧Jp r'.ij
def PDk(w0:World)(o0:Cls)(c:Cfg)(W:Nat)(x:WM)(asn:Int)(Jp:Inj→Prop)(en:Ending)(w':World):Prop:=
 ∃v o' r' e,en= .returned (.tuple #[v,.int .i64 e])∧WAt w0 o0 c W (zh x) asn w' o' r'∧Eo w' o' (cl 16 4) v x.ev∧Jp r'.ij
theorem PWa.k{w0:World}{o0:Cls}{c:Cfg}{W:Nat}{x:WM}{asn e:Int}{r:WR}{J:Inj}{Jp:Inj→Prop}(hj:Jp J){en:Ending}{w':World}(h:PWa w0 o0 c W x asn r J (.int .i64 e) en w'):PWk w0 o0 c W x asn Jp en w':=by
 obtain⟨o',r',a,b,_,_,d⟩:=h
 exact⟨o',r',e,a,b,d▸hj⟩
section
variable {w0 w w':World}{o0 o o':Cls}{c:Cfg}{W:Nat}{x x':WM}{asn asn':Int}{r r':WR}{d:Dr}{i t:Int}{Jp:Inj→Prop}{dA lA aA eA xA:Option Addr}{dn dc ln lc an acp en ec xn xc:Nat}
theorem wdo_k1(hn1:c.nodes≤16)(HS:Calls Tryz.prog 18 #[VP W,(.agg #[.int .i64 1,.int .i64 i,.int .i64 t,.slice dA dn dc,.slice lA ln lc,.slice aA an acp,.slice eA en ec,.slice xA xn xc])] (w.alloc (.cells #[.int .i64 1,.int .i64 i,.int .i64 t,.slice dA dn dc,.slice lA ln lc,.slice aA an acp,.slice eA en ec,.slice xA xn xc] 35)) (PWk w0 o0 c W x' asn' Jp)):
  Calls Tryz.prog 7 #[VP W,stpV 1 i t (.slice dA dn dc) (.slice lA ln lc) (.slice aA an acp) (.slice eA en ec) (.slice xA xn xc)] w (PDk w0 o0 c W x' asn' Jp):=by
 have hba:=qV w (.cells #[.int .i64 1,.int .i64 i,.int .i64 t,.slice dA dn dc,.slice lA ln lc,.slice aA an acp,.slice eA en ec,.slice xA xn xc] 35)
 obtain⟨d0,d1,d2,d3,d4,d5,d6,d7⟩:=vj hba
 have HS:=qQ HS
 clear hba
 unfold VP stpV at *
 go_enter Tryz.func7,Tryz.ntmps7
 go_wp2_with fail
 with_reducible refine HS.out.mono ?_
 rintro en w1 ⟨o1,r1,e1,rfl,hA,hj⟩
 clear d0 d1 d2 d3 d4 d5 d6 d7
 have c13:w1.cell? ⟨W,13,none⟩=some r1.ev:=hA.cell 13
 have f13:=hA.f 13
 obtain⟨vA,vn,vc,hv⟩:=hA.evrow
 have HE:=qQ (And.intro (hA.evset hn1) (And.intro hj hv))
 rw[hv] at c13
 clear hA hj hv
 go_wp2_with fail
 go_ret2
 obtain⟨⟨k1,k2⟩,k3,k5⟩:=HE.out
 exact⟨_,o1,_,e1,rfl,k1,k5▸k2,k3⟩
theorem wdo_k2(hn1:c.nodes≤16)(HS:Calls Tryz.prog 19 #[VP W,(.agg #[.int .i64 2,.int .i64 i,.int .i64 t,.slice dA dn dc,.slice lA ln lc,.slice aA an acp,.slice eA en ec,.slice xA xn xc])] (w.alloc (.cells #[.int .i64 2,.int .i64 i,.int .i64 t,.slice dA dn dc,.slice lA ln lc,.slice aA an acp,.slice eA en ec,.slice xA xn xc] 35)) (PWk w0 o0 c W x' asn' Jp)):
  Calls Tryz.prog 7 #[VP W,stpV 2 i t (.slice dA dn dc) (.slice lA ln lc) (.slice aA an acp) (.slice eA en ec) (.slice xA xn xc)] w (PDk w0 o0 c W x' asn' Jp):=by
 have hba:=qV w (.cells #[.int .i64 2,.int .i64 i,.int .i64 t,.slice dA dn dc,.slice lA ln lc,.slice aA an acp,.slice eA en ec,.slice xA xn xc] 35)
 obtain⟨d0,d1,d2,d3,d4,d5,d6,d7⟩:=vj hba
 have HS:=qQ HS
 clear hba
 unfold VP stpV at *
 go_enter Tryz.func7,Tryz.ntmps7
 go_wp2_with fail
 with_reducible refine HS.out.mono ?_
 rintro en w1 ⟨o1,r1,e1,rfl,hA,hj⟩
 clear d0 d1 d2 d3 d4 d5 d6 d7
 have c13:w1.cell? ⟨W,13,none⟩=some r1.ev:=hA.cell 13
 have f13:=hA.f 13
 obtain⟨vA,vn,vc,hv⟩:=hA.evrow
 have HE:=qQ (And.intro (hA.evset hn1) (And.intro hj hv))
 rw[hv] at c13
 clear hA hj hv
 go_wp2_with fail
 go_ret2
 obtain⟨⟨k1,k2⟩,k3,k5⟩:=HE.out
 exact⟨_,o1,_,e1,rfl,k1,k5▸k2,k3⟩
theorem wdo_k3(hn1:c.nodes≤16)(HS:Calls Tryz.prog 20 #[VP W,.int .i64 i] (w.alloc (.cells #[.int .i64 3,.int .i64 i,.int .i64 t,.slice dA dn dc,.slice lA ln lc,.slice aA an acp,.slice eA en ec,.slice xA xn xc] 35)) (PWk w0 o0 c W x' asn' Jp)):
  Calls Tryz.prog 7 #[VP W,stpV 3 i t (.slice dA dn dc) (.slice lA ln lc) (.slice aA an acp) (.slice eA en ec) (.slice xA xn xc)] w (PDk w0 o0 c W x' asn' Jp):=by
 have hba:=qV w (.cells #[.int .i64 3,.int .i64 i,.int .i64 t,.slice dA dn dc,.slice lA ln lc,.slice aA an acp,.slice eA en ec,.slice xA xn xc] 35)
 obtain⟨d0,d1,d2,d3,d4,d5,d6,d7⟩:=vj hba
 have HS:=qQ HS
 clear hba
 unfold VP stpV at *
 go_enter Tryz.func7,Tryz.ntmps7
 go_wp2_with fail
 with_reducible refine HS.out.mono ?_
 rintro en w1 ⟨o1,r1,e1,rfl,hA,hj⟩
 clear d0 d1 d2 d3 d4 d5 d6 d7
 have c13:w1.cell? ⟨W,13,none⟩=some r1.ev:=hA.cell 13
 have f13:=hA.f 13
 obtain⟨vA,vn,vc,hv⟩:=hA.evrow
 have HE:=qQ (And.intro (hA.evset hn1) (And.intro hj hv))
 rw[hv] at c13
 clear hA hj hv
 go_wp2_with fail
 go_ret2
 obtain⟨⟨k1,k2⟩,k3,k5⟩:=HE.out
 exact⟨_,o1,_,e1,rfl,k1,k5▸k2,k3⟩
theorem wdo_k4(hn1:c.nodes≤16)(HS:Calls Tryz.prog 21 #[VP W,(.agg #[.int .i64 4,.int .i64 i,.int .i64 t,.slice dA dn dc,.slice lA ln lc,.slice aA an acp,.slice eA en ec,.slice xA xn xc])] (w.alloc (.cells #[.int .i64 4,.int .i64 i,.int .i64 t,.slice dA dn dc,.slice lA ln lc,.slice aA an acp,.slice eA en ec,.slice xA xn xc] 35)) (PWk w0 o0 c W x' asn' Jp)):
  Calls Tryz.prog 7 #[VP W,stpV 4 i t (.slice dA dn dc) (.slice lA ln lc) (.slice aA an acp) (.slice eA en ec) (.slice xA xn xc)] w (PDk w0 o0 c W x' asn' Jp):=by
 have hba:=qV w (.cells #[.int .i64 4,.int .i64 i,.int .i64 t,.slice dA dn dc,.slice lA ln lc,.slice aA an acp,.slice eA en ec,.slice xA xn xc] 35)
 obtain⟨d0,d1,d2,d3,d4,d5,d6,d7⟩:=vj hba
 have HS:=qQ HS
 clear hba
 unfold VP stpV at *
 go_enter Tryz.func7,Tryz.ntmps7
 go_wp2_with fail
 with_reducible refine HS.out.mono ?_
 rintro en w1 ⟨o1,r1,e1,rfl,hA,hj⟩
 clear d0 d1 d2 d3 d4 d5 d6 d7
 have c13:w1.cell? ⟨W,13,none⟩=some r1.ev:=hA.cell 13
 have f13:=hA.f 13
 obtain⟨vA,vn,vc,hv⟩:=hA.evrow
 have HE:=qQ (And.intro (hA.evset hn1) (And.intro hj hv))
 rw[hv] at c13
 clear hA hj hv
 go_wp2_with fail
 go_ret2
 obtain⟨⟨k1,k2⟩,k3,k5⟩:=HE.out
 exact⟨_,o1,_,e1,rfl,k1,k5▸k2,k3⟩
theorem wdo_kd(hn1:c.nodes≤16){kk:Int}(hk:kk≠1∧kk≠2∧kk≠3∧kk≠4)(HS:WAt w0 o0 c W x' asn' (w.alloc (.cells #[.int .i64 kk,.int .i64 i,.int .i64 t,.slice dA dn dc,.slice lA ln lc,.slice aA an acp,.slice eA en ec,.slice xA xn xc] 35)) o r∧Jp r.ij):
  Calls Tryz.prog 7 #[VP W,stpV kk i t (.slice dA dn dc) (.slice lA ln lc) (.slice aA an acp) (.slice eA en ec) (.slice xA xn xc)] w (PDk w0 o0 c W x' asn' Jp):=by
 have hba:=qV w (.cells #[.int .i64 kk,.int .i64 i,.int .i64 t,.slice dA dn dc,.slice lA ln lc,.slice aA an acp,.slice eA en ec,.slice xA xn xc] 35)
 obtain⟨d0,d1,d2,d3,d4,d5,d6,d7⟩:=vj hba
 have b1:(kk==1)=false:=by simpa using hk.1
 have b2:(kk==2)=false:=by simpa using hk.2.1
 have b3:(kk==3)=false:=by simpa using hk.2.2.1
 have b4:(kk==4)=false:=by simpa using hk.2.2.2
 have HS:=qQ HS
 have c13:(w.alloc (.cells #[.int .i64 kk,.int .i64 i,.int .i64 t,.slice dA dn dc,.slice lA ln lc,.slice aA an acp,.slice eA en ec,.slice xA xn xc] 35)).cell? ⟨W,13,none⟩=some r.ev:=HS.out.1.cell 13
 have f13:=HS.out.1.f 13
 obtain⟨vA,vn,vc,hv⟩:=HS.out.1.evrow
 have HE:=qQ (And.intro (HS.out.1.evset hn1) (And.intro HS.out.2 hv))
 rw[hv] at c13
 clear hba
 unfold VP stpV at *
 go_enter Tryz.func7,Tryz.ntmps7
 clear hv HS hk
 go_wp2_with fail
 go_ret2
 obtain⟨⟨k1,k2⟩,k3,k5⟩:=HE.out
 exact⟨_,o,_,1,rfl,k1,k5▸k2,k3⟩
end
section
variable {w0 w w':World}{o0 o o':Cls}{c:Cfg}{W:Nat}{x x':WM}{asn asn':Int}{r r':WR}{d:Dr}{i t:Int}{dr lo ac er da:Value}{Jp:Inj→Prop}
theorem WAt.injset(h:WAt w0 o0 c W x asn w o r)(hc:c.nodes≤16){f:Int→Option Value}{w6:World}(n:Nat)(v:Value)(a:Option (List Int))(hf:∀i:Nat,IjV w o ((f i).getD (.slice none 0 0)) (r.ij i))(m6:Mp w6 r.inj (λm=>if m=(n:Int) then some v else f m))(g:Chg (· =r.inj) w w6)(hv:IjV w o v a):
  WAt w0 o0 c W x asn w6 o {r with ij:=λj=>if j=n then a else r.ij j}:=by
 have hd:=h.wd
 obtain⟨n0,nj,nm⟩:=part_no (S:=λk=>k=r.inj) (o:=o) (m:=3) (by omega) (λk hk=>by rw[hk];exact hd.injo)
 have G:Chg (λk=>k=r.inj) w w6:=g
 refine h.next ⟨Chg.keep G hd.blk (nj 0 (by omega) (by omega) _ hd.ob),hd.ob,hd.near.step (Ext.refl _ _) G n0,hd.hops.step (Ext.refl _ _) G n0,qY hd.row G (λk hk=>nj 1 (by omega) (by omega) k (hd.rowo k hk)),hd.rowo,
  qY hd.bnd G (λk hk=>nj 2 (by omega) (by omega) k (hd.bndo k hk)),hd.bndo,⟨_,m6,λi=>?_⟩,hd.injo,hd.ev.step (Ext.refl _ _) G (λk hk=>hk.elim (n0 k) (nj 4 (by omega) (by omega) k)),hd.nl,hd.nds (Ext.refl _ _) G n0 nm hc⟩
  (h.z.more G.size) (Ext.refl _ _) (G.mono (λk _ hk=>by unfold WdS;rw[hk,hd.injo];exact⟨qP 16 3,by unfold cl;omega⟩))
 dsimp only
 by_cases hi:i=n
 ·subst hi
  rw[if_pos rfl,if_pos rfl]
  exact hv.step (Ext.refl _ _) G n0
 ·rw[if_neg hi,if_neg (by omega)]
  exact (hf i).step (Ext.refl _ _) G n0
def InjP(J0:Inj):Inj→Prop:=λJ=>∀j b,J j=some b→b.length≤200∨J0 j=some b
theorem InjP.refl(J:Inj):InjP J J:=λj b h=> .inr h
theorem wsend_bad(hc:CfgOk c)(h:WAt w0 o0 c W x asn w o r)(i:Int)(hi:inR i 0 ((c.nodes:Int)-1)=false)(hs:So w o d dr lo ac er da)(hj:Jp r.ij):
  Calls Tryz.prog 19 #[VP W,stpV 2 i t dr lo ac er da] w (PWk w0 o0 c W x asn Jp):=by
 have hn1:=hc.n1
 have hn0:=hc.n0
 obtain⟨dA,dc,hdr,_⟩:=hs.drift
 obtain⟨lA,lc,hlo,_⟩:=hs.lost
 obtain⟨aA,acp,hac,_⟩:=hs.acks
 obtain⟨eA,ec,her,_⟩:=hs.err
 obtain⟨xA,xn,xc,hda⟩:=hs.da
 obtain⟨dn,hdn⟩:∃n,n=d.drift.length:=⟨_,rfl⟩
 obtain⟨ln,hln⟩:∃n,n=d.lost.length:=⟨_,rfl⟩
 obtain⟨an,han⟩:∃n,n=d.acks.length:=⟨_,rfl⟩
 obtain⟨en,hen⟩:∃n,n=d.err.length:=⟨_,rfl⟩
 rw[←hdn] at hdr
 rw[←hln] at hlo
 rw[←han] at hac
 rw[←hen] at her
 subst hdr hlo hac her hda
 have ga:=Chg.alloc (λ_=>False) w (.cells #[.int .i64 2,.int .i64 i,.int .i64 t,.slice dA dn dc,.slice lA ln lc,.slice aA an acp,.slice eA en ec,.slice xA xn xc] 35)
 obtain⟨d0,d1,d2,d3,d4,d5,d6,d7⟩:=vj (qV w (.cells #[.int .i64 2,.int .i64 i,.int .i64 t,.slice dA dn dc,.slice lA ln lc,.slice aA an acp,.slice eA en ec,.slice xA xn xc] 35))
 have HA:=qQ (And.intro (h.kept hn1 ga) hj)
 have HH:=qQ (jj HA.out.1 (by omega) i)
 rw[hi] at HH
 clear h hs ga hdn hln han hen hc hi hj
 unfold VP stpV at *
 go_enter Tryz.func19,Tryz.ntmps19
 go_wp2_with fail
 with_reducible refine HH.out.mono ?_
 rintro en w2 ⟨rfl,hw2⟩
 subst hw2
 go_wp2_with fail
 go_ret
 exact⟨o,r,6,rfl,HA.out.1,HA.out.2⟩
theorem wreboot_bad(hc:CfgOk c)(h:WAt w0 o0 c W x asn w o r)(i:Int)(hi:inR i 0 ((c.nodes:Int)-1)=false∨i=0)(hj:Jp r.ij):
  Calls Tryz.prog 20 #[VP W,.int .i64 i] w (PWk w0 o0 c W x asn Jp):=by
 have hn1:=hc.n1
 have hn0:=hc.n0
 have HA:=qQ (And.intro h hj)
 have HH:=qQ (jj h (by omega) i)
 clear h hj
 rcases hi with hi|rfl
 ·rw[hi] at HH
  clear hi
  unfold VP at *
  go_enter Tryz.func20,Tryz.ntmps20
  go_wp2_with fail
  with_reducible refine HH.out.mono ?_
  rintro en w2 ⟨rfl,hw2⟩
  subst hw2
  go_wp2_with fail
  go_ret
  exact⟨o,r,6,rfl,HA.out.1,HA.out.2⟩
 ·rw[show inR 0 0 ((c.nodes:Int)-1)=true from zT (by omega) (by omega)] at HH
  unfold VP at *
  go_enter Tryz.func20,Tryz.ntmps20
  go_wp2_with fail
  with_reducible refine HH.out.mono ?_
  rintro en w2 ⟨rfl,hw2⟩
  subst hw2
  go_wp2_with fail
  go_ret
  exact⟨o,r,1,rfl,HA.out.1,HA.out.2⟩
theorem winject_any(hc:CfgOk c)(h:WAt w0 o0 c W x asn w o r)(i:Int){T:List Int}(hs:So w o d dr lo ac er da)(hda:BO w o da T):
  Calls Tryz.prog 21 #[VP W,stpV 4 i t dr lo ac er da] w (PWk w0 o0 c W x asn (InjP r.ij)):=by
 have hn1:=hc.n1
 have hn0:=hc.n0
 obtain⟨dA,dc,hdr,_⟩:=hs.drift
 obtain⟨lA,lc,hlo,_⟩:=hs.lost
 obtain⟨aA,acp,hac,_⟩:=hs.acks
 obtain⟨eA,ec,her,_⟩:=hs.err
 obtain⟨xA,xc,hxa,_⟩:=hda.1
 obtain⟨dn,hdn⟩:∃n,n=d.drift.length:=⟨_,rfl⟩
 obtain⟨ln,hln⟩:∃n,n=d.lost.length:=⟨_,rfl⟩
 obtain⟨an,han⟩:∃n,n=d.acks.length:=⟨_,rfl⟩
 obtain⟨en,hen⟩:∃n,n=d.err.length:=⟨_,rfl⟩
 obtain⟨xn,hxn⟩:∃n,n=T.length:=⟨_,rfl⟩
 rw[←hdn] at hdr
 rw[←hln] at hlo
 rw[←han] at hac
 rw[←hen] at her
 rw[←hxn] at hxa
 subst hdr hlo hac her hxa
 have ga:=Chg.alloc (λ_=>False) w (.cells #[.int .i64 4,.int .i64 i,.int .i64 t,.slice dA dn dc,.slice lA ln lc,.slice aA an acp,.slice eA en ec,.slice xA xn xc] 35)
 have hba:=qV w (.cells #[.int .i64 4,.int .i64 i,.int .i64 t,.slice dA dn dc,.slice lA ln lc,.slice aA an acp,.slice eA en ec,.slice xA xn xc] 35)
 have h1:=h.kept hn1 ga
 have hda1:=hda.keep ga (λ_ _ e=>e)
 obtain⟨w1,hw1⟩:=qZ (w.alloc (.cells #[.int .i64 4,.int .i64 i,.int .i64 t,.slice dA dn dc,.slice lA ln lc,.slice aA an acp,.slice eA en ec,.slice xA xn xc] 35))
 obtain⟨sb,hsb⟩:=qZ w.heap.size
 rw[←hw1] at h1 hda1 hba
 rw[←hsb] at hba
 obtain⟨d0,d1,d2,d3,d4,d5,d6,d7⟩:=vj hba
 have HW1:=qQ hw1
 have HSB:=qQ hsb
 have HOS:=qQ (show o sb=0 from by rw[hsb];exact h.z _ (Nat.le_refl _))
 have HH:=qQ (jj h1 (by omega) i)
 have H1:=qQ h1
 have HD:=qQ (And.intro hda1 hxn)
 have HB:=qQ hba
 clear h hs hda ga hba hdn hln han hen hc h1 hda1 hw1 hsb
 cases hi:inR i 0 ((c.nodes:Int)-1) with
 |false=>
  rw[hi] at HH
  clear hxn hi
  unfold VP stpV at *
  go_enter Tryz.func21,Tryz.ntmps21
  go_upto_region 1 with fail
  rw[←HW1.out,←HSB.out]
  clear HW1
  go_wp2_with fail
  with_reducible refine HH.out.mono ?_
  rintro en w2 ⟨rfl,hw2⟩
  subst hw2
  go_wp2_with fail
  go_ret
  exact⟨o,r,6,rfl,H1.out,InjP.refl _⟩
 |true=>
  rw[hi] at HH
  have hir:0≤i∧i≤(c.nodes:Int)-1:=by
   unfold inR at hi
   simpa using hi
  obtain⟨n,rfl⟩:=Int.eq_ofNat_of_zero_le hir.1
  unfold VP stpV at *
  by_cases h2:200<xn
  ·have b2:decide (200<(xn:Int))=true:=by simp;omega
   clear hxn hi h2
   go_enter Tryz.func21,Tryz.ntmps21
   go_upto_region 1 with fail
   rw[←HW1.out,←HSB.out]
   clear HW1
   go_wp2_with fail
   with_reducible refine HH.out.mono ?_
   rintro en w2 ⟨rfl,hw2⟩
   subst hw2
   go_wp2_with fail
   go_ret
   exact⟨o,r,1,rfl,H1.out,InjP.refl _⟩
  ·have b2:decide (200<(xn:Int))=false:=by simp;omega
   have HX:=qQ h2
   obtain⟨xA',xc',e9,hro,hnc,hlc,hmc⟩:=HD.out.1.1
   rw[←hxn] at e9
   cases e9
   have HCL:=qQ (show∀W5,Chg (λ_=>False) w1 W5→Calls Tryz.prog 41 #[.slice xA xn xc] W5 (PNew V8 5 W5 T) from λW5 g=>by
    obtain⟨A9,c9,e9,hr9,hn9,_⟩:=(HD.out.1.keep g (λ_ _ e=>e)).bs
    rw[←hxn] at e9 hr9
    cases e9
    exact vX W5 xA xn xc T hr9 hn9 (by omega))
   have c12:w1.cell? ⟨W,12,none⟩=some (.map (some r.inj)):=H1.out.cell 12
   have HS:=qQ (show∀W5,Chg (λ_=>False) w1 W5→((λW'=>W'.cell? ⟨W,12,none⟩=some (.map (some r.inj))∧W'.cell? ⟨sb,1,none⟩=some (.int .i64 (n:Int))∧W'.cell? ⟨sb,7,none⟩=some (.slice xA xn xc)):World→Prop) W5 from λW5 g=>by
    have hb5:=Chg.keep g HB.out (λe=>e)
    exact⟨by rw[g.cell (qG c12) (λe=>e)];exact c12,qJ hb5 1,qJ hb5 7⟩)
   clear hi hxn h2 hro hnc hlc hmc
   go_enter Tryz.func21,Tryz.ntmps21
   go_upto_region 1 with fail
   rw[←HW1.out,←HSB.out]
   clear HW1
   go_wp2_with fail
   with_reducible refine HH.out.mono ?_
   rintro en w2 ⟨rfl,hw2⟩
   subst hw2
   go_wp2_with fail
   have s0:=HS.out w2 (Chg.refl _ _)
   obtain⟨f,hm,hfv⟩:=H1.out.wd.inj
   have HM:=qQ (And.intro hm hfv)
   clear hm hfv
   go_region_held3 (λW'=>W'.cell? ⟨W,12,none⟩=some (.map (some r.inj))∧W'.cell? ⟨sb,1,none⟩=some (.int .i64 (n:Int))∧W'.cell? ⟨sb,7,none⟩=some (.slice xA xn xc))
    (first|(with_reducible exact HS.out _ (Chg.refl _ _))|(with_reducible exact HS.out _ (Chg.drew _ _))|(with_reducible exact HS.out _ HG3.out)|(with_reducible exact HS4.out))
    (first
    |(go_at_call 41;refine (HCL.out _ (by first|exact Chg.drew _ _|exact Chg.refl _ _)).mono ?_;rintro en w3 ⟨v3,rfl,ho3,hg3⟩
      have HG3:=qQ ((Chg.drew (λ_=>False) w2).trans hg3)
      have HO3:=qQ ho3
      obtain⟨w4,hu,m4,g4⟩:=(HM.out.1.keep HG3.out (λe=>e)).update ty59 ty3 (n:Int) v3
      change (Instr.mapUpdate 59 (.map (some r.inj)) (.int .i64 (n:Int)) v3).run Tryz.prog w3=_ at hu
      have HU:=qQ (And.intro m4 g4)
      have HS4:=qQ (show ((λW'=>W'.cell? ⟨W,12,none⟩=some (.map (some r.inj))∧W'.cell? ⟨sb,1,none⟩=some (.int .i64 (n:Int))∧W'.cell? ⟨sb,7,none⟩=some (.slice xA xn xc)):World→Prop) w4 from by
       obtain⟨q1,q2,q3⟩:=HS.out w3 HG3.out
       have n1:¬W=r.inj:=λe=>by
        have h1:=H1.out.wd.ob
        rw[e,H1.out.wd.injo] at h1
        have:=(qy h1 (by omega) (by omega)).2
        omega
       have n2:¬sb=r.inj:=λe=>by
        have h1:=HOS.out
        rw[e,H1.out.wd.injo] at h1
        exact qP 16 3 h1
       exact⟨by rw[g4.cell (qG q1) n1];exact q1,by rw[g4.cell (qG q2) n2];exact q2,by rw[g4.cell (qG q3) n2];exact q3⟩)
      clear hg3 ho3 m4 g4))
   all_goals
    have hA3:=H1.out.kept hn1 HG3.out
    obtain⟨m4,g4⟩:=HU.out
    have hv:∃a,IjV w3 o v3 a∧∀b,a=some b→b.length≤200:=by
     have hbo:BO w3 o v3 T:=BO.of_own HO3.out HD.out.1.2 (λk hk=>H1.out.z k hk)
     rcases qD HO3.out with ⟨e,_⟩|⟨g,cap,e,_⟩
     ·exact⟨none,e,λb h=>by cases h⟩
     ·exact⟨some T,⟨hbo,_,_,_,e⟩,λb h=>by cases h;have:=HD.out.2;have:=HX.out;omega⟩
    obtain⟨a,hva,hlb⟩:=hv
    have hfv:∀i:Nat,IjV w3 o ((f i).getD (.slice none 0 0)) (r.ij i):=λi=>(HM.out.2 i).step (Ext.refl _ _) HG3.out (λ_ _ e=>e)
    have hF:=qQ (hA3.injset hn1 n v3 a hfv m4 g4 hva)
    have HLB:=qQ hlb
    clear hA3 m4 g4 hva hlb hfv
    go_wp2_with fail
    go_ret
    refine⟨o,_,0,rfl,hF.out,λj b hb=>?_⟩
    dsimp only at hb
    by_cases hj:j=n
    ·rw[if_pos hj] at hb;exact .inl (HLB.out b hb)
    ·rw[if_neg hj] at hb;exact .inr hb
end
theorem Sls.stp{w w':World}{a:Option Addr}{len:Nat}{zs:List Stp}(h:Sls 8 VStp w a len zs)(g:Chg (λk=>w.heap.size≤k) w w'){i:Nat}(hi:i<len):
  ∃x z,a=some x∧zs[i]? =some z∧w'.cell? (x.add (i*8))=some (.int .i64 z.k)∧w'.cell? {block:=(x.add (i*8)).block,off:=(x.add (i*8)).off+1}=some (.int .i64 z.i)∧w'.cell? {block:=(x.add (i*8)).block,off:=(x.add (i*8)).off+2}=some (.int .i64 z.t)∧w'.cell? {block:=(x.add (i*8)).block,off:=(x.add (i*8)).off+3}=some z.dr∧
   w'.cell? {block:=(x.add (i*8)).block,off:=(x.add (i*8)).off+4}=some z.lo∧w'.cell? {block:=(x.add (i*8)).block,off:=(x.add (i*8)).off+5}=some z.ac∧w'.cell? {block:=(x.add (i*8)).block,off:=(x.add (i*8)).off+6}=some z.er∧w'.cell? {block:=(x.add (i*8)).block,off:=(x.add (i*8)).off+7}=some z.da:=by
 obtain⟨x,z,e,hz,hc⟩:=h.at g hi
 refine⟨x,z,e,hz,?_,hc 1 (by omega),hc 2 (by omega),hc 3 (by omega),hc 4 (by omega),hc 5 (by omega),hc 6 (by omega),hc 7 (by omega)⟩
 have:=hc 0 (by omega)
 have e0:(x.add (i*8)).add 0=x.add (i*8):=by
  generalize x.add (i*8)=y
  cases y;unfold Addr.add;split <;> simp_all
 rw[e0] at this
 exact this
section
variable {w w1:World}{a:Option Addr}{len cap:Nat}{zs:List Stp}
def vR(zs:List Stp):Bool:=zs.any (λz=>z.k==4)
theorem forged_any(h:Sls 8 VStp w a len zs)(hok:∀z∈zs,StpOk w zc z)(g1:Chg (λk=>w.heap.size≤k) w w1):
  Calls Tryz.prog 16 #[.slice a len cap] w1 (PV (.bool (vR zs)) w1):=by
 have H:=qQ (And.intro h (And.intro g1 hok))
 have hlen:=h.len
 clear h g1 hok
 go_enter Tryz.func16,Tryz.ntmps16
 go_wp2_with fail
 go_loopw [7] (λi wr=>∃k:Nat,k≤len∧i= .int .i64 k∧Chg (λ_=>False) w1 wr∧∀z∈zs.take k,z.k≠4) (λi _=>len-(intOf i).toNat)
 case atStart=>exact⟨0,by omega,rfl,Chg.refl _ _,λz hz=>by simp at hz⟩
 case round=>
  obtain⟨k,hk,rfl,hg,hz4⟩:=hrel
  by_cases hlt:k<len
  ·have i1:(k:Int)<(len:Int):=by omega
   obtain⟨p,z,rfl,hz,c0,c1,c2,c3,c4,c5,c6,c7⟩:=H.out.1.stp (H.out.2.1.trans hg.none) hlt
   have hzm:=List.mem_of_getElem? hz
   have hso:=(H.out.2.2 z hzm).1
   obtain⟨dA,dc,hdr,_⟩:=hso.drift
   obtain⟨lA,lc,hlo,_⟩:=hso.lost
   obtain⟨aA,acp,hac,_⟩:=hso.acks
   obtain⟨eA,ec,her,_⟩:=hso.err
   obtain⟨xA,xn,xc,hxa⟩:=hso.da
   rw[hdr] at c3
   rw[hlo] at c4
   rw[hac] at c5
   rw[her] at c6
   rw[hxa] at c7
   have HG:=qQ hg
   have HN:=qQ (show z.k≠4→∀y∈zs.take (k+1),y.k≠4 from λh4 y hy=>by
    rw[List.take_add_one,hz] at hy
    rcases List.mem_append.1 hy with hy|hy
    ·exact hz4 y hy
    ·simp at hy;rw[hy];exact h4)
   by_cases h4:z.k=4
   ·have HFT:=qQ (show vR zs=true from List.any_eq_true.2 ⟨z,hzm,by simpa using h4⟩)
    rw[h4] at c0
    clear hz hzm hso hdr hlo hac her hxa hg hz4 h4 HN
    go_wp2_with fail
    go_ret
    exact⟨congrArg (λb=>Ending.returned (.bool b)) HFT.out.symm,HG.out.trans (Chg.alloc _ _ _)⟩
   ·have b4:(z.k==4)=false:=by simpa using h4
    have HN4:=qQ (HN.out h4)
    generalize z.k=zk at c0 b4
    clear hz hzm hso hdr hlo hac her hxa hg hz4 h4 HN
    go_wp2_with fail
    refine⟨⟨k+1,by omega,by go_num,HG.out.trans (Chg.alloc _ _ _),HN4.out⟩,by simp[intOf];omega⟩
  ·obtain rfl:k=len:=by omega
   have HF:=qQ (And.intro hg hz4)
   have HL:=qQ H.out.1.1
   clear hg hz4
   go_wp2_with fail
   go_ret
   have hf:=HF.out.2
   rw[List.take_of_length_le (by rw[HL.out];exact Nat.le_refl _)] at hf
   have:vR zs=false:=by
    unfold vR
    rw[List.any_eq_false]
    intro z hz
    simpa using hf z hz
   exact⟨congrArg (λb=>Ending.returned (.bool b)) this.symm,HF.out.1⟩
def LightOk(zs:List Stp):Prop:=zs.length≤400
theorem light25_any(h:Sls 8 VStp w a len zs)(hok:∀z∈zs,StpOk w zc z):
  Calls Tryz.prog 26 #[.slice a len cap] w (λe w2=>∃n:Int,e= .returned (.int .i64 n)∧Chg (λ_=>False) w w2∧(n=0→LightOk zs)):=by
 have H:=qQ (And.intro h hok)
 have hlen:=h.len
 clear h hok
 go_enter Tryz.func26,Tryz.ntmps26
 go_wp2_with fail
 go_loopw [3,8] (λu3 i wr=>∃k:Nat,k≤len∧i= .int .i64 k∧k≤400∧(∃n:Int,u3= .int .i64 n)∧Chg (λ_=>False) w wr) (λ_ i _=>len-(intOf i).toNat)
 case atStart=>exact⟨0,by omega,rfl,by omega,⟨0,rfl⟩,Chg.refl _ _⟩
 case round=>
  obtain⟨k,hk,rfl,hk4,⟨n,rfl⟩,hg⟩:=hrel
  by_cases hlt:k<len
  ·have i1:(k:Int)<(len:Int):=by omega
   obtain⟨p,z,rfl,hz,c0,c1,c2,c3,c4,c5,c6,c7⟩:=H.out.1.stp (hg.none) hlt
   have hzm:=List.mem_of_getElem? hz
   have hso:=(H.out.2 z hzm).1
   have hda:=(H.out.2 z hzm).2.1
   obtain⟨dA,dc,hdr,_⟩:=hso.drift
   obtain⟨lA,lc,hlo,_⟩:=hso.lost
   obtain⟨aA,acp,hac,_⟩:=hso.acks
   obtain⟨eA,ec,her,_⟩:=hso.err
   obtain⟨xA,xc,hxa,_⟩:=hda
   rw[hdr] at c3
   rw[hlo] at c4
   rw[hac] at c5
   rw[her] at c6
   rw[hxa] at c7
   generalize z.d.drift.length=nd at c3
   generalize z.d.lost.length=nl at c4
   generalize z.d.acks.length=na at c5
   generalize z.d.err.length=ne at c6
   generalize z.data.length=nx at c7
   generalize z.k=zk at c0
   generalize z.i=zi at c1
   generalize z.t=zt at c2
   have HG:=qQ hg
   clear hg hz hzm hso hdr hlo hac her hxa
   obtain⟨w2,hw2⟩:=qZ (wr.alloc (.cells #[.int .i64 zk,.int .i64 zi,.int .i64 zt,.slice dA nd dc,.slice lA nl lc,.slice aA na acp,.slice eA ne ec,.slice xA nx xc] 35))
   have ga:Chg (λ_=>False) wr w2:=by rw[hw2];exact Chg.alloc _ _ _
   have HW:=qQ (HG.out.trans ga)
   clear ga
   have ek:IntKind.i64.wrap ((k:Int)+1)=(k:Int)+1:=IntWalk.i64_in _ (by omega)
   by_cases h4:k<400
   ·have b4:decide (400≤(k:Int))=false:=by simp;omega
    go_upto_region 6 with fail
    rw[←hw2]
    obtain⟨m,hm⟩:=qZ (wrap64 (n+wrap64 (wrap64 (wrap64 (wrap64 ((nd:Int)+(nl:Int))+(na:Int))+(ne:Int))+(nx:Int))))
    rw[←hm]
    clear hm hw2
    by_cases hm:20000<m
    ·have b5:decide (20000<m)=true:=by simpa using hm
     clear c0 c1 c2 c3 c4 c5 c6 c7 hm
     go_wp2_with fail
     go_ret
     exact⟨_,rfl,HW.out,λe=>by omega⟩
    ·have b5:decide (20000<m)=false:=by simpa using hm
     clear c0 c1 c2 c3 c4 c5 c6 c7 hm
     go_wp2_with fail
     refine⟨⟨k+1,by omega,by go_num,by omega,⟨m,rfl⟩,HW.out⟩,by simp[intOf];omega⟩
   ·have b4:decide (400≤(k:Int))=true:=by simp;omega
    go_upto_region 6 with fail
    rw[←hw2]
    obtain⟨m,hm⟩:=qZ (wrap64 (n+wrap64 (wrap64 (wrap64 (wrap64 ((nd:Int)+(nl:Int))+(na:Int))+(ne:Int))+(nx:Int))))
    rw[←hm]
    clear hm hw2 c0 c1 c2 c3 c4 c5 c6 c7
    go_wp2_with fail
    go_ret
    exact⟨_,rfl,HW.out,λe=>by omega⟩
  ·obtain rfl:k=len:=by omega
   have HF:=qQ (And.intro hg hk4)
   have HL:=qQ H.out.1.1
   clear hg
   go_wp2_with fail
   go_ret
   exact⟨_,rfl,HF.out.1,λ_=>by unfold LightOk;rw[HL.out];exact HF.out.2⟩
theorem light_any(h:Sls 8 VStp w a len zs)(hok:∀z∈zs,StpOk w zc z):
  Calls Tryz.prog 14 #[.slice a len cap] w (λe w2=>∃b,e= .returned (.bool b)∧Chg (λ_=>False) w w2∧(b=true→LightOk zs)):=by
 have H:=qQ (light25_any (cap:=cap) h hok)
 clear h hok
 go_enter Tryz.func14,Tryz.ntmps14
 go_wp2_with fail
 with_reducible refine H.out.mono ?_
 rintro en w1 ⟨n,rfl,hg,hn⟩
 have HG:=qQ (And.intro hg hn)
 clear hg hn H
 go_wp2_with fail
 go_ret
 exact⟨_,rfl,HG.out.1,λe=>HG.out.2 (by simpa using e)⟩
end
theorem wasn_any{w0 w:World}{o0 o:Cls}{c:Cfg}{W:Nat}{x:WM}{asn:Int}{r:WR}(h:WAt w0 o0 c W x asn w o r):Calls Tryz.prog 15 #[VP W] w (PV0 (.int .i64 asn) w):=by
 have c10:w.cell? ⟨W,10,none⟩=some (.int .i64 asn):=h.cell 10
 clear h
 unfold VP
 go_enter Tryz.func15,Tryz.ntmps15
 go_wp2_with fail
 go_ret
 exact⟨rfl,rfl⟩
end Go.Proofs.YtnpihllannobgaaGreatDoor
