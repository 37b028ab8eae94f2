/- Steps of the proof, part H45. No condition. -/
import Derived.Test.YtnpihllannobgaaGreatDoorH43
import Derived.Test.YtnpihllannobgaaGreatDoorH37
import Derived.Test.YtnpihllannobgaaGreatDoorH32
import Derived.Test.YtnpihllannobgaaGreatDoorH40
import Derived.Test.YtnpihllannobgaaGreatDoorH21
import Derived.Deep.RegionHeld3
namespace Go.Proofs.YtnpihllannobgaaGreatDoor
set_option linter.unusedVariables false
set_option linter.unusedSimpArgs false
set_option maxRecDepth 100000
set_option maxHeartbeats 32000000
def d5:Dr:=⟨[0,0,0,0,0,0,0,0,0,0,0,0,0,0,0,0],[],[],[]⟩
theorem c5_ok:CfgOk c5:=by
 refine⟨by decide,by decide,rfl,?_,⟨by decide,by decide,by decide,by decide⟩,by decide,by decide,by decide,by decide,by decide,by decide⟩
 intro i z hz
 have hz:([6,13,11,22,8]:List Int)[i]? =some z:=hz
 show 0≤z∧z<65536∧z<2^5∧z / 2^i % 2=0
 match i,hz with
 |0,hz=>cases hz;decide
 |1,hz=>cases hz;decide
 |2,hz=>cases hz;decide
 |3,hz=>cases hz;decide
 |4,hz=>cases hz;decide
 |(n+5),hz=>simp at hz
def z5(a m:Int):Bool:=decide (-m≤a)&&decide (a≤m)
def n5(i:Nat)(s:NSt):Bool:=
 (z5 s.base 1000&&(z5 s.sum 1000&&(decide (0≤s.slots)&&(decide (s.slots≤1000)&&(decide (0≤s.listened)&&(decide (s.listened≤1000)&&(decide (0≤s.seq)&&decide (s.seq≤255))))))))&&
  ((i==0|| !s.synced)&&(s.q.isEmpty&&(s.ev.isEmpty&&(!s.sopen&&s.p.isNone))))
theorem n5_of{i:Nat}{s:NSt}(h:n5 i s=true):((-1000≤s.base∧s.base≤1000)∧(-1000≤s.sum∧s.sum≤1000)∧(0≤s.slots∧s.slots≤1000)∧(0≤s.listened∧s.listened≤1000)∧(0≤s.seq∧s.seq≤255))∧
  (i=0∨s.synced=false)∧s.q=[]∧s.ev=[]∧s.sopen=false∧s.p=none:=by
 simp only[n5,z5,Bool.and_eq_true,Bool.or_eq_true,decide_eq_true_eq,List.isEmpty_iff,Bool.not_eq_true',beq_iff_eq,Option.isNone_iff_eq_none] at h
 obtain⟨⟨⟨a1,a2⟩,⟨a3,a4⟩,a5,a6,a7,a8,a9,b0⟩,b1,b2,b3,b4,b5⟩:=h
 exact⟨⟨⟨a1,a2⟩,⟨a3,a4⟩,⟨a5,a6⟩,⟨a7,a8⟩,a9,b0⟩,b1,b2,b3,b4,b5⟩
theorem n5_un{i:Nat}{s:NSt}{P:Prop}(h:i=0∨s.synced=false)(hy:s.synced=true)(h0:i≠0):P:=by
 rcases h with e|e
 ·exact absurd e h0
 ·rw[e] at hy;cases hy
theorem n5_plan{i:Nat}{s:NSt}(h:n5 i s=true):PlanOk i s:=by
 obtain⟨⟨a1,a2,a3,a4,a5⟩,b1,b2,b3,b4,b5⟩:=n5_of h
 exact⟨λhy h0=>n5_un b1 hy h0,λhf=>absurd (by unfold qR;rw[b5]) hf,by rw[b2];exact⟨by simp,λp hp=>by cases hp⟩,a5,by omega,by omega,by omega⟩
theorem n5_hear{i:Nat}{s:NSt}(h:n5 i s=true)(hp:∀n L,s.paths n=some L→L.length≤100000):s.ev=[]∧(-1000000000000000≤s.base∧s.base≤1000000000000000)∧(s.synced=true→i≠0→s.p≠none∧s.k≠none)∧(s.q.length≤900∧∀n L,s.paths n=some L→L.length≤100000):=by
 obtain⟨⟨a1,a2,a3,a4,a5⟩,b1,b2,b3,b4,b5⟩:=n5_of h
 exact⟨b3,by omega,λhy h0=>n5_un b1 hy h0,by rw[b2];simp,hp⟩
def b5(t:Int)(x:WM):Bool:=
 (x.bound.all (λz=>z5 z 1)&&((qf d5 5 x).bound.length==5&&((qf d5 5 x).bound.all (λz=>z5 z 1)&&(jN c5 d5 5 t x).air.all (λz=>z5 z.2.2 1000&&decide (z.2.1.length≤1000)))))&&
 ((List.range 5).all (λq=>n5 q (x.nd q)&&(n5 q ((iter (vH c5 t) q (slotA d5 c5 x)).nd q)&&(n5 q ((iter (qz c5 d5 (qf d5 5 x).bound t qh) q (jM c5 d5 t x)).nd q)&&
  (n5 q ((iter (ackV c5 d5 (qf d5 5 x).bound t) q (zN c5 d5 5 t qh x)).nd q)&&(n5 q ((iter (endV c5 (qf d5 5 x).bound t) q (slot4V c5 d5 5 t qh x)).nd q)&&
  decide (((jK c5 d5 (iter (ackV c5 d5 (qf d5 5 x).bound t) q (zN c5 d5 5 t qh x)) q).getD []).length≤1000))))))&&
 (List.range 6).all (λq=>(iter (qz c5 d5 (qf d5 5 x).bound t qh) q (jM c5 d5 t x)).ev.isEmpty&&((iter (ackV c5 d5 (qf d5 5 x).bound t) q (zN c5 d5 5 t qh x)).ev.isEmpty&&(iter (endV c5 (qf d5 5 x).bound t) q (slot4V c5 d5 5 t qh x)).ev.isEmpty)))
theorem all5{f:Nat→Bool}{n q:Nat}(h:(List.range n).all f=true)(hq:q<n):f q=true:=List.all_eq_true.1 h q (List.mem_range.2 hq)
theorem z5_of{a m:Int}(h:z5 a m=true): -m≤a∧a≤m:=by
 simp only[z5,Bool.and_eq_true,decide_eq_true_eq] at h
 exact h
theorem b5_ok{t:Int}{x:WM}(h:b5 t x=true)(hp:∀q,q<5→∀n L,((iter (qz c5 d5 (qf d5 5 x).bound t qh) q (jM c5 d5 t x)).nd q).paths n=some L→L.length≤100000):SlotOkV c5 d5 qh t x:=by
 simp only[b5,Bool.and_eq_true] at h
 obtain⟨⟨h1,h2,h3,h4⟩,h5,h6⟩:=h
 have k5:=λq (hq:q<5)=>by
  have:=all5 h5 hq
  simp only[Bool.and_eq_true] at this
  exact this
 have k6:=λq (hq:q<6)=>by
  have:=all5 h6 hq
  simp only[Bool.and_eq_true,List.isEmpty_iff] at this
  exact this
 have hair:∀j,OffOk ((jN c5 d5 5 t x).snd j).2.2∧((jN c5 d5 5 t x).snd j).2.1.length≤1000:=λj=>by
  unfold WM.snd
  by_cases hj:j<(jN c5 d5 5 t x).air.length
  ·rw[List.getD_eq_getElem?_getD,List.getElem?_eq_getElem hj,Option.getD_some]
   have:=List.all_eq_true.1 h4 _ (List.getElem_mem hj)
   simp only[Bool.and_eq_true,decide_eq_true_eq] at this
   have h9:=z5_of this.1
   exact⟨⟨by show-1000000000000000000≤_;omega,by show _≤(1000000000000000000:Int);omega⟩,this.2⟩
  ·rw[List.getD_eq_getElem?_getD,List.getElem?_eq_none (by omega)]
   exact⟨⟨by decide,by decide⟩,by decide⟩
 have ha:∀q,q≤5→(iter (qz c5 d5 (qf d5 5 x).bound t qh) q (jM c5 d5 t x)).air=(jN c5 d5 5 t x).air:=λq _=>(iterV_air c5 d5 _ t qh (jM c5 d5 t x) q).1
 have hs:∀q,q≤5→∀j,(iter (qz c5 d5 (qf d5 5 x).bound t qh) q (jM c5 d5 t x)).snd j=(jN c5 d5 5 t x).snd j:=λq hq j=>by unfold WM.snd;rw[ha q hq]
 refine⟨λi hi=>?_,λi=>?_,⟨beq_iff_eq.1 h2,λz hz=>?_⟩,λq hq=>?_,λj=>(hair j).1,λq hq=>?_,λq hq=>?_,λq hq _=>?_,λq hq=>?_,λq hq=>?_,λq hq=>?_⟩
 ·obtain⟨⟨a1,a2,a3,a4,a5⟩,_⟩:=n5_of (k5 i hi).1
  exact⟨by omega,by omega,by omega⟩
 ·unfold atL
  by_cases hj:i<x.bound.length
  ·rw[List.getD_eq_getElem?_getD,List.getElem?_eq_getElem hj,Option.getD_some]
   have h9:=z5_of (List.all_eq_true.1 h1 _ (List.getElem_mem hj))
   exact⟨h9.1,by show _≤(1000000000:Int);omega⟩
  ·rw[List.getD_eq_getElem?_getD,List.getElem?_eq_none (by omega)]
   exact⟨by decide,by decide⟩
 ·have h9:=z5_of (List.all_eq_true.1 h3 z hz)
  exact⟨h9.1,by omega⟩
 ·exact n5_plan (k5 q hq).2.1
 ·intro _
  refine⟨n5_hear (k5 q hq).2.2.1 (hp q hq),λj hj=>?_,λ_ b hb=>by cases hb⟩
  have:=(hair j).2
  have e:=hs q (Nat.le_of_lt hq) j
  show ((iter (qz c5 d5 (qf d5 5 x).bound t qh) q (jM c5 d5 t x)).snd j).2.1.length≤100000
  rw[e];omega
 ·show (iter (qz c5 d5 (qf d5 5 x).bound t qh) q (jM c5 d5 t x)).ev.length≤100000
  rw[(k6 q (Nat.lt_succ_of_le hq)).1];simp
 ·show ((zN c5 d5 5 t qh x).snd q).2.1.length≤100000∧AckOkV c5 q ((iter (ackV c5 d5 (qf d5 5 x).bound t) q (zN c5 d5 5 t qh x)).nd q) ((jK c5 d5 (iter (ackV c5 d5 (qf d5 5 x).bound t) q (zN c5 d5 5 t qh x)) q).getD []) t
  have k:=(k5 q hq).2.2.2
  have e:=hs 5 (Nat.le_refl _) q
  have e3:zN c5 d5 5 t qh x=iter (qz c5 d5 (qf d5 5 x).bound t qh) 5 (jM c5 d5 t x):=rfl
  rw[←e3] at e
  have kl:=of_decide_eq_true k.2.2
  have kn:=n5_of k.1
  have kh:=(hair q).2
  rw[e]
  generalize (jN c5 d5 5 t x).snd q=z at *
  generalize (jK c5 d5 (iter (ackV c5 d5 (qf d5 5 x).bound t) q (zN c5 d5 5 t qh x)) q).getD []=L at *
  generalize (iter (ackV c5 d5 (qf d5 5 x).bound t) q (zN c5 d5 5 t qh x)).nd q=s at *
  obtain⟨_,_,_,b3,b4,_⟩:=kn
  exact⟨by omega,b3,by omega,.inl (.inr (.inl b4))⟩
 ·show (iter (ackV c5 d5 (qf d5 5 x).bound t) q (zN c5 d5 5 t qh x)).ev.length≤100000
  rw[(k6 q (Nat.lt_succ_of_le hq)).2.1];simp
 ·obtain⟨_,b1,_,b3,_,_⟩:=n5_of (k5 q hq).2.2.2.2.1
  exact⟨b3,.inl b1⟩
 ·show (iter (endV c5 (qf d5 5 x).bound t) q (slot4V c5 d5 5 t qh x)).ev.length≤100000
  rw[(k6 q (Nat.lt_succ_of_le hq)).2.2];simp
def w5a:WM:=slot5V c5 d5 5 0 qh (newW c5)
def w5b:WM:=slot5V c5 d5 5 1 qh (zh w5a)
theorem w5_facts:w5a.ev.length=0∧w5b.ev.length=0∧atL w5b.bound 3= -1∧atL w5b.bound 0=0∧offN (w5b.nd 3)=0:=by decide+kernel
theorem w5_nb:(n5 3 ((zh w5b).nd 3)=true)∧(zh w5b).bound.length=5:=by decide+kernel
theorem w5_b0:b5 0 (newW c5)=true:=by decide+kernel
theorem w5_b1:b5 1 (zh w5a)=true:=by decide+kernel
theorem nop{f g:Int→Option (List Int)}(h:f=g)(hg:∀n,g n=none):∀n L,f n=some L→L.length≤100000:=λn L k=>by rw[h,hg] at k;cases k
def noP:Int→Option (List Int):=λ_=>none
theorem w5_p0:∀q,q<5→((iter (qz c5 d5 (qf d5 5 (newW c5)).bound 0 qh) q (jM c5 d5 0 (newW c5))).nd q).paths=noP
 |0,_=>by kernel_rfl
 |1,_=>by kernel_rfl
 |2,_=>by kernel_rfl
 |3,_=>by kernel_rfl
 |4,_=>by kernel_rfl
 |(n+5),h=>absurd h (by omega)
theorem w5_p1:∀q,q<5→((iter (qz c5 d5 (qf d5 5 (zh w5a)).bound 1 qh) q (jM c5 d5 1 (zh w5a))).nd q).paths=noP
 |0,_=>by kernel_rfl
 |1,_=>by kernel_rfl
 |2,_=>by kernel_rfl
 |3,_=>by kernel_rfl
 |4,_=>by kernel_rfl
 |(n+5),h=>absurd h (by omega)
theorem w5_slot0:SlotOkV c5 d5 qh 0 (newW c5):=b5_ok w5_b0 (λq hq=>nop (w5_p0 q hq) (λ_=>rfl))
theorem w5_slot1:SlotOkV c5 d5 qh 1 (zh w5a):=b5_ok w5_b1 (λq hq=>nop (w5_p1 q hq) (λ_=>rfl))
open Go.ChangeShapes Go.WideShapes Go.ChangeAt Go.RowKit
def CoB(w:World)(o:Cls)(cb W:Nat):Prop:=w.heap[cb]? =some (.cells #[VP W] 107 (0,0))∧o cb=0
def PConNew(w:World)(e:Ending)(w':World):Prop:=∃cb W o r,e= .returned (VP cb)∧r.ij=qh∧WAt w' o c5 W (newW c5) 0 w' o r∧CoB w' o cb W∧Chg (λ_=>False) w w'∧∀k,k<w.heap.size→o k=0
section
variable {w w' w0:World}{o o0:Cls}{cb W:Nat}{x:WM}{asn:Int}{r:WR}
theorem connew_any(w:World):Calls Tryz.prog 24 #[] w (PConNew w):=by
 have HF:=qQ (cfirst_any w)
 go_enter Tryz.func24,Tryz.ntmps24
 go_wp2_with fail
 with_reducible refine HF.out.mono ?_
 rintro en w1 ⟨nb,hb,rfl,h1,h2,_,_,hg⟩
 have HW:Hid (Calls Tryz.prog 17 #[cfgV c5 (.slice (some ⟨nb,0,none⟩) 5 5) (.slice (some ⟨hb,0,none⟩) 4 4)] w1 (PWNew w1 zc c5)):=
  qQ (wnew_any c5_ok (z_zc _) _ _ (RV.blk h1 rfl [6,13,11,22,8] rfl (by decide)) (RV.blk h2 rfl [11,15,20,25] rfl (by decide)))
 have HG:=qQ hg
 clear h1 h2 hg HF
 go_wp2_with fail
 with_reducible refine HW.out.mono ?_
 rintro en w2 ⟨W,o2,r2,rfl,hWd,hz,hext,hg,hij⟩
 have HIJ:=qQ hij
 have HX:=qQ (And.intro hWd (And.intro hz (HG.out.trans hg)))
 have HE:=qQ (show∀k,k<w.heap.size→o2 k=0 from λk hk=>hext k (Nat.lt_of_lt_of_le hk HG.out.size))
 clear hWd hz hg HW HG hext hij
 unfold VP
 go_wp2_with fail
 go_ret
 have ga:=Chg.alloc (λ_=>False) w2 (.cells #[VP W] 107)
 have hA:=(WAt.start HX.out.1 HX.out.2.1).kept (show 5≤16 by decide) ga
 exact⟨_,W,o2,r2,rfl,HIJ.out,WAt.start hA.wd hA.z,⟨qV w2 _,HX.out.2.1 _ (Nat.le_refl _)⟩,HX.out.2.2.trans ga,HE.out⟩
theorem eo_none{v:Value}(h:Eo w o (cl 16 4) v x.ev)(h0:x.ev.length=0):∃A c,v= .slice A 0 c:=by
 obtain⟨ps,p1,_,_,p4⟩:=h
 have hl:ps.length=0:=by rw[p4,List.length_map] at h0;exact h0
 rw[hl] at p1
 rcases qD p1 with ⟨e,_,_⟩|⟨g,cap,e,_⟩
 ·exact⟨none,0,e⟩
 ·exact⟨_,_,e⟩
def PConDo(w0:World)(o0:Cls)(W:Nat)(e:Ending)(w':World):Prop:=e= .returned (.string ⟨#[111,107]⟩)∧∃o r,WAt w0 o0 c5 W (zh w5b) 2 w' o r
theorem do_one{b:Nat}(h:WAt w0 o0 c5 W x asn w o r)(ha:0≤asn∧asn<100)(hb:w.heap[b]? =some (.cells zs16 3 (0,0))) (hb0:o b=0) (hij:r.ij=qh) (hok:SlotOkV c5 d5 qh asn x):
  Calls Tryz.prog 7 #[.pointer (some ⟨W,0,none⟩),.agg #[.int .i64 1,.int .i64 0,.int .i64 0,.slice (some ⟨b,0,none⟩) 16 16,.slice none 0 0,.slice none 0 0,.slice none 0 0,.slice none 0 0]] w (PDo w0 o0 c5 W (slot5V c5 d5 5 asn qh x) (asn+1) r qh):=
 hij▸wdo_slotV c5_ok h ⟨ha.1,by omega⟩ 0 0 ⟨RV.blk hb hb0 d5.drift rfl (by decide),RV.nil _ _ _,RV.nil _ _ _,RV.nil _ _ _,⟨_,_,_,rfl⟩,(λz hz=>by cases hz),(λz hz=>by cases hz)⟩ (hij.symm▸hok)
theorem condo_any{b:Nat}(hij:r.ij=qh)(h:WAt w0 o0 c5 W (newW c5) 0 w o r)(hcb:w.heap[cb]? =some (.cells #[VP W] 107 (0,0))) (hcb0:o cb=0) (hb:w.heap[b]? =some (.cells zs16 3 (0,0))) (hb0:o b=0):
  Calls Tryz.prog 130 #[.pointer (some ⟨cb,0,none⟩),.agg #[.int .i64 1,.int .i64 0,.int .i64 0,.slice (some ⟨b,0,none⟩) 16 16,.slice none 0 0,.slice none 0 0,.slice none 0 0,.slice none 0 0],.int .i64 2] w (PConDo w0 o0 W):=by
 have ga:=Chg.alloc (λ_=>False) w (.cells #[.int .i64 1,.int .i64 0,.int .i64 0,.slice (some ⟨b,0,none⟩) 16 16,.slice none 0 0,.slice none 0 0,.slice none 0 0,.slice none 0 0] 35)
 have hsb:=qV w (.cells #[.int .i64 1,.int .i64 0,.int .i64 0,.slice (some ⟨b,0,none⟩) 16 16,.slice none 0 0,.slice none 0 0,.slice none 0 0,.slice none 0 0] 35)
 have hsb0:=h.z w.heap.size (Nat.le_refl _)
 have hA:=h.kept (show 5≤16 by decide) ga
 have hcb1:=Chg.keep ga hcb (λe=>e)
 have hb1:=Chg.keep ga hb (λe=>e)
 obtain⟨w1,hw1⟩:=qZ (w.alloc (.cells #[.int .i64 1,.int .i64 0,.int .i64 0,.slice (some ⟨b,0,none⟩) 16 16,.slice none 0 0,.slice none 0 0,.slice none 0 0,.slice none 0 0] 35))
 rw[←hw1] at hsb hA hcb1 hb1
 obtain⟨sb,hsbe⟩:=qZ w.heap.size
 rw[←hsbe] at hsb hsb0
 have hS:∀w',Chg (WdS o) w1 w'→w'.cell? ⟨cb,0,none⟩=some (.pointer (some ⟨W,0,none⟩))∧w'.cell? ⟨sb,0,none⟩=some (.int .i64 1)∧w'.cell? ⟨sb,1,none⟩=some (.int .i64 0)∧w'.cell? ⟨sb,2,none⟩=some (.int .i64 0)∧w'.cell? ⟨sb,3,none⟩=some (.slice (some ⟨b,0,none⟩) 16 16)∧
   w'.cell? ⟨sb,4,none⟩=some (.slice none 0 0)∧w'.cell? ⟨sb,5,none⟩=some (.slice none 0 0)∧w'.cell? ⟨sb,6,none⟩=some (.slice none 0 0)∧w'.cell? ⟨sb,7,none⟩=some (.slice none 0 0):=λw' g=>by
  refine⟨by rw[qJ (Chg.keep g hcb1 (λe=>e.1 hcb0))];rfl,?_⟩
  exact vj (Chg.keep g hsb (λe=>e.1 hsb0))
 have HS0:=qQ hS
 have HA:=qQ hA
 have HB:=qQ (And.intro hb1 hb0)
 have H1:=qQ (WAt.start hA.wd hA.z)
 have HD1:=qQ (do_one (H1.out.kept (show 5≤16 by decide) (Chg.drew _ w1)) (by decide) hb1 hb0 hij w5_slot0)
 clear ga hsb hsb0 hA hcb1 hb1 hS h hcb hb hb0 hcb0 hij
 go_enter Tryz.func130,Tryz.ntmps130
 go_wp2_with fail
 rw[←hsbe,←hw1]
 clear hsbe hw1
 with_reducible refine wp_loop_rounds 3 ?_
 rw[rounds_succ]
 go_wp2_with fail
 go_region_held3 (λw'=>w'.cell? ⟨cb,0,none⟩=some (.pointer (some ⟨W,0,none⟩))∧w'.cell? ⟨sb,0,none⟩=some (.int .i64 1)∧w'.cell? ⟨sb,1,none⟩=some (.int .i64 0)∧w'.cell? ⟨sb,2,none⟩=some (.int .i64 0)∧w'.cell? ⟨sb,3,none⟩=some (.slice (some ⟨b,0,none⟩) 16 16)∧
   w'.cell? ⟨sb,4,none⟩=some (.slice none 0 0)∧w'.cell? ⟨sb,5,none⟩=some (.slice none 0 0)∧w'.cell? ⟨sb,6,none⟩=some (.slice none 0 0)∧w'.cell? ⟨sb,7,none⟩=some (.slice none 0 0))
  (first|exact HS0.out _ (Chg.drew _ w1)|exact HS0.out _ hA2.chg)
  ((go_at_call 7;refine HD1.out.mono ?_;rintro en w2 ⟨v2,o2,r2,rfl,hA2,hE2,_,_,hij2⟩))
 all_goals
  obtain⟨A2,c2,rfl⟩:=eo_none hE2 w5_facts.1
  have H2:=qQ (show WAt w1 o c5 W (zh w5a) 1 w2 o2 r2 from hA2)
  have HIJ2:=qQ hij2
  clear hA2 hE2 HD1 hij2
  go_wp2_with fail
  with_reducible refine wp_loop_rounds 1 ?_
  rw[rounds_succ]
  go_wp2_with fail
  rw[rounds_succ]
  have HD2:=qQ (do_one (H2.out.kept (show 5≤16 by decide) (Chg.drew _ w2)) (by decide) (Chg.keep (H2.out.kept (show 5≤16 by decide) (Chg.drew _ w2)).chg HB.out.1 (λe=>e.1 HB.out.2)) ((H2.out.ext b (qX HB.out.1)).trans HB.out.2) HIJ2.out w5_slot1)
  go_wp2_with fail
  go_region_held3 (λw'=>w'.cell? ⟨cb,0,none⟩=some (.pointer (some ⟨W,0,none⟩))∧w'.cell? ⟨sb,0,none⟩=some (.int .i64 1)∧w'.cell? ⟨sb,1,none⟩=some (.int .i64 0)∧w'.cell? ⟨sb,2,none⟩=some (.int .i64 0)∧w'.cell? ⟨sb,3,none⟩=some (.slice (some ⟨b,0,none⟩) 16 16)∧
   w'.cell? ⟨sb,4,none⟩=some (.slice none 0 0)∧w'.cell? ⟨sb,5,none⟩=some (.slice none 0 0)∧w'.cell? ⟨sb,6,none⟩=some (.slice none 0 0)∧w'.cell? ⟨sb,7,none⟩=some (.slice none 0 0))
   (first|exact HS0.out _ (H2.out.kept (show 5≤16 by decide) (Chg.drew _ w2)).chg|exact HS0.out _ hA3.chg)
   ((go_at_call 7;refine HD2.out.mono ?_;rintro en w3 ⟨v3,o3,r3,rfl,hA3,hE3,_⟩))
  all_goals
   obtain⟨A3,c3,rfl⟩:=eo_none hE3 w5_facts.2.1
   have H3:=qQ (show WAt w1 o c5 W (zh w5b) 2 w3 o3 r3 from hA3)
   clear hA3 hE3 HD2
   go_wp2_with fail
   with_reducible refine wp_loop_rounds 1 ?_
   rw[rounds_succ]
   go_wp2_with fail
   rw[rounds_succ]
   go_wp2_with fail
   go_ret
   exact⟨rfl,o3,r3,⟨H3.out.wd,H3.out.z,HA.out.ext.trans H3.out.ext HA.out.chg.size,HA.out.chg.extW HA.out.ext H3.out.chg⟩⟩
end
def PTl(out:ByteArray)(P:World→Prop)(e:Ending)(w':World):Prop:=e= .returned (.tuple #[.string out,.bool true])∧P w'
theorem chg_new{w1 w w':World}{wb:Nat}(hg:Chg (λ_=>False) w1 w)(hb:w1.heap.size≤wb)(g:Chg (λq=>q=wb) w w'):Chg (λ_=>False) w1 w':=
 ((hg.none (S:=λq=>w1.heap.size≤q)).trans (g.mono (λq _ e=>by omega))).fresh
structure CoAt(w0:World)(o0:Cls)(cb W:Nat)(x:WM)(asn:Int)(w:World)(o:Cls)(r:WR):Prop where
 at':WAt w0 o0 c5 W x asn w o r
 co:CoB w o cb W
section
variable {w w1 w' w0:World}{o o0:Cls}{cb W wb g:Nat}{x:WM}{asn:Int}{r:WR}{d:ByteArray}{k:Int}
theorem CoAt.kept(h:CoAt w0 o0 cb W x asn w o r)(g:Chg (λ_=>False) w w'):CoAt w0 o0 cb W x asn w' o r:=
 ⟨h.at'.kept (show 5≤16 by decide) g,Chg.keep g h.co.1 (λe=>e),h.co.2⟩
theorem CoAt.cell(h:CoAt w0 o0 cb W x asn w o r):w.cell? ⟨cb,0,none⟩=some (.pointer (some ⟨W,0,none⟩)):=by rw[qJ h.co.1];rfl
theorem conslots_any(hij:r.ij=qh)(h:CoAt w0 o0 cb W (newW c5) 0 w1 o r)(hg:Chg (λ_=>False) w1 w)(hb:w1.heap.size≤wb)(hw:Wo1 w wb g ⟨#[50]⟩):
  Calls Tryz.prog 85 #[.pointer (some ⟨cb,0,none⟩),.pointer (some ⟨wb,0,none⟩)] w (PTl ⟨#[111,107]⟩ (λw'=>∃o r,WAt w0 o0 c5 W (zh w5b) 2 w' o r)):=by
 have HF:=qQ (wfrom_any hw (.inr (.inl ⟨rfl,rfl⟩)) 0 500 (by decide) (by decide))
 have H:=qQ (And.intro h (And.intro hg hb))
 clear h hg hb hw
 go_enter Tryz.func85,Tryz.ntmps85
 go_wp2_with fail
 with_reducible refine HF.out.mono ?_
 rintro en w2 ⟨rfl,h0,G⟩
 have HD:=qQ (wdone_any h0)
 obtain⟨A,c,hb0⟩:=h0
 obtain⟨c0,c1⟩:=cell2 hb0
 have HG2:=qQ (chg_new H.out.2.1 H.out.2.2 G)
 clear hb0 G HF
 go_wp2_with fail
 with_reducible refine HD.out.mono ?_
 rintro en w3 ⟨rfl,rfl⟩
 clear HD
 have HR:=qQ (row_any w3)
 go_wp2_with fail
 with_reducible refine HR.out.mono ?_
 rintro en w4 ⟨b,rfl,hb4,hbl,G4⟩
 have HC:=H.out.1.kept (HG2.out.trans G4)
 have HDO:=qQ (condo_any hij HC.at' HC.co.1 HC.co.2 hb4 (H.out.1.at'.z b (Nat.le_trans HG2.out.size hbl)))
 clear hb4 hbl G4 HC HR c0 c1
 go_wp2_with fail
 with_reducible refine HDO.out.mono ?_
 rintro en w5 ⟨rfl,hP⟩
 have HP:=qQ hP
 clear hP HDO
 go_wp2_with fail
 go_ret2
 exact⟨rfl,HP.out⟩
theorem wbound_any(h:WAt w0 o0 c5 W x asn w o r)(i:Nat)(hi:i<5)(b:Int)(hx:x.bound.length=5)(hb:atL x.bound i=b):
  Calls Tryz.prog 137 #[.pointer (some ⟨W,0,none⟩),.int .i64 i] w (PQ (.tuple #[.int .i64 (if b<0 then 0 else b),.bool (!decide (b<0))]) w):=by
 have HH:=qQ (jj h (show 0<5 by decide) i)
 rw[zT (show 0≤(i:Int) by omega) (show (i:Int)≤(c5.nodes:Int)-1 by show (i:Int)≤5-1;omega)] at HH
 have c11:w.cell? ⟨W,11,none⟩=some r.bv:=h.cell 11
 have hrow:=h.wd.bnd
 obtain⟨gb,cap,cur,e,_⟩:=vL hrow (show 0<c5.nodes by decide)
 rw[e] at c11 hrow
 have hz:x.bound[i]? =some b:=by
  rw[List.getElem?_eq_getElem (by omega)]
  rw[←hb];unfold atL
  rw[List.getD_eq_getElem?_getD,List.getElem?_eq_getElem (by omega)];rfl
 have hcell:=qp hrow i (VI b) (by rw[List.getElem?_map,hz];rfl)
 unfold VI at hcell
 have e5:c5.nodes=5:=rfl
 rw[e5] at c11
 have i1:(i:Int)<5:=by omega
 clear h hrow e hz hb
 unfold VP at HH
 by_cases h0:b<0
 ·rw[if_pos h0]
  have b1:decide (b<0)=true:=by simpa using h0
  rw[b1]
  clear h0
  go_enter Tryz.func137,Tryz.ntmps137
  go_wp2_with fail
  with_reducible refine HH.out.mono ?_
  rintro en w1 ⟨rfl,rfl⟩
  go_wp2_with fail
  go_ret2
  exact⟨rfl,Chg.refl _ _⟩
 ·rw[if_neg h0]
  have b1:decide (b<0)=false:=by simpa using h0
  rw[b1]
  clear h0
  go_enter Tryz.func137,Tryz.ntmps137
  go_wp2_with fail
  with_reducible refine HH.out.mono ?_
  rintro en w1 ⟨rfl,rfl⟩
  go_wp2_with fail
  go_ret2
  exact⟨rfl,Chg.refl _ _⟩
end
section
variable {w w1 w' w0:World}{o o0:Cls}{cb W wb g:Nat}{x:WM}{asn:Int}{r:WR}{d:ByteArray}{k:Int}
theorem conoff_any(h:CoAt w0 o0 cb W (zh w5b) 2 w1 o r)(hg:Chg (λ_=>False) w1 w)(hb:w1.heap.size≤wb)(hw:Wo1 w wb g ⟨#[51]⟩):
  Calls Tryz.prog 88 #[.pointer (some ⟨cb,0,none⟩),.string ⟨#[111,102,102]⟩,.pointer (some ⟨wb,0,none⟩)] w (PTl ⟨#[48]⟩ (λw'=>Chg (λ_=>False) w1 w')):=by
 have HF:=qQ (vB hw (.inr (.inr ⟨rfl,rfl⟩)))
 have H:=qQ (And.intro h (And.intro hg hb))
 clear h hg hb hw
 go_enter Tryz.func88,Tryz.ntmps88
 go_wp2_with fail
 with_reducible refine HF.out.mono ?_
 rintro en w2 ⟨rfl,h0,G⟩
 have HD:=qQ (wdone_any h0)
 have hg2:=chg_new H.out.2.1 H.out.2.2 G
 have hC:=H.out.1.kept hg2
 have c0:=hC.cell
 obtain⟨b,q,hbs,hN⟩:=hC.at'.get 3 (show 3<5 by decide)
 have HN8:Hid (Calls Tryz.prog 8 #[.pointer (some ⟨W,0,none⟩),.int .i64 3] w2 (PV0 (VP b) w2)):=qQ (wnode_any hC.at' 3 b (show 3<5 by decide) hbs)
 have HO:=qQ (noff_any hN (by have:=(n5_of w5_nb.1).1.1;omega) (by have:=(n5_of w5_nb.1).1.2.1;omega))
 rw[show offN ((zh w5b).nd 3)=0 from w5_facts.2.2.2.2] at HO
 have HFM:=qQ (λw=>format_any (.inl ⟨rfl,rfl⟩:Dg 0 ⟨#[48]⟩) w)
 have HG2:=qQ hg2
 unfold VP at HN8
 clear HF G h0 hC hN hbs hg2
 go_wp2_with fail
 with_reducible refine HN8.out.mono ?_
 rintro en w3 ⟨rfl,rfl⟩
 go_wp2_with fail
 with_reducible refine HD.out.mono ?_
 rintro en w4 ⟨rfl,rfl⟩
 go_wp2_with fail
 with_reducible refine HO.out.mono ?_
 rintro en w5 ⟨rfl,G5⟩
 go_wp2_with fail
 (with_reducible refine (HFM.out _).mono ?_)
 rintro en w6 ⟨rfl,rfl⟩
 go_wp2_with fail
 go_ret2
 exact⟨rfl,HG2.out.trans G5⟩
theorem conbound3_any(h:CoAt w0 o0 cb W (zh w5b) 2 w1 o r)(hg:Chg (λ_=>False) w1 w)(hb:w1.heap.size≤wb)(hw:Wo1 w wb g ⟨#[51]⟩):
  Calls Tryz.prog 88 #[.pointer (some ⟨cb,0,none⟩),.string ⟨#[98,111,117,110,100]⟩,.pointer (some ⟨wb,0,none⟩)] w (PTl ⟨#[45]⟩ (λw'=>Chg (λ_=>False) w1 w')):=by
 have HF:=qQ (vB hw (.inr (.inr ⟨rfl,rfl⟩)))
 have H:=qQ (And.intro h (And.intro hg hb))
 clear h hg hb hw
 go_enter Tryz.func88,Tryz.ntmps88
 go_wp2_with fail
 with_reducible refine HF.out.mono ?_
 rintro en w2 ⟨rfl,h0,G⟩
 have HD:=qQ (wdone_any h0)
 have hg2:=chg_new H.out.2.1 H.out.2.2 G
 have hC:=H.out.1.kept hg2
 have c0:=hC.cell
 obtain⟨b,q,hbs,hN⟩:=hC.at'.get 3 (show 3<5 by decide)
 have HN8:Hid (Calls Tryz.prog 8 #[.pointer (some ⟨W,0,none⟩),.int .i64 3] w2 (PV0 (VP b) w2)):=qQ (wnode_any hC.at' 3 b (show 3<5 by decide) hbs)
 have HB:Hid (Calls Tryz.prog 137 #[.pointer (some ⟨W,0,none⟩),.int .i64 3] w2 (PQ (.tuple #[.int .i64 0,.bool false]) w2)):=qQ (wbound_any hC.at' 3 (by decide) (-1) w5_nb.2 w5_facts.2.2.1)
 have HG2:=qQ hg2
 unfold VP at HN8
 clear HF G h0 hC hN hbs hg2
 go_wp2_with fail
 with_reducible refine HN8.out.mono ?_
 rintro en w3 ⟨rfl,rfl⟩
 go_wp2_with fail
 with_reducible refine HD.out.mono ?_
 rintro en w4 ⟨rfl,rfl⟩
 go_wp2_with fail
 with_reducible refine HB.out.mono ?_
 rintro en w5 ⟨rfl,G5⟩
 go_wp2_with fail
 go_ret2
 exact⟨rfl,HG2.out.trans G5⟩
theorem conbound0_any(h:CoAt w0 o0 cb W (zh w5b) 2 w1 o r)(hg:Chg (λ_=>False) w1 w)(hb:w1.heap.size≤wb)(hw:Wo1 w wb g ⟨#[48]⟩):
  Calls Tryz.prog 88 #[.pointer (some ⟨cb,0,none⟩),.string ⟨#[98,111,117,110,100]⟩,.pointer (some ⟨wb,0,none⟩)] w (PTl ⟨#[48]⟩ (λw'=>Chg (λ_=>False) w1 w')):=by
 have HF:=qQ (vB hw (.inl ⟨rfl,rfl⟩))
 have H:=qQ (And.intro h (And.intro hg hb))
 clear h hg hb hw
 go_enter Tryz.func88,Tryz.ntmps88
 go_wp2_with fail
 with_reducible refine HF.out.mono ?_
 rintro en w2 ⟨rfl,h0,G⟩
 have HD:=qQ (wdone_any h0)
 have hg2:=chg_new H.out.2.1 H.out.2.2 G
 have hC:=H.out.1.kept hg2
 have c0:=hC.cell
 obtain⟨b,q,hbs,hN⟩:=hC.at'.get 0 (show 0<5 by decide)
 have HN8:Hid (Calls Tryz.prog 8 #[.pointer (some ⟨W,0,none⟩),.int .i64 0] w2 (PV0 (VP b) w2)):=qQ (wnode_any hC.at' 0 b (show 0<5 by decide) hbs)
 have HB:Hid (Calls Tryz.prog 137 #[.pointer (some ⟨W,0,none⟩),.int .i64 0] w2 (PQ (.tuple #[.int .i64 0,.bool true]) w2)):=qQ (wbound_any hC.at' 0 (by decide) 0 w5_nb.2 w5_facts.2.2.2.1)
 have HFM:=qQ (λw=>format_any (.inl ⟨rfl,rfl⟩:Dg 0 ⟨#[48]⟩) w)
 have HG2:=qQ hg2
 unfold VP at HN8
 clear HF G h0 hC hN hbs hg2
 go_wp2_with fail
 with_reducible refine HN8.out.mono ?_
 rintro en w3 ⟨rfl,rfl⟩
 go_wp2_with fail
 with_reducible refine HD.out.mono ?_
 rintro en w4 ⟨rfl,rfl⟩
 go_wp2_with fail
 with_reducible refine HB.out.mono ?_
 rintro en w5 ⟨rfl,G5⟩
 go_wp2_with fail
 (with_reducible refine (HFM.out _).mono ?_)
 rintro en w6 ⟨rfl,rfl⟩
 go_wp2_with fail
 go_ret2
 exact⟨rfl,HG2.out.trans G5⟩
end
end Go.Proofs.YtnpihllannobgaaGreatDoor
