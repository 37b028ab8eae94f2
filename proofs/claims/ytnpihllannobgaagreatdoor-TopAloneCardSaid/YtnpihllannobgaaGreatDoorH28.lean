/- Steps of the proof, part H28. No condition. -/
import Derived.Test.YtnpihllannobgaaGreatDoorH23
import Derived.Deep.RegionHeld3
namespace Go.Proofs.YtnpihllannobgaaGreatDoor
set_option linter.unusedVariables false
set_option linter.unusedSimpArgs false
set_option maxRecDepth 100000
set_option maxHeartbeats 32000000
open Go.ChangeShapes Go.WideShapes Go.ChangeAt Go.RowKit
theorem ownN_nd{o:Cls}{i b ck q u1 m1 u2 m2 u3 m3 pm k:Nat}(h0:o k=0)(h:ownN o i b ck q u1 m1 u2 m2 u3 m3 pm k≠0):NdS (ownN o i b ck q u1 m1 u2 m2 u3 m3 pm) i k:=by
 have h2:ownN o i b ck q u1 m1 u2 m2 u3 m3 pm k=cl i 0∨ownN o i b ck q u1 m1 u2 m2 u3 m3 pm k=cl i 1∨ownN o i b ck q u1 m1 u2 m2 u3 m3 pm k=cl i 2∨ownN o i b ck q u1 m1 u2 m2 u3 m3 pm k=cl i 3∨ownN o i b ck q u1 m1 u2 m2 u3 m3 pm k=cl i 4∨ownN o i b ck q u1 m1 u2 m2 u3 m3 pm k=cl i 5∨ownN o i b ck q u1 m1 u2 m2 u3 m3 pm k=cl i 8∨ownN o i b ck q u1 m1 u2 m2 u3 m3 pm k=0:=by
  unfold ownN
  repeat' split
  all_goals simp[h0]
 rcases h2 with e|e|e|e|e|e|e|e
 ·exact⟨0,by omega,e⟩
 ·exact⟨1,by omega,e⟩
 ·exact⟨2,by omega,e⟩
 ·exact⟨3,by omega,e⟩
 ·exact⟨4,by omega,e⟩
 ·exact⟨5,by omega,e⟩
 ·exact⟨8,by omega,e⟩
 ·exact absurd e h
section
variable {w0 w w':World}{o0 o o':Cls}{c:Cfg}
def NBox(w w2:World)(o:Cls)(c:Cfg)(cb:Nat)(wx:World):Prop:=
 ∃nv hv,wx.heap[cb]? =some (.cells #[.int .i64 c.nodes,nv,hv,.int .i64 c.guard,.int .i64 c.err,.int .i64 c.keep,.int .i64 c.loss,.int .i64 c.queue,.int .i64 c.life] 26 (0,0))∧
  RV VU wx o nv c.near∧RV VI wx o hv c.hops∧Chg (λ_=>False) w wx
theorem NBox.mk'{w1 wp wq:World}{cb n1 c1 n2 c2:Nat}{A1 A2:Option Addr}{u1 u2:Value}(hz:Z w o)(hG2:Chg (λ_=>False) w w1)(hb2:w1.heap[cb]? =some (.cells #[.int .i64 c.nodes,u1,u2,.int .i64 c.guard,.int .i64 c.err,.int .i64 c.keep,.int .i64 c.loss,.int .i64 c.queue,.int .i64 c.life] 26 (0,0)))
  (hG3:Chg (λ_=>False) w1 wp) (g2:Chg (λ_=>False) wp wq) (O1:wp.ownsRow w1.heap.size 23 1 (.slice A1 n1 c1) c.near.length (c.near.map VU)) (O2:wq.ownsRow wp.heap.size 3 1 (.slice A2 n2 c2) c.hops.length (c.hops.map VI))
  (hbq:wq.heap[cb]? =some (.cells #[.int .i64 c.nodes,u1,u2,.int .i64 c.guard,.int .i64 c.err,.int .i64 c.keep,.int .i64 c.loss,.int .i64 c.queue,.int .i64 c.life] 26 (0,0))) (hcb:w.heap.size≤cb):
  NBox w w1 o c cb ((wq.setCell ⟨cb,1,none⟩ (.slice A1 n1 c1)).setCell ⟨cb,2,none⟩ (.slice A2 n2 c2)):=by
 have G:Chg (λk=>k=cb) wq ((wq.setCell ⟨cb,1,none⟩ (.slice A1 n1 c1)).setCell ⟨cb,2,none⟩ (.slice A2 n2 c2)):=(chg1 _ _ _ _).trans (chg1 _ _ _ _)
 have hl:=qX hb2
 have s1:=hG2.size
 have s2:=hG3.size
 have hO1:=qY (qY O1 g2 (λ_ _ e=>e)) G (λk hk e=>by have:=(qS O1 hk).1;omega)
 have hO2:=qY O2 G (λk hk e=>by have:=(qS O2 hk).1;omega)
 refine⟨_,_,qB (qB hbq 1 _) 2 _,RV.of_own hO1 (λk hk=>hz k (by omega)),RV.of_own hO2 (λk hk=>hz k (by omega)),?_⟩
 exact (((hG2.trans hG3).trans g2).none.trans (G.mono (λk _ e=>(by omega:w.heap.size≤k)))).fresh
theorem PNode.mk{W3 WF:World}{i b ck q u1 m1 u2 m2 u3 m3 pm:Nat}{nv hv:Value}(hz:Z w o)(hG3:Chg (λ_=>False) w W3)(hn:RV VU W3 o nv c.near)(hh:RV VI W3 o hv c.hops)(hG:Chg (λ_=>False) W3 WF)
  (hB:NodeB W3 WF b ck q u1 m1 u2 m2 u3 m3 pm) (h1:Ck WF ck 0 0 0) (h2:Qb WF q c.queue (.slice none 0 0) 0 []) (h3:Wk WF u1 m1 (λ_=>none)) (h4:Wk WF u2 m2 (λ_=>none)) (h5:Wk WF u3 m3 (λ_=>none)) (h6:Mp WF pm (λ_=>none))
  (hb:WF.heap[b]? =some (.cells (zr c i (newR nv hv ck q u1 u2 u3 pm) (newN i)) 75 (0,0))):PNode w o c i (.returned (.pointer (some ⟨b,0,none⟩))) WF:=by
 have hz3:Z W3 o:=hz.more hG3.size
 obtain⟨k1,k2,k3⟩:=Nd.made hz3 hG hB hn hh h1 h2 h3 h4 h5 h6 hb
 have s1:=hG3.size
 have s2:=(hB.lo b (by simp)).1
 exact⟨b,_,_,rfl,by omega,λk hk=>k1 k (by omega),k2,k3,hG3.trans hG,λk hk h0=>ownN_nd (hz k hk) h0⟩
theorem PNode.mk2{W3 WF:World}{i b ck q u1 m1 u2 m2 u3 m3:Nat}{nv hv:Value}(hz:Z w o)(hG3:Chg (λ_=>False) w W3)(hn:RV VU W3 o nv c.near)(hh:RV VI W3 o hv c.hops)(hG:Chg (λ_=>False) W3 WF)
  (h1:Ck WF ck 0 0 0) (h2:Qb WF q c.queue (.slice none 0 0) 0 []) (h3:Wk WF u1 m1 (λ_=>none)) (h4:Wk WF u2 m2 (λ_=>none)) (h5:Wk WF u3 m3 (λ_=>none))
  (h6:∃pm,Mp WF pm (λ_=>none)∧NodeB W3 WF b ck q u1 m1 u2 m2 u3 m3 pm∧WF.heap[b]? =some (.cells (zr c i (newR nv hv ck q u1 u2 u3 pm) (newN i)) 75 (0,0))):PNode w o c i (.returned (.pointer (some ⟨b,0,none⟩))) WF:=by
 obtain⟨pm,h6,hB,hb⟩:=h6
 exact PNode.mk hz hG3 hn hh hG hB h1 h2 h3 h4 h5 h6 hb
theorem nnew_any(hc:CfgOk c)(i:Nat)(hi:i<c.nodes)(hz:Z w o)(nv hv:Value)(hn:RV VU w o nv c.near)(hh:RV VI w o hv c.hops):Calls Tryz.prog 30 #[cfgV c nv hv,.int .i64 i] w (PNode w o c i):=by
 have ga:=Chg.alloc (λ_=>False) w (cfgB c nv hv)
 have hb:=qV w (cfgB c nv hv)
 unfold cfgB at hb ga
 have HM:=qQ (nmay_any hc nv hv (hn.keep ga (λ_ _ e=>e)) (hh.keep ga (λ_ _ e=>e)))
 have HI:=qQ (λW=>vr i 0 ((c.nodes:Int)-1) (by omega) (by omega) W)
 obtain⟨d0,d1,d2,d3,d4,d5,d6,d7,d8⟩:=vd hb
 have HW:=qQ (show∀W,Chg (λ_=>False) w W→RV VU W o nv c.near∧RV VI W o hv c.hops from λW g=>⟨hn.keep g (λ_ _ e=>e),hh.keep g (λ_ _ e=>e)⟩)
 have HB:=qQ (And.intro hb ga)
 have HZ:=qQ hz
 have HC:=qQ hc
 have hn1:=hc.n1
 have hn0:=hc.n0
 have e1:IntKind.i64.wrap ((c.nodes:Int)-1)=(c.nodes:Int)-1:=IntWalk.i64_in _ (by omega)
 obtain⟨nA,ncap,hnv,_⟩:=hn
 obtain⟨hA,hcap,hhv,_⟩:=hh
 obtain⟨nl,hnl⟩:∃n,n=c.near.length:=⟨_,rfl⟩
 obtain⟨hl,hhl⟩:∃n,n=c.hops.length:=⟨_,rfl⟩
 rw[←hnl] at hnv
 rw[←hhl] at hhv
 subst hnv hhv
 clear hnl hhl
 unfold cfgV at HM ⊢
 clear hb ga hz hc
 go_enter Tryz.func30,Tryz.ntmps30
 go_wp2_with fail
 with_reducible refine HM.out.mono ?_
 rintro en w2 ⟨rfl,hG⟩
 have hb2:=Chg.keep hG HB.out.1 (λe=>e)
 have HG2:=qQ (HB.out.2.trans hG)
 obtain⟨cb,hcb⟩:∃x,x=w.heap.size:=⟨_,rfl⟩
 rw[←hcb] at hb2 ⊢
 have HCB:=qQ hcb
 clear d0 d1 d2 d3 d4 d5 d6 d7 d8 hG HB HM hcb
 obtain⟨d0,d1,d2,d3,d4,d5,d6,d7,d8⟩:=vd hb2
 have HB2:=qQ hb2
 clear hb2
 go_wp2_with fail
 (with_reducible refine (HI.out _).mono ?_)
 rintro en w1 ⟨rfl,rfl⟩
 go_wp2_with fail
 have HF1:=qQ (show∀W,Chg (λ_=>False) w1 W→W.heap[cb]? =some (.cells #[.int .i64 c.nodes,.slice nA nl ncap,.slice hA hl hcap,.int .i64 c.guard,.int .i64 c.err,.int .i64 c.keep,.int .i64 c.loss,.int .i64 c.queue,.int .i64 c.life] 26 (0,0)) from λW g=>Chg.keep (S:=λ_=>False) g HB2.out (λe=>e))
 have HCU:=qQ (show∀W,Chg (λ_=>False) w1 W→Calls Tryz.prog 28 #[.slice nA nl ncap] W (PNew VU 23 W c.near) from λW g=>by
  obtain⟨A,cc,e,h1,h2,_⟩:=(HW.out W (HG2.out.trans g)).1
  cases e
  exact cloneU_any W nA c.near.length ncap c.near h1.rs h2 (by rw[HC.out.near];omega))
 have HCI:=qQ (show∀W,Chg (λ_=>False) w1 W→Calls Tryz.prog 29 #[.slice hA hl hcap] W (PNew VI 3 W c.hops) from λW g=>by
  obtain⟨A,cc,e,h1,h2,_⟩:=(HW.out W (HG2.out.trans g)).2
  cases e
  exact jF W hA c.hops.length hcap c.hops h1.rs h2 (by have:=HC.out.hops.2.2.2;omega))
 go_cut [] (λwx=>NBox w w1 o c cb wx)
 case first=>
  go_region_with (first
   |(go_at_call 28;refine (HCU.out _ (Chg.drew _ w1)).mono ?_;rintro en wp ⟨v1,rfl,O1,g1⟩
     obtain⟨A1,n1,c1,rfl⟩:∃A n c,v1= .slice A n c:=by rcases qD O1 with ⟨e,_⟩|⟨g,cap,e,_⟩ <;> exact⟨_,_,_,e⟩
     have O1:=qQ O1
     have HG3:=qQ ((Chg.drew (λ_=>False) w1).trans g1)
     have hbp:=HF1.out _ HG3.out
     obtain⟨d0,d1,d2,d3,d4,d5,d6,d7,d8⟩:=vd hbp
     have fp1:=qK hbp 1
     have fp2:=qK hbp 2)
   |(go_at_call 29;refine (HCI.out _ HG3.out).mono ?_;rintro en wq ⟨v2,rfl,O2,g2⟩
     obtain⟨A2,n2,c2,rfl⟩:∃A n c,v2= .slice A n c:=by rcases qD O2 with ⟨e,_⟩|⟨g,cap,e,_⟩ <;> exact⟨_,_,_,e⟩
     have O2:=qQ O2
     have HG4:=qQ (HG3.out.trans g2)
     have hbq:=HF1.out _ HG4.out
     obtain⟨d0,d1,d2,d3,d4,d5,d6,d7,d8⟩:=vd hbq
     have fq1:=qK hbq 1
     have fq2:=qK hbq 2))
  all_goals
   go_wp2_with fail
   go_meet
   exact NBox.mk' HZ.out HG2.out HB2.out HG3.out g2 O1.out O2.out hbq (by rw[HCB.out];exact Nat.le_refl _)
 case rest=>
  obtain⟨v1,v2,hb3,hn3,hh3,hG3⟩:=hcut
  have HW3:=qQ (And.intro hn3 (And.intro hh3 hG3))
  obtain⟨⟨A1,c1,hv1,_⟩,⟨A2,c2,hv2,_⟩⟩:=And.intro hn3 hh3
  obtain⟨n1,hn1'⟩:∃n,n=c.near.length:=⟨_,rfl⟩
  obtain⟨n2,hn2'⟩:∃n,n=c.hops.length:=⟨_,rfl⟩
  rw[←hn1'] at hv1
  rw[←hn2'] at hv2
  subst hv1 hv2
  obtain⟨d0,d1,d2,d3,d4,d5,d6,d7,d8⟩:=vd hb3
  have HB3:=qQ hb3
  have hlc:=qX hb3
  have HS:=qQ (show∀W,Chg (λ_=>False) wc W→W.cell? ⟨cb,0,none⟩=some (.int .i64 c.nodes)∧W.cell? ⟨cb,1,none⟩=some (.slice A1 n1 c1)∧W.cell? ⟨cb,2,none⟩=some (.slice A2 n2 c2)∧W.cell? ⟨cb,3,none⟩=some (.int .i64 c.guard)∧W.cell? ⟨cb,4,none⟩=some (.int .i64 c.err)∧W.cell? ⟨cb,5,none⟩=some (.int .i64 c.keep)∧W.cell? ⟨cb,6,none⟩=some (.int .i64 c.loss)∧W.cell? ⟨cb,7,none⟩=some (.int .i64 c.queue)∧W.cell? ⟨cb,8,none⟩=some (.int .i64 c.life) from λW g=>vd (Chg.keep (S:=λ_=>False) g HB3.out (λe=>e)))
  have HK:=qQ (λW=>cknew_any W)
  have HQ:=qQ (λW=>qnew_any c.queue HC.out.q.1 HC.out.q.2 W)
  have HD:=qQ (λW=>dupnew_any W)
  clear hb3 hn3 hh3 hG3 HF1 HCU HCI HB2 HG2 HW hn1' hn2'
  go_wp2_with fail
  have hmm:=@run_makeMap Tryz.prog
  go_region_held3 (λW=>W.cell? ⟨cb,0,none⟩=some (.int .i64 c.nodes)∧W.cell? ⟨cb,1,none⟩=some (.slice A1 n1 c1)∧W.cell? ⟨cb,2,none⟩=some (.slice A2 n2 c2)∧W.cell? ⟨cb,3,none⟩=some (.int .i64 c.guard)∧W.cell? ⟨cb,4,none⟩=some (.int .i64 c.err)∧W.cell? ⟨cb,5,none⟩=some (.int .i64 c.keep)∧W.cell? ⟨cb,6,none⟩=some (.int .i64 c.loss)∧W.cell? ⟨cb,7,none⟩=some (.int .i64 c.queue)∧W.cell? ⟨cb,8,none⟩=some (.int .i64 c.life))
   (((with_reducible refine HS.out _ ?_);repeat (first|with_reducible exact Chg.drew _ _|with_reducible exact Chg.refl _ _|(with_reducible refine Chg.trans ?_ (Chg.drew _ _))|(with_reducible refine Chg.trans ?_ (Chg.alloc _ _ _))|(with_reducible refine Chg.trans ?_ g5)|(with_reducible refine Chg.trans ?_ g4)|(with_reducible refine Chg.trans ?_ g3)|(with_reducible refine Chg.trans ?_ g2)|(with_reducible refine Chg.trans ?_ g1))))
   (first
   |(go_at_call 50;refine (HK.out _).mono ?_;rintro en y1 ⟨ck,rfl,hK,hlk,g1⟩;have HK1:=qQ (And.intro hK hlk))
   |(go_at_call 51;refine (HQ.out _).mono ?_;rintro en y2 ⟨qb,rfl,hQ,hlq,g2⟩;have HQ1:=qQ (And.intro hQ hlq))
   |(have hu2:=HU2;go_at_call 52;refine (HD.out _).mono ?_;rintro en y5 ⟨u3,m3,rfl,hU,hlu,hlm,hxu,hxm,g5⟩;have HU3:=qQ (And.intro hU (And.intro hlu (And.intro hlm (And.intro hxu hxm)))))
   |(have hu1:=HU1;go_at_call 52;refine (HD.out _).mono ?_;rintro en y4 ⟨u2,m2,rfl,hU,hlu,hlm,hxu,hxm,g4⟩;have HU2:=qQ (And.intro hU (And.intro hlu (And.intro hlm (And.intro hxu hxm)))))
   |(go_at_call 52;refine (HD.out _).mono ?_;rintro en y3 ⟨u1,m1,rfl,hU,hlu,hlm,hxu,hxm,g3⟩;have HU1:=qQ (And.intro hU (And.intro hlu (And.intro hlm (And.intro hxu hxm))))))
  all_goals
   go_wp2_with fail
   go_ret
   have lK:=qX hK
   have lQ:=qX hQ.blk
   obtain⟨hU1,a1,a2,a3,a4⟩:=HU1.out
   obtain⟨hU2,b1,b2,b3,b4⟩:=HU2.out
   have n1:=hU1.2.2
   have n2:=hU2.2.2
   have n3:=hU.2.2
   have s1:=g1.size
   have s2:=g2.size
   have s3:=g3.size
   have s4:=g4.size
   have s5:=g5.size
   have hdr:∀w:World,w.drew.heap.size=w.heap.size:=λ_=>rfl
   simp[hdr] at hlk hlq a1 a2 b1 b2 hlu hlm s1 s2 s3 s4 s5
   refine PNode.mk2 HZ.out HW3.out.2.2 HW3.out.1 HW3.out.2.1 (by repeat (first|with_reducible exact Chg.refl _ _|(with_reducible refine Chg.trans ?_ (Chg.drew _ _))|(with_reducible refine Chg.trans ?_ (Chg.alloc _ _ _))|(with_reducible refine Chg.trans ?_ g5)|(with_reducible refine Chg.trans ?_ g4)|(with_reducible refine Chg.trans ?_ g3)|(with_reducible refine Chg.trans ?_ g2)|(with_reducible refine Chg.trans ?_ g1))) (hK.kept (by repeat (first|with_reducible exact Chg.refl _ _|(with_reducible refine Chg.trans ?_ (Chg.drew _ _))|(with_reducible refine Chg.trans ?_ (Chg.alloc _ _ _))|(with_reducible refine Chg.trans ?_ g5)|(with_reducible refine Chg.trans ?_ g4)|(with_reducible refine Chg.trans ?_ g3)|(with_reducible refine Chg.trans ?_ g2)|(with_reducible refine Chg.trans ?_ g1)))) (hQ.kept (by repeat (first|with_reducible exact Chg.refl _ _|(with_reducible refine Chg.trans ?_ (Chg.drew _ _))|(with_reducible refine Chg.trans ?_ (Chg.alloc _ _ _))|(with_reducible refine Chg.trans ?_ g5)|(with_reducible refine Chg.trans ?_ g4)|(with_reducible refine Chg.trans ?_ g3)|(with_reducible refine Chg.trans ?_ g2)|(with_reducible refine Chg.trans ?_ g1)))) (hU1.kept (by repeat (first|with_reducible exact Chg.refl _ _|(with_reducible refine Chg.trans ?_ (Chg.drew _ _))|(with_reducible refine Chg.trans ?_ (Chg.alloc _ _ _))|(with_reducible refine Chg.trans ?_ g5)|(with_reducible refine Chg.trans ?_ g4)|(with_reducible refine Chg.trans ?_ g3)|(with_reducible refine Chg.trans ?_ g2)|(with_reducible refine Chg.trans ?_ g1)))) (hU2.kept (by repeat (first|with_reducible exact Chg.refl _ _|(with_reducible refine Chg.trans ?_ (Chg.drew _ _))|(with_reducible refine Chg.trans ?_ (Chg.alloc _ _ _))|(with_reducible refine Chg.trans ?_ g5)|(with_reducible refine Chg.trans ?_ g4)|(with_reducible refine Chg.trans ?_ g3)|(with_reducible refine Chg.trans ?_ g2)|(with_reducible refine Chg.trans ?_ g1)))) (hU.kept (by repeat (first|with_reducible exact Chg.refl _ _|(with_reducible refine Chg.trans ?_ (Chg.drew _ _))|(with_reducible refine Chg.trans ?_ (Chg.alloc _ _ _))|(with_reducible refine Chg.trans ?_ g5)|(with_reducible refine Chg.trans ?_ g4)|(with_reducible refine Chg.trans ?_ g3)|(with_reducible refine Chg.trans ?_ g2)|(with_reducible refine Chg.trans ?_ g1)))) ?_
   first
    |(refine⟨y5.heap.size,Mp.keep (S:=λ_=>False) (Mp.made y5) ?g (λe=>e),⟨?lo,?nd⟩,?hb⟩;case g=>(repeat (first|with_reducible exact Chg.refl _ _|(with_reducible refine Chg.trans ?_ (Chg.drew _ _))|(with_reducible refine Chg.trans ?_ (Chg.alloc _ _ _))|(with_reducible refine Chg.trans ?_ g5)|(with_reducible refine Chg.trans ?_ g4)|(with_reducible refine Chg.trans ?_ g3)|(with_reducible refine Chg.trans ?_ g2)|(with_reducible refine Chg.trans ?_ g1))))
    |(refine⟨y4.heap.size,Mp.keep (S:=λ_=>False) (Mp.made y4) ?g (λe=>e),⟨?lo,?nd⟩,?hb⟩;case g=>(repeat (first|with_reducible exact Chg.refl _ _|(with_reducible refine Chg.trans ?_ (Chg.drew _ _))|(with_reducible refine Chg.trans ?_ (Chg.alloc _ _ _))|(with_reducible refine Chg.trans ?_ g5)|(with_reducible refine Chg.trans ?_ g4)|(with_reducible refine Chg.trans ?_ g3)|(with_reducible refine Chg.trans ?_ g2)|(with_reducible refine Chg.trans ?_ g1))))
    |(refine⟨y3.heap.size,Mp.keep (S:=λ_=>False) (Mp.made y3) ?g (λe=>e),⟨?lo,?nd⟩,?hb⟩;case g=>(repeat (first|with_reducible exact Chg.refl _ _|(with_reducible refine Chg.trans ?_ (Chg.drew _ _))|(with_reducible refine Chg.trans ?_ (Chg.alloc _ _ _))|(with_reducible refine Chg.trans ?_ g5)|(with_reducible refine Chg.trans ?_ g4)|(with_reducible refine Chg.trans ?_ g3)|(with_reducible refine Chg.trans ?_ g2)|(with_reducible refine Chg.trans ?_ g1))))
    |(refine⟨y2.heap.size,Mp.keep (S:=λ_=>False) (Mp.made y2) ?g (λe=>e),⟨?lo,?nd⟩,?hb⟩;case g=>(repeat (first|with_reducible exact Chg.refl _ _|(with_reducible refine Chg.trans ?_ (Chg.drew _ _))|(with_reducible refine Chg.trans ?_ (Chg.alloc _ _ _))|(with_reducible refine Chg.trans ?_ g5)|(with_reducible refine Chg.trans ?_ g4)|(with_reducible refine Chg.trans ?_ g3)|(with_reducible refine Chg.trans ?_ g2)|(with_reducible refine Chg.trans ?_ g1))))
    |(refine⟨y1.heap.size,Mp.keep (S:=λ_=>False) (Mp.made y1) ?g (λe=>e),⟨?lo,?nd⟩,?hb⟩;case g=>(repeat (first|with_reducible exact Chg.refl _ _|(with_reducible refine Chg.trans ?_ (Chg.drew _ _))|(with_reducible refine Chg.trans ?_ (Chg.alloc _ _ _))|(with_reducible refine Chg.trans ?_ g5)|(with_reducible refine Chg.trans ?_ g4)|(with_reducible refine Chg.trans ?_ g3)|(with_reducible refine Chg.trans ?_ g2)|(with_reducible refine Chg.trans ?_ g1))))
    |(refine⟨wc.drew.heap.size,Mp.keep (S:=λ_=>False) (Mp.made wc.drew) ?g (λe=>e),⟨?lo,?nd⟩,?hb⟩;case g=>(repeat (first|with_reducible exact Chg.refl _ _|(with_reducible refine Chg.trans ?_ (Chg.drew _ _))|(with_reducible refine Chg.trans ?_ (Chg.alloc _ _ _))|(with_reducible refine Chg.trans ?_ g5)|(with_reducible refine Chg.trans ?_ g4)|(with_reducible refine Chg.trans ?_ g3)|(with_reducible refine Chg.trans ?_ g2)|(with_reducible refine Chg.trans ?_ g1))))
    |(refine⟨wc.heap.size,Mp.keep (S:=λ_=>False) (Mp.made wc) ?g (λe=>e),⟨?lo,?nd⟩,?hb⟩;case g=>(repeat (first|with_reducible exact Chg.refl _ _|(with_reducible refine Chg.trans ?_ (Chg.drew _ _))|(with_reducible refine Chg.trans ?_ (Chg.alloc _ _ _))|(with_reducible refine Chg.trans ?_ g5)|(with_reducible refine Chg.trans ?_ g4)|(with_reducible refine Chg.trans ?_ g3)|(with_reducible refine Chg.trans ?_ g2)|(with_reducible refine Chg.trans ?_ g1))))
   case hb=>
    first
     |exact qV _ _
     |(rw[show y5.heap.size+1=(y5.alloc (.map #[] 0)).heap.size by simp];exact qV _ _)
   case lo=>
    intro k hk
    simp only[List.mem_cons,List.not_mem_nil,or_false] at hk
    rcases hk with rfl|rfl|rfl|rfl|rfl|rfl|rfl|rfl|rfl|rfl <;> (constructor <;> (try simp[hdr]) <;> omega)
   case nd=>
    simp only[List.nodup_cons,List.mem_cons,List.not_mem_nil,or_false,not_or,List.nodup_nil,and_true,not_false_eq_true]
    try simp only[hdr]
    (repeat' apply And.intro) <;> omega
end
end Go.Proofs.YtnpihllannobgaaGreatDoor
