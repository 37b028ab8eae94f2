/- Steps of the proof, part G21. No condition. -/
import Derived.Test.YtnpihllannobgaaGreatDoorG14
import Derived.Test.YtnpihllannobgaaGreatDoorG19
import Derived.Test.YtnpihllannobgaaGreatDoorG20
import Derived.Test.YtnpihllannobgaaGreatDoorG03
import Derived.Test.YtnpihllannobgaaGreatDoorG13
import Derived.Test.YtnpihllannobgaaGreatDoorG16
import Derived.Deep.AppendLies
import Derived.Deep.DeepAppendRoom
import Derived.StillTailTactics
import Derived.Deep.DeepCutAuto
import Derived.RegionTactic
namespace Go.Proofs.YtnpihllannobgaaGreatDoor
set_option linter.unusedVariables false
set_option linter.unusedSimpArgs false
set_option maxRecDepth 100000
set_option maxHeartbeats 32000000
open Go.ChangeShapes Go.WideShapes Go.ChangeAt Go.RowKit
section
variable {w0 w w':World}{o0 o o':Cls}{c:Cfg}{i b:Nat}{s s':NSt}{r r':NR}
theorem jZ(h:NAt w0 o0 c i b s w o r)(p:Pk)(lv dv:Value)(why:Int)(hp:PO w o lv dv p)(hn:s.ev.length≤1000):Calls Tryz.prog 69 #[.pointer (some ⟨b,0,none⟩),pkV p lv dv,.int .i64 why] w (PN w0 o0 c i b (evN s ⟨5,i,0,why,p⟩) (λv _ _=>v= .tuple #[])):=by
 obtain⟨S,D,N,Lf,P,T⟩:=p
 obtain⟨pA,pc,hlv,_⟩:=hp.1
 obtain⟨⟨dA,dc,hdv,_⟩,_⟩:=hp.2
 obtain⟨pn,hpn⟩:∃n,n=P.length:=⟨_,rfl⟩
 obtain⟨tn,htn⟩:∃n,n=T.length:=⟨_,rfl⟩
 dsimp only at hlv hdv
 rw[←hpn] at hlv
 rw[←htn] at hdv
 subst hlv hdv
 obtain⟨w1,hw1⟩:=qZ (w.alloc (.cells #[.int .i64 S,.int .i64 D,.int .i64 N,.int .i64 Lf,.slice pA pn pc,.slice dA tn dc] 42))
 have hk:=h.kept (w':=w1) (by rw[hw1];exact Chg.alloc _ _ _)
 have hb1:w1.heap[w.heap.size]? =some (.cells #[.int .i64 S,.int .i64 D,.int .i64 N,.int .i64 Lf,.slice pA pn pc,.slice dA tn dc] 42 (0,0)):=by rw[hw1];exact qV _ _
 have hp1:PO w1 o (.slice pA pn pc) (.slice dA tn dc) ⟨S,D,N,Lf,P,T⟩:=hp.keep (by rw[hw1];exact Chg.alloc (λ_=>False) _ _) (λ_ _ e=>e)
 obtain⟨d0,d1,d2,d3,d4,d5⟩:=qC hb1
 have HP:=qQ hp1
 have HW1:=qQ hw1
 clear hp hpn htn hb1 hp1 h hw1
 have h:=hk
 clear hk
 have c1:w1.cell? ⟨b,9,none⟩=some (.int .i64 i):=h.cell 9
 have c2:w1.cell? ⟨b,31,none⟩=some r.ev:=h.cell 31
 have f2:w1.frozen? ⟨b,31,none⟩=false:=h.f 31
 have H:=qQ h
 have hlb:=qX h.nd.blk
 obtain⟨A,cap,hev⟩:=h.evrow
 rw[hev] at c2
 obtain⟨F,hF⟩:=qZ (evN s ⟨5,i,0,why,⟨S,D,N,Lf,P,T⟩⟩)
 rw[←hF]
 have HF:=qQ hF
 obtain⟨n,hln⟩:=qZ s.ev.length
 rw[←hln] at c2 hn hev
 have HV:=qQ (And.intro hev hln)
 obtain⟨ps,e1,e2,e3,e4⟩:=h.nd.np.2.2.2.2.2.2.2.2.2.2
 have hpl:ps.length=n:=by rw[hln,e4,List.length_map]
 rw[hpl,hev] at e1
 have HROW:=qQ e1
 have HPL:=qQ (And.intro e3 e4)
 have hnb:∀k,(Value.slice A n cap).ownBlock=some k→k≠b:=λk hk e=>by
  rw[←hev] at hk
  have h1:=e2 k hk;rw[e,h.nd.ob] at h1;have:=(zK h1 (by omega) (by omega)).2;omega
 have HNB:=qQ hnb
 obtain⟨ei,z,i1,i2,i3,i4,i5,i6⟩:=ElV.2
 have hEI:=qQ (And.intro i1 (And.intro i2 (And.intro i3 (And.intro i4 (And.intro i5 i6)))))
 clear i1 i2 i3 i4 i5 i6
 obtain⟨ob,hob⟩:=qZ (Obj.cells #[Value.int .i64 5,.int .i64 i,.int .i64 0,.int .i64 why,.int .i64 S,.int .i64 D,.int .i64 N,.int .i64 Lf,.slice pA pn pc,.slice dA tn dc] 44)
 have HONE:=qQ (show∀u∈[Value.int .i64 5,.int .i64 i,.int .i64 0,.int .i64 why,.int .i64 S,.int .i64 D,.int .i64 N,.int .i64 Lf,.slice pA pn pc,.slice dA tn dc],u.oneCell'=true by intro u hu;simp at hu;rcases hu with rfl|rfl|rfl|rfl|rfl|rfl|rfl|rfl|rfl|rfl <;> rfl)
 have HLN:=qQ (show n+1≤maxLen∧(n+1)*112≤140737488355328 by unfold maxLen;omega)
 have c2a:=qN c2 ob
 rw[hob] at c2a
 clear h hev hln e1 e2 e3 e4 hF hpl hob ob hnb
 go_enter Tryz.func69,Tryz.ntmps69
 unfold pkV
 go_upto_region 1 with fail
 rw[←HW1.out]
 clear HW1
 go_region_law
  ((
   refine step_append_lies (P:=Tryz.prog) _ (by rfl) (.tmp 10) (.tmp 18) 29 (by rfl) 0 44 ei z 10 112 Tryz.underlying29 hEI.out.1 hEI.out.2.1 hEI.out.2.2.1 hEI.out.2.2.2.1 hEI.out.2.2.2.2.1 hEI.out.2.2.2.2.2 (.slice A n cap) n (ps.flatMap jP) rfl (qY HROW.out ((Chg.alloc (λ_=>False) w1 (.cells #[.int .i64 5,.int .i64 i,.int .i64 0,.int .i64 why,.int .i64 S,.int .i64 D,.int .i64 N,.int .i64 Lf,.slice pA pn pc,.slice dA tn dc] 44)).trans (Chg.drew _ _)) (λ_ _ e=>e)) ⟨w1.heap.size,0,none⟩ 1 1 [.int .i64 5,.int .i64 i,.int .i64 0,.int .i64 why,.int .i64 S,.int .i64 D,.int .i64 N,.int .i64 Lf,.slice pA pn pc,.slice dA tn dc] rfl rfl (World.news_of_block (w:=(w1.alloc (.cells #[.int .i64 5,.int .i64 i,.int .i64 0,.int .i64 why,.int .i64 S,.int .i64 D,.int .i64 N,.int .i64 Lf,.slice pA pn pc,.slice dA tn dc] 44)).drew) (qV w1 (.cells #[.int .i64 5,.int .i64 i,.int .i64 0,.int .i64 why,.int .i64 S,.int .i64 D,.int .i64 N,.int .i64 Lf,.slice pA pn pc,.slice dA tn dc] 44))) HONE.out (by omega) HLN.out.1 HLN.out.2 (Nat.zero_le _) (w1.heap.size+1) (by simp) ?_
   intro g5 cap5 w5 hown5 hgr5 hat5 hlt5
   have G5:Chg (λk=>(Value.slice A n cap).ownBlock=some k) w1 w5:=((Chg.alloc _ w1 (.cells #[.int .i64 5,.int .i64 i,.int .i64 0,.int .i64 why,.int .i64 S,.int .i64 D,.int .i64 N,.int .i64 Lf,.slice pA pn pc,.slice dA tn dc] 44)).trans (Chg.drew _ _)).trans (qH hgr5 (λj e=>e.symm▸rfl))
   have kb:=Chg.keep G5 H.out.nd.blk (λe=>HNB.out b e rfl)
   have k2:w5.cell? ⟨b,31,none⟩=some (.slice A n cap):=by rw[qJ kb];exact congrArg some HV.out.1
   have kf:w5.frozen? ⟨b,31,none⟩=false:=qK kb 31
   have HKB:=qQ kb
   have HG5:=qQ G5
   have HO5:=qQ (And.intro hown5 (And.intro hat5 hlt5))
   clear kb G5 hown5 hgr5 hat5 hlt5))
 all_goals
  go_wp2_with fail
  go_end0
  obtain⟨o',r',hN⟩:=H.out.told ⟨5,i,0,why,⟨S,D,N,Lf,P,T⟩⟩ (.slice pA pn pc) (.slice dA tn dc) g5 cap5 n w5 (by rw[HV.out.1];exact HG5.out) HV.out.2 ps HPL.out.1 HPL.out.2 HO5.out.1
   (by rw[HV.out.1];rcases HO5.out.2.1 with h|h;exact .inl h;right;omega) HO5.out.2.2 HP.out
  refine⟨_,o',r',rfl,?_,rfl⟩
  rw[HF.out]
  exact hN
end
def stepP(p:Pk)(me:Int):Int×Pk:=if !(mayP p&&qt me) then (1,pk0) else if p.life=0 then (11,pk0) else (0,{p with life:=p.life-1})
def PStepP(w:World)(x:Int×Pk)(en:Ending)(w':World):Prop:=∃lv dv,en= .returned (.tuple #[pkV x.2 lv dv,.int .i64 x.1])∧OwnP w w' lv dv x.2∧Chg (λ_=>False) w w'
theorem OwnP.nil(w w':World):OwnP w w' (.slice none 0 0) (.slice none 0 0) pk0:=⟨World.ownsRow_nil _ _ _ _,World.ownsRow_nil _ _ _ _,λx hx=>nomatch hx⟩
theorem PStepP.err(w w':World)(e:Int)(g:Chg (λ_=>False) w w'):PStepP w (e,pk0) (.returned (.tuple #[pkV pk0 (.slice none 0 0) (.slice none 0 0),.int .i64 e])) w':=⟨_,_,rfl,OwnP.nil _ _,g⟩
theorem pstep_any(w:World)(own:Cls)(p:Pk)(me:Int)(lv dv:Value)(h:PO w own lv dv p)(hL:p.path.length≤100000)(hD:p.data.length≤100000):Calls Tryz.prog 285 #[pkV p lv dv,.int .i64 me] w (PStepP w (stepP p me)):=by
 obtain⟨R,hR⟩:=qZ (stepP p me)
 rw[←hR]
 unfold stepP at hR
 obtain⟨S,D,N,F,P,T⟩:=p
 have HP:=qQ (show∀W,Chg (λ_=>False) w W→PO W own lv dv ⟨S,D,N,F,P,T⟩ from λW g=>h.keep g (λ_ _ e=>e))
 dsimp only at hL hD hR
 have HB:=qQ (PB2.start w S D N F lv dv)
 have HLD:=qQ (And.intro hL hD)
 obtain⟨lA,lc,hlv,_⟩:=h.1
 obtain⟨⟨dA,dc,hdv,_⟩,_⟩:=h.2
 obtain⟨mb,hmb⟩:∃b,mayP ⟨S,D,N,F,P,T⟩=b:=⟨_,rfl⟩
 rw[hmb] at hR
 have HM:=qQ hmb
 obtain⟨m,hm⟩:=qZ P.length
 obtain⟨n,hn⟩:=qZ T.length
 dsimp only at hdv hlv
 rw[←hn] at hdv
 rw[←hm] at hlv
 subst hlv hdv
 clear h hm hn hL hD hmb
 have HR:=qQ hR
 clear hR
 have HMAY:=qQ (show∀W,Chg (λ_=>False) w W→Calls Tryz.prog 123 #[.agg #[.int .i64 S,.int .i64 D,.int .i64 N,.int .i64 F,.slice lA m lc,.slice dA n dc]] W (PV (.bool (mayP ⟨S,D,N,F,P,T⟩)) W) from λW g=>pmay_any W own ⟨S,D,N,F,P,T⟩ _ _ (HP.out W g) HLD.out.1 HLD.out.2)
 have HOWN:=qQ (show∀W,Chg (λ_=>False) w W→Calls Tryz.prog 295 #[.agg #[.int .i64 S,.int .i64 D,.int .i64 N,.int .i64 F,.slice lA m lc,.slice dA n dc]] W (POwnP W ⟨S,D,N,F,P,T⟩) from λW g=>pown_any W own ⟨S,D,N,F,P,T⟩ _ _ (HP.out W g) HLD.out.1 HLD.out.2)
 clear HP HLD
 unfold pkV
 go_enter Tryz.func285,Tryz.ntmps285
 go_wp2_with fail
 obtain⟨b,hbe⟩:=qZ (w.heap.size+1)
 rw[←hbe] at HB ⊢
 clear hbe
 generalize (w.alloc (.cells #[.int .i64 S,.int .i64 D,.int .i64 N,.int .i64 F,.slice lA m lc,.slice dA n dc] 42)).alloc (.cells #[.int .i64 0,.int .i64 0,.int .i64 0,.int .i64 0,.slice none 0 0,.slice none 0 0] 42)=w1 at *
 obtain⟨a,hae⟩:=qZ w.heap.size
 obtain⟨d0,d1,d2,d3,d4,d5⟩:=qC HB.out.blk
 rw[←hae] at d0 d1 d2 d3 d4 d5 ⊢
 have HAE:=qQ hae
 clear hae
 (with_reducible refine (HMAY.out w1 HB.out.chg).mono ?_)
 rintro en w2 ⟨rfl,g2⟩
 rw[HM.out]
 have HB2:=qQ (HB.out.kept g2)
 clear HB d0 d1 d2 d3 d4 d5
 cases mb
 ·have HRF:=qQ (show R=(1,pk0) from by rw[HR.out];simp)
  obtain⟨c0,c1,c2,c3,c4,c5⟩:=qC HB2.out.res
  obtain⟨f0,f1,f2,f3,f4,f5⟩:=zg HB2.out.res
  go_wp2_with fail
  obtain⟨hbk,G,_⟩:=HB2.out.fin (.int .i64 0) (.int .i64 0) (.int .i64 0) (.int .i64 0) (.slice none 0 0) (.slice none 0 0) _ rfl
  obtain⟨k0,k1,k2,k3,k4,k5⟩:=qC hbk
  rw[HRF.out]
  exact bodyPost_ret (v:= .tuple #[pkV pk0 (.slice none 0 0) (.slice none 0 0),.int .i64 1]) (by simp[results,Tryz.results285,go_sem,pkV,pk0,k0,k1,k2,k3,k4,k5]) rfl (PStepP.err _ _ _ G)
 go_wp2_with fail
 (with_reducible refine (rnode_any me w2).mono ?_)
 rintro en w3 ⟨rfl,rfl⟩
 cases hnb:qt me
 ·have HRF:=qQ (show R=(1,pk0) from by rw[HR.out,hnb];simp)
  clear hnb
  obtain⟨c0,c1,c2,c3,c4,c5⟩:=qC HB2.out.res
  obtain⟨f0,f1,f2,f3,f4,f5⟩:=zg HB2.out.res
  go_wp2_with fail
  obtain⟨hbk,G,_⟩:=HB2.out.fin (.int .i64 0) (.int .i64 0) (.int .i64 0) (.int .i64 0) (.slice none 0 0) (.slice none 0 0) _ rfl
  obtain⟨k0,k1,k2,k3,k4,k5⟩:=qC hbk
  rw[HRF.out]
  exact bodyPost_ret (v:= .tuple #[pkV pk0 (.slice none 0 0) (.slice none 0 0),.int .i64 1]) (by simp[results,Tryz.results285,go_sem,pkV,pk0,k0,k1,k2,k3,k4,k5]) rfl (PStepP.err _ _ _ G)
 have HR2:=qQ (show R=if F=0 then (11,pk0) else (0,⟨S,D,N,F-1,P,T⟩) from by rw[HR.out,hnb];simp)
 clear hnb HR
 obtain⟨d0,d1,d2,d3,d4,d5⟩:=qC HB2.out.blk
 rw[←HAE.out] at d0 d1 d2 d3 d4 d5
 by_cases hF:F=0
 ·have HRF:=qQ (show R=(11,pk0) from by rw[HR2.out,if_pos hF])
  have b0:decide (F=0)=true:=by simpa using hF
  obtain⟨c0,c1,c2,c3,c4,c5⟩:=qC HB2.out.res
  obtain⟨f0,f1,f2,f3,f4,f5⟩:=zg HB2.out.res
  subst hF
  go_wp2_with fail
  obtain⟨hbk,G,_⟩:=HB2.out.fin (.int .i64 0) (.int .i64 0) (.int .i64 0) (.int .i64 0) (.slice none 0 0) (.slice none 0 0) _ rfl
  obtain⟨k0,k1,k2,k3,k4,k5⟩:=qC hbk
  rw[HRF.out]
  exact bodyPost_ret (v:= .tuple #[pkV pk0 (.slice none 0 0) (.slice none 0 0),.int .i64 11]) (by simp[results,Tryz.results285,go_sem,pkV,pk0,k0,k1,k2,k3,k4,k5]) rfl (PStepP.err _ _ _ G)
 have HRF:=qQ (show R=(0,⟨S,D,N,F-1,P,T⟩) from by rw[HR2.out,if_neg hF])
 have b1:decide (F=0)=false:=by simpa using hF
 have b2:(F==0)=false:=by simpa using hF
 have hfb:=(jD HM.out).2.2.2.2.1
 have hw:IntKind.wrap .i64 (F-1)=F-1:=wrap_small _ (by dsimp only at hfb;omega) (by dsimp only at hfb;omega)
 have HFF:=qQ hF
 clear hF hfb
 go_wp2_with fail
 (with_reducible refine (HOWN.out _ HB2.out.chg).mono ?_)
 rintro en w4 ⟨v1,v2,rfl,hO,g4⟩
 obtain⟨A1,n1,c1,rfl⟩:∃A n c,v1= .slice A n c:=by rcases qD hO.1 with ⟨e,_⟩|⟨g,cap,e,_⟩ <;> exact⟨_,_,_,e⟩
 obtain⟨A2,n2,c2,rfl⟩:∃A n c,v2= .slice A n c:=by rcases qD hO.2.1 with ⟨e,_⟩|⟨g,cap,e,_⟩ <;> exact⟨_,_,_,e⟩
 have HO:=qQ hO
 have HB4:=qQ (HB2.out.kept g4)
 have HG2:=qQ (HB2.out.chg)
 have HH:=qQ (qX HB2.out.res)
 have HH1:=qQ HB2.out.lt
 clear hO g4 HB2 d0 d1 d2 d3 d4 d5
 have hblk:=HB4.out.blk
 rw[←HAE.out] at hblk
 obtain⟨d0,d1,d2,d3,d4,d5⟩:=qC hblk
 obtain⟨e0,e1,e2,e3,e4,e5⟩:=zg hblk
 clear b1 b2
 unfold pkV
 go_upto_region 6 with fail
 have hb5:=set6b hblk (.int .i64 S) (.int .i64 D) (.int .i64 N) (.int .i64 F) (.slice A1 n1 c1) (.slice A2 n2 c2)
 have g5:=set6 w4 a (.int .i64 S) (.int .i64 D) (.int .i64 N) (.int .i64 F) (.slice A1 n1 c1) (.slice A2 n2 c2)
 generalize (((((w4.setCell ⟨a,0,none⟩ (.int .i64 S)).setCell ⟨a,1,none⟩ (.int .i64 D)).setCell ⟨a,2,none⟩ (.int .i64 N)).setCell ⟨a,3,none⟩ (.int .i64 F)).setCell ⟨a,4,none⟩ (.slice A1 n1 c1)).setCell ⟨a,5,none⟩ (.slice A2 n2 c2)=w5 at *
 have hb6:=qB hb5 3 (.int .i64 (F-1))
 have g6:=chg1 w5 a 3 (.int .i64 (F-1))
 have HB6:=qQ (HB4.out.setb (by rw[←HAE.out];exact g5.trans g6) S D N (F-1) (.slice A1 n1 c1) (.slice A2 n2 c2) (by rw[←HAE.out];exact hb6))
 have HG6:=qQ (g5.trans g6)
 clear hblk d0 d1 d2 d3 d4 d5 e0 e1 e2 e3 e4 e5
 obtain⟨d0,d1,d2,d3,d4,d5⟩:=qC hb5
 obtain⟨e0,e1,e2,e3,e4,e5⟩:=zg hb5
 clear g5 g6
 go_upto_region 7 with fail
 generalize w5.setCell ⟨a,3,none⟩ (.int .i64 (F-1))=w6 at *
 clear hb5 d0 d1 d2 d3 d4 d5 e0 e1 e2 e3 e4 e5
 obtain⟨d0,d1,d2,d3,d4,d5⟩:=qC hb6
 obtain⟨c0,c1',c2',c3,c4,c5⟩:=qC HB6.out.res
 obtain⟨f0,f1,f2,f3,f4,f5⟩:=zg HB6.out.res
 clear hb6
 go_wp2_with fail
 obtain⟨hbk,G,GS⟩:=HB6.out.fin (.int .i64 S) (.int .i64 D) (.int .i64 N) (.int .i64 (F-1)) (.slice A1 n1 c1) (.slice A2 n2 c2) _ rfl
 obtain⟨k0,k1,k2,k3,k4,k5⟩:=qC hbk
 rw[HRF.out]
 have hres:=HB6.out.res
 have hbl:=HB6.out.blk
 have hrow:∀{W:World} {e v len xs},W.ownsRow w3.heap.size e 1 v len xs→∀j,v.ownBlock=some j→¬j=a∧¬j=b:=λ{W e v len xs} hr j hj=>by
  have h1:=(qT hr hj).1
  have h2:=HH.out
  have h3:=HH1.out
  have h4:=HAE.out
  omega
 exact bodyPost_ret (v:= .tuple #[pkV ⟨S,D,N,F-1,P,T⟩ (.slice A1 n1 c1) (.slice A2 n2 c2),.int .i64 0]) (by simp[results,Tryz.results285,go_sem,pkV,k0,k1,k2,k3,k4,k5]) rfl
  ⟨_,_,rfl,⟨qk (qY (qY HO.out.1 HG6.out (λj hj=>(hrow HO.out.1 j hj).1)) GS (λj hj=>(hrow HO.out.1 j hj).2)) HG2.out.size,
   qk (qY (qY HO.out.2.1 HG6.out (λj hj=>(hrow HO.out.2.1 j hj).1)) GS (λj hj=>(hrow HO.out.2.1 j hj).2)) HG2.out.size,HO.out.2.2⟩,G⟩
def upP(p:Pk)(me:Int):Int×Pk:=
 let x:=stepP p me
 if x.1≠0 then x else if x.2.path.contains me then x else if 16≤x.2.path.length then (5,pk0) else (0,{x.2 with path:=x.2.path++[me]})
theorem stepP_len{p:Pk}{me:Int}{x:Int×Pk}(h:stepP p me=x)(hp:p.path.length≤100000):x.2.path.length≤100000:=by
 subst h
 unfold stepP
 split
 ·simp[pk0]
 ·split
  ·simp[pk0]
  ·exact hp
theorem PB2.high{w W W':World}{b base:Nat}{S D N F:Int}{lv dv:Value}(h:PB2 w b S D N F lv dv W)(hb:b<base)(g:Chg (λj=>base≤j) W W'):PB2 w b S D N F lv dv W':=by
 have hl:=h.lt
 exact⟨Chg.keep g h.blk (λe=>by omega),Chg.keep g h.res (λe=>by omega),(h.chg.none.trans (g.mono (λj _ e=>(by omega:w.heap.size≤j)))).fresh,hl⟩
theorem own_neT{W:World}{b1 b2 e1 e2 s1 s2 n1 n2:Nat}{v1 v2:Value}{xs ys:List Value}(h1:W.ownsRow b1 e1 s1 v1 n1 xs)(h2:W.ownsRow b2 e2 s2 v2 n2 ys)(ne:e1≠e2){j:Nat}(hj:v1.ownBlock=some j):¬v2.ownBlock=some j:=by
 intro hk
 rcases h1.2 with ⟨e,_⟩|⟨g,c,cur,e,_,hg,_⟩
 ·rw[e] at hj;cases hj
 ·rw[e] at hj;cases hj
  rcases h2.2 with ⟨e',_⟩|⟨g',c',cur',e',_,hg',_⟩
  ·rw[e'] at hk;cases hk
  ·rw[e'] at hk;cases hk
   rw[hg] at hg';cases hg'
   exact ne rfl
theorem pup_any(w:World)(own:Cls)(p:Pk)(me:Int)(lv dv:Value)(h:PO w own lv dv p)(hL:p.path.length≤100000)(hD:p.data.length≤100000):Calls Tryz.prog 255 #[pkV p lv dv,.int .i64 me] w (PStepP w (upP p me)):=by
 obtain⟨R,hR⟩:=qZ (upP p me)
 rw[←hR]
 unfold upP at hR
 obtain⟨x,hx⟩:∃x,stepP p me=x:=⟨_,rfl⟩
 have hxl:=stepP_len hx hL
 obtain⟨E,S',D',N',F',P',T'⟩:=x
 dsimp only at hxl
 rw[hx] at hR
 obtain⟨S,D,N,F,P,T⟩:=p
 dsimp only at hL hD hR
 have HB:=qQ (PB2.start w S D N F lv dv)
 have HSTEP:=qQ (show∀W,Chg (λ_=>False) w W→Calls Tryz.prog 285 #[.agg #[.int .i64 S,.int .i64 D,.int .i64 N,.int .i64 F,lv,dv],.int .i64 me] W (PStepP W (E,⟨S',D',N',F',P',T'⟩)) from
  λW g=>hx▸pstep_any W own ⟨S,D,N,F,P,T⟩ me lv dv (h.keep g (λ_ _ e=>e)) hL hD)
 obtain⟨lA,lc,hlv,_⟩:=h.1
 obtain⟨⟨dA,dc,hdv,_⟩,_⟩:=h.2
 obtain⟨m,hm⟩:=qZ P.length
 obtain⟨n,hn⟩:=qZ T.length
 dsimp only at hdv hlv
 rw[←hn] at hdv
 rw[←hm] at hlv
 subst hlv hdv
 clear h hm hn hL hD hx
 have HR:=qQ hR
 have HXL:=qQ hxl
 clear hR hxl
 unfold pkV
 go_enter Tryz.func255,Tryz.ntmps255
 go_wp2_with fail
 obtain⟨b,hbe⟩:=qZ (w.heap.size+1)
 rw[←hbe] at HB ⊢
 clear hbe
 generalize (w.alloc (.cells #[.int .i64 S,.int .i64 D,.int .i64 N,.int .i64 F,.slice lA m lc,.slice dA n dc] 42)).alloc (.cells #[.int .i64 0,.int .i64 0,.int .i64 0,.int .i64 0,.slice none 0 0,.slice none 0 0] 42)=w1 at *
 obtain⟨a,hae⟩:=qZ w.heap.size
 obtain⟨d0,d1,d2,d3,d4,d5⟩:=qC HB.out.blk
 rw[←hae] at d0 d1 d2 d3 d4 d5 ⊢
 have HAE:=qQ hae
 clear hae
 (with_reducible refine (HSTEP.out w1 HB.out.chg).mono ?_)
 rintro en w4 ⟨v1,v2,rfl,hO,g4⟩
 dsimp only at hO
 obtain⟨A1,n1,c1,rfl⟩:∃A n c,v1= .slice A n c:=by rcases qD hO.1 with ⟨e,_⟩|⟨g,cap,e,_⟩ <;> exact⟨_,_,_,e⟩
 obtain⟨A2,n2,c2,rfl⟩:∃A n c,v2= .slice A n c:=by rcases qD hO.2.1 with ⟨e,_⟩|⟨g,cap,e,_⟩ <;> exact⟨_,_,_,e⟩
 have HB4:=qQ (HB.out.kept g4)
 have HG2:=qQ (HB.out.chg)
 have HH:=qQ (qX HB.out.res)
 have HH1:=qQ HB.out.lt
 have hblk:=HB4.out.blk
 rw[←HAE.out] at hblk
 have HSZ:=qQ (show w1.heap.size≤w4.heap.size from g4.size)
 clear g4 HB HSTEP d0 d1 d2 d3 d4 d5
 obtain⟨d0,d1,d2,d3,d4,d5⟩:=qC hblk
 obtain⟨e0,e1,e2,e3,e4,e5⟩:=zg hblk
 unfold pkV
 dsimp only
 go_upto_region 2 with fail
 have hb5:=set6b hblk (.int .i64 S') (.int .i64 D') (.int .i64 N') (.int .i64 F') (.slice A1 n1 c1) (.slice A2 n2 c2)
 have g5:=set6 w4 a (.int .i64 S') (.int .i64 D') (.int .i64 N') (.int .i64 F') (.slice A1 n1 c1) (.slice A2 n2 c2)
 generalize (((((w4.setCell ⟨a,0,none⟩ (.int .i64 S')).setCell ⟨a,1,none⟩ (.int .i64 D')).setCell ⟨a,2,none⟩ (.int .i64 N')).setCell ⟨a,3,none⟩ (.int .i64 F')).setCell ⟨a,4,none⟩ (.slice A1 n1 c1)).setCell ⟨a,5,none⟩ (.slice A2 n2 c2)=w5 at *
 have HB5:=qQ (HB4.out.setb (by rw[←HAE.out];exact g5) S' D' N' F' (.slice A1 n1 c1) (.slice A2 n2 c2) (by rw[←HAE.out];exact hb5))
 have hrow:∀(W:World) (e:TypeId) (v:Value) (len:Nat) (xs:List Value),W.ownsRow w1.heap.size e 1 v len xs→∀j,v.ownBlock=some j→¬j=a∧¬j=b:=λW e v len xs hr j hj=>by
  have h1:=(qT hr hj).1
  have h2:=HH.out
  have h3:=HH1.out
  have h4:=HAE.out
  omega
 have HROW:=qQ hrow
 have HO:=qQ (show w5.ownsRow w1.heap.size 3 1 (.slice A1 n1 c1) P'.length (P'.map VI)∧w5.ownsRow w1.heap.size 5 1 (.slice A2 n2 c2) T'.length (T'.map V8)∧(∀x∈T',0≤x∧x<256) from
  ⟨qY hO.1 g5 (λj hj=>(hrow _ _ _ _ _ hO.1 j hj).1),qY hO.2.1 g5 (λj hj=>(hrow _ _ _ _ _ hO.2.1 j hj).1),hO.2.2⟩)
 have HSZ:=qQ (Nat.le_trans HSZ.out g5.size)
 clear hO g5 HB4 hblk d0 d1 d2 d3 d4 d5 e0 e1 e2 e3 e4 e5 hrow
 obtain⟨d0,d1,d2,d3,d4,d5⟩:=qC hb5
 obtain⟨e0,e1,e2,e3,e4,e5⟩:=zg hb5
 clear hb5
 obtain⟨c0,c1',c2',c3,c4,c5⟩:=qC HB5.out.res
 obtain⟨f0,f1,f2,f3,f4,f5⟩:=zg HB5.out.res
 by_cases hE:E≠0
 ·skip
  have i1:(E != 0)=true:=by simpa using hE
  have i2:(!decide (E=0))=true:=by simpa using hE
  have HRF:=qQ (show R=(E,⟨S',D',N',F',P',T'⟩) from by rw[HR.out,if_pos hE])
  go_wp2_with fail
  obtain⟨hbk,G,GS⟩:=HB5.out.fin (.int .i64 S') (.int .i64 D') (.int .i64 N') (.int .i64 F') (.slice A1 n1 c1) (.slice A2 n2 c2) _ rfl
  obtain⟨k0,k1,k2,k3,k4,k5⟩:=qC hbk
  rw[HRF.out]
  exact bodyPost_ret (v:= .tuple #[pkV ⟨S',D',N',F',P',T'⟩ (.slice A1 n1 c1) (.slice A2 n2 c2),.int .i64 E]) (by simp[results,Tryz.results255,go_sem,pkV,k0,k1,k2,k3,k4,k5]) rfl
   ⟨_,_,rfl,⟨qk (qY HO.out.1 GS (λj hj=>(HROW.out _ _ _ _ _ HO.out.1 j hj).2)) HG2.out.size,
    qk (qY HO.out.2.1 GS (λj hj=>(HROW.out _ _ _ _ _ HO.out.2.1 j hj).2)) HG2.out.size,HO.out.2.2⟩,G⟩
 obtain rfl:E=0:=by simpa using hE
 clear hE
 have HR2:=qQ (show R=if P'.contains me then (0,⟨S',D',N',F',P',T'⟩) else if 16≤P'.length then (5,pk0) else (0,⟨S',D',N',F',P'++[me],T'⟩) from by rw[HR.out,if_neg (by simp)])
 clear HR
 have hrv:=RV.of_own (own:=λ_=>0) HO.out.1 (λ_ _=>rfl)
 obtain⟨Ax,cx,ex,hrs,hAn,_⟩:=hrv.rs
 cases ex
 obtain⟨cb,hcb⟩:∃cb,P'.contains me=cb:=⟨_,rfl⟩
 have HC:=qQ (jy w5 A1 P'.length c1 P' me hrs HXL.out)
 rw[hcb] at HC HR2
 clear hrs hAn hrv hcb
 obtain⟨ln,hln⟩:∃ln,P'.length=ln:=⟨_,rfl⟩
 rw[hln] at HC HR2 HO d4 HXL HB5
 have HLN:=qQ hln
 clear hln
 go_wp2_with fail
 with_reducible refine HC.out.mono ?_
 rintro en w6 ⟨rfl,hw6⟩
 subst w6
 clear HC
 cases cb
 rotate_left
 ·have HRF:=qQ (show R=(0,⟨S',D',N',F',P',T'⟩) from by rw[HR2.out,if_pos rfl])
  go_wp2_with fail
  obtain⟨hbk,G,GS⟩:=HB5.out.fin (.int .i64 S') (.int .i64 D') (.int .i64 N') (.int .i64 F') (.slice A1 ln c1) (.slice A2 n2 c2) _ rfl
  obtain⟨k0,k1,k2,k3,k4,k5⟩:=qC hbk
  rw[HRF.out]
  exact bodyPost_ret (v:= .tuple #[pkV ⟨S',D',N',F',P',T'⟩ (.slice A1 ln c1) (.slice A2 n2 c2),.int .i64 0]) (by simp[results,Tryz.results255,go_sem,pkV,k0,k1,k2,k3,k4,k5]) rfl
   ⟨_,_,rfl,⟨by rw[HLN.out];exact qk (qY HO.out.1 GS (λj hj=>(HROW.out _ _ _ _ _ HO.out.1 j hj).2)) HG2.out.size,
    qk (qY HO.out.2.1 GS (λj hj=>(HROW.out _ _ _ _ _ HO.out.2.1 j hj).2)) HG2.out.size,HO.out.2.2⟩,G⟩
 have HR3:=qQ (show R=if 16≤ln then (5,pk0) else (0,⟨S',D',N',F',P'++[me],T'⟩) from by rw[HR2.out,if_neg (by simp)])
 clear HR2
 by_cases h16:16≤ln
 ·have HRF:=qQ (show R=(5,pk0) from by rw[HR3.out,if_pos h16])
  have i1:decide ((ln:Int)≥16)=true:=by simp;omega
  have i2:(16:Int)≤(ln:Int):=by omega
  clear h16
  go_wp2_with fail
  obtain⟨hbk,G,_⟩:=HB5.out.fin (.int .i64 0) (.int .i64 0) (.int .i64 0) (.int .i64 0) (.slice none 0 0) (.slice none 0 0) _ rfl
  obtain⟨k0,k1,k2,k3,k4,k5⟩:=qC hbk
  rw[HRF.out]
  exact bodyPost_ret (v:= .tuple #[pkV pk0 (.slice none 0 0) (.slice none 0 0),.int .i64 5]) (by simp[results,Tryz.results255,go_sem,pkV,pk0,k0,k1,k2,k3,k4,k5]) rfl (PStepP.err _ _ _ G)
 have HRF:=qQ (show R=(0,⟨S',D',N',F',P'++[me],T'⟩) from by rw[HR3.out,if_neg h16])
 have i1:decide ((ln:Int)≥16)=false:=by simp;omega
 have i2:¬(16:Int)≤(ln:Int):=by omega
 have h17:ln<16:=by omega
 clear h16 HR3
 go_wp2_with (at_builtin;go_loud (refine app1 (V:=VI) elI rfl (.tmp 29) (.tmp 31) rfl w1.heap.size (.slice A1 ln c1) ln (P'.map VI) rfl (HO.out.1.alloc _) w5.heap.size me rfl ?c1 rfl (by omega) (by omega) ?hb ?grow))
 case c1=>simp[VI]
 case hb=>have:=HSZ.out;simp;omega
 case grow=>
  intro v4 w6 hown hgr hat
  have ga:=Chg.alloc (λ_=>False) w5 (.cells #[.int .i64 me] 3)
  have gg:=qH (S:=λj=>(Value.slice A1 ln c1).ownBlock=some j) hgr (λj e=>e)
  have gh:=qH (S:=λj=>w1.heap.size≤j) hgr (λj e=>(qT HO.out.1 e).1)
  have hd:=qY (qY HO.out.2.1 ga (λ_ _ e=>e)) gg (λj hj e=>own_neT HO.out.2.1 HO.out.1 (by decide) hj e)
  have hp:=(HB5.out.kept ga).high (base:=w1.heap.size) (by have:=HH.out;omega) gh
  obtain⟨A3,n3,c6,rfl⟩:∃A n c,v4= .slice A n c:=by rcases qD hown with ⟨e,_⟩|⟨g,cap,e,_⟩ <;> exact⟨_,_,_,e⟩
  have HO6:=qQ (And.intro hown (And.intro hd HO.out.2.2))
  have HP6:=qQ hp
  have hb6:=hp.blk
  rw[←HAE.out] at hb6
  clear hown hgr hat ga gg gh hd hp d0 d1 d2 d3 d4 d5 e0 e1 e2 e3 e4 e5 c0 c1' c2' c3 c4 c5 f0 f1 f2 f3 f4 f5
  obtain⟨d0,d1,d2,d3,d4,d5⟩:=qC hb6
  obtain⟨e0,e1,e2,e3,e4,e5⟩:=zg hb6
  go_upto_region 7 with fail
  have hb7:=qB hb6 4 (.slice A3 n3 c6)
  have g7:=chg1 w6 a 4 (.slice A3 n3 c6)
  generalize w6.setCell ⟨a,4,none⟩ (.slice A3 n3 c6)=w7 at *
  have HB7:=qQ (HP6.out.setb (by rw[←HAE.out];exact g7) S' D' N' F' (.slice A3 n3 c6) (.slice A2 n2 c2) (by rw[←HAE.out];exact hb7))
  have HO7:=qQ (And.intro (qY HO6.out.1 g7 (λj hj=>(HROW.out _ _ _ _ _ HO6.out.1 j hj).1)) (qY HO6.out.2.1 g7 (λj hj=>(HROW.out _ _ _ _ _ HO6.out.2.1 j hj).1)))
  clear d0 d1 d2 d3 d4 d5 e0 e1 e2 e3 e4 e5 hb6 g7
  obtain⟨d0,d1,d2,d3,d4,d5⟩:=qC hb7
  obtain⟨c0,c1',c2',c3,c4,c5⟩:=qC HB7.out.res
  obtain⟨f0,f1,f2,f3,f4,f5⟩:=zg HB7.out.res
  clear hb7
  go_wp2_with fail
  obtain⟨hbk,G,GS⟩:=HB7.out.fin (.int .i64 S') (.int .i64 D') (.int .i64 N') (.int .i64 F') (.slice A3 n3 c6) (.slice A2 n2 c2) _ rfl
  obtain⟨k0,k1,k2,k3,k4,k5⟩:=qC hbk
  rw[HRF.out]
  exact bodyPost_ret (v:= .tuple #[pkV ⟨S',D',N',F',P'++[me],T'⟩ (.slice A3 n3 c6) (.slice A2 n2 c2),.int .i64 0]) (by simp[results,Tryz.results255,go_sem,pkV,k0,k1,k2,k3,k4,k5]) rfl
   ⟨_,_,rfl,⟨by
    have:=qk (qY HO7.out.1 GS (λj hj=>(HROW.out _ _ _ _ _ HO7.out.1 j hj).2)) HG2.out.size
    have hl:=HLN.out
    simpa [hl] using this,
    qk (qY HO7.out.2 GS (λj hj=>(HROW.out _ _ _ _ _ HO7.out.2 j hj).2)) HG2.out.size,HO.out.2.2⟩,G⟩
theorem info213:∃i,Tryz.prog.info? 213=some i∧i.size=2:=by
 obtain⟨i0,hi,hx⟩:=Option.map_eq_some_iff.1 (show (Tryz.prog.info? 213).map (λi=>i.size)=some 2 by kernel_rfl)
 exact⟨i0,hi,hx⟩
theorem zero213(w:World):(zeroValue 213).run Tryz.prog w= .ok (.agg #[.int .i64 0,.slice none 0 0]) w:=by kernel_rfl
theorem own_some{w:World}{base e size g n m cap:Nat}{xs:List Value}(h:w.ownsRow base e size (.slice (some ⟨g,0,none⟩) n cap) m xs)(k:Nat)(hk:k<cap*size):(w.cell? ⟨g,k,none⟩).isSome=true:=by
 rcases h.2 with ⟨h2,_⟩|⟨g',cap',cur,he,_,hg,_,_,hs,_⟩
 ·cases h2
 ·cases he
  rw[qJ hg,Array.getElem?_eq_getElem (by omega)]
  rfl
def PDel1(w:World)(v:Value)(qs:List QE)(en:Ending)(w':World):Prop:=
 ∃v',en= .returned v'∧w'.ownsRow 0 213 2 v' qs.length (qs.flatMap vr)∧Chg (λk=>v.ownBlock=some k) w w'∧v'.ownBlock=v.ownBlock
theorem qdel_any(w:World)(v:Value)(p:QE)(qs:List QE)(h:w.ownsRow 0 213 2 v (qs.length+1) ((p::qs).flatMap vr))(hn:qs.length≤1000)(hs:∀p∈qs,∃A n c,p.2.1= .slice A n c):
  Calls Tryz.prog 168 #[v,.int .i64 0,.int .i64 1] w (PDel1 w v qs):=by
 obtain⟨g,cap,rfl,hcap,hcm⟩:∃g cap,v= .slice (some ⟨g,0,none⟩) (qs.length+1) cap∧qs.length+1≤cap∧cap≤maxLen:=by
  rcases qD h with ⟨e,h1,_⟩|⟨g,cap,e,_,_,h4,h5⟩
  ·omega
  ·exact⟨g,cap,e,h4,h5⟩
 have hnews:∀(j:Nat) u,(qs.flatMap vr)[j]? =some u→w.cell? ⟨g,2+j,none⟩=some u:=λj u hu=>qL h (2+j) u (by
  rw[List.flatMap_cons,List.getElem?_append_right (by rw[vq];omega),vq,show 2+j-2=j by omega];exact hu)
 have h1:∀u∈qs.flatMap vr,u.oneCell'=true:=λu hu=>by
  obtain⟨q,hq,hm⟩:=List.mem_flatMap.1 hu
  obtain⟨A,n,c,e⟩:=hs q hq
  unfold vr at hm
  rw[e] at hm
  rcases List.mem_cons.1 hm with rfl|hm
  ·rfl
  ·rcases List.mem_cons.1 hm with rfl|hm
   ·rfl
   ·cases hm
 have hl:(qs.flatMap vr).length=qs.length*2:=by
  clear h hn hs hcap hnews h1
  induction qs with
  |nil=>rfl
  |cons q r ih=>rw[List.flatMap_cons,List.length_append,ih,vq,List.length_cons];omega
 have h0:=own_less h (Nat.zero_le _)
 simp only[Nat.zero_mul,List.take_zero] at h0
 obtain⟨X,hX⟩:∃X,qs.flatMap vr=X:=⟨_,rfl⟩
 rw[hX] at hnews h1 hl
 unfold PDel1
 rw[hX]
 obtain⟨n,hnn⟩:∃n,qs.length=n:=⟨_,rfl⟩
 rw[hnn] at hl hcap hn ⊢
 have HX:=qQ (And.intro h0 (And.intro hl (And.intro hnews h1)))
 unfold maxLen at hcm
 have i1:(n:Int)≤1000:=by omega
 have i2:((n+1:Nat):Int)≤(cap:Int):=by omega
 have i3:(1:Int)≤((n+1:Nat):Int):=by omega
 clear h hs hX hnn h0 hl hnews h1
 go_enter Tryz.func168,Tryz.ntmps168
 go_upto_region 5 with fail
 obtain⟨inf,hi1,hi2⟩:=info213
 obtain⟨ad,had,hna⟩:∃ad,(if cap=1 then some (⟨g,0,none⟩:Addr) else some ⟨g,2,none⟩)=some ad∧∀(j:Nat) u,X[j]? =some u→w.drew.cell? (ad.add j)=some u:=by
  by_cases hc:cap=1
  ·refine⟨⟨g,0,none⟩,if_pos hc,λj u hu=>?_⟩
   have h0:X=[]:=List.eq_nil_of_length_eq_zero (by rw[HX.out.2.1];omega)
   rw[h0] at hu;cases hu
  ·refine⟨⟨g,2,none⟩,if_neg hc,λj u hu=>?_⟩
   have:=HX.out.2.2.1 j u hu
   rcases Nat.eq_zero_or_pos j with rfl|h0
   ·simpa [Addr.add] using this
   ·simpa [Addr.add,Nat.ne_of_gt h0] using this
 have HN:=qQ hna
 clear hna
 have i4:(n:Int)+1≤(cap:Int):=by omega
 have i5:(1:Int)≤(n:Int)+1:=by omega
 have i6:1≤n+1:=by omega
 go_still_tail 6,(by kernel_rfl)
 change wpList _ _ _ _ _ w.drew
 clear had
 refine wpList_append_own_spare (w:=w.drew) rfl (.tmp 22) (.tmp 25) 164 rfl 0 213 inf 2 Tryz.underlying164 hi1 hi2 g 0 cap [] rfl (qY HX.out.1 (Chg.drew (λ_=>False) w) (λ_ _ e=>e)) ad n (cap-1) X rfl HX.out.2.1 HN.out HX.out.2.2.2 (by omega) (λw2 hown hgr=>?_)
 rw[Nat.zero_add,List.nil_append] at hown
 rw[Nat.zero_add]
 clear hi1 hi2 HN
 have hcl:∀j:Nat,j<1*2→(w2.cell? ⟨g,n*2+j,none⟩).isSome=true:=λj hj=>own_some hown _ (by omega)
 have hfr:∀o:Nat,o<1*2→w2.frozen? ⟨g,n*2+o,none⟩=false:=λo _=>zJ hown _
 obtain⟨zs,hzl,hrun⟩:=run_clearS (P:=Tryz.prog) w2 164 213 0 (.agg #[.int .i64 0,.slice none 0 0]) 2 Tryz.underlying164 zero213 rfl (by omega) (by intro u hu;simp[Value.cells] at hu;rcases hu with rfl|rfl <;> rfl) g (n*2) 1 (cap-n) (by omega) hcl hfr
 have hcut:=own_cut hown (Nat.le_refl n) zs
 rw[List.take_of_length_le (by rw[HX.out.2.1];exact Nat.le_refl _)] at hcut
 have HC:=qQ hcut
 have HG:=qQ (((Chg.drew (λk=>k=g) w).trans (qH (S:=λk=>k=g) hgr (λk e=>by cases e;rfl))).trans (chg_setCells g zs (n*2) w2))
 have j1:¬cap=n:=by omega
 have j2:¬cap≤n:=by omega
 have j3:(n:Int)≤(n:Int)+1:=by omega
 clear hcl hfr hcut hown hgr HX
 go_wp2_with fail
 go_ret
 exact⟨_,rfl,HC.out,HG.out.mono (λk _ e=>by rw[show k=g from e];rfl),rfl⟩
def PQTake(w:World)(b:Nat)(most lost:Int)(v:Value)(qs:List QE)(L:List Int)(en:Ending)(w':World):Prop:=
 ∃x v',en= .returned (.tuple #[x,.bool true])∧w'.ownsRow w.heap.size 5 1 x L.length (L.map V8)∧Qb w' b most v' lost qs∧v'.ownBlock=v.ownBlock∧Chg (λk=>k=b∨v.ownBlock=some k) w w'
theorem qtake_any(w:World)(b:Nat)(most lost:Int)(v:Value)(p:QE)(ps:List QE)(h:Qb w b most v lost (p::ps))(hn:ps.length≤900)(hb:∀q∈p::ps,BS w w.heap.size q.2.1 q.2.2)(hL:p.2.2.length≤100000):
  Calls Tryz.prog 117 #[.pointer (some ⟨b,0,none⟩),.int .i64 0] w (PQTake w b most lost v ps p.2.2):=by
 have HA:=qQ (qat_any w b most lost v p ps h (by simp;omega) (hb p (List.mem_cons_self ..)) hL)
 have HS:=qQ (show∀q∈ps,∃A n c,q.2.1= .slice A n c from λq hq=>by
  obtain⟨A,c,e,_⟩:=hb q (List.mem_cons_of_mem _ hq)
  exact⟨A,_,c,e⟩)
 have H:=qQ h
 have HN:=qQ hn
 obtain⟨L,hLe⟩:∃L,p.2.2=L:=⟨_,rfl⟩
 rw[hLe] at HA ⊢
 clear h hn hb hL hLe
 go_enter Tryz.func117,Tryz.ntmps117
 go_wp2_with fail
 with_reducible refine HA.out.mono ?_
 rintro en w1 ⟨x,rfl,hO,G⟩
 obtain⟨A1,n1,c1,rfl⟩:∃A n c,x= .slice A n c:=by rcases qD hO with ⟨e,_⟩|⟨g,cap,e,_⟩ <;> exact⟨_,_,_,e⟩
 have HO:=qQ (And.intro hO G)
 have H1:=qQ (H.out.kept G)
 have hc:=H1.out.c1
 have hf:=H1.out.f 1
 have hv:=H1.out.val
 have HD:=qQ (qdel_any w1 v p ps H1.out.row (by have:=HN.out;omega) HS.out)
 obtain⟨vA,vc,hv⟩:=hv
 obtain⟨n,hnn⟩:∃n,(p::ps).length=n:=⟨_,rfl⟩
 rw[hnn] at hv
 have HV:=qQ hv
 rw[hv] at hc HD
 clear hO G HA hv hnn
 go_wp2_with fail
 with_reducible refine HD.out.mono ?_
 rintro en w2 ⟨v',rfl,hR,G2,hvb⟩
 obtain⟨A',n',c',rfl⟩:∃A n c,v'= .slice A n c:=by rcases qD hR with ⟨e,_⟩|⟨g,cap,e,_⟩ <;> exact⟨_,_,_,e⟩
 have hne:∀k,(Value.slice vA n vc).ownBlock=some k→k≠b:=λk hk=>H.out.ne (by rw[HV.out];exact hk)
 have hbk:=Chg.keep G2 H1.out.blk (λe=>hne b e rfl)
 have hf2:w2.frozen? ⟨b,1,none⟩=false:=qK hbk 1
 have hc2:=qJ hbk 1
 have hc2:w2.cell? ⟨b,1,none⟩=some v:=hc2
 have HX:=qQ (And.intro hR (And.intro G2 (And.intro hvb (And.intro hne hbk))))
 clear hR G2 hvb hne hbk HD hc hf
 go_wp2_with fail
 go_ret2
 have gs:=chg1 w2 b 1 (.slice A' n' c')
 have hvb':(Value.slice A' n' c').ownBlock=v.ownBlock:=by rw[HV.out];exact HX.out.2.2.1
 refine⟨_,_,rfl,qY (qY HO.out.1 HX.out.2.1 (λj hj e=>?_)) gs (λj hj e=>?_),⟨qB HX.out.2.2.2.2 1 (.slice A' n' c'),qY HX.out.1 gs (λj hj e=>?_)⟩,hvb',(HO.out.2.none.trans (HX.out.2.1.mono (λk _ e=> .inr (by rw[HV.out];exact e)))).trans (gs.mono (λk _ e=> .inl e))⟩
 ·have h1:=(qT HO.out.1 hj).1
  have h2:=(qg H.out.row (show v.ownBlock=some j by rw[HV.out];exact e)).2
  omega
 ·have h1:=(qT HO.out.1 hj).1
  have h2:=qX H.out.blk
  have e:j=b:=e
  omega
 ·have e:j=b:=e
  exact H.out.ne (hvb'▸hj) e
theorem ElQ:ElS 164 213 2 32:=ElS.of (z:= .agg #[.int .i64 0,.slice none 0 0]) (by kernel_rfl) (by kernel_rfl) (by decide+kernel) (by decide)
def PQFull(w:World)(b:Nat)(most:Int)(v:Value)(ps:List QE)(en:Ending)(w':World):Prop:=
 en= .returned (.bool false)∧∃lost',0≤lost'∧lost'≤1000000∧Qb w' b most v lost' ps∧Chg (λk=>k=b) w w'
def PQPut(w:World)(b:Nat)(most lost:Int)(v:Value)(ps:List QE)(tt:Int)(L:List Int)(en:Ending)(w':World):Prop:=
 en= .returned (.bool true)∧∃x' v',w'.ownsRow w.heap.size 5 1 x' L.length (L.map V8)∧Qb w' b most v' lost (ps++[(tt,x',L)])∧(v'.ownBlock=v.ownBlock∨∃k,v'.ownBlock=some k∧w.heap.size≤k)∧Chg (λk=>k=b∨v.ownBlock=some k) w w'
theorem qput_full(w:World)(b:Nat)(most lost:Int)(v xv:Value)(ps:List QE)(tt:Int)(h:Qb w b most v lost ps)(hf:most≤ps.length)(hl:0≤lost∧lost≤1000000)(hn:ps.length≤1000):
  Calls Tryz.prog 80 #[.pointer (some ⟨b,0,none⟩),.int .i64 tt,xv] w (PQFull w b most v ps):=by
 have c0:=h.c0
 have c1:=h.c1
 have c2:=h.c2
 have f2:=h.f 2
 have H:=qQ h
 obtain⟨A,cap,hv⟩:=h.val
 rw[hv] at c1
 obtain⟨n,hnn⟩:∃n,ps.length=n:=⟨_,rfl⟩
 rw[hnn] at c1 hf hn hv
 have i1:decide ((n:Int)≥most)=true:=by simpa using hf
 have i2:IntKind.i64.wrap (lost+1)=lost+1:=by rw[IntWalk.i64_in _ (by omega)]
 have HL:=qQ hl
 clear h hv hnn hn
 go_enter Tryz.func80,Tryz.ntmps80
 go_wp2_with fail
 with_reducible refine wp_region_still_lit (by kernel_rfl) (by kernel_rfl) ?_
 repeat (with_reducible refine wpStill_step (λK hK=>?_);go_simp;with_reducible refine hK _ ?_;clear hK K)
 with_reducible refine wpStill_nil ?_
 change Exit.then _ _ _ _ w.drew
 have H2:=qQ (H.out.kept (Chg.drew _ w))
 clear c0 c1 c2 f2
 have c2:=H2.out.c2
 have f2:=H2.out.f 2
 clear hl
 rcases (by have:=HL.out;omega:lost+1<1000000∨lost+1=1000000∨lost+1=1000001) with h1|h1|h1
 all_goals
  go_wp2_with fail
  go_ret
 ·exact⟨rfl,lost+1,by have:=HL.out;omega,by omega,⟨qB H2.out.blk 2 _,qY H2.out.row (chg1 _ b 2 _) (λj hj e=>H.out.ne hj e)⟩,(Chg.drew _ _).trans (chg1 _ b 2 _)⟩
 ·exact⟨rfl,1000000,by omega,by omega,⟨qB H2.out.blk 2 _,qY H2.out.row (chg1 _ b 2 _) (λj hj e=>H.out.ne hj e)⟩,(Chg.drew _ _).trans (chg1 _ b 2 _)⟩
 ·exact⟨rfl,1000000,by omega,by omega,⟨qB H2.out.blk 2 _,qY H2.out.row (chg1 _ b 2 _) (λj hj e=>H.out.ne hj e)⟩,(Chg.drew _ _).trans (chg1 _ b 2 _)⟩
theorem qput_fin{w wp w5:World}{b n cap g5 cap5 B:Nat}{most lost tt:Int}{v x:Value}{ps:List QE}{L:List Int}{A:Option Addr}(h:Qb w b most v lost ps)(hv:v= .slice A n cap)(hn:ps.length=n)
  (g1:Chg (λ_=>False) w wp) (o1:wp.ownsRow w.heap.size 5 1 x L.length (L.map V8)) (g5':Chg (λk=>(Value.slice A n cap).ownBlock=some k) wp w5)
  (o5:w5.ownsRow 0 213 2 (.slice (some ⟨g5,0,none⟩) (n+1) cap5) (n+1) (ps.flatMap vr++[.int .i64 tt,x])) (hat:(Value.slice A n cap).ownBlock=some g5∨g5=B) (hB:w.heap.size≤B):
  ∃x' v',(w5.setCell ⟨b,1,none⟩ (.slice (some ⟨g5,0,none⟩) (n+1) cap5)).ownsRow w.heap.size 5 1 x' L.length (L.map V8)∧Qb (w5.setCell ⟨b,1,none⟩ (.slice (some ⟨g5,0,none⟩) (n+1) cap5)) b most v' lost (ps++[(tt,x',L)])∧
   (v'.ownBlock=v.ownBlock∨∃k,v'.ownBlock=some k∧w.heap.size≤k)∧Chg (λk=>k=b∨v.ownBlock=some k) w (w5.setCell ⟨b,1,none⟩ (.slice (some ⟨g5,0,none⟩) (n+1) cap5)):=by
 subst hv
 have gs:=chg1 w5 b 1 (.slice (some ⟨g5,0,none⟩) (n+1) cap5)
 have hlb:=qX h.blk
 have hgb:g5≠b:=by
  rcases hat with e|e
  ·exact h.ne e
  ·omega
 have hb5:=Chg.keep g5' (Chg.keep g1 h.blk (λe=>e)) (λe=>h.ne e rfl)
 refine⟨x,_,qY (qY o1 g5' (λj hj e=>?_)) gs (λj hj e=>?_),⟨qB hb5 1 _,?_⟩,?_,(g1.none.trans (g5'.mono (λk _ e=> .inr e))).trans (gs.mono (λk _ e=> .inl e))⟩
 ·have h1:=(qT o1 hj).1
  have h2:=(qg h.row e).2
  omega
 ·have h1:=(qT o1 hj).1
  have e:j=b:=e
  omega
 ·rw[List.flatMap_append,List.length_append,hn]
  exact qY o5 gs (λj hj e=>by cases hj;exact hgb e)
 ·rcases hat with e|e
  ·exact .inl e.symm
  ·exact .inr ⟨g5,rfl,by omega⟩
theorem qput_any(w:World)(b:Nat)(most lost:Int)(v xv:Value)(ps:List QE)(tt:Int)(L:List Int)(h:Qb w b most v lost ps)(hf:ps.length<most)(hb:BS w w.heap.size xv L)(hL:L.length≤100000)(hn:ps.length≤1000):
  Calls Tryz.prog 80 #[.pointer (some ⟨b,0,none⟩),.int .i64 tt,xv] w (PQPut w b most lost v ps tt L):=by
 have c0:=h.c0
 have c1:=h.c1
 have H:=qQ h
 have HBB:=qQ hb
 have HC:=qQ (show∀W,Chg (λ_=>False) w W→Calls Tryz.prog 41 #[xv] W (PNew V8 5 W L) from λW g=>by
  obtain⟨A,c,e,h1,h2,_⟩:=(hb.kept g).more g.size
  rw[e];exact clone8_any W A L.length c L h1 h2 hL)
 obtain⟨A,cap,hv⟩:=h.val
 obtain⟨xA,xc,hxv,_⟩:=hb
 obtain⟨xn,hxn⟩:∃n,n=L.length:=⟨_,rfl⟩
 rw[←hxn] at hxv
 obtain⟨n,hnn⟩:∃n,ps.length=n:=⟨_,rfl⟩
 rw[hnn] at hf hn hv
 have HV:=qQ (And.intro hv hnn)
 rw[hv] at c1
 subst hxv
 have i1:decide ((n:Int)≥most)=false:=by simp;omega
 have i2:¬most≤(n:Int):=by omega
 have HN:=qQ hn
 clear h hv hnn hn hL hxn hf
 go_enter Tryz.func80,Tryz.ntmps80
 go_wp2_with fail
 with_reducible refine wp_region_still_lit (by kernel_rfl) (by kernel_rfl) ?_
 repeat (with_reducible refine wpStill_step (λK hK=>?_);go_simp;with_reducible refine hK _ ?_;clear hK K)
 with_reducible refine wpStill_nil ?_
 change Exit.then _ _ _ _ w.drew
 have H2:=qQ (H.out.kept (Chg.drew _ w))
 clear c0 c1
 have c1:=H2.out.c1
 have f1:=H2.out.f 1
 rw[HV.out.1] at c1
 go_upto_region 6 with fail
 go_cut [] (λwx=>∃x' v',wx.ownsRow w.heap.size 5 1 x' L.length (L.map V8)∧Qb wx b most v' lost (ps++[(tt,x',L)])∧(v'.ownBlock=v.ownBlock∨∃k,v'.ownBlock=some k∧w.heap.size≤k)∧Chg (λk=>k=b∨v.ownBlock=some k) w wx)
 case first=>
  have HROW:=qQ (show w.ownsRow 0 213 2 (.slice A n cap) n (ps.flatMap vr) from by
   have:=H.out.row
   rw[HV.out.1,HV.out.2] at this
   exact this)
  have HLN:=qQ (show n+1≤maxLen∧(n+1)*32≤140737488355328 by have:=HN.out;unfold maxLen;omega)
  have HNE:=qQ (show∀k,(Value.slice A n cap).ownBlock=some k→k≠b from λk hk=>H.out.ne (by rw[HV.out.1];exact hk))
  obtain⟨ei,z,i1',i2',i3',i4',i5',i6'⟩:=ElQ.2
  have HEI:=qQ (And.intro i1' (And.intro i2' (And.intro i3' (And.intro i4' (And.intro i5' i6')))))
  clear i1' i2' i3' i4' i5' i6' i1 i2
  go_region_law (first
   |(go_loud (refine step_append_lies (P:=Tryz.prog) _ (by rfl) (.tmp 32) (.tmp 37) 164 (by rfl) 0 213 ei z 2 32 Tryz.underlying164 HEI.out.1 HEI.out.2.1 HEI.out.2.2.1 HEI.out.2.2.2.1 HEI.out.2.2.2.2.1 HEI.out.2.2.2.2.2 (.slice A n cap) n (ps.flatMap vr) rfl (qY HROW.out (HG1.out.trans (Chg.alloc (λ_=>False) wp (.cells #[.int .i64 tt,.slice A1 n1 c1'] 213))) (λ_ _ e=>e)) ⟨wp.heap.size,0,none⟩ 1 1 [.int .i64 tt,.slice A1 n1 c1'] rfl rfl (World.news_of_block (w:=wp.alloc (.cells #[.int .i64 tt,.slice A1 n1 c1'] 213)) (qV wp (.cells #[.int .i64 tt,.slice A1 n1 c1'] 213))) HONE.out (by omega) HLN.out.1 HLN.out.2 (Nat.zero_le _) (wp.heap.size+1) (by simp) ?_)
     intro g5 cap5 w5 hown5 hgr5 hat5 hlt5
     have G5:Chg (λk=>(Value.slice A n cap).ownBlock=some k) wp w5:=(Chg.alloc _ wp (.cells #[.int .i64 tt,.slice A1 n1 c1'] 213)).trans (qH hgr5 (λj e=>e.symm▸rfl))
     have kb:=Chg.keep G5 HB1.out (λe=>HNE.out b e rfl)
     have k2:w5.cell? ⟨b,1,none⟩=some (.slice A n cap):=by rw[←HV.out.1];exact qJ kb 1
     have kf:w5.frozen? ⟨b,1,none⟩=false:=qK kb 1
     have HKB:=qQ kb
     have HG5:=qQ G5
     have HO5:=qQ (And.intro hown5 (And.intro hat5 hlt5))
     clear kb G5 hown5 hgr5 hat5 hlt5)
   |(go_simp;go_at_call 41;refine (HC.out _ (by first|exact Chg.drew _ _|exact (Chg.drew _ _).trans (Chg.drew _ _))).mono ?_;rintro en wp ⟨x1,rfl,O1,g1⟩
     obtain⟨A1,n1,c1',rfl⟩:∃A n c,x1= .slice A n c:=by rcases qD O1 with ⟨e,_⟩|⟨g,cap,e,_⟩ <;> exact⟨_,_,_,e⟩
     have HONE:=qQ (show∀u∈[Value.int .i64 tt,.slice A1 n1 c1'],u.oneCell'=true by intro u hu;simp at hu;rcases hu with rfl|rfl <;> rfl)
     have HG1:=qQ (show Chg (λ_=>False) w wp from (by first|exact (Chg.drew _ _).trans g1|exact ((Chg.drew _ _).trans (Chg.drew _ _)).trans g1))
     have HB1:=qQ (Chg.keep HG1.out H.out.blk (λe=>e))
     have c1p:wp.cell? ⟨b,1,none⟩=some (.slice A n cap):=by rw[←HV.out.1];exact qJ HB1.out 1
     have c1a:=qN c1p (.cells #[.int .i64 tt,.slice A1 n1 c1'] 213)
     have HO1:=qQ O1))
  all_goals
   go_wp2_with fail
   go_meet
   exact qput_fin H.out HV.out.1 HV.out.2 HG1.out HO1.out HG5.out HO5.out.1 HO5.out.2.1 (by have:=HG1.out.size;omega)
 case rest=>
  obtain⟨x',v',h1,h2,h3,h4⟩:=hcut
  have HX:=qQ (And.intro h1 (And.intro h2 (And.intro h3 h4)))
  clear h1 h2 h3 h4 c1 f1
  go_wp2_with fail
  go_ret
  exact⟨rfl,x',v',HX.out⟩
end Go.Proofs.YtnpihllannobgaaGreatDoor
