/- Steps of the proof, part H17. No condition. -/
import Derived.Test.YtnpihllannobgaaGreatDoorH15
import Derived.Test.YtnpihllannobgaaGreatDoorH09
import Derived.Test.YtnpihllannobgaaGreatDoorH11
import Derived.Deep.AppendLies
namespace Go.Proofs.YtnpihllannobgaaGreatDoor
set_option linter.unusedVariables false
set_option linter.unusedSimpArgs false
set_option maxRecDepth 100000
set_option maxHeartbeats 32000000
open Go.ChangeShapes Go.WideShapes Go.ChangeAt Go.RowKit
section
variable {w0 w w':World}{o0 o o':Cls}{c:Cfg}{i b:Nat}{s s':NSt}{r r':NR}
theorem zj(h:NAt w0 o0 c i b s w o r)(p:Pk)(lv dv:Value)(why:Int)(hp:PO w o lv dv p)(hn:s.ev.length≤1000):Calls Tryz.prog 69 #[.pointer (some ⟨b,0,none⟩),pkV p lv dv,.int .i64 why] w (PN w0 o0 c i b (evN s ⟨5,i,0,why,p⟩) (λv _ _=>v= .tuple #[])):=by
 obtain⟨S,D,N,Lf,P,T⟩:=p
 obtain⟨pA,pc,hlv,_⟩:=hp.1
 obtain⟨⟨dA,dc,hdv,_⟩,_⟩:=hp.2
 obtain⟨pn,hpn⟩:∃n,n=P.length:=⟨_,rfl⟩
 obtain⟨tn,htn⟩:∃n,n=T.length:=⟨_,rfl⟩
 dsimp only at hlv hdv
 rw[←hpn] at hlv
 rw[←htn] at hdv
 subst hlv hdv
 obtain⟨w1,hw1⟩:=qZ (w.alloc (.cells #[.int .i64 S,.int .i64 D,.int .i64 N,.int .i64 Lf,.slice pA pn pc,.slice dA tn dc] 42))
 have hk:=h.kept (w':=w1) (by rw[hw1];exact Chg.alloc _ _ _)
 have hb1:w1.heap[w.heap.size]? =some (.cells #[.int .i64 S,.int .i64 D,.int .i64 N,.int .i64 Lf,.slice pA pn pc,.slice dA tn dc] 42 (0,0)):=by rw[hw1];exact qV _ _
 have hp1:PO w1 o (.slice pA pn pc) (.slice dA tn dc) ⟨S,D,N,Lf,P,T⟩:=hp.keep (by rw[hw1];exact Chg.alloc (λ_=>False) _ _) (λ_ _ e=>e)
 obtain⟨d0,d1,d2,d3,d4,d5⟩:=qC hb1
 have HP:=qQ hp1
 have HW1:=qQ hw1
 clear hp hpn htn hb1 hp1 h hw1
 have h:=hk
 clear hk
 have c1:w1.cell? ⟨b,9,none⟩=some (.int .i64 i):=h.cell 9
 have c2:w1.cell? ⟨b,31,none⟩=some r.ev:=h.cell 31
 have f2:w1.frozen? ⟨b,31,none⟩=false:=h.f 31
 have H:=qQ h
 have hlb:=qX h.nd.blk
 obtain⟨A,cap,hev⟩:=h.evrow
 rw[hev] at c2
 obtain⟨F,hF⟩:=qZ (evN s ⟨5,i,0,why,⟨S,D,N,Lf,P,T⟩⟩)
 rw[←hF]
 have HF:=qQ hF
 obtain⟨n,hln⟩:=qZ s.ev.length
 rw[←hln] at c2 hn hev
 have HV:=qQ (And.intro hev hln)
 obtain⟨ps,e1,e2,e3,e4⟩:=h.nd.np.2.2.2.2.2.2.2.2.2.2
 have hpl:ps.length=n:=by rw[hln,e4,List.length_map]
 rw[hpl,hev] at e1
 have HROW:=qQ e1
 have HPL:=qQ (And.intro e3 e4)
 have hnb:∀k,(Value.slice A n cap).ownBlock=some k→k≠b:=λk hk e=>by
  rw[←hev] at hk
  have h1:=e2 k hk;rw[e,h.nd.ob] at h1;have:=(qy h1 (by omega) (by omega)).2;omega
 have HNB:=qQ hnb
 obtain⟨ei,z,i1,i2,i3,i4,i5,i6⟩:=ElV.2
 have hEI:=qQ (And.intro i1 (And.intro i2 (And.intro i3 (And.intro i4 (And.intro i5 i6)))))
 clear i1 i2 i3 i4 i5 i6
 obtain⟨ob,hob⟩:=qZ (Obj.cells #[Value.int .i64 5,.int .i64 i,.int .i64 0,.int .i64 why,.int .i64 S,.int .i64 D,.int .i64 N,.int .i64 Lf,.slice pA pn pc,.slice dA tn dc] 44)
 have HONE:=qQ (show∀u∈[Value.int .i64 5,.int .i64 i,.int .i64 0,.int .i64 why,.int .i64 S,.int .i64 D,.int .i64 N,.int .i64 Lf,.slice pA pn pc,.slice dA tn dc],u.oneCell'=true by intro u hu;simp at hu;rcases hu with rfl|rfl|rfl|rfl|rfl|rfl|rfl|rfl|rfl|rfl <;> rfl)
 have HLN:=qQ (show n+1≤maxLen∧(n+1)*112≤140737488355328 by unfold maxLen;omega)
 have c2a:=qL c2 ob
 rw[hob] at c2a
 clear h hev hln e1 e2 e3 e4 hF hpl hob ob hnb
 go_enter Tryz.func69,Tryz.ntmps69
 unfold pkV
 go_upto_region 1 with fail
 rw[←HW1.out]
 clear HW1
 go_region_law
  ((
   refine step_append_lies (P:=Tryz.prog) _ (by rfl) (.tmp 10) (.tmp 18) 29 (by rfl) 0 44 ei z 10 112 Tryz.underlying29 hEI.out.1 hEI.out.2.1 hEI.out.2.2.1 hEI.out.2.2.2.1 hEI.out.2.2.2.2.1 hEI.out.2.2.2.2.2 (.slice A n cap) n (ps.flatMap z6) rfl (qY HROW.out ((Chg.alloc (λ_=>False) w1 (.cells #[.int .i64 5,.int .i64 i,.int .i64 0,.int .i64 why,.int .i64 S,.int .i64 D,.int .i64 N,.int .i64 Lf,.slice pA pn pc,.slice dA tn dc] 44)).trans (Chg.drew _ _)) (λ_ _ e=>e)) ⟨w1.heap.size,0,none⟩ 1 1 [.int .i64 5,.int .i64 i,.int .i64 0,.int .i64 why,.int .i64 S,.int .i64 D,.int .i64 N,.int .i64 Lf,.slice pA pn pc,.slice dA tn dc] rfl rfl (World.news_of_block (w:=(w1.alloc (.cells #[.int .i64 5,.int .i64 i,.int .i64 0,.int .i64 why,.int .i64 S,.int .i64 D,.int .i64 N,.int .i64 Lf,.slice pA pn pc,.slice dA tn dc] 44)).drew) (qV w1 (.cells #[.int .i64 5,.int .i64 i,.int .i64 0,.int .i64 why,.int .i64 S,.int .i64 D,.int .i64 N,.int .i64 Lf,.slice pA pn pc,.slice dA tn dc] 44))) HONE.out (by omega) HLN.out.1 HLN.out.2 (Nat.zero_le _) (w1.heap.size+1) (by simp) ?_
   intro g5 cap5 w5 hown5 hgr5 hat5 hlt5
   have G5:Chg (λk=>(Value.slice A n cap).ownBlock=some k) w1 w5:=((Chg.alloc _ w1 (.cells #[.int .i64 5,.int .i64 i,.int .i64 0,.int .i64 why,.int .i64 S,.int .i64 D,.int .i64 N,.int .i64 Lf,.slice pA pn pc,.slice dA tn dc] 44)).trans (Chg.drew _ _)).trans (qH hgr5 (λj e=>e.symm▸rfl))
   have kb:=Chg.keep G5 H.out.nd.blk (λe=>HNB.out b e rfl)
   have k2:w5.cell? ⟨b,31,none⟩=some (.slice A n cap):=by rw[qJ kb];exact congrArg some HV.out.1
   have kf:w5.frozen? ⟨b,31,none⟩=false:=qK kb 31
   have HKB:=qQ kb
   have HG5:=qQ G5
   have HO5:=qQ (And.intro hown5 (And.intro hat5 hlt5))
   clear kb G5 hown5 hgr5 hat5 hlt5))
 all_goals
  go_wp2_with fail
  go_end0
  obtain⟨o',r',hN⟩:=H.out.told ⟨5,i,0,why,⟨S,D,N,Lf,P,T⟩⟩ (.slice pA pn pc) (.slice dA tn dc) g5 cap5 n w5 (by rw[HV.out.1];exact HG5.out) HV.out.2 ps HPL.out.1 HPL.out.2 HO5.out.1
   (by rw[HV.out.1];rcases HO5.out.2.1 with h|h;exact .inl h;right;omega) HO5.out.2.2 HP.out
  refine⟨_,o',r',rfl,?_,rfl⟩
  rw[HF.out]
  exact hN
end
end Go.Proofs.YtnpihllannobgaaGreatDoor
