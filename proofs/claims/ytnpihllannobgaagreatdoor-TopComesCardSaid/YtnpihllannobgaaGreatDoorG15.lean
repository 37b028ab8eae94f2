/- Steps of the proof, part G15. No condition. -/
import Derived.Test.YtnpihllannobgaaGreatDoorG14
namespace Go.Proofs.YtnpihllannobgaaGreatDoor
set_option linter.unusedVariables false
set_option linter.unusedSimpArgs false
set_option maxRecDepth 100000
set_option maxHeartbeats 32000000
open Go.ChangeShapes Go.WideShapes Go.ChangeAt Go.RowKit
def synN(s:NSt)(x:Bool):NSt:={s with synced:=x}
def adopt0N(s:NSt)(rk:Int):NSt:=kN (pN (synN s true) (some (rk+1,[]))) (some 0)
def adopt1N(s:NSt)(src rk now:Int):NSt:=pN (adopt0N s rk) (some (qy (rk+1) [] src rk now))
def adopt2N(i:Nat)(s:NSt)(src rk now ms:Int):NSt:=
 evN (evN (movesN i (evN (adopt1N s src rk now) ⟨1,i,src,0,pk0⟩) src ms) ⟨2,i,src,0,pk0⟩) ⟨6,i,src,0,pk0⟩
def adoptN(i:Nat)(c:Cfg)(s:NSt)(f:Fr)(rk now ms:Int):NSt:=
 if f.kind=3∧rk≤253∧c.loss<s.listened then adopt2N i s f.src rk now ms else s
section
variable {w0 w w':World}{o0 o o':Cls}{c:Cfg}{i b:Nat}{s s':NSt}{r r':NR}
theorem NAt.fresh2(h:NAt w0 o0 c i b s w o r)(w5:World)(G:Chg (λ_=>False) w w5)(pb kb:Nat)(rk:Int)(hpk:pb≠kb)(hp:w.heap.size≤pb)(hk:w.heap.size≤kb)
  (P:Ps w5 pb (.slice none 0 0) i rk []) (K:Kp w5 kb c.keep 0) (hr:0≤rk∧rk≤255):
  ∃o' r',∀w6,(w6=(w5.setCell ⟨b,19,none⟩ (.pointer (some ⟨pb,0,none⟩))).setCell ⟨b,20,none⟩ (.pointer (some ⟨kb,0,none⟩))∨w6=(w5.setCell ⟨b,20,none⟩ (.pointer (some ⟨kb,0,none⟩))).setCell ⟨b,19,none⟩ (.pointer (some ⟨pb,0,none⟩)))→NAt w0 o0 c i b (kN (pN s (some (rk,[]))) (some 0)) w6 o' r':=by
 have hlb:=qX h.nd.blk
 have hob:=h.nd.ob
 obtain⟨o',ho'⟩:∃o',o'=cls (cls o pb (cl i 6)) kb (cl i 7):=⟨_,rfl⟩
 have E:Ext w o o':=by rw[ho'];exact (Ext.cls o pb _ hp).trans (λk hk2=>cls_ne _ _ _ (by omega)) (Nat.le_refl _)
 have hz5:Z w5 o':=by rw[ho'];exact ((h.z.more G.size).cls _ (qX P.blk)).cls _ (qX K)
 have hpo:o' pb=cl i 6:=by rw[ho',cls_ne _ _ _ hpk,jp]
 have hko:o' kb=cl i 7:=by rw[ho',jp]
 have hpb:pb≠b:=by omega
 have hkb:kb≠b:=by omega
 refine⟨o',{r with pv:= .pointer (some ⟨pb,0,none⟩),kv:= .pointer (some ⟨kb,0,none⟩)},λw6 hw6=>?_⟩
 have hG:Chg (· =b) w5 w6∧w6.heap[b]? =some (.cells (((vt c i r s).setIfInBounds 19 (.pointer (some ⟨pb,0,none⟩))).setIfInBounds 20 (.pointer (some ⟨kb,0,none⟩))) 75 (0,0)):=by
  have hb0:=Chg.keep G h.nd.blk (λe=>e)
  rcases hw6 with hw6|hw6
  ·subst hw6
   exact⟨(chg1 w5 b 19 _).trans (chg1 _ b 20 _),qB (qB hb0 19 _) 20 _⟩
  ·subst hw6
   exact⟨(chg1 w5 b 20 _).trans (chg1 _ b 19 _),by rw[Array.setIfInBounds_comm _ _ (by omega)];exact qB (qB hb0 20 _) 19 _⟩
 obtain⟨g,hbk⟩:=hG
 have GA:Chg (· =b) w w6:=G.none.trans g
 have hn0:∀k,o k=0→¬k=b:=λk h1 e=>by subst e;rw[hob] at h1;exact qf i 0 h1
 have of:∀m,1≤m→m≤9→Off o (cl i m) (· =b):=λm h1 h2 k hk e=>by
  rcases hk with hk|hk
  ·exact hn0 k hk e
  ·subst e;have:=(zK (hob.symm.trans hk) (by omega) (by omega)).2;omega
 obtain⟨p1,p2,p3,p4,p5,p6,p7,p8,p9,pa,pb'⟩:=h.nd.np
 refine h.next ⟨hbk,by rw[E b hlb];exact hob,?_⟩ (hz5.more g.size) E (GA.mono (λq _ e=>⟨0,by omega,by rw[e];exact hob⟩))
 exact⟨p1.step E GA hn0,p2.step E GA hn0,p3.step E GA (of 1 (by omega) (by omega)),p4.step E GA (of 2 (by omega) (by omega)),p5.step E GA (of 3 (by omega) (by omega)),
   p6.step E GA (of 4 (by omega) (by omega)),p7.step E GA (of 5 (by omega) (by omega)),
   ⟨pb,.slice none 0 0,rfl,P.keep g (λk hk e=>hk.elim (λh=>by omega) (λh=>by cases h)),hpo,λk hk=>(by cases hk),hr.1,hr.2,Nat.zero_le _,List.Pairwise.nil⟩,
   ⟨kb,rfl,K.keep g hkb,hko,by omega,by omega⟩,pa.step E GA (of 8 (by omega) (by omega)),pb'.step E GA (of 9 (by omega) (by omega))⟩
theorem nadopt_any(hc:CfgOk c)(h:NAt w0 o0 c i b s w o r)(hi:i≤15)(f:Fr)(iA:Option Addr)(il ic:Nat)(dA:Option Addr)(dl dc:Nat)(rk now ms:Int)(hn:s.ev.length≤900)(hb: -1000000000000000≤s.base∧s.base≤1000000000000000)
  (hs:0≤f.src∧f.src≤15) (hm:f.src≠i) (hr:0≤rk∧rk≤255) (ht:0≤now):
  Calls Tryz.prog 106 #[.pointer (some ⟨b,0,none⟩),frV f (.slice iA il ic) (.slice dA dl dc),.int .i64 rk,.int .i64 now,.int .i64 ms] w (PN w0 o0 c i b (adoptN i c s f rk now ms) (λv _ _=>v= .tuple #[])):=by
 obtain⟨F,hF⟩:=qZ (adoptN i c s f rk now ms)
 rw[←hF]
 unfold adoptN at hF
 have HF:=qQ hF
 unfold frV
 have hba:=qV w (.cells #[.int .i64 f.kind,.int .i64 f.src,.int .i64 f.dst,.int .i64 f.seq,.slice iA il ic,.slice dA dl dc] 71)
 have ga:=Chg.alloc (λ_=>False) w (.cells #[.int .i64 f.kind,.int .i64 f.src,.int .i64 f.dst,.int .i64 f.seq,.slice iA il ic,.slice dA dl dc] 71)
 have HB:=qQ hba
 have H:=qQ (h.kept ga)
 have HLB:=qQ (qX h.nd.blk)
 have HZ0:=qQ (h.z _ (Nat.le_refl _))
 clear h hba ga hF
 go_enter Tryz.func106,Tryz.ntmps106
 go_wp2_with fail
 generalize hW:w.alloc (.cells #[.int .i64 f.kind,.int .i64 f.src,.int .i64 f.dst,.int .i64 f.seq,.slice iA il ic,.slice dA dl dc] 71)=w1 at *
 have HT:=H
 have HBK:=qQ (show∀W s' o' r',NAt w1 o c i b s' W o' r'→W.heap[w.heap.size]? =some (.cells #[.int .i64 f.kind,.int .i64 f.src,.int .i64 f.dst,.int .i64 f.seq,.slice iA il ic,.slice dA dl dc] 71 (0,0)) from
  λW s' o' r' hN=>Chg.keep hN.chg HB.out (λe=>by obtain⟨j,_,e⟩:=e;rw[HZ0.out] at e;exact qf i j e.symm))
 have H:=qQ (NAt.start HT.out.nd HT.out.z)
 obtain⟨d0,d1,d2,d3,d4,d5⟩:=qC HB.out
 have c1:w1.cell? ⟨b,21,none⟩=some (.int .i64 s.listened):=H.out.cell 21
 have c2:w1.cell? ⟨b,6,none⟩=some (.int .i64 c.loss):=H.out.cell 6
 obtain⟨I,F1,hI,hF1,hFA⟩:=clsF w1
 have e0:=qF hF1 d0
 have e2:=qF hF1 c1
 have e3:=qF hF1 c2
 have e4:=qF hF1 d1
 have e5:=qF hF1 d2
 have HFF:=qQ hF1
 have HFA:=qQ (hFA _ (Chg.drew _ _))
 clear hF1 hFA d0 d1 d2 d3 d4 d5 c1 c2
 by_cases hk:f.kind=3
 ·have t1:(f.kind != 3)=false:=by simp[hk]
  by_cases hr2:rk≤253
  ·have t2:decide (253<rk)=false:=by simp;omega
   by_cases hl:c.loss<s.listened
   ·have t3:decide (s.listened≤c.loss)=false:=by simp;omega
    with_reducible refine qW F1 (by kernel_rfl) (by kernel_rfl) HFA.out ?_
    repeat (with_reducible refine wpQuiet_step (λK hK=>?_);go_simp;(with_reducible refine hK _ ?_;clear hK K))
    with_reducible refine wpQuiet_nil ?_
    intro _ hw'
    obtain⟨nq,rfl⟩:=hw'
    have H2:=qQ (H.out.kept (HFF.out nq))
    clear e0 e2 e3 e4 e5 HFA hI
    generalize F1 nq=w2 at *
    have HF2:=qQ (HF.out.trans (if_pos ⟨hk,hr2,hl⟩))
    have f18:=H2.out.f 18
    have c18:w2.cell? ⟨b,18,none⟩=some (.bool s.synced):=H2.out.cell 18
    go_wp2_with fail
    have HS:=qQ (H2.out.set (r':=r) (s':=synN s true) 18 (.bool true) rfl H2.out.nd.np)
    generalize w2.setCell ⟨b,18,none⟩ (.bool true)=w3 at *
    clear f18 c18 H2 t1 t2 t3
    obtain⟨s3,hs3⟩:=qZ (synN s true)
    have hks:=hc.k
    have HP:=qQ (λW=>psnew_any i (rk+1) (by omega) (by omega) W)
    have HK:=qQ (λW=>kpnew_any c.keep hc.k.1 hc.k.2 W)
    have HC:=qQ (Chg.drew (λ_=>False) w3)
    have c9:w3.cell? ⟨b,9,none⟩=some (.int .i64 i):=HS.out.cell 9
    have c5:w3.cell? ⟨b,5,none⟩=some (.int .i64 c.keep):=HS.out.cell 5
    have c19:w3.cell? ⟨b,19,none⟩=some r.pv:=HS.out.cell 19
    have c20:w3.cell? ⟨b,20,none⟩=some r.kv:=HS.out.cell 20
    have e1:IntKind.i64.wrap (rk+1)=rk+1:=IntWalk.i64_in _ (by omega)
    have HSIX:=qQ (show∀W,Chg (λ_=>False) w3 W→W.cell? ⟨b,9,none⟩=some (.int .i64 i)∧W.cell? ⟨b,5,none⟩=some (.int .i64 c.keep)∧W.cell? ⟨b,19,none⟩=some r.pv∧W.cell? ⟨b,20,none⟩=some r.kv∧W.frozen? ⟨b,19,none⟩=false∧W.frozen? ⟨b,20,none⟩=false from
     λW g=>⟨(HS.out.kept g).cell 9,(HS.out.kept g).cell 5,(HS.out.kept g).cell 19,(HS.out.kept g).cell 20,(HS.out.kept g).f 19,(HS.out.kept g).f 20⟩)
    go_cut [] (λwx=>(∃o' r',NAt w1 o c i b (adopt0N s rk) wx o' r'))
    case first=>
     go_region_with (first
      |(go_at_call 156;refine (HP.out _).mono ?_;rintro en wp ⟨pb,rfl,hP,hlp,gp⟩
        have HC:=qQ (HC.out.trans gp)
        obtain⟨c9,c5,c19,c20,f19,f20⟩:=HSIX.out _ HC.out)
      |(go_at_call 157;refine (HK.out _).mono ?_;rintro en wk ⟨kb,rfl,hK,hlk,gk⟩
        have HC:=qQ (HC.out.trans gk)
        obtain⟨c9,c5,c19,c20,f19,f20⟩:=HSIX.out _ HC.out))
     all_goals
      go_wp2_with fail
      go_meet
      first
       |(have s1:w3.heap.size≤pb:=hlp
         have s2:w3.heap.size≤kb:=Nat.le_trans (show w3.heap.size≤wp.heap.size from gp.size) hlk
         obtain⟨o',r',hN⟩:=HS.out.fresh2 wk HC.out pb kb (rk+1) (by have:=qX hP.blk;omega) s1 s2 (hP.kept gk) hK ⟨by omega,by omega⟩
         exact⟨o',r',hN _ (.inl rfl)⟩)
       |(have s1:w3.heap.size≤kb:=hlk
         have s2:w3.heap.size≤pb:=Nat.le_trans (show w3.heap.size≤wk.heap.size from gk.size) hlp
         obtain⟨o',r',hN⟩:=HS.out.fresh2 wp HC.out pb kb (rk+1) (by have:=qX hK;omega) s2 s1 hP (hK.kept gp) ⟨by omega,by omega⟩
         exact⟨o',r',hN _ (.inl rfl)⟩)
    case rest=>
     obtain⟨o4,r4,h4⟩:=hcut
     have H4:=qQ h4
     have hpo:=h4.nd.np.2.2.2.2.2.2.2.1
     obtain⟨pb,row,e1,hP,hq1,hq2,hR0,hR1,hL,hS⟩:=(show Po wc o4 (cl i 6) r4.pv i (some (rk+1,[])) from hpo)
     have c19:wc.cell? ⟨b,19,none⟩=some r4.pv:=h4.cell 19
     rw[e1] at c19
     have HH:=qQ (λW (g:Chg (λ_=>False) wc W)=>pshear_any W pb row i (rk+1) [] f.src rk now (hP.kept g) hL hS hs hm hr ht ⟨hR0,hR1⟩)
     have HPS:=qQ (λW (g:Chg (λ_=>False) wc W) w' v' g2 P hn=>(h4.kept g).pset (w':=w') (v':=v') e1 hq1 hq2 g2 P hn (hearL_R (rk+1) [] f.src rk now ⟨hR0,hR1⟩ hr.1) (hearL_len (rk+1) [] f.src rk now hL) (hearL_srt (rk+1) [] f.src rk now hS))
     obtain⟨k0,k1,_⟩:=qC (HBK.out _ _ _ _ h4)
     clear h4 c9 c5 c19 c20 HP HK HC HSIX HS hpo hP hq1 hq2 hR0 hR1 hL hS
     have c19:wc.cell? ⟨b,19,none⟩=some (.pointer (some ⟨pb,0,none⟩)):=e1▸H4.out.cell 19
     go_wp2_with fail
     go_still_tail 8,(by kernel_rfl)
     change wpList _ _ _ _ _ wc.drew
     go_wp2_with fail
     (with_reducible refine (HH.out _ (Chg.drew _ wc)).mono ?_)
     rintro en w5 ⟨t,v',rfl,hP2,hg2,hv2⟩
     obtain⟨o5,h5⟩:=HPS.out _ (Chg.drew _ wc) w5 v' hg2 hP2 hv2
     have h5:NAt w1 o c i b (adopt1N s f.src rk now) w5 o5 r4:=h5
     clear hP2 hg2 hv2 HPS HH H4 k0 k1 c19
     obtain⟨k0,k1,_⟩:=qC (HBK.out _ _ _ _ h5)
     have HV:=qQ (jC h5 1 f.src (by show s.ev.length≤1000;omega))
     clear h5
     go_wp2_with fail
     with_reducible refine HV.out.mono ?_
     rintro en w6 ⟨v,o6,r6,rfl,h6,rfl⟩
     clear k0 k1 HV
     obtain⟨k0,k1,_⟩:=qC (HBK.out _ _ _ _ h6)
     have HV:=qQ (nmoves_any h6 f.src ms (by show (s.ev++[_]).length≤1000;simp;omega) hb (by show some (0:Int)≠none;simp))
     clear h6
     go_wp2_with fail
     with_reducible refine HV.out.mono ?_
     rintro en w7 ⟨v,o7,r7,rfl,h7,rfl⟩
     clear k0 k1 HV
     obtain⟨k0,k1,_⟩:=qC (HBK.out _ _ _ _ h7)
     have HV:=qQ (jC h7 2 f.src (by show ((s.ev++[_])++[_]).length≤1000;simp;omega))
     clear h7
     go_wp2_with fail
     with_reducible refine HV.out.mono ?_
     rintro en w8 ⟨v,o8,r8,rfl,h8,rfl⟩
     clear k0 k1 HV
     obtain⟨k0,k1,_⟩:=qC (HBK.out _ _ _ _ h8)
     have HV:=qQ (jC h8 6 f.src (by show (((s.ev++[_])++[_])++[_]).length≤1000;simp;omega))
     clear h8
     go_wp2_with fail
     with_reducible refine HV.out.mono ?_
     rintro en w9 ⟨v,o9,r9,rfl,h9,rfl⟩
     clear k0 k1 HV
     have H9:=qQ h9
     clear h9
     go_wp2_with fail
     go_end0
     refine⟨_,o9,r9,rfl,?_,rfl⟩
     rw[HF2.out]
     exact HT.out.trans H9.out
   ·have t3:decide (s.listened≤c.loss)=true:=by simp;omega
    with_reducible refine qW F1 (by kernel_rfl) (by kernel_rfl) HFA.out ?_
    repeat (with_reducible refine wpQuiet_step (λK hK=>?_);go_simp;(with_reducible refine hK _ ?_;clear hK K))
    with_reducible refine wpQuiet_nil ?_
    intro _ hw'
    obtain⟨nq,rfl⟩:=hw'
    have H2:=qQ (H.out.kept (HFF.out nq))
    clear e0 e2 e3 e4 e5 HFF HFA hI H
    generalize F1 nq=w2 at *
    go_wp2_with fail
    go_end0
    refine⟨_,o,r,rfl,?_,rfl⟩
    rw[HF.out,if_neg (by omega)]
    exact HT.out.trans H2.out
  ·have t2:decide (253<rk)=true:=by simp;omega
   with_reducible refine qW F1 (by kernel_rfl) (by kernel_rfl) HFA.out ?_
   repeat (with_reducible refine wpQuiet_step (λK hK=>?_);go_simp;(with_reducible refine hK _ ?_;clear hK K))
   with_reducible refine wpQuiet_nil ?_
   intro _ hw'
   obtain⟨nq,rfl⟩:=hw'
   have H2:=qQ (H.out.kept (HFF.out nq))
   clear e0 e2 e3 e4 e5 HFF HFA hI H
   generalize F1 nq=w2 at *
   go_wp2_with fail
   go_end0
   refine⟨_,o,r,rfl,?_,rfl⟩
   rw[HF.out,if_neg (by omega)]
   exact HT.out.trans H2.out
 ·have t1:(f.kind != 3)=true:=by simp[hk]
  with_reducible refine qW F1 (by kernel_rfl) (by kernel_rfl) HFA.out ?_
  repeat (with_reducible refine wpQuiet_step (λK hK=>?_);go_simp;(with_reducible refine hK _ ?_;clear hK K))
  with_reducible refine wpQuiet_nil ?_
  intro _ hw'
  obtain⟨nq,rfl⟩:=hw'
  have H2:=qQ (H.out.kept (HFF.out nq))
  clear e0 e2 e3 e4 e5 HFF HFA hI H
  generalize F1 nq=w2 at *
  go_wp2_with fail
  go_end0
  refine⟨_,o,r,rfl,?_,rfl⟩
  rw[HF.out,if_neg (by omega)]
  exact HT.out.trans H2.out
end
section
variable {w0 w w':World}{o0 o o':Cls}{c:Cfg}{i b:Nat}{s s':NSt}{r r':NR}
theorem nback_none(h:NAt w0 o0 c i b s w o r)(f:Fr)(iA:Option Addr)(il ic:Nat)(dA:Option Addr)(dl dc:Nat)(now ms:Int)(hno:f.dst≠i∨(f.kind≠1∧f.kind≠4)):
  Calls Tryz.prog 108 #[.pointer (some ⟨b,0,none⟩),frV f (.slice iA il ic) (.slice dA dl dc),.int .i64 now,.int .i64 ms] w (PV (.slice none 0 0) w):=by
 unfold frV
 have hba:=qV w (.cells #[.int .i64 f.kind,.int .i64 f.src,.int .i64 f.dst,.int .i64 f.seq,.slice iA il ic,.slice dA dl dc] 71)
 have ga:=Chg.alloc (λ_=>False) w (.cells #[.int .i64 f.kind,.int .i64 f.src,.int .i64 f.dst,.int .i64 f.seq,.slice iA il ic,.slice dA dl dc] 71)
 have HB:=qQ hba
 have H:=qQ (h.kept ga)
 have HG:=qQ ga
 clear h hba ga
 go_enter Tryz.func108,Tryz.ntmps108
 go_wp2_with fail
 generalize hW:w.alloc (.cells #[.int .i64 f.kind,.int .i64 f.src,.int .i64 f.dst,.int .i64 f.seq,.slice iA il ic,.slice dA dl dc] 71)=w1 at *
 obtain⟨d0,d1,d2,d3,d4,d5⟩:=qC HB.out
 have c1:w1.cell? ⟨b,9,none⟩=some (.int .i64 i):=H.out.cell 9
 obtain⟨I,F1,hI,hF1,hFA⟩:=clsF w1
 have e0:=qF hF1 d0
 have e2:=qF hF1 d2
 have e3:=qF hF1 c1
 have HFF:=qQ hF1
 have HFA:=qQ (hFA _ (Chg.drew _ _))
 clear hF1 hFA d0 d1 d2 d3 d4 d5 c1
 by_cases hd:f.dst=i
 ·rcases hno with hno|⟨h1,h4⟩
  ·exact absurd hd hno
  have t1:(f.dst != (i:Int))=false:=by simp[hd]
  have t2:(f.kind != 1)=true:=by simp[h1]
  have t3:(f.kind != 4)=true:=by simp[h4]
  with_reducible refine qW F1 (by kernel_rfl) (by kernel_rfl) HFA.out ?_
  repeat ((with_reducible refine wpQuiet_step (λK hK=>?_));go_simp;(try (rw[if_neg];rotate_left;(intro h;cases h)));(with_reducible refine hK _ ?_);clear hK K)
  with_reducible refine wpQuiet_nil ?_
  intro _ hw'
  obtain⟨nq,rfl⟩:=hw'
  have H2:=qQ (HG.out.trans (HFF.out nq))
  clear e0 e2 e3 HFF HFA hI H
  generalize F1 nq=w2 at *
  go_wp2_with fail
  go_ret
  exact⟨rfl,H2.out⟩
 ·have t1:(f.dst != (i:Int))=true:=by simp[hd]
  with_reducible refine qW F1 (by kernel_rfl) (by kernel_rfl) HFA.out ?_
  repeat ((with_reducible refine wpQuiet_step (λK hK=>?_));go_simp;(try (rw[if_neg];rotate_left;(intro h;cases h)));(with_reducible refine hK _ ?_);clear hK K)
  with_reducible refine wpQuiet_nil ?_
  intro _ hw'
  obtain⟨nq,rfl⟩:=hw'
  have H2:=qQ (HG.out.trans (HFF.out nq))
  clear e0 e2 e3 HFF HFA hI H
  generalize F1 nq=w2 at *
  go_wp2_with fail
  go_ret
  exact⟨rfl,H2.out⟩
end
theorem vp(L:List Int):((decF L).1=0∧mayF (decF L).2=true)∨((decF L).1≠0∧(decF L).2=fr0):=by
 unfold decF
 by_cases h1:L.length<9
 ·right;simp[h1]
 ·rw[if_neg h1]
  by_cases h2:(!jj L)=true
  ·right;simp[h2]
  ·rw[if_neg h2]
   generalize readF ⟨L.take (L.length-2),0⟩=x
   obtain⟨first,f,els,s⟩:=x
   simp only[]
   by_cases h3:first≠197∨rEnd s≠0
   ·right;rw[if_pos h3];simp
   ·rw[if_neg h3]
    generalize decI els=y
    obtain⟨e,ies⟩:=y
    simp only[]
    by_cases h4:e≠0
    ·right;rw[if_pos h4];exact⟨h4,rfl⟩
    ·rw[if_neg h4]
     by_cases h5:mayF {f with ies:=ies}=true
     ·left;rw[if_pos h5];exact⟨rfl,h5⟩
     ·right;rw[if_neg h5];simp
theorem mayF_ies{f:Fr}(h:mayF f=true):f.ies.length≤100000∧∀e∈f.ies,e.list.length≤100000:=by
 obtain⟨h1,h2,_⟩:=kV h
 refine⟨by omega,λe he=>?_⟩
 have h3:=h2 e he
 unfold mayE at h3
 simp only[Bool.and_eq_true,decide_eq_true_eq] at h3
 obtain⟨h4,h5,h6⟩:=h3
 unfold zC at h5
 unfold plainE at h6
 by_cases k1:e.kind=1
 ·rw[if_pos k1] at h6;rw[h6];simp
 ·rw[if_neg k1] at h5 h6
  by_cases k2:e.kind=2
  ·rw[if_pos k2] at h6;rw[h6];simp
  ·rw[if_neg k2] at h5
   simp only[Bool.and_eq_true,decide_eq_true_eq] at h5
   omega
theorem rankF_bd{f:Fr}(h:mayF f=true)(now:Int):0≤(zV f now).1∧(zV f now).1≤255:=by
 obtain⟨h1,h2,_⟩:=kV h
 unfold zV
 cases hf:zH f.ies 1 with
 |none=>simp
 |some e=>
  have h3:=h2 e (List.mem_of_find?_eq_some hf)
  have hk:=List.find?_some hf
  simp only[beq_iff_eq] at hk
  unfold mayE at h3
  simp only[Bool.and_eq_true,decide_eq_true_eq] at h3
  obtain⟨h4,h5,h6⟩:=h3
  unfold zC at h5
  rw[if_pos hk] at h5
  simp only[Bool.and_eq_true,inR,decide_eq_true_eq] at h5
  exact h5.2
def goodF(i:Nat)(c:Cfg)(x:Int×Fr):Bool:=x.1==0&&(inR x.2.src 0 ((c.nodes:Int)-1)&& !(x.2.src==(i:Int)))
def hear2N(i:Nat)(s:NSt)(f:Fr)(rk now ms:Int)(B:NSt→NSt):NSt:=
 if i=0 then B (evN s ⟨1,i,f.src,0,pk0⟩) else
 if qM (qq i (evN s ⟨1,i,f.src,0,pk0⟩) f.src rk now ms)=64 then qq i (evN s ⟨1,i,f.src,0,pk0⟩) f.src rk now ms else B (qq i (evN s ⟨1,i,f.src,0,pk0⟩) f.src rk now ms)
def zy(i:Nat)(c:Cfg)(s:NSt)(x:Int×Fr)(now ms:Int)(B:NSt→NSt):NSt:=
 if goodF i c x&&(zV x.2 now).2 then (if s.synced then hear2N i s x.2 (zV x.2 now).1 now ms B else adoptN i c s x.2 (zV x.2 now).1 now ms) else s
def AV(a:Option (List Int))(v:Value)(w:World)(o:Cls):Prop:=match a with|none=>v= .slice none 0 0|some l=>BO w o v l
def ansN(i:Nat)(c:Cfg)(s:NSt)(x:Int×Fr)(now ms:Int)(A:NSt→Option (List Int)):Option (List Int):=
 if goodF i c x&&(zV x.2 now).2&&s.synced then
  (if i=0 then A (evN s ⟨1,i,x.2.src,0,pk0⟩) else
   if qM (qq i (evN s ⟨1,i,x.2.src,0,pk0⟩) x.2.src (zV x.2 now).1 now ms)=64 then none else A (qq i (evN s ⟨1,i,x.2.src,0,pk0⟩) x.2.src (zV x.2 now).1 now ms))
 else none
def PHearN(w0:World)(o0:Cls)(c:Cfg)(i b:Nat)(s:NSt)(a:Option (List Int)):Ending→World→Prop:=
 PN w0 o0 c i b (noEv s) (λv w' o'=>∃bv ev,v= .tuple #[bv,ev]∧AV a bv w' o'∧Eo w' o' (cl i 9) ev s.ev)
theorem Eo.nil(w:World)(own:Cls)(c:Nat):Eo w own c (.slice none 0 0) []:=⟨[],World.ownsRow_nil _ _ _ _,λk hk=>by (cases hk),λp hp=>by (cases hp),rfl⟩
section
variable {w0 w w':World}{o0 o o':Cls}{c:Cfg}{i b:Nat}{s s':NSt}{r r':NR}
theorem NAt.avoid(h:NAt w0 o0 c i b s w o r)(z:Z w0 o0):∀j,o j=0→¬NdS o0 i j:=λj hj hn=>by
 obtain⟨k,_,hn⟩:=hn
 rcases Nat.lt_or_ge j w0.heap.size with hlt|hge
 ·rw[h.ext j hlt] at hj;rw[hj] at hn;exact qf i k hn.symm
 ·rw[z j hge] at hn;exact qf i k hn.symm
theorem NAt.io(h:NAt w0 o0 c i b s w o r)(z:Z w0 o0){v:Value}{l:List El}(k:IeO w0 o0 v l):IeO w o v l:=(k.ext h.ext).keep h.chg (h.avoid z)
theorem NAt.bo(h:NAt w0 o0 c i b s w o r)(z:Z w0 o0){v:Value}{l:List Int}(k:BO w0 o0 v l):BO w o v l:=(k.ext h.ext).keep h.chg (h.avoid z)
theorem AV.told{a:Option (List Int)}{v:Value}(h:NAt w0 o0 c i b s w o r)(z:Z w0 o0)(k:AV a v w0 o0):AV a v w o:=by
 cases a with
 |none=>exact k
 |some l=>exact h.bo z k
theorem hearsN_ev(i:Nat)(s:NSt)(src rank now ticks:Int):(qq i s src rank now ticks).ev.length≤s.ev.length+2:=by
 unfold qq
 have h:=hears1_ev i (zR s src rank now) src ticks
 have h0:(zR s src rank now).ev=s.ev:=rfl
 rw[h0] at h
 unfold qz
 split
 ·omega
 ·show ((zT i (zR s src rank now) src ticks).ev++[_]).length≤_
  simp;omega
theorem jM(h:s.ev=[]):noEv s=s:=by cases s;simp only at h;subst h;rfl
end
section
variable {w0 w w':World}{o0 o o':Cls}{c:Cfg}{i b:Nat}{s s':NSt}{r r':NR}
theorem nsynced_any(h:NAt w0 o0 c i b s w o r):Calls Tryz.prog 10 #[.pointer (some ⟨b,0,none⟩)] w (PV0 (.bool s.synced) w):=by
 have c2:w.cell? ⟨b,18,none⟩=some (.bool s.synced):=h.cell 18
 clear h
 go_enter Tryz.func10,Tryz.ntmps10
 go_wp2_with fail
 go_ret
 exact⟨rfl,rfl⟩
def offN(s:NSt):Int:=s.base+downf s.sum
theorem noff_any(h:NAt w0 o0 c i b s w o r)(hx: -1000000000000000≤s.base∧s.base≤1000000000000000)(hy: -1000000000000000≤s.sum∧s.sum≤1000000000000000):
  Calls Tryz.prog 33 #[.pointer (some ⟨b,0,none⟩)] w (PV (.int .i64 (offN s)) w):=by
 have c1:w.cell? ⟨b,10,none⟩=some (.pointer (some ⟨r.clk,0,none⟩)):=h.cell 10
 have HM:=qQ (ckoff_quiet w r.clk s.base s.sum s.slots h.nd.np.2.2.1.1 hx hy)
 obtain⟨q,hq⟩:=qZ r.clk
 rw[←hq] at c1 HM
 unfold offN
 obtain⟨t,ht⟩:=qZ (s.base+downf s.sum)
 rw[←ht] at HM ⊢
 clear h hq ht
 go_enter Tryz.func33,Tryz.ntmps33
 go_wp2_with fail
 with_reducible refine HM.out.mono ?_
 rintro en w1 ⟨rfl,m,hm⟩
 have HG:=qQ (show Chg (λ_=>False) w w1 from hm▸Chg.drewN _ _ _)
 clear hm HM
 go_wp2_with fail
 go_ret
 exact⟨rfl,HG.out⟩
end
section
variable {w0 w w':World}{o0 o o':Cls}{c:Cfg}{i b:Nat}{s s':NSt}{r r':NR}
theorem nack_closed(h:NAt w0 o0 c i b s w o r)(now m:Int)(v:Value)(hs:s.synced=false∨s.sopen=false∨s.sasn≠now):
  Calls Tryz.prog 36 #[.pointer (some ⟨b,0,none⟩),.int .i64 now,v,.int .i64 m] w (PV0 (.slice none 0 0) w):=by
 have c18:w.cell? ⟨b,18,none⟩=some (.bool s.synced):=h.cell 18
 have c30:w.cell? ⟨b,30,none⟩=some (.bool s.sopen):=h.cell 30
 have c23:w.cell? ⟨b,23,none⟩=some (.int .i64 s.sasn):=h.cell 23
 clear h
 cases hsy:s.synced with
 |false=>
  rw[hsy] at c18
  clear hs
  go_enter Tryz.func36,Tryz.ntmps36
  go_wp2_with fail
  go_ret
  exact⟨rfl,rfl⟩
 |true=>
  rw[hsy] at c18
  cases hop:s.sopen with
  |false=>
   rw[hop] at c30
   clear hs
   go_enter Tryz.func36,Tryz.ntmps36
   go_wp2_with fail
   go_ret
   exact⟨rfl,rfl⟩
  |true=>
   rw[hop] at c30
   have hne:s.sasn≠now:=by
    rcases hs with h|h|h
    ·rw[hsy] at h;cases h
    ·rw[hop] at h;cases h
    ·exact h
   have t1:(s.sasn != now)=true:=by simpa using hne
   clear hs hne
   go_enter Tryz.func36,Tryz.ntmps36
   go_wp2_with fail
   go_ret
   exact⟨rfl,rfl⟩
def opnN(s:NSt)(x:Bool):NSt:={s with sopen:=x}
end
section
variable {w0 w w':World}{o0 o o':Cls}{c:Cfg}{i b:Nat}{s s':NSt}{r r':NR}
theorem nend_off(h:NAt w0 o0 c i b s w o r)(now:Int)(h0:0≤now)(h1:now<1099511627776)(hs:i=0∨s.synced=false):
  Calls Tryz.prog 38 #[.pointer (some ⟨b,0,none⟩),.int .i64 now] w (PV0 (.slice none 0 0) w):=by
 have HA:=qQ (λw=>jt now h0 h1 w)
 have c18:w.cell? ⟨b,18,none⟩=some (.bool s.synced):=h.cell 18
 have c9:w.cell? ⟨b,9,none⟩=some (.int .i64 i):=h.cell 9
 clear h
 by_cases hi:i=0
 ·subst hi
  clear hs
  go_enter Tryz.func38,Tryz.ntmps38
  go_wp2_with fail
  (with_reducible refine (HA.out _).mono ?_)
  rintro en w1 ⟨rfl,rfl⟩
  go_wp2_with fail
  go_ret
  exact⟨rfl,rfl⟩
 ·have hsy:s.synced=false:=by
   rcases hs with h|h
   ·exact absurd h hi
   ·exact h
  rw[hsy] at c18
  have i0:((i:Int)==0)=false:=by simp;omega
  clear hs hi
  go_enter Tryz.func38,Tryz.ntmps38
  go_wp2_with fail
  (with_reducible refine (HA.out _).mono ?_)
  rintro en w1 ⟨rfl,rfl⟩
  go_wp2_with fail
  go_ret
  exact⟨rfl,rfl⟩
def keptL(L:List Pa)(now loss:Int):List Pa:=L.filter (λp=>!(decide (p.heard≤now-loss)))
def vR(x:Int):Int:=min (x+1) 1000000
def endN(i:Nat)(s:NSt)(R:Int)(L:List Pa)(x:Int)(now loss:Int):NSt:=qz i (pN (kN s (some (vR x))) (some (R,keptL L now loss))) (qM s)
theorem nend_keep(hc:CfgOk c)(h:NAt w0 o0 c i b s w o r)(now:Int)(h0:0≤now)(h1:now<1099511627776)(hi:i≠0)(hsy:s.synced=true)(R:Int)(L:List Pa)(x:Int)(hp:s.p=some (R,L))(hk:s.k=some x)(hev:s.ev.length≤900)
  (hne:qM (pN (kN s (some (vR x))) (some (R,keptL L now c.loss)))≠64):
  Calls Tryz.prog 38 #[.pointer (some ⟨b,0,none⟩),.int .i64 now] w (PN w0 o0 c i b (noEv (endN i s R L x now c.loss)) (λv w' o'=>Eo w' o' (cl i 9) v (endN i s R L x now c.loss).ev)):=by
 have HA:=qQ (λw=>jt now h0 h1 w)
 have c18:w.cell? ⟨b,18,none⟩=some (.bool true):=by rw[←hsy];exact h.cell 18
 have c9:w.cell? ⟨b,9,none⟩=some (.int .i64 i):=h.cell 9
 have c20:w.cell? ⟨b,20,none⟩=some r.kv:=h.cell 20
 have hko:=h.nd.np.2.2.2.2.2.2.2.2.1
 rw[hk] at hko
 obtain⟨kb,hk1,hk2,hk3,hk4⟩:=hko
 rw[hk1] at c20
 have HK:=qQ (kpslot_any w kb c.keep x (vR x) hk2 (by omega) (by omega) rfl)
 have HK2:=qQ (λw' k g=>h.kset (w':=w') (x:=vR x) hk1 hk3 k (by unfold vR;omega) g)
 have i0:((i:Int)==0)=false:=by simp;omega
 clear h hk hk1 hk2 hk3 hk4 hsy
 go_enter Tryz.func38,Tryz.ntmps38
 go_wp2_with fail
 (with_reducible refine (HA.out _).mono ?_)
 rintro en w1 ⟨rfl,rfl⟩
 go_wp2_with fail
 with_reducible refine HK.out.mono ?_
 rintro en w2 ⟨rfl,k1,k2⟩
 have H2:=qQ (HK2.out _ k1 k2)
 clear k1 k2 HK HK2
 have HF:=qQ (zZ H2.out)
 go_wp2_with fail
 with_reducible refine HF.out.mono ?_
 rintro en w3 ⟨rfl,g3⟩
 have H3:=qQ (H2.out.kept g3)
 have hpo:=H3.out.nd.np.2.2.2.2.2.2.2.1
 obtain⟨pb,row,e1,hP,hq1,hq2,hR0,hR1,hL,hS⟩:=(show Po w3 o (cl i 6) r.pv i (some (R,L)) from hp▸hpo)
 have c19:w3.cell? ⟨b,19,none⟩=some (.pointer (some ⟨pb,0,none⟩)):=e1▸H3.out.cell 19
 have c6:w3.cell? ⟨b,6,none⟩=some (.int .i64 c.loss):=H3.out.cell 6
 have HO:=qQ (λW (g:Chg (λ_=>False) w3 W)=>psold_any W pb row i R L now c.loss (hP.kept g) hL h0 (by omega) (by have:=hc.l;omega) hc.l.2)
 have HPS:=qQ (λW (g:Chg (λ_=>False) w3 W) w' v' g2 P hn=>(H3.out.kept g).pset (w':=w') (v':=v') (R':=R) (L':=keptL L now c.loss) e1 hq1 hq2 g2 P hn ⟨hR0,hR1⟩ (Nat.le_trans (List.length_filter_le _ _) hL) (hS.filter _))
 clear g3 HF H2 hpo hP hq1 hq2 hR0 hR1 hL hS e1
 go_wp2_with fail
 go_still_tail 10,(by kernel_rfl)
 change wpList _ _ _ _ _ w3.drew
 go_wp2_with fail
 (with_reducible refine (HO.out _ (Chg.drew _ w3)).mono ?_)
 rintro en w4 ⟨vo,v',rfl,hP4,g4,hv4⟩
 obtain⟨o4,h4⟩:=HPS.out _ (Chg.drew _ w3) w4 v' g4 hP4 (λk hk=> .inl (by rw[←hv4];exact hk))
 have H4:=qQ h4
 have HF:=qQ (zZ h4)
 clear hP4 g4 hv4 h4 HPS HO c19 c6
 obtain⟨t,ht⟩:=qZ (qM (pN (kN s (some (vR x))) (some (R,keptL L now c.loss))))
 rw[←ht] at HF hne
 have t64:(t != 64)=true:=by simpa using hne
 obtain⟨was,hw⟩:∃f,f=qM (kN s (some (vR x))):=⟨_,rfl⟩
 rw[←hw]
 have HW:=qQ (show was=qM s from hw)
 clear ht hw hne
 go_wp2_with fail
 with_reducible refine HF.out.mono ?_
 rintro en w5 ⟨rfl,g5⟩
 have HFO:=qQ (nfollows_any (H4.out.kept g5) was (show s.ev.length≤1000 by omega))
 clear g5 HF
 go_wp2_with fail
 with_reducible refine HFO.out.mono ?_
 rintro en w6 ⟨v6,o6,r6,rfl,h6,rfl⟩
 have HTL:=qQ (zk h6)
 clear h6 HFO
 go_wp2_with fail
 with_reducible refine HTL.out.mono ?_
 rintro en w7 ⟨v7,o7,r7,rfl,h7,hE7⟩
 have H7:=qQ (And.intro h7 hE7)
 clear h7 hE7 HTL
 go_wp2_with fail
 go_ret
 have hfin:=H7.out
 rw[HW.out] at hfin
 exact⟨_,o7,r7,rfl,hfin.1,hfin.2⟩
end
/- what a node sends -/
def dueN(c:Cfg)(s:NSt):Bool:=match s.k with|none=>false|some x=>decide (c.keep≤x)
def nextN(c:Cfg)(i:Nat)(s:NSt)(now:Int):Fr:=
 if (pktN s).2.2 then ⟨1,i,(pktN s).2.1,s.seq,[syncE i s now],(pktN s).1⟩
 else if qM s≠64∧dueN c s=true then ⟨4,i,qM s,s.seq,[syncE i s now],[]⟩
 else ⟨3,i,64,s.seq,[syncE i s now,⟨3,0,0,0,c.hops⟩],[]⟩
def sendN(s:NSt)(f:Fr)(now:Int):NSt:=
 {s with seq:=(s.seq+1) % 256,sasn:=now,skind:=f.kind,ssrc:=f.src,sdst:=f.dst,sseq:=f.seq,sopen:=f.kind != 3}
def encO(f:Fr):List Int:=if mayF f then encF f else []
def vK(c:Cfg)(s:NSt)(now:Int):Int:=jW c.hops (if s.synced then now else s.slots / ((c.nodes:Int)*(c.hops.length:Int)))
def jK(c:Cfg)(i:Nat)(s:NSt)(now:Int):NSt×Int×List Int:=
 if s.synced&&decide (now % (c.nodes:Int)=(i:Int)) then (sendN s (nextN c i s now) now,vK c s now,encO (nextN c i s now)) else (s,vK c s now,[])
/- what goes back -/
def ackFr(i:Nat)(s:NSt)(f:Fr)(now ms:Int):Fr:=⟨2,i,f.src,f.seq,[syncE i s now,⟨2,0,0,-ms,[]⟩],[]⟩
def vW(i:Nat)(f:Fr)(now ms:Int)(s:NSt):Option (List Int):=
 if f.dst=(i:Int)∧(f.kind=1∨f.kind=4) then (if mayF (ackFr i s f now ms) then some (encF (ackFr i s f now ms)) else none) else none
/- answers -/
def zf(i:Nat)(s:NSt)(x:Int×Fr)(now:Int):Bool:=
 x.1==0&&(zV x.2 now).2&&x.2.kind==2&&x.2.src==s.sdst&&x.2.dst==(i:Int)&&x.2.seq==s.sseq
def ticksF(f:Fr):Int:=match zH f.ies 2 with|none=>0|some e=>e.ticks
def ackN(i:Nat)(s:NSt)(L:List Int)(now:Int):NSt:=
 if s.synced&&s.sopen&&decide (s.sasn=now) then
  if zf i s (decF L) now then
   (if i≠0∧qM s=s.sdst then qq i (opnN s false) s.sdst (zV (decF L).2 now).1 now (ticksF (decF L).2) else opnN s false)
  else opnN s false
 else s
/- the end of a slot -/
def endS(c:Cfg)(i:Nat)(s:NSt)(now:Int):NSt:=
 if i=0∨s.synced=false then s else match s.p,s.k with|some (R,L),some x=>endN i s R L x now c.loss|_,_=>s
/- the world -/
def s00:NSt:=⟨0,0,0,[],λ_=>none,λ_=>none,λ_=>none,0,0,0,false,none,none,0,λ_=>none,0,0,0,0,0,false,[]⟩
structure Dr where
 drift:List Int
 lost:List Int
 acks:List Int
 err:List Int
abbrev Snd:=Int×List Int×Int
structure WM where
 nodes:List NSt
 bound:List Int
 ev:List Ev
 air:List Snd
 back:List (Option (List Int))
def iter{α:Type}(f:Nat→α→α):Nat→α→α
 |0,x=>x
 |k+1,x=>f k (iter f k x)
def atL(l:List Int)(i:Nat):Int:=l.getD i 0
def WM.nd(x:WM)(i:Nat):NSt:=x.nodes.getD i s00
def WM.put(x:WM)(i:Nat)(s:NSt):WM:={x with nodes:=x.nodes.set i s}
def WM.snd(x:WM)(i:Nat):Snd:=x.air.getD i (0,[],0)
def ageB(i:Nat)(b:Int):Int:=if 0<i∧0≤b then min (b+1) 1000000000000 else b
def zz(d:Dr)(i:Nat)(x:WM):WM:={x with nodes:=x.nodes.set i (vy i (atL d.drift i) (x.nd i)),bound:=x.bound.set i (ageB i (atL x.bound i))}
def jT(c:Cfg)(now:Int)(i:Nat)(x:WM):WM:=
 {x with nodes:=x.nodes.set i (jK c i (x.nd i) now).1,air:=x.air.set i ((jK c i (x.nd i) now).2.1,(jK c i (x.nd i) now).2.2,offN (jK c i (x.nd i) now).1)}
def tellF(err:Int)(known:List Int)(b:List Int)(e:Ev):List Int:=
 if e.kind=7 then b.set e.i.toNat (if 0≤atL known e.src.toNat then atL known e.src.toNat+err else-1) else if e.kind=3 then b.set e.i.toNat (-1) else b
def WM.tells(c:Cfg)(known:List Int)(x:WM)(l:List Ev):WM:={x with bound:=l.foldl (tellF c.err known) x.bound,ev:=x.ev++l}
def bitW(near lost:Int)(j:Nat):Bool:=decide (near / 2^j % 2=1)&&decide (lost / 2^j % 2=0)
def vQ(c:Cfg)(d:Dr)(x:WM)(i j:Nat):Bool:=
 bitW (atL c.near i) (atL d.lost i) j&&(!(x.snd j).2.1.isEmpty&&(x.snd j).1==(x.snd i).1)&&(!(x.nd i).synced||zx (x.snd i).2.2 (x.snd j).2.2 c.guard)
def heardW(c:Cfg)(d:Dr)(x:WM)(i:Nat):List Nat:=(List.range c.nodes).filter (vQ c d x i)
def msW(c:Cfg)(d:Dr)(x:WM)(i j:Nat):Int:=meas (x.snd i).2.2 (x.snd j).2.2 (atL d.err i) c.err
def jk(c:Cfg)(d:Dr)(x:WM)(i:Nat):Option (List Int):=
 let X:=decF (x.snd i).2.1
 if X.1==0&&inR X.2.dst 0 ((c.nodes:Int)-1)&&bitW (atL c.near i) (atL d.acks i) X.2.dst.toNat then x.back.getD X.2.dst.toNat none else none
def qR(d:Dr)(n:Nat)(x:WM):WM:=iter (zz d) n x
def zp(c:Cfg)(d:Dr)(n:Nat)(now:Int)(x:WM):WM:=iter (jT c now) n {qR d n x with air:=List.replicate n (0,[],0)}
def VP(b:Nat):Value:= .pointer (some ⟨b,0,none⟩)
abbrev Inj:=Nat→Option (List Int)
def qG:Inj:=λ_=>none
structure WR where
 nv:Value
 hv:Value
 lv:Value
 bv:Value
 inj:Nat
 ev:Value
 bs:List Nat
 ij:Inj
def IjV(w:World)(own:Cls)(v:Value):Option (List Int)→Prop
 |none=>v= .slice none 0 0
 |some L=>BO w own v L∧∃x n c,v= .slice (some x) n c
def Ij(w:World)(own:Cls)(b:Nat)(ij:Inj):Prop:=∃f,Mp w b f∧∀i:Nat,IjV w own ((f i).getD (.slice none 0 0)) (ij i)
theorem IjV.step{w w':World}{o o':Cls}{S:Nat→Prop}{v:Value}{a:Option (List Int)}(h:IjV w o v a)(e:Ext w o o')(g:Chg S w w')(n0:∀k,o k=0→¬S k):IjV w' o' v a:=by
 cases a with
 |none=>exact h
 |some L=>exact⟨h.1.step e g n0,h.2⟩
theorem Ij.step{w w':World}{o o':Cls}{S:Nat→Prop}{b:Nat}{ij:Inj}(h:Ij w o b ij)(e:Ext w o o')(g:Chg S w w')(hs:¬S b)(n0:∀k,o k=0→¬S k):Ij w' o' b ij:=by
 obtain⟨f,h1,h2⟩:=h
 exact⟨f,h1.keep g hs,λi=>(h2 i).step e g n0⟩
theorem Ij.lt{w:World}{o:Cls}{b:Nat}{ij:Inj}(h:Ij w o b ij):b<w.heap.size:=by
 obtain⟨f,h1,_⟩:=h;exact h1.lt
theorem Ij.nil{w:World}{o:Cls}{b:Nat}(h:Mp w b (λ_=>none)):Ij w o b qG:=⟨_,h,λi=>rfl⟩
def cellsW(c:Cfg)(r:WR)(asn:Int):Array Value:=
 #[.int .i64 c.nodes,r.nv,r.hv,.int .i64 c.guard,.int .i64 c.err,.int .i64 c.keep,.int .i64 c.loss,.int .i64 c.queue,.int .i64 c.life,r.lv,.int .i64 asn,r.bv,.map (some r.inj),r.ev]
structure Wd(w:World)(own:Cls)(c:Cfg)(W:Nat)(r:WR)(x:WM)(asn:Int):Prop where
 blk:w.heap[W]? =some (.cells (cellsW c r asn) 61 (0,0))
 ob:own W=cl 16 0
 near:RV VU w own r.nv c.near
 hops:RV VI w own r.hv c.hops
 row:w.ownsRow 0 36 1 r.lv c.nodes (r.bs.map VP)
 rowo:∀k,r.lv.ownBlock=some k→own k=cl 16 1
 bnd:w.ownsRow 0 2 1 r.bv c.nodes (x.bound.map VI)
 bndo:∀k,r.bv.ownBlock=some k→own k=cl 16 2
 inj:Ij w own r.inj r.ij
 injo:own r.inj=cl 16 3
 ev:Eo w own (cl 16 4) r.ev x.ev
 nl:x.nodes.length=c.nodes
 nd:∀i,i<c.nodes→∃b q,r.bs[i]? =some b∧Nd w own c i b q (x.nd i)
def WdS(own:Cls):Nat→Prop:=λk=>own k≠0∧own k≤261
structure WAt(w0:World)(o0:Cls)(c:Cfg)(W:Nat)(x:WM)(asn:Int)(w:World)(o:Cls)(r:WR):Prop where
 wd:Wd w o c W r x asn
 z:Z w o
 ext:Ext w0 o0 o
 chg:Chg (WdS o0) w0 w
def cellsS(p:Snd×Value):List Value:=[.int .i64 p.1.1,p.2,.int .i64 p.1.2.2]
theorem cellsS_len(p:Snd×Value):(cellsS p).length=3:=rfl
def Ao(w:World)(own:Cls)(v:Value)(air:List Snd):Prop:=
 ∃ps:List (Snd×Value),w.ownsRow 0 90 3 v ps.length (ps.flatMap cellsS)∧(∀k,v.ownBlock=some k→own k=cl 16 5)∧(∀p∈ps,BO w own p.2 p.1.2.1)∧air=ps.map Prod.fst
def Bk(w:World)(own:Cls)(v:Value)(back:List (Option (List Int))):Prop:=
 ∃vs:List Value,w.ownsRow 0 33 1 v vs.length vs∧(∀k,v.ownBlock=some k→own k=cl 16 6)∧vs.length=back.length∧∀(i:Nat) a u,back[i]? =some a→vs[i]? =some u→AV a u w own
theorem put_nd(x:WM)(i j:Nat)(s:NSt)(h:i<x.nodes.length):(x.put i s).nd j=if j=i then s else x.nd j:=by
 unfold WM.put WM.nd
 simp only[List.getD_eq_getElem?_getD,List.getElem?_set]
 by_cases hj:j=i
 ·subst hj;simp[h]
 ·have hj':¬i=j:=λe=>hj e.symm
  rw[if_neg hj',if_neg hj]
section
variable {w0 w w':World}{o0 o o':Cls}{c:Cfg}{W:Nat}{x x':WM}{asn:Int}{r r':WR}{S:Nat→Prop}{i b:Nat}{s s':NSt}{q q':NR}
theorem Wd.step(h:Wd w o c W r x asn)(e:Ext w o o')(g:Chg S w w')(hc:c.nodes≤16)(hS:∀k,S k→261<o k):Wd w' o' c W r x asn:=by
 have n0:∀k,o k=0→¬S k:=λk hk hs=>by have:=hS k hs;omega
 have nj:∀j,j≤4→∀k,o k=cl 16 j→¬S k:=λj hj k hk hs=>by have:=hS k hs;unfold cl at hk;omega
 have nm:∀i,i<16→∀k,NdS o i k→¬S k:=λi hi k hk hs=>by
  obtain⟨j,hj,hk⟩:=hk;have:=hS k hs;unfold cl at hk;omega
 exact⟨Chg.keep g h.blk (nj 0 (by omega) _ h.ob),by rw[e W (qX h.blk)];exact h.ob,h.near.step e g n0,h.hops.step e g n0,
  qY h.row g (λk hk=>nj 1 (by omega) k (h.rowo k hk)),λk hk=>by rw[e k (qg h.row hk).2];exact h.rowo k hk,
  qY h.bnd g (λk hk=>nj 2 (by omega) k (h.bndo k hk)),λk hk=>by rw[e k (qg h.bnd hk).2];exact h.bndo k hk,
  h.inj.step e g (nj 3 (by omega) _ h.injo) n0,by rw[e _ h.inj.lt];exact h.injo,
  h.ev.step e g (λk hk=>hk.elim (n0 k) (nj 4 (by omega) k)),h.nl,
  λi hi=>by
   obtain⟨b,q,h1,h2⟩:=h.nd i hi
   exact⟨b,q,h1,h2.step e g n0 (nm i (by omega))⟩⟩
theorem WAt.start(h:Wd w o c W r x asn)(z:Z w o):WAt w o c W x asn w o r:=⟨h,z,Ext.refl _ _,Chg.refl _ _⟩
theorem Chg.extW{w w1 w2:World}{o1 o2:Cls}(h:Chg (WdS o1) w w1)(e:Ext w o1 o2)(k:Chg (WdS o2) w1 w2):Chg (WdS o1) w w2:=
 ⟨k.os.trans h.os,k.tape.trans h.tape,k.output.trans h.output,Nat.le_trans h.size k.size,
  λq hi hn=>(k.block q (Nat.lt_of_lt_of_le hi h.size) (λhh=>hn (by unfold WdS at hh ⊢;rw[←e q hi];exact hh))).trans (h.block q hi hn)⟩
theorem WAt.next(h:WAt w0 o0 c W x asn w o r)(n:Wd w' o' c W r' x' asn)(z:Z w' o')(e:Ext w o o')(g:Chg (WdS o) w w'):WAt w0 o0 c W x' asn w' o' r':=
 ⟨n,z,h.ext.trans e h.chg.size,h.chg.extW h.ext g⟩
theorem WAt.trans{w1:World}{o1:Cls}{x1:WM}{r1:WR}(h:WAt w0 o0 c W x1 asn w1 o1 r1)(k:WAt w1 o1 c W x asn w o r):WAt w0 o0 c W x asn w o r:=
 h.next k.wd k.z k.ext k.chg
theorem WAt.next2(h:WAt w0 o0 c W x asn w o r)(n:Wd w' o' c W r' x' asn)(z:Z w' o')(e:Ext w o o')(g:Chg (λk=>WdS o k∨w0.heap.size≤k) w w'):WAt w0 o0 c W x' asn w' o' r':=
 ⟨n,z,h.ext.trans e h.chg.size,⟨g.os.trans h.chg.os,g.tape.trans h.chg.tape,g.output.trans h.chg.output,Nat.le_trans h.chg.size g.size,
  λq hi hn=>(g.block q (Nat.lt_of_lt_of_le hi h.chg.size) (λhh=>hn (by
   rcases hh with hh|hh
   · unfold WdS at hh ⊢;rw[←h.ext q hi];exact hh
   · omega))).trans (h.chg.block q hi hn)⟩⟩
theorem WAt.other(h:WAt w0 o0 c W x asn w o r)(e:Ext w o o')(z:Z w' o')(g:Chg S w w')(hc:c.nodes≤16)(hS:∀k,S k→261<o k∧w0.heap.size≤k):WAt w0 o0 c W x asn w' o' r:=
 h.next2 (h.wd.step e g hc (λk hk=>(hS k hk).1)) z e (g.mono (λk _ hk=> .inr (hS k hk).2))
theorem WAt.kept(h:WAt w0 o0 c W x asn w o r)(hc:c.nodes≤16)(g:Chg (λ_=>False) w w'):WAt w0 o0 c W x asn w' o r:=
 h.other (Ext.refl _ _) (h.z.more g.size) g hc (λ_ e=>e.elim)
theorem WAt.cell(h:WAt w0 o0 c W x asn w o r)(k:Nat):w.cell? ⟨W,k,none⟩=(cellsW c r asn)[k]? :=by rw[qJ h.wd.blk]
theorem WAt.f(h:WAt w0 o0 c W x asn w o r)(k:Nat):w.frozen? ⟨W,k,none⟩=false:=qK h.wd.blk k
theorem WAt.rowval(h:WAt w0 o0 c W x asn w o r)(hn:0<c.nodes):∃g cap,r.lv= .slice (some ⟨g,0,none⟩) c.nodes cap∧∀i b,r.bs[i]? =some b→w.cell? ⟨g,i,none⟩=some (VP b):=by
 obtain⟨g,cap,cur,e,_⟩:=kZ h.wd.row hn
 refine⟨g,cap,e,λi b hb=>?_⟩
 have hrow:=h.wd.row
 rw[e] at hrow
 exact qr hrow i _ (by rw[List.getElem?_map,hb];rfl)
theorem WAt.get(h:WAt w0 o0 c W x asn w o r)(i:Nat)(hi:i<c.nodes):∃b q,r.bs[i]? =some b∧NAt w o c i b (x.nd i) w o q:=by
 obtain⟨b,q,h1,h2⟩:=h.wd.nd i hi
 exact⟨b,q,h1,NAt.start h2 h.z⟩
theorem WAt.node(h:WAt w0 o0 c W x asn w o r)(hc:c.nodes≤16)(hi:i<c.nodes)(hb:r.bs[i]? =some b) (k:NAt w o c i b s' w' o' q'):WAt w0 o0 c W (x.put i s') asn w' o' r:=by
 have hd:=h.wd
 have n0:∀k,o k=0→¬NdS o i k:=λk hk hs=>by obtain⟨j,hj,hs⟩:=hs;rw[hk] at hs;exact qf i j hs.symm
 have nj:∀j,j≤4→∀k,o k=cl 16 j→¬NdS o i k:=λj hj k hk hs=>by
  obtain⟨m,hm,hs⟩:=hs;have:=(zK (hk.symm.trans hs) (by omega) (by omega)).1;omega
 have nm:∀m,m≠i→∀k,NdS o m k→¬NdS o i k:=λm hm k hk hs=>by
  obtain⟨j1,hj1,hk⟩:=hk;obtain⟨j2,hj2,hs⟩:=hs;exact hm (zK (hk.symm.trans hs) (by omega) (by omega)).1
 have e:=k.ext
 have g:=k.chg
 refine h.next ⟨Chg.keep g hd.blk (nj 0 (by omega) _ hd.ob),by rw[e W (qX hd.blk)];exact hd.ob,hd.near.step e g n0,hd.hops.step e g n0,
  qY hd.row g (λk hk=>nj 1 (by omega) k (hd.rowo k hk)),λk hk=>by rw[e k (qg hd.row hk).2];exact hd.rowo k hk,
  qY hd.bnd g (λk hk=>nj 2 (by omega) k (hd.bndo k hk)),λk hk=>by rw[e k (qg hd.bnd hk).2];exact hd.bndo k hk,
  hd.inj.step e g (nj 3 (by omega) _ hd.injo) n0,by rw[e _ hd.inj.lt];exact hd.injo,
  hd.ev.step e g (λk hk=>hk.elim (n0 k) (nj 4 (by omega) k)),by unfold WM.put;simp[hd.nl],λj hjn=>?_⟩ k.z e (g.mono (λk _ hk=>by obtain⟨m,hm,hk⟩:=hk;unfold WdS;rw[hk];exact⟨qf i m,by unfold cl;omega⟩))
 rw[put_nd x i j s' (by rw[hd.nl];exact hi)]
 by_cases hj:j=i
 ·subst hj
  rw[if_pos rfl]
  exact⟨b,q',hb,k.nd⟩
 ·rw[if_neg hj]
  obtain⟨b2,q2,h1,h2⟩:=hd.nd j hjn
  exact⟨b2,q2,h1,h2.step e g n0 (nm j hj)⟩
theorem Ao.step{v:Value}{air:List Snd}(h:Ao w o v air)(e:Ext w o o')(g:Chg S w w')(n0:Off o (cl 16 5) S):Ao w' o' v air:=by
 obtain⟨ps,h1,h2,h3,h4⟩:=h
 exact⟨ps,qY h1 g (λk hk=>n0 k (.inr (h2 k hk))),λk hk=>by rw[e k (qg h1 hk).2];exact h2 k hk,λp hp=>(h3 p hp).step e g n0.zero,h4⟩
theorem AV.step{a:Option (List Int)}{v:Value}(h:AV a v w o)(e:Ext w o o')(g:Chg S w w')(n0:∀k,o k=0→¬S k):AV a v w' o':=by
 cases a with
 |none=>exact h
 |some l=>exact BO.step h e g n0
theorem Bk.step{v:Value}{l:List (Option (List Int))}(h:Bk w o v l)(e:Ext w o o')(g:Chg S w w')(n0:Off o (cl 16 6) S):Bk w' o' v l:=by
 obtain⟨vs,h1,h2,h3,h4⟩:=h
 exact⟨vs,qY h1 g (λk hk=>n0 k (.inr (h2 k hk))),λk hk=>by rw[e k (qg h1 hk).2];exact h2 k hk,h3,λi a u ha hu=>(h4 i a u ha hu).step e g n0.zero⟩
theorem WdS.off(j:Nat)(hj:5≤j):Off o (cl 16 j) (WdS o):=λk hk hs=>by
 rcases hk with hk|hk
 ·exact hs.1 hk
 ·have:=hs.2;rw[hk] at this;unfold cl at this;omega
theorem WAt.air(h:WAt w0 o0 c W x asn w o r){v:Value}{l:List Snd}(a:Ao w0 o0 v l):Ao w o v l:=a.step h.ext h.chg (WdS.off 5 (by omega))
theorem WAt.bck(h:WAt w0 o0 c W x asn w o r){v:Value}{l:List (Option (List Int))}(a:Bk w0 o0 v l):Bk w o v l:=a.step h.ext h.chg (WdS.off 6 (by omega))
theorem off_nd(i:Nat)(hi:i<16)(j:Nat)(hj:5≤j):Off o (cl 16 j) (NdS o i):=λk hk hs=>by
 obtain⟨m,hm,hs⟩:=hs
 rcases hk with hk|hk
 ·rw[hk] at hs;exact qf i m hs.symm
 ·rw[hk] at hs;unfold cl at hs;omega
end
end Go.Proofs.YtnpihllannobgaaGreatDoor
