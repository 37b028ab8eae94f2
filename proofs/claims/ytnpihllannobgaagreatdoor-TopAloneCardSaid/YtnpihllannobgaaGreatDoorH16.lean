/- Steps of the proof, part H16. No condition. -/
import Derived.Test.YtnpihllannobgaaGreatDoorH15
namespace Go.Proofs.YtnpihllannobgaaGreatDoor
set_option linter.unusedVariables false
set_option linter.unusedSimpArgs false
set_option maxRecDepth 100000
set_option maxHeartbeats 32000000
open Go.ChangeShapes Go.WideShapes Go.ChangeAt Go.RowKit
def zZ(f:Fr)(now:Int):Int×Bool:=match zM f.ies 1 with|none=>(0,false)|some e=>(e.rank,e.asn==now)
theorem nrankf_any(w:World)(own:Cls)(f:Fr)(iv:Value)(B:Option Addr)(m cb:Nat)(now:Int)(hi:IeO w own iv f.ies)(hE:f.ies.length≤100000)(hll:∀e∈f.ies,e.list.length≤100000):
  Calls Tryz.prog 66 #[frV f iv (.slice B m cb),.int .i64 now] w (PV (.tuple #[.int .i64 (zZ f now).1,.bool (zZ f now).2]) w):=by
 have ga:=Chg.alloc (λ_=>False) w (.cells #[.int .i64 f.kind,.int .i64 f.src,.int .i64 f.dst,.int .i64 f.seq,iv,.slice B m cb] 71)
 have hba:=qV w (.cells #[.int .i64 f.kind,.int .i64 f.src,.int .i64 f.dst,.int .i64 f.seq,iv,.slice B m cb] 71)
 have hf:=qr _ own iv f.ies 1 (hi.keep ga (λ_ _ e=>e)) hE hll
 obtain⟨A,c,e⟩:=hi.val
 obtain⟨P,hP⟩:=qZ (PV (.tuple #[.int .i64 (zZ f now).1,.bool (zZ f now).2]) w)
 rw[←hP]
 have HP:=qQ hP
 obtain⟨E,hE2⟩:=qZ (zM f.ies 1)
 rw[←hE2] at hf
 have HEE:=qQ hE2
 obtain⟨n,hn⟩:=qZ f.ies.length
 rw[←hn] at e
 subst e
 have HF:=qQ hf
 have HG:=qQ ga
 unfold frV
 clear hf ga hi hE hll hE2 hn hP
 have key:∀(x:El) (t:Bool),E.getD el0=x→E.isSome=t→Calls Tryz.prog 66 #[.agg #[.int .i64 f.kind,.int .i64 f.src,.int .i64 f.dst,.int .i64 f.seq,.slice A n c,.slice B m cb],.int .i64 now] w
   (PV (.tuple #[.int .i64 x.rank,.bool (t&&x.asn==now)]) w):=by
  intro x t hx ht
  have HF2:=qQ HF.out
  unfold PFind at HF2
  rw[hx,ht] at HF2
  obtain⟨b0,b1,b2,b3,b4,b5⟩:=qC hba
  clear hx ht HEE HF HP
  go_enter Tryz.func66,Tryz.ntmps66
  go_wp2_with fail
  with_reducible refine HF2.out.mono ?_
  rintro en w1 ⟨lv,rfl,hO,hG⟩
  have HG1:=qQ (HG.out.trans hG)
  obtain⟨lA,ln,lc,rfl⟩:∃A n c,lv= .slice A n c:=by
   rcases qD hO with ⟨e,_⟩|⟨g,cap,e,_⟩
   ·exact⟨_,_,_,e⟩
   ·exact⟨_,_,_,e⟩
  unfold elV
  clear hO hG b0 b1 b2 b3 b4 b5 HF2 HG
  go_wp2_with fail
  have hgb:=Chg.alloc (λ_=>False) w1 (.cells #[.int .i64 x.kind,.int .i64 x.asn,.int .i64 x.rank,.int .i64 x.ticks,.slice lA ln lc] 172)
  obtain⟨d0,d1,d2,d3,d4⟩:=zB (qV w1 (.cells #[.int .i64 x.kind,.int .i64 x.asn,.int .i64 x.rank,.int .i64 x.ticks,.slice lA ln lc] 172))
  have HG2:=qQ (HG1.out.trans hgb)
  generalize hW:w1.alloc (.cells #[.int .i64 x.kind,.int .i64 x.asn,.int .i64 x.rank,.int .i64 x.ticks,.slice lA ln lc] 172)=W at d0 d1 d2 d3 d4 HG2 hgb ⊢
  obtain⟨I,F,hI,hF,hFA⟩:=clsF W
  have c1:=qF hF d1
  have c2:=qF hF d2
  have HFF:=qQ hF
  have HFA:=qQ (hFA _ (Chg.drew _ _))
  clear hF hFA hba HG1 hgb d0 d1 d2 d3 d4 hW
  with_reducible refine qW F (by kernel_rfl) (by kernel_rfl) HFA.out ?_
  cases t with
  |true=>
   repeat (with_reducible refine wpQuiet_step (λK hK=>?_);go_simp;(with_reducible refine hK _ ?_;clear hK K))
   with_reducible refine wpQuiet_nil ?_
   intro _ hw'
   obtain⟨nq,rfl⟩:=hw'
   have G:=qQ (HG2.out.trans (HFF.out nq))
   clear c1 c2 HFF HFA hI HG2
   generalize F nq=w2 at *
   go_wp2_with fail
   go_ret2
   refine⟨?_,G.out⟩
   by_cases hq:x.asn=now <;> simp[hq]
  |false=>
   repeat (with_reducible refine wpQuiet_step (λK hK=>?_);go_simp;(with_reducible refine hK _ ?_;clear hK K))
   with_reducible refine wpQuiet_nil ?_
   intro _ hw'
   obtain⟨nq,rfl⟩:=hw'
   have G:=qQ (HG2.out.trans (HFF.out nq))
   clear c1 c2 HFF HFA hI HG2
   generalize F nq=w2 at *
   go_wp2_with fail
   go_ret2
   exact⟨rfl,G.out⟩
 rw[HP.out]
 unfold zZ
 rw[←HEE.out]
 cases hEE:E with
 |none=>exact (key el0 false (by rw[hEE];rfl) (by rw[hEE];rfl)).mono (λe w' h=>h)
 |some x=>
  have:=key x true (by rw[hEE];rfl) (by rw[hEE];rfl)
  simpa using this
def synN(s:NSt)(x:Bool):NSt:={s with synced:=x}
def adopt0N(s:NSt)(rk:Int):NSt:=kN (pN (synN s true) (some (rk+1,[]))) (some 0)
def adopt1N(s:NSt)(src rk now:Int):NSt:=pN (adopt0N s rk) (some (jh (rk+1) [] src rk now))
def adopt2N(i:Nat)(s:NSt)(src rk now ms:Int):NSt:=
 evN (evN (movesN i (evN (adopt1N s src rk now) ⟨1,i,src,0,pk0⟩) src ms) ⟨2,i,src,0,pk0⟩) ⟨6,i,src,0,pk0⟩
def adoptN(i:Nat)(c:Cfg)(s:NSt)(f:Fr)(rk now ms:Int):NSt:=
 if f.kind=3∧rk≤253∧c.loss<s.listened then adopt2N i s f.src rk now ms else s
section
variable {w0 w w':World}{o0 o o':Cls}{c:Cfg}{i b:Nat}{s s':NSt}{r r':NR}
theorem NAt.fresh2(h:NAt w0 o0 c i b s w o r)(w5:World)(G:Chg (λ_=>False) w w5)(pb kb:Nat)(rk:Int)(hpk:pb≠kb)(hp:w.heap.size≤pb)(hk:w.heap.size≤kb)
  (P:Ps w5 pb (.slice none 0 0) i rk []) (K:Kp w5 kb c.keep 0) (hr:0≤rk∧rk≤255):
  ∃o' r',∀w6,(w6=(w5.setCell ⟨b,19,none⟩ (.pointer (some ⟨pb,0,none⟩))).setCell ⟨b,20,none⟩ (.pointer (some ⟨kb,0,none⟩))∨w6=(w5.setCell ⟨b,20,none⟩ (.pointer (some ⟨kb,0,none⟩))).setCell ⟨b,19,none⟩ (.pointer (some ⟨pb,0,none⟩)))→NAt w0 o0 c i b (kN (pN s (some (rk,[]))) (some 0)) w6 o' r':=by
 have hlb:=qX h.nd.blk
 have hob:=h.nd.ob
 obtain⟨o',ho'⟩:∃o',o'=cls (cls o pb (cl i 6)) kb (cl i 7):=⟨_,rfl⟩
 have E:Ext w o o':=by rw[ho'];exact (Ext.cls o pb _ hp).trans (λk hk2=>cls_ne _ _ _ (by omega)) (Nat.le_refl _)
 have hz5:Z w5 o':=by rw[ho'];exact ((h.z.more G.size).cls _ (qX P.blk)).cls _ (qX K)
 have hpo:o' pb=cl i 6:=by rw[ho',cls_ne _ _ _ hpk,jX]
 have hko:o' kb=cl i 7:=by rw[ho',jX]
 have hpb:pb≠b:=by omega
 have hkb:kb≠b:=by omega
 refine⟨o',{r with pv:= .pointer (some ⟨pb,0,none⟩),kv:= .pointer (some ⟨kb,0,none⟩)},λw6 hw6=>?_⟩
 have hG:Chg (· =b) w5 w6∧w6.heap[b]? =some (.cells (((zr c i r s).setIfInBounds 19 (.pointer (some ⟨pb,0,none⟩))).setIfInBounds 20 (.pointer (some ⟨kb,0,none⟩))) 75 (0,0)):=by
  have hb0:=Chg.keep G h.nd.blk (λe=>e)
  rcases hw6 with hw6|hw6
  ·subst hw6
   exact⟨(chg1 w5 b 19 _).trans (chg1 _ b 20 _),qB (qB hb0 19 _) 20 _⟩
  ·subst hw6
   exact⟨(chg1 w5 b 20 _).trans (chg1 _ b 19 _),by rw[Array.setIfInBounds_comm _ _ (by omega)];exact qB (qB hb0 20 _) 19 _⟩
 obtain⟨g,hbk⟩:=hG
 have GA:Chg (· =b) w w6:=G.none.trans g
 have hn0:∀k,o k=0→¬k=b:=λk h1 e=>by subst e;rw[hob] at h1;exact qP i 0 h1
 have of:∀m,1≤m→m≤9→Off o (cl i m) (· =b):=λm h1 h2 k hk e=>by
  rcases hk with hk|hk
  ·exact hn0 k hk e
  ·subst e;have:=(qy (hob.symm.trans hk) (by omega) (by omega)).2;omega
 obtain⟨p1,p2,p3,p4,p5,p6,p7,p8,p9,pa,pb'⟩:=h.nd.np
 refine h.next ⟨hbk,by rw[E b hlb];exact hob,?_⟩ (hz5.more g.size) E (GA.mono (λq _ e=>⟨0,by omega,by rw[e];exact hob⟩))
 exact⟨p1.step E GA hn0,p2.step E GA hn0,p3.step E GA (of 1 (by omega) (by omega)),p4.step E GA (of 2 (by omega) (by omega)),p5.step E GA (of 3 (by omega) (by omega)),
   p6.step E GA (of 4 (by omega) (by omega)),p7.step E GA (of 5 (by omega) (by omega)),
   ⟨pb,.slice none 0 0,rfl,P.keep g (λk hk e=>hk.elim (λh=>by omega) (λh=>by cases h)),hpo,λk hk=>(by cases hk),hr.1,hr.2,Nat.zero_le _,List.Pairwise.nil⟩,
   ⟨kb,rfl,K.keep g hkb,hko,by omega,by omega⟩,pa.step E GA (of 8 (by omega) (by omega)),pb'.step E GA (of 9 (by omega) (by omega))⟩
theorem nadopt_any(hc:CfgOk c)(h:NAt w0 o0 c i b s w o r)(hi:i≤15)(f:Fr)(iA:Option Addr)(il ic:Nat)(dA:Option Addr)(dl dc:Nat)(rk now ms:Int)(hn:s.ev.length≤900)(hb: -1000000000000000≤s.base∧s.base≤1000000000000000)
  (hs:0≤f.src∧f.src≤15) (hm:f.src≠i) (hr:0≤rk∧rk≤255) (ht:0≤now):
  Calls Tryz.prog 106 #[.pointer (some ⟨b,0,none⟩),frV f (.slice iA il ic) (.slice dA dl dc),.int .i64 rk,.int .i64 now,.int .i64 ms] w (PN w0 o0 c i b (adoptN i c s f rk now ms) (λv _ _=>v= .tuple #[])):=by
 obtain⟨F,hF⟩:=qZ (adoptN i c s f rk now ms)
 rw[←hF]
 unfold adoptN at hF
 have HF:=qQ hF
 unfold frV
 have hba:=qV w (.cells #[.int .i64 f.kind,.int .i64 f.src,.int .i64 f.dst,.int .i64 f.seq,.slice iA il ic,.slice dA dl dc] 71)
 have ga:=Chg.alloc (λ_=>False) w (.cells #[.int .i64 f.kind,.int .i64 f.src,.int .i64 f.dst,.int .i64 f.seq,.slice iA il ic,.slice dA dl dc] 71)
 have HB:=qQ hba
 have H:=qQ (h.kept ga)
 have HLB:=qQ (qX h.nd.blk)
 have HZ0:=qQ (h.z _ (Nat.le_refl _))
 clear h hba ga hF
 go_enter Tryz.func106,Tryz.ntmps106
 go_wp2_with fail
 generalize hW:w.alloc (.cells #[.int .i64 f.kind,.int .i64 f.src,.int .i64 f.dst,.int .i64 f.seq,.slice iA il ic,.slice dA dl dc] 71)=w1 at *
 have HT:=H
 have HBK:=qQ (show∀W s' o' r',NAt w1 o c i b s' W o' r'→W.heap[w.heap.size]? =some (.cells #[.int .i64 f.kind,.int .i64 f.src,.int .i64 f.dst,.int .i64 f.seq,.slice iA il ic,.slice dA dl dc] 71 (0,0)) from
  λW s' o' r' hN=>Chg.keep hN.chg HB.out (λe=>by obtain⟨j,_,e⟩:=e;rw[HZ0.out] at e;exact qP i j e.symm))
 have H:=qQ (NAt.start HT.out.nd HT.out.z)
 obtain⟨d0,d1,d2,d3,d4,d5⟩:=qC HB.out
 have c1:w1.cell? ⟨b,21,none⟩=some (.int .i64 s.listened):=H.out.cell 21
 have c2:w1.cell? ⟨b,6,none⟩=some (.int .i64 c.loss):=H.out.cell 6
 obtain⟨I,F1,hI,hF1,hFA⟩:=clsF w1
 have e0:=qF hF1 d0
 have e2:=qF hF1 c1
 have e3:=qF hF1 c2
 have e4:=qF hF1 d1
 have e5:=qF hF1 d2
 have HFF:=qQ hF1
 have HFA:=qQ (hFA _ (Chg.drew _ _))
 clear hF1 hFA d0 d1 d2 d3 d4 d5 c1 c2
 by_cases hk:f.kind=3
 ·have t1:(f.kind != 3)=false:=by simp[hk]
  by_cases hr2:rk≤253
  ·have t2:decide (253<rk)=false:=by simp;omega
   by_cases hl:c.loss<s.listened
   ·have t3:decide (s.listened≤c.loss)=false:=by simp;omega
    with_reducible refine qW F1 (by kernel_rfl) (by kernel_rfl) HFA.out ?_
    repeat (with_reducible refine wpQuiet_step (λK hK=>?_);go_simp;(with_reducible refine hK _ ?_;clear hK K))
    with_reducible refine wpQuiet_nil ?_
    intro _ hw'
    obtain⟨nq,rfl⟩:=hw'
    have H2:=qQ (H.out.kept (HFF.out nq))
    clear e0 e2 e3 e4 e5 HFA hI
    generalize F1 nq=w2 at *
    have HF2:=qQ (HF.out.trans (if_pos ⟨hk,hr2,hl⟩))
    have f18:=H2.out.f 18
    have c18:w2.cell? ⟨b,18,none⟩=some (.bool s.synced):=H2.out.cell 18
    go_wp2_with fail
    have HS:=qQ (H2.out.set (r':=r) (s':=synN s true) 18 (.bool true) rfl H2.out.nd.np)
    generalize w2.setCell ⟨b,18,none⟩ (.bool true)=w3 at *
    clear f18 c18 H2 t1 t2 t3
    obtain⟨s3,hs3⟩:=qZ (synN s true)
    have hks:=hc.k
    have HP:=qQ (λW=>psnew_any i (rk+1) (by omega) (by omega) W)
    have HK:=qQ (λW=>kpnew_any c.keep hc.k.1 hc.k.2 W)
    have HC:=qQ (Chg.drew (λ_=>False) w3)
    have c9:w3.cell? ⟨b,9,none⟩=some (.int .i64 i):=HS.out.cell 9
    have c5:w3.cell? ⟨b,5,none⟩=some (.int .i64 c.keep):=HS.out.cell 5
    have c19:w3.cell? ⟨b,19,none⟩=some r.pv:=HS.out.cell 19
    have c20:w3.cell? ⟨b,20,none⟩=some r.kv:=HS.out.cell 20
    have e1:IntKind.i64.wrap (rk+1)=rk+1:=IntWalk.i64_in _ (by omega)
    have HSIX:=qQ (show∀W,Chg (λ_=>False) w3 W→W.cell? ⟨b,9,none⟩=some (.int .i64 i)∧W.cell? ⟨b,5,none⟩=some (.int .i64 c.keep)∧W.cell? ⟨b,19,none⟩=some r.pv∧W.cell? ⟨b,20,none⟩=some r.kv∧W.frozen? ⟨b,19,none⟩=false∧W.frozen? ⟨b,20,none⟩=false from
     λW g=>⟨(HS.out.kept g).cell 9,(HS.out.kept g).cell 5,(HS.out.kept g).cell 19,(HS.out.kept g).cell 20,(HS.out.kept g).f 19,(HS.out.kept g).f 20⟩)
    go_cut [] (λwx=>(∃o' r',NAt w1 o c i b (adopt0N s rk) wx o' r'))
    case first=>
     go_region_with (first
      |(go_at_call 156;refine (HP.out _).mono ?_;rintro en wp ⟨pb,rfl,hP,hlp,gp⟩
        have HC:=qQ (HC.out.trans gp)
        obtain⟨c9,c5,c19,c20,f19,f20⟩:=HSIX.out _ HC.out)
      |(go_at_call 157;refine (HK.out _).mono ?_;rintro en wk ⟨kb,rfl,hK,hlk,gk⟩
        have HC:=qQ (HC.out.trans gk)
        obtain⟨c9,c5,c19,c20,f19,f20⟩:=HSIX.out _ HC.out))
     all_goals
      go_wp2_with fail
      go_meet
      first
       |(have s1:w3.heap.size≤pb:=hlp
         have s2:w3.heap.size≤kb:=Nat.le_trans (show w3.heap.size≤wp.heap.size from gp.size) hlk
         obtain⟨o',r',hN⟩:=HS.out.fresh2 wk HC.out pb kb (rk+1) (by have:=qX hP.blk;omega) s1 s2 (hP.kept gk) hK ⟨by omega,by omega⟩
         exact⟨o',r',hN _ (.inl rfl)⟩)
       |(have s1:w3.heap.size≤kb:=hlk
         have s2:w3.heap.size≤pb:=Nat.le_trans (show w3.heap.size≤wk.heap.size from gk.size) hlp
         obtain⟨o',r',hN⟩:=HS.out.fresh2 wp HC.out pb kb (rk+1) (by have:=qX hK;omega) s2 s1 hP (hK.kept gp) ⟨by omega,by omega⟩
         exact⟨o',r',hN _ (.inl rfl)⟩)
    case rest=>
     obtain⟨o4,r4,h4⟩:=hcut
     have H4:=qQ h4
     have hpo:=h4.nd.np.2.2.2.2.2.2.2.1
     obtain⟨pb,row,e1,hP,hq1,hq2,hR0,hR1,hL,hS⟩:=(show Po wc o4 (cl i 6) r4.pv i (some (rk+1,[])) from hpo)
     have c19:wc.cell? ⟨b,19,none⟩=some r4.pv:=h4.cell 19
     rw[e1] at c19
     have HH:=qQ (λW (g:Chg (λ_=>False) wc W)=>pshear_any W pb row i (rk+1) [] f.src rk now (hP.kept g) hL hS hs hm hr ht ⟨hR0,hR1⟩)
     have HPS:=qQ (λW (g:Chg (λ_=>False) wc W) w' v' g2 P hn=>(h4.kept g).pset (w':=w') (v':=v') e1 hq1 hq2 g2 P hn (hearL_R (rk+1) [] f.src rk now ⟨hR0,hR1⟩ hr.1) (hearL_len (rk+1) [] f.src rk now hL) (hearL_srt (rk+1) [] f.src rk now hS))
     obtain⟨k0,k1,_⟩:=qC (HBK.out _ _ _ _ h4)
     clear h4 c9 c5 c19 c20 HP HK HC HSIX HS hpo hP hq1 hq2 hR0 hR1 hL hS
     have c19:wc.cell? ⟨b,19,none⟩=some (.pointer (some ⟨pb,0,none⟩)):=e1▸H4.out.cell 19
     go_wp2_with fail
     go_still_tail 8,(by kernel_rfl)
     change wpList _ _ _ _ _ wc.drew
     go_wp2_with fail
     (with_reducible refine (HH.out _ (Chg.drew _ wc)).mono ?_)
     rintro en w5 ⟨t,v',rfl,hP2,hg2,hv2⟩
     obtain⟨o5,h5⟩:=HPS.out _ (Chg.drew _ wc) w5 v' hg2 hP2 hv2
     have h5:NAt w1 o c i b (adopt1N s f.src rk now) w5 o5 r4:=h5
     clear hP2 hg2 hv2 HPS HH H4 k0 k1 c19
     obtain⟨k0,k1,_⟩:=qC (HBK.out _ _ _ _ h5)
     have HV:=qQ (zx h5 1 f.src (by show s.ev.length≤1000;omega))
     clear h5
     go_wp2_with fail
     with_reducible refine HV.out.mono ?_
     rintro en w6 ⟨v,o6,r6,rfl,h6,rfl⟩
     clear k0 k1 HV
     obtain⟨k0,k1,_⟩:=qC (HBK.out _ _ _ _ h6)
     have HV:=qQ (nmoves_any h6 f.src ms (by show (s.ev++[_]).length≤1000;simp;omega) hb (by show some (0:Int)≠none;simp))
     clear h6
     go_wp2_with fail
     with_reducible refine HV.out.mono ?_
     rintro en w7 ⟨v,o7,r7,rfl,h7,rfl⟩
     clear k0 k1 HV
     obtain⟨k0,k1,_⟩:=qC (HBK.out _ _ _ _ h7)
     have HV:=qQ (zx h7 2 f.src (by show ((s.ev++[_])++[_]).length≤1000;simp;omega))
     clear h7
     go_wp2_with fail
     with_reducible refine HV.out.mono ?_
     rintro en w8 ⟨v,o8,r8,rfl,h8,rfl⟩
     clear k0 k1 HV
     obtain⟨k0,k1,_⟩:=qC (HBK.out _ _ _ _ h8)
     have HV:=qQ (zx h8 6 f.src (by show (((s.ev++[_])++[_])++[_]).length≤1000;simp;omega))
     clear h8
     go_wp2_with fail
     with_reducible refine HV.out.mono ?_
     rintro en w9 ⟨v,o9,r9,rfl,h9,rfl⟩
     clear k0 k1 HV
     have H9:=qQ h9
     clear h9
     go_wp2_with fail
     go_end0
     refine⟨_,o9,r9,rfl,?_,rfl⟩
     rw[HF2.out]
     exact HT.out.trans H9.out
   ·have t3:decide (s.listened≤c.loss)=true:=by simp;omega
    with_reducible refine qW F1 (by kernel_rfl) (by kernel_rfl) HFA.out ?_
    repeat (with_reducible refine wpQuiet_step (λK hK=>?_);go_simp;(with_reducible refine hK _ ?_;clear hK K))
    with_reducible refine wpQuiet_nil ?_
    intro _ hw'
    obtain⟨nq,rfl⟩:=hw'
    have H2:=qQ (H.out.kept (HFF.out nq))
    clear e0 e2 e3 e4 e5 HFF HFA hI H
    generalize F1 nq=w2 at *
    go_wp2_with fail
    go_end0
    refine⟨_,o,r,rfl,?_,rfl⟩
    rw[HF.out,if_neg (by omega)]
    exact HT.out.trans H2.out
  ·have t2:decide (253<rk)=true:=by simp;omega
   with_reducible refine qW F1 (by kernel_rfl) (by kernel_rfl) HFA.out ?_
   repeat (with_reducible refine wpQuiet_step (λK hK=>?_);go_simp;(with_reducible refine hK _ ?_;clear hK K))
   with_reducible refine wpQuiet_nil ?_
   intro _ hw'
   obtain⟨nq,rfl⟩:=hw'
   have H2:=qQ (H.out.kept (HFF.out nq))
   clear e0 e2 e3 e4 e5 HFF HFA hI H
   generalize F1 nq=w2 at *
   go_wp2_with fail
   go_end0
   refine⟨_,o,r,rfl,?_,rfl⟩
   rw[HF.out,if_neg (by omega)]
   exact HT.out.trans H2.out
 ·have t1:(f.kind != 3)=true:=by simp[hk]
  with_reducible refine qW F1 (by kernel_rfl) (by kernel_rfl) HFA.out ?_
  repeat (with_reducible refine wpQuiet_step (λK hK=>?_);go_simp;(with_reducible refine hK _ ?_;clear hK K))
  with_reducible refine wpQuiet_nil ?_
  intro _ hw'
  obtain⟨nq,rfl⟩:=hw'
  have H2:=qQ (H.out.kept (HFF.out nq))
  clear e0 e2 e3 e4 e5 HFF HFA hI H
  generalize F1 nq=w2 at *
  go_wp2_with fail
  go_end0
  refine⟨_,o,r,rfl,?_,rfl⟩
  rw[HF.out,if_neg (by omega)]
  exact HT.out.trans H2.out
end
end Go.Proofs.YtnpihllannobgaaGreatDoor
