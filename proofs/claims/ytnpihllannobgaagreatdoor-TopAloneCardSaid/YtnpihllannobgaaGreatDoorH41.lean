/- Steps of the proof, part H41. No condition. -/
import Derived.Test.YtnpihllannobgaaGreatDoorH24
import Derived.Test.YtnpihllannobgaaGreatDoorH38
import Derived.Test.YtnpihllannobgaaGreatDoorH19
import Derived.Test.YtnpihllannobgaaGreatDoorH34
import Derived.Test.YtnpihllannobgaaGreatDoorH17
namespace Go.Proofs.YtnpihllannobgaaGreatDoor
set_option linter.unusedVariables false
set_option linter.unusedSimpArgs false
set_option maxRecDepth 100000
set_option maxHeartbeats 32000000
open Go.ChangeShapes Go.WideShapes Go.ChangeAt Go.RowKit
section
variable {w0 w w':World}{o0 o o':Cls}{c:Cfg}{i b:Nat}{s s':NSt}{r r':NR}
theorem nback_data(hcf:CfgOk c)(h:NAt w0 o0 c i b s w o r)(hin:i<c.nodes)(f:Fr)(iA:Option Addr)(il ic:Nat)(dA:Option Addr)(dl dc:Nat)(now ms:Int)(hd:f.dst=i)(hk:f.kind=1)(hp:s.synced=true→i≠0→s.p≠none)(hms: -30000≤ms∧ms≤30000)(hv:BO w o (.slice dA dl dc) f.data)(hfl:f.data.length≤100000)(hpl:∀n L,s.paths n=some L→L.length≤100000)(hq:s.q.length≤900)(hn:s.ev.length≤900):
  Calls Tryz.prog 108 #[.pointer (some ⟨b,0,none⟩),frV f (.slice iA il ic) (.slice dA dl dc),.int .i64 now,.int .i64 ms] w (PN w0 o0 c i b (vl c i s f.data) (λv W' o'=>AV (kQ i f now ms s) v W' o')):=by
 obtain⟨a,ha⟩:=qZ (kQ i f now ms s)
 have ha2:a=(if mayF (ackFr i s f now ms) then some (encF (ackFr i s f now ms)) else none):=by rw[ha];unfold kQ;rw[if_pos ⟨hd,.inl hk⟩]
 rw[←ha]
 obtain⟨E,hE⟩:=qZ (syncE i s now)
 have hfr:ackFr i s f now ms=⟨2,i,f.src,f.seq,[E,⟨2,0,0,-ms,[]⟩],[]⟩:=by rw[hE];rfl
 rw[hfr] at ha2
 have hEl:E.list=[]:=by rw[hE];rfl
 have HA:=qQ ha2
 unfold frV
 have hba:=qV w (.cells #[.int .i64 f.kind,.int .i64 f.src,.int .i64 f.dst,.int .i64 f.seq,.slice iA il ic,.slice dA dl dc] 71)
 have ga:=Chg.alloc (λ_=>False) w (.cells #[.int .i64 f.kind,.int .i64 f.src,.int .i64 f.dst,.int .i64 f.seq,.slice iA il ic,.slice dA dl dc] 71)
 have HB:=qQ hba
 have H:=qQ (h.kept ga)
 have HG:=qQ ga
 have e1:IntKind.i64.wrap (-ms)= -ms:=IntWalk.i64_in _ (by omega)
 have HS:=qQ (λW (g:Chg (λ_=>False) w W)=>nsync_any (h.kept g) now hp)
 rw[←hE] at HS
 unfold elV at HS
 have HENC:=qQ (show∀W,Chg (λ_=>False) w W→Calls Tryz.prog 60 #[frV ⟨2,i,f.src,f.seq,[E,⟨2,0,0,-ms,[]⟩],[]⟩ (.slice (some ⟨W.heap.size,0,none⟩) 2 2) (.slice none 0 0)]
   (W.alloc (.cells #[.int .i64 E.kind,.int .i64 E.asn,.int .i64 E.rank,.int .i64 E.ticks,.slice none 0 0,.int .i64 2,.int .i64 0,.int .i64 0,.int .i64 (-ms),.slice none 0 0] 172)) (PEncF (W.alloc (.cells #[.int .i64 E.kind,.int .i64 E.asn,.int .i64 E.rank,.int .i64 E.ticks,.slice none 0 0,.int .i64 2,.int .i64 0,.int .i64 0,.int .i64 (-ms),.slice none 0 0] 172)) ⟨2,i,f.src,f.seq,[E,⟨2,0,0,-ms,[]⟩],[]⟩) from
  λW g=>by
   have gz:=h.z.more (Nat.le_trans g.size (Chg.alloc (λ_=>False) W (.cells #[.int .i64 E.kind,.int .i64 E.asn,.int .i64 E.rank,.int .i64 E.ticks,.slice none 0 0,.int .i64 2,.int .i64 0,.int .i64 0,.int .i64 (-ms),.slice none 0 0] 172)).size)
   refine fencode_any _ o gz _ _ _ (IeO.twoT (e:=E) (f:=⟨2,0,0,-ms,[]⟩) (getc2 _ _ _ _ _ _ _ _ _ _ 172 _ _ (qV W _)) (h.z _ g.size) (by rw[hEl];exact RV.nil _ _ _) (RV.nil _ _ _)) (BO.nil _ _) (by simp) (by simp) ?_
   intro e he
   simp at he
   rcases he with rfl|rfl
   ·rw[hEl];simp
   ·simp)
 have HENC2:=qQ (show∀W,Chg (λ_=>False) w W→Calls Tryz.prog 60 #[frV ⟨2,i,f.src,f.seq,[E,⟨2,0,0,-ms,[]⟩],[]⟩ (.slice (some ⟨W.heap.size,0,none⟩) 2 2) (.slice none 0 0)]
   (W.alloc (.cells #[.int .i64 E.kind,.int .i64 E.asn,.int .i64 E.rank,.int .i64 E.ticks,.slice none 0 0,.int .i64 2,.int .i64 0,.int .i64 0,.int .i64 (-ms),.slice none 0 0] 172)) (PEn a o (W.alloc (.cells #[.int .i64 E.kind,.int .i64 E.asn,.int .i64 E.rank,.int .i64 E.ticks,.slice none 0 0,.int .i64 2,.int .i64 0,.int .i64 0,.int .i64 (-ms),.slice none 0 0] 172))) from
  λW g=>(HENC.out W g).mono (λen wq hpe=>by
   have hA:=HA.out
   rcases hpe with ⟨hm1,y,he,hown,gq⟩|⟨hm1,he,gq⟩
   ·rw[if_pos hm1] at hA
    refine⟨y,0,he,?_,gq⟩
    rw[hA]
    exact BO.of_own hown (encF_byte _ hm1 (by intro x hx;cases hx)) (λk hk=>h.z k (Nat.le_trans (Nat.le_trans g.size (Chg.alloc (λ_=>False) W _).size) hk))
   ·rw[if_neg (by simp[hm1])] at hA
    refine⟨_,1,he,?_,gq⟩
    rw[hA];rfl))
 have HZ:=qQ h.z
 have t1:(f.dst != (i:Int))=false:=by simp[hd]
 have t2:(f.kind != 1)=false:=by simp[hk]
 have t4:(f.kind==1)=true:=by simp[hk]
 have HTK:=qQ (show∀W,Chg (λ_=>False) w W→Calls Tryz.prog 160 #[.pointer (some ⟨b,0,none⟩),.slice dA dl dc] W (PN W o c i b (vl c i s f.data) (λv _ _=>v= .tuple #[])) from λW g=>ntakes_any hcf (NAt.start (h.kept g).nd (h.kept g).z) hin _ _ (hv.keep g (λ_ _ e=>e)) hfl hpl hq hn)
 have H0:=qQ h
 clear h hba ga ha ha2 hfr hE hEl hd hk hv hfl hpl hq hn hcf hin
 unfold frV at HENC2
 clear HENC
 go_enter Tryz.func108,Tryz.ntmps108
 go_wp2_with fail
 generalize hW:w.alloc (.cells #[.int .i64 f.kind,.int .i64 f.src,.int .i64 f.dst,.int .i64 f.seq,.slice iA il ic,.slice dA dl dc] 71)=w1 at *
 obtain⟨d0,d1,d2,d3,d4,d5⟩:=qC HB.out
 have c1:w1.cell? ⟨b,9,none⟩=some (.int .i64 i):=H.out.cell 9
 obtain⟨I,F1,hI,hF1,hFA⟩:=clsF w1
 have e0:=qF hF1 d0
 have e2:=qF hF1 d2
 have e3:=qF hF1 c1
 have HFF:=qQ hF1
 have HFA:=qQ (hFA _ (Chg.drew _ _))
 clear hF1 hFA d0 d1 d2 d3 d4 d5 c1
 with_reducible refine qW F1 (by kernel_rfl) (by kernel_rfl) HFA.out ?_
 repeat ((with_reducible refine wpQuiet_step (λK hK=>?_));go_simp;(try (rw[if_neg];rotate_left;(intro h;cases h)));(with_reducible refine hK _ ?_);clear hK K)
 with_reducible refine wpQuiet_nil ?_
 intro _ hw'
 obtain⟨nq,rfl⟩:=hw'
 have hgq:=HFF.out nq
 have hbq:(F1 nq).heap[w.heap.size]? =_:=Chg.keep hgq HB.out (λe=>e)
 have HG2:=qQ (HG.out.trans hgq)
 have H2:=qQ (H.out.kept hgq)
 have HB2:=qQ hbq
 clear e0 e2 e3 HFF HFA hI HB HG H hgq hbq hW
 generalize F1 nq=w2 at *
 have HBW:=qQ (show∀W,Chg (λ_=>False) w2 W→W.heap[w.heap.size]? =some (.cells #[.int .i64 f.kind,.int .i64 f.src,.int .i64 f.dst,.int .i64 f.seq,.slice iA il ic,.slice dA dl dc] 71 (0,0))∧W.cell? ⟨b,9,none⟩=some (.int .i64 i) from
  λW g=>⟨Chg.keep g HB2.out (λe=>e),(H2.out.kept g).cell 9⟩)
 obtain⟨d0,d1,d2,d3,d4,d5⟩:=qC HB2.out
 have c1:w2.cell? ⟨b,9,none⟩=some (.int .i64 i):=H2.out.cell 9
 have HC:=qQ (Chg.refl (λ_=>False) w2)
 go_wp2_with fail
 have HSS:=qQ (show∀W,Chg (λ_=>False) w2 W→W.cell? ⟨b,9,none⟩=some (.int .i64 i)∧W.cell? ⟨w.heap.size,1,none⟩=some (.int .i64 f.src)∧W.cell? ⟨w.heap.size,3,none⟩=some (.int .i64 f.seq) from
  λW g=>by
   obtain⟨h1,h2⟩:=HBW.out W g
   exact⟨h2,by rw[qJ h1];rfl,by rw[qJ h1];rfl⟩)
 go_cut [9,10] (λt9 t10 wx=>∃y,t9=y∧AV a y wx o∧Chg (λ_=>False) w wx∧Chg (λ_=>False) w2 wx)
 case first=>
  go_region_held3 (λW=>W.cell? ⟨b,9,none⟩=some (.int .i64 i)∧W.cell? ⟨w.heap.size,1,none⟩=some (.int .i64 f.src)∧W.cell? ⟨w.heap.size,3,none⟩=some (.int .i64 f.seq))
   (((with_reducible refine HSS.out _ ?_);repeat (first|with_reducible exact Chg.drew _ _|with_reducible exact HGX.out|with_reducible exact HGW.out|(with_reducible refine Chg.trans ?_ (Chg.alloc _ _ _)))))
   (first
   |(go_at_call 95;refine (HS.out _ (HG2.out.trans (Chg.drew _ w2))).mono ?_;rintro en wp ⟨rfl,gp⟩
     have HGW:=qQ ((Chg.drew _ w2).trans gp))
   |(go_at_call 60;refine (HENC2.out _ (HG2.out.trans HGW.out)).mono ?_;rintro en wq ⟨y,er,rfl,hay,gq⟩
     have HGX:=qQ (HGW.out.trans ((Chg.alloc _ wp _).trans gq))))
  all_goals
   go_wp2_with fail
   go_meet
   exact⟨y,rfl,hay,HG2.out.trans HGX.out,HGX.out⟩
 case rest=>
  obtain⟨y,rfl,hy,hg,hg2⟩:=hcut
  obtain⟨hb3,_⟩:=HBW.out _ hg2
  obtain⟨d0,d1,d2,d3,d4,d5⟩:=qC hb3
  have HY:=qQ (And.intro hy hg)
  clear hy hg hg2 hb3
  have HT:=qQ (HTK.out _ HY.out.2)
  clear HTK
  go_wp2_with fail
  with_reducible refine HT.out.mono ?_
  rintro en w5 ⟨v5,o5,r5,rfl,hN5,rfl⟩
  have HN5:=qQ hN5
  clear hN5 HT d0 d1 d2 d3 d4 d5
  go_wp2_with fail
  go_ret
  have hz:=(H0.out.kept HY.out.2).z
  exact⟨_,o5,r5,rfl,(H0.out.kept HY.out.2).trans HN5.out,HY.out.1.told HN5.out hz⟩
end
section
variable {w0 w w':World}{o0 o o':Cls}{c:Cfg}{i b:Nat}{s s':NSt}{r r':NR}
theorem hearsN_qp(i:Nat)(s:NSt)(src rk now t:Int):(qx i s src rk now t).q=s.q∧(qx i s src rk now t).paths=s.paths:=by
 have e1:∀(s2:NSt) q,(zQ i s2 q).q=s2.q∧(zQ i s2 q).paths=s2.paths:=λs2 q=>by unfold zQ;split <;> exact⟨rfl,rfl⟩
 have e2:(zY i (jd s src rk now) src t).q=s.q∧(zY i (jd s src rk now) src t).paths=s.paths:=by unfold zY;split <;> exact⟨rfl,rfl⟩
 unfold qx
 exact⟨(e1 _ _).1.trans e2.1,(e1 _ _).2.trans e2.2⟩
theorem nhear2v_any(hc:CfgOk c)(h:NAt w0 o0 c i b s w o r)(hi:i<c.nodes)(v:Value)(L:List Int)(hv:BS w w.heap.size v L)(hL:L.length≤100000)(now ms:Int)(h0:0≤now)(h1:now<1099511627776)(hev:s.ev=[])(hms: -30000≤ms∧ms≤30000)
  (hb: -1000000000000000≤s.base∧s.base≤1000000000000000) (hp:s.synced=true→i≠0→s.p≠none∧s.k≠none) (B:NSt→NSt) (A:NSt→Option (List Int)) (X:Int×Fr) (hX:X=decF L)
  (HB:∀(W0:World) (O0:Cls) (s2:NSt) (W:World) (o':Cls) (r':NR) iA il ic dA dl dc,NAt W0 O0 c i b s2 W o' r'→s2.ev.length≤900→(s2.q=s.q∧s2.paths=s.paths)→(s2.synced=true→i≠0→s2.p≠none)→IeO W o' (.slice iA il ic) X.2.ies→BO W o' (.slice dA dl dc) X.2.data→
   Calls Tryz.prog 108 #[.pointer (some ⟨b,0,none⟩),frV X.2 (.slice iA il ic) (.slice dA dl dc),.int .i64 now,.int .i64 ms] W (PN W0 O0 c i b (B s2) (λv W' o''=>AV (A s2) v W' o''))):
  Calls Tryz.prog 63 #[.pointer (some ⟨b,0,none⟩),.int .i64 now,v,.int .i64 ms] w (PHearN w0 o0 c i b (zq i c s X now ms B) (ansN i c s X now ms A)):=by
 have HD:=qQ (vT w v L hv hL)
 rw[←hX] at HD
 have HA:=qQ (λw=>jB now h0 h1 w)
 have hcs:(X.1=0∧mayF X.2=true)∨(X.1≠0∧X.2=fr0):=by rw[hX];exact vK L
 obtain⟨F,hF⟩:=qZ (zq i c s X now ms B)
 obtain⟨a,ha⟩:=qZ (ansN i c s X now ms A)
 rw[←hF,←ha]
 have HF:=qQ (And.intro hF ha)
 have H:=qQ h
 have HLB:=qQ (qX h.nd.blk)
 obtain⟨vA,vc,rfl,_⟩:=hv
 obtain⟨vn,hvn⟩:∃n,n=L.length:=⟨_,rfl⟩
 rw[←hvn] at HD ⊢
 have HBB:=qQ HB
 clear h hF ha hX HB hvn hL
 go_enter Tryz.func63,Tryz.ntmps63
 go_wp2_with fail
 (with_reducible refine (HA.out _).mono ?_)
 rintro en w1 ⟨rfl,rfl⟩
 go_wp2_with fail
 with_reducible refine HD.out.mono ?_
 rintro en w2 ⟨iv,dv,rfl,hI,hD,hG⟩
 have H2:=qQ (H.out.kept hG)
 have HI2:=qQ (hI o H.out.z)
 have HD2:=qQ (hD o H.out.z)
 obtain⟨iA,ic,hiv⟩:=HI2.out.val
 obtain⟨⟨dA,dc,hdv,_⟩,_⟩:=HD2.out
 clear hI hD hG H HD
 obtain⟨e,f⟩:=X
 dsimp only at hiv hdv HI2 HD2 hcs HBB HF ⊢
 obtain⟨il,hil⟩:∃n,n=f.ies.length:=⟨_,rfl⟩
 obtain⟨dl,hdl⟩:∃n,n=f.data.length:=⟨_,rfl⟩
 rw[←hil] at hiv
 rw[←hdl] at hdv
 subst hiv hdv
 clear hil hdl
 have ga:=Chg.alloc (λ_=>False) w2 (.cells #[.int .i64 f.kind,.int .i64 f.src,.int .i64 f.dst,.int .i64 f.seq,.slice iA il ic,.slice dA dl dc] 71)
 have HB3:=qQ (qV w2 (.cells #[.int .i64 f.kind,.int .i64 f.src,.int .i64 f.dst,.int .i64 f.seq,.slice iA il ic,.slice dA dl dc] 71))
 have HT:=qQ (H2.out.kept ga)
 have HI3:=qQ (HI2.out.keep ga (λ_ _ e=>e))
 have HD3:=qQ (HD2.out.keep ga (λ_ _ e=>e))
 have HZ0:=qQ (H2.out.z _ (Nat.le_refl _))
 clear ga HI2 HD2 H2
 unfold frV
 go_wp2_with fail
 generalize hW:w2.alloc (.cells #[.int .i64 f.kind,.int .i64 f.src,.int .i64 f.dst,.int .i64 f.seq,.slice iA il ic,.slice dA dl dc] 71)=w3 at *
 have HBK:=qQ (show∀W s' o' r',NAt w3 o c i b s' W o' r'→W.heap[w2.heap.size]? =some (.cells #[.int .i64 f.kind,.int .i64 f.src,.int .i64 f.dst,.int .i64 f.seq,.slice iA il ic,.slice dA dl dc] 71 (0,0)) from
  λW s' o' r' hN=>Chg.keep hN.chg HB3.out (λe=>by obtain⟨j,_,e⟩:=e;rw[HZ0.out] at e;exact qP i j e.symm))
 have H3:=qQ (NAt.start HT.out.nd HT.out.z)
 obtain⟨d0,d1,d2,d3,d4,d5⟩:=qC HB3.out
 have c1:w3.cell? ⟨b,9,none⟩=some (.int .i64 i):=H3.out.cell 9
 obtain⟨I,F1,hI,hF1,hFA⟩:=clsF w3
 have e1:=qF hF1 d1
 have e2:=qF hF1 c1
 obtain⟨M,hM⟩:=qZ (inR f.src 0 ((c.nodes:Int)-1))
 have HC1:=qQ (show∀n,Calls Tryz.prog 78 #[.pointer (some ⟨b,0,none⟩),.int .i64 f.src] (F1 n) (λe w'=>e= .returned (.bool M)∧∃m,w'=F1 m) from
  λn=>(nhas_any (H3.out.kept (hF1 n)) f.src hc.n1).mono (λe w' ⟨h1,h2⟩=>⟨by rw[hM];exact h1,n,h2⟩))
 have HFF:=qQ hF1
 have HFA:=qQ (hFA _ (Chg.drew _ _))
 have HBAD:=qQ (show goodF i c (e,f)=false→F=s∧a=none from λhg=>⟨by rw[HF.out.1];unfold zq;rw[hg];rfl,by rw[HF.out.2];unfold ansN;rw[hg];rfl⟩)
 have HM:=qQ hM
 clear hF1 hFA d0 d1 d2 d3 d4 d5 c1 hW hM
 with_reducible refine qW F1 (by kernel_rfl) (by kernel_rfl) HFA.out ?_
 by_cases he:e=0
 ·have t1:(e != 0)=false:=by simp[he]
  have hmay:mayF f=true:=by
   rcases hcs with h|h
   ·exact h.2
   ·exact absurd he h.1
  have HMAY:=qQ hmay
  clear hcs hmay
  cases hMM:M with
  |false=>
   rw[hMM] at HC1
   repeat ((with_reducible refine wpQuiet_step (λK hK=>?_));go_simp;(try (rw[if_neg];rotate_left;(intro h;cases h)));first|((with_reducible refine hK _ ?_);clear hK K)|(apply Exists.intro;(with_reducible refine⟨λ_=>?_,hK _ ?_⟩);(exact HC1.out _);clear hK K))
   with_reducible refine wpQuiet_nil ?_
   intro _ hw'
   obtain⟨nq,rfl⟩:=hw'
   obtain⟨hf1,ha1⟩:=HBAD.out (by unfold goodF;rw[←HM.out,hMM];simp)
   have H4:=qQ (H3.out.kept (HFF.out nq))
   clear e1 e2 HFF HFA hI HC1 H3
   generalize F1 nq=w4 at *
   subst hf1 ha1
   go_wp2_with fail
   go_ret2
   refine⟨_,o,r,rfl,?_,_,_,rfl,rfl,?_⟩
   ·rw[jR hev];exact HT.out.trans H4.out
   ·rw[hev];exact Eo.nil _ _ _
  |true=>
   rw[hMM] at HC1
   have HM2:=qQ (hMM.symm.trans HM.out)
   clear hMM HM
   by_cases hsi:f.src=i
   ·have t2:(f.src==(i:Int))=true:=by simp[hsi]
    have HSI:=qQ hsi
    clear hsi
    repeat ((with_reducible refine wpQuiet_step (λK hK=>?_));go_simp;(try (rw[if_neg];rotate_left;(intro h;cases h)));first|((with_reducible refine hK _ ?_);clear hK K)|(apply Exists.intro;(with_reducible refine⟨λ_=>?_,hK _ ?_⟩);(exact HC1.out _);clear hK K))
    with_reducible refine wpQuiet_nil ?_
    intro _ hw'
    obtain⟨nq,rfl⟩:=hw'
    obtain⟨hf1,ha1⟩:=HBAD.out (by unfold goodF;simp[HSI.out])
    have H4:=qQ (H3.out.kept (HFF.out nq))
    clear e1 e2 HFF HFA hI HC1 H3
    generalize F1 nq=w4 at *
    subst hf1 ha1
    go_wp2_with fail
    go_ret2
    refine⟨_,o,r,rfl,?_,_,_,rfl,rfl,?_⟩
    ·rw[jR hev];exact HT.out.trans H4.out
    ·rw[hev];exact Eo.nil _ _ _
   ·have t2:(f.src==(i:Int))=false:=by simp[hsi]
    have hg:goodF i c (e,f)=true:=by unfold goodF;simp only[];rw[←HM2.out,t2,he];rfl
    have HGD:=qQ hg
    repeat ((with_reducible refine wpQuiet_step (λK hK=>?_));go_simp;(try (rw[if_neg];rotate_left;(intro h;cases h)));first|((with_reducible refine hK _ ?_);clear hK K)|(apply Exists.intro;(with_reducible refine⟨λ_=>?_,hK _ ?_⟩);(exact HC1.out _);clear hK K))
    with_reducible refine wpQuiet_nil ?_
    intro _ hw'
    obtain⟨nq,rfl⟩:=hw'
    have H4:=qQ (H3.out.kept (HFF.out nq))
    have HI4:=qQ (HI3.out.keep (HFF.out nq) (λ_ _ e=>e))
    have HD4:=qQ (HD3.out.keep (HFF.out nq) (λ_ _ e=>e))
    clear e1 e2 HFF HFA hI HC1 H3 HBAD hg t1
    generalize F1 nq=w4 at *
    obtain⟨d0,d1,d2,d3,d4,d5⟩:=qC (HBK.out _ _ _ _ H4.out)
    obtain⟨hm1,hm2⟩:=mayF_ies HMAY.out
    have hR:=nrankf_any w4 o f (.slice iA il ic) dA dl dc now HI4.out hm1 hm2
    have hrb:=rankF_bd HMAY.out now
    obtain⟨⟨rk,ok⟩,hRK⟩:∃x,x=zZ f now:=⟨_,rfl⟩
    rw[←hRK] at hR hrb
    dsimp only at hR hrb
    unfold frV at hR
    have HR:=qQ hR
    have HRK:=qQ hRK
    clear hR hRK hm1 hm2
    go_wp2_with fail
    with_reducible refine HR.out.mono ?_
    rintro en w5 ⟨rfl,g5⟩
    have H5:=qQ (H4.out.kept g5)
    have HI5:=qQ (HI4.out.keep g5 (λ_ _ e=>e))
    have HD5:=qQ (HD4.out.keep g5 (λ_ _ e=>e))
    clear g5 HR H4 HI4 HD4 d0 d1 d2 d3 d4 d5
    cases ok with
    |false=>
     have hf1:F=s:=by rw[HF.out.1];unfold zq;simp only[];rw[←HRK.out];simp
     have ha1:a=none:=by rw[HF.out.2];unfold ansN;simp only[];rw[←HRK.out];simp
     go_wp2_with fail
     go_ret2
     refine⟨_,o,r,rfl,?_,_,_,rfl,?_,?_⟩
     ·rw[hf1,jR hev];exact HT.out.trans H5.out
     ·rw[ha1];rfl
     ·rw[hf1,hev];exact Eo.nil _ _ _
    |true=>
     have c18:w5.cell? ⟨b,18,none⟩=some (.bool s.synced):=H5.out.cell 18
     obtain⟨m0,m1⟩:=hms
     obtain⟨d0,d1,d2,d3,d4,d5⟩:=qC (HBK.out _ _ _ _ H5.out)
     have hrr:=hrb
     have hsb:0≤f.src∧f.src≤15:=by
      obtain⟨_,_,_,q1,q2,_⟩:=vN HMAY.out
      omega
     have HRX:=qQ (show zZ f now=(rk,true) from HRK.out.symm)
     go_upto_region 9 with fail
     go_cut [3] (λu3 wx=>u3= .int .i64 ms∧wx=w5)
     case first=>
      rcases Int.lt_or_eq_of_le m0 with m0|m0
      ·go_wp2_with fail
       go_meet
       exact⟨rfl,rfl⟩
      ·rw[←m0]
       go_wp2_with fail
       go_meet
       exact⟨rfl,rfl⟩
     obtain⟨rfl,rfl⟩:=hcut
     cases hsy:s.synced with
     |false=>
      rw[hsy] at c18
      have HAD:=qQ (nadopt_any hc H5.out (by have:=hc.n1;omega) f iA il ic dA dl dc rk now ms (by rw[hev];simp) hb hsb (by simpa using hsi) hrr h0)
      unfold frV at HAD
      go_wp2_with fail
      with_reducible refine HAD.out.mono ?_
      rintro en w6 ⟨v6,o6,r6,rfl,h6,rfl⟩
      have hf1:F=adoptN i c s f rk now ms:=by rw[HF.out.1];unfold zq;simp only[];rw[HRX.out,HGD.out,hsy];rfl
      have ha1:a=none:=by rw[HF.out.2];unfold ansN;simp only[];rw[hsy];simp
      rw[←hf1] at h6
      have HTL:=qQ (zH h6)
      have HFA1:=qQ ha1
      clear h6 HAD hf1 ha1 d0 d1 d2 d3 d4 d5
      go_wp2_with fail
      with_reducible refine HTL.out.mono ?_
      rintro en w7 ⟨v7,o7,r7,rfl,h7,hE7⟩
      have H7:=qQ (And.intro h7 hE7)
      clear h7 hE7 HTL
      go_wp2_with fail
      go_ret2
      refine⟨_,o7,r7,rfl,HT.out.trans H7.out.1,_,_,rfl,?_,H7.out.2⟩
      rw[HFA1.out];rfl
     |true=>
      rw[hsy] at c18
      have HEV:=qQ (zx H5.out 1 f.src (by rw[hev];simp))
      have HP:=qQ (hp hsy)
      have HSY:=qQ hsy
      clear hp hsy
      go_wp2_with fail
      with_reducible refine HEV.out.mono ?_
      rintro en w6 ⟨v6,o6,r6,rfl,h6,rfl⟩
      clear d0 d1 d2 d3 d4 d5 HEV c18
      obtain⟨d0,d1,d2,d3,d4,d5⟩:=qC (HBK.out _ _ _ _ h6)
      have c9:w6.cell? ⟨b,9,none⟩=some (.int .i64 i):=h6.cell 9
      have hl6:(evN s ⟨1,i,f.src,0,pk0⟩).ev.length≤1:=by show (s.ev++[_]).length≤1;rw[hev];simp
      have HH:=qQ (λ(q:i≠0)=>nhears_any h6 f.src rk now ms (by omega) hb (HP.out q).2 (HP.out q).1 hsb (by simpa using hsi) hrr h0)
      have HIX:=qQ (And.intro (h6.io HT.out.z HI3.out) (h6.bo HT.out.z HD3.out))
      have HB6:=qQ (HBB.out w3 o _ w6 o6 r6 iA il ic dA dl dc h6 (by omega) ⟨rfl,rfl⟩ (λ_ q=>(HP.out q).1) HIX.out.1 HIX.out.2)
      unfold frV at HB6
      obtain⟨s1,hs1⟩:=qZ (evN s ⟨1,i,f.src,0,pk0⟩)
      have H6:=qQ h6
      rw[←hs1] at H6 HB6 HH
      have HS1Q:=qQ (show s1.q=s.q∧s1.paths=s.paths from by rw[hs1];exact⟨rfl,rfl⟩)
      have HS1P:=qQ (show i≠0→s1.p≠none from λq=>by rw[hs1];exact (HP.out q).1)
      have hF1:F=hear2N i s f rk now ms B:=by rw[HF.out.1];unfold zq;simp only[];rw[HRX.out,HGD.out,HSY.out];rfl
      have hA1:a=(if i=0 then A s1 else if qR (qx i s1 f.src rk now ms)=64 then none else A (qx i s1 f.src rk now ms)):=by rw[HF.out.2,hs1];unfold ansN;simp only[];rw[HRX.out,HGD.out,HSY.out];simp
      unfold hear2N at hF1
      rw[←hs1] at hF1
      have HFA1:=qQ (And.intro hF1 hA1)
      have HLN2:=qQ (show∀s2,s2=qx i s1 f.src rk now ms→s2.ev.length≤900 from λs2 e=>by
       have:=hearsN_ev i s1 f.src rk now ms
       rw[e]
       have h1:s1.ev.length≤1:=by rw[hs1];exact hl6
       omega)
      clear h6 hF1 hA1 hs1 hl6 HIX H5 HI5 HD5
      by_cases hi0:i=0
      ·have HI0:=qQ hi0
       have i0:((i:Int) != 0)=false:=by simp[hi0]
       clear hi0
       go_wp2_with fail
       with_reducible refine HB6.out.mono ?_
       rintro en w7 ⟨v7,o7,r7,rfl,h7,hA7⟩
       have HTL:=qQ (zH (NAt.start h7.nd h7.z))
       have H7:=qQ (And.intro h7 hA7)
       clear d0 d1 d2 d3 d4 d5 c9 HB6 H6 h7 hA7 HH
       go_wp2_with fail
       with_reducible refine HTL.out.mono ?_
       rintro en w8 ⟨v8,o8,r8,rfl,h8,hE8⟩
       have H8:=qQ (And.intro h8 hE8)
       clear h8 hE8 HTL
       go_wp2_with fail
       go_ret2
       have e1:F=B s1:=by rw[HFA1.out.1,if_pos HI0.out]
       have e2:a=A s1:=by rw[HFA1.out.2,if_pos HI0.out]
       rw[e1,e2]
       exact⟨_,o8,r8,rfl,HT.out.trans (H7.out.1.trans H8.out.1),_,_,rfl,AV.told H8.out.1 H7.out.1.z H7.out.2,H8.out.2⟩
      ·have HI0:=qQ hi0
       have i0:((i:Int) != 0)=true:=by simp[hi0]
       have HH2:=qQ (HH.out hi0)
       clear hi0 HB6 HH
       go_wp2_with fail
       with_reducible refine HH2.out.mono ?_
       rintro en w7 ⟨v7,o7,r7,rfl,h7,rfl⟩
       obtain⟨s2,hs2⟩:=qZ (qx i s1 f.src rk now ms)
       rw[←hs2] at h7 HFA1
       have HF7:=qQ (qt h7)
       have H7:=qQ h7
       have HPN7:=qQ (show s2.p≠none from by rw[hs2];exact hearsN_p _ _ _ _ _ _ (HS1P.out (HI0.out)))
       have HQP7:=qQ (show s2.q=s.q∧s2.paths=s.paths from by rw[hs2];obtain⟨a1,a2⟩:=hearsN_qp i s1 f.src rk now ms;rw[a1,a2];exact HS1Q.out)
       have hl7:s2.ev.length≤900:=HLN2.out s2 hs2
       have HL7:=qQ hl7
       obtain⟨t,ht⟩:=qZ (qR s2)
       rw[←ht] at HF7 HFA1
       clear d0 d1 d2 d3 d4 d5 c9 H6 h7 hs2 ht HH2 hl7
       by_cases h64:t=64
       ·have HT64:=qQ h64
        have t64:(t==64)=true:=by simp[h64]
        clear h64
        go_wp2_with fail
        with_reducible refine HF7.out.mono ?_
        rintro en w8 ⟨rfl,g8⟩
        have HTL:=qQ (zH (H7.out.kept g8))
        clear g8 HF7
        go_wp2_with fail
        with_reducible refine HTL.out.mono ?_
        rintro en w9 ⟨v9,o9,r9,rfl,h9,hE9⟩
        have H9:=qQ (And.intro h9 hE9)
        clear h9 hE9 HTL
        go_wp2_with fail
        go_ret2
        have e1:F=s2:=by rw[HFA1.out.1,if_neg HI0.out,if_pos HT64.out]
        have e2:a=none:=by rw[HFA1.out.2,if_neg HI0.out,if_pos HT64.out]
        rw[e1,e2]
        exact⟨_,o9,r9,rfl,HT.out.trans H9.out.1,_,_,rfl,rfl,H9.out.2⟩
       ·have HT64:=qQ h64
        have t64:(t==64)=false:=by simp[h64]
        clear h64
        go_wp2_with fail
        with_reducible refine HF7.out.mono ?_
        rintro en w8 ⟨rfl,g8⟩
        have h8:=H7.out.kept g8
        have HIX:=qQ (And.intro (h8.io HT.out.z HI3.out) (h8.bo HT.out.z HD3.out))
        have HB8:=qQ (HBB.out w3 o _ w8 o7 r7 iA il ic dA dl dc h8 HL7.out HQP7.out (λ_ _=>HPN7.out) HIX.out.1 HIX.out.2)
        unfold frV at HB8
        obtain⟨d0,d1,d2,d3,d4,d5⟩:=qC (HBK.out _ _ _ _ h8)
        clear h8 g8 HF7 HIX
        go_wp2_with fail
        with_reducible refine HB8.out.mono ?_
        rintro en w9 ⟨v9,o9,r9,rfl,h9,hA9⟩
        have HTL:=qQ (zH (NAt.start h9.nd h9.z))
        have H9:=qQ (And.intro h9 hA9)
        clear d0 d1 d2 d3 d4 d5 HB8 h9 hA9
        go_wp2_with fail
        with_reducible refine HTL.out.mono ?_
        rintro en wa ⟨va,oa,ra,rfl,ha,hEa⟩
        have HA2:=qQ (And.intro ha hEa)
        clear ha hEa HTL
        go_wp2_with fail
        go_ret2
        have e1:F=B s2:=by rw[HFA1.out.1,if_neg HI0.out,if_neg HT64.out]
        have e2:a=A s2:=by rw[HFA1.out.2,if_neg HI0.out,if_neg HT64.out]
        rw[e1,e2]
        exact⟨_,oa,ra,rfl,HT.out.trans (H9.out.1.trans HA2.out.1),_,_,rfl,AV.told HA2.out.1 H9.out.1.z H9.out.2,HA2.out.2⟩
 ·have t1:(e != 0)=true:=by simp[he]
  have t2:(e==0)=false:=by simp[he]
  have t3:=t2
  repeat ((with_reducible refine wpQuiet_step (λK hK=>?_));go_simp;(try (rw[if_neg];rotate_left;(intro h;cases h)));first|((with_reducible refine hK _ ?_);clear hK K)|(apply Exists.intro;(with_reducible refine⟨λ_=>?_,hK _ ?_⟩);(exact HC1.out _);clear hK K))
  with_reducible refine wpQuiet_nil ?_
  intro _ hw'
  obtain⟨nq,rfl⟩:=hw'
  obtain⟨hf1,ha1⟩:=HBAD.out (by unfold goodF;simp[t1,t2,t3])
  have H4:=qQ (H3.out.kept (HFF.out nq))
  clear e1 e2 HFF HFA hI HC1 H3
  generalize F1 nq=w4 at *
  subst hf1 ha1
  go_wp2_with fail
  go_ret2
  refine⟨_,o,r,rfl,?_,_,_,rfl,rfl,?_⟩
  ·rw[jR hev];exact HT.out.trans H4.out
  ·rw[hev];exact Eo.nil _ _ _
def z7(c:Cfg)(i:Nat)(f:Fr)(s:NSt):NSt:=if f.dst=(i:Int)∧f.kind=1 then vl c i s f.data else s
theorem nhear3v_any(hc:CfgOk c)(h:NAt w0 o0 c i b s w o r)(hi:i<c.nodes)(v:Value)(L:List Int)(hv:BS w w.heap.size v L)(hL:L.length≤100000)(now ms:Int)(h0:0≤now)(h1:now<1099511627776)(hev:s.ev=[])(hms: -30000≤ms∧ms≤30000)
  (hb: -1000000000000000≤s.base∧s.base≤1000000000000000) (hp:s.synced=true→i≠0→s.p≠none∧s.k≠none) (hq:s.q.length≤900) (hpl:∀n L,s.paths n=some L→L.length≤100000):
  Calls Tryz.prog 63 #[.pointer (some ⟨b,0,none⟩),.int .i64 now,v,.int .i64 ms] w (PHearN w0 o0 c i b (zq i c s (decF L) now ms (z7 c i (decF L).2)) (ansN i c s (decF L) now ms (kQ i (decF L).2 now ms))):=by
 refine nhear2v_any hc h hi v L hv hL now ms h0 h1 hev hms hb hp (z7 c i (decF L).2) (kQ i (decF L).2 now ms) (decF L) rfl (λW0 O0 s2 W o' r' iA il ic dA dl dc hN hl hqp hp2 hI hD=>?_)
 by_cases hd:(decF L).2.dst=i
 ·by_cases hk1:(decF L).2.kind=1
  ·have hfl:(decF L).2.data.length≤100000:=by
    rcases vK L with ⟨_,h⟩|⟨_,h⟩
    ·have:=(vN h).2.2.1
     omega
    ·rw[h];simp[fr0]
   have e:z7 c i (decF L).2 s2=vl c i s2 (decF L).2.data:=by unfold z7;rw[if_pos ⟨hd,hk1⟩]
   rw[e]
   exact nback_data hc hN hi (decF L).2 iA il ic dA dl dc now ms hd hk1 hp2 (by omega) hD hfl (by rw[hqp.2];exact hpl) (by rw[hqp.1];exact hq) hl
  have e:z7 c i (decF L).2 s2=s2:=by unfold z7;rw[if_neg (λh=>hk1 h.2)]
  rw[e]
  by_cases hk4:(decF L).2.kind=4
  ·refine (nback_keep hN (decF L).2 iA il ic dA dl dc now ms hd hk4 hp2 (by omega)).mono (λen w' hpv=>?_)
   obtain⟨v,e,ha,g⟩:=hpv
   exact⟨v,o',r',e,hN.kept g,ha⟩
  ·refine (nback_none hN (decF L).2 iA il ic dA dl dc now ms (.inr ⟨hk1,hk4⟩)).mono (λen w' hpv=>?_)
   obtain⟨e,g⟩:=hpv
   refine⟨_,o',r',e,hN.kept g,?_⟩
   unfold kQ
   rw[if_neg (λh=>h.2.elim hk1 hk4)]
   rfl
 ·have e:z7 c i (decF L).2 s2=s2:=by unfold z7;rw[if_neg (λh=>hd h.1)]
  rw[e]
  refine (nback_none hN (decF L).2 iA il ic dA dl dc now ms (.inl hd)).mono (λen w' hpv=>?_)
  obtain⟨e,g⟩:=hpv
  refine⟨_,o',r',e,hN.kept g,?_⟩
  unfold kQ
  rw[if_neg (λh=>hd h.1)]
  rfl
end
def lost0N(s:NSt):NSt:={s with synced:=false,listened:=0,p:=none,k:=none,sasn:=0,skind:=0,ssrc:=0,sdst:=0,sseq:=0,sopen:=false}
def jg(i:Nat):List (Int×List Int)→NSt→NSt
 |[],s=>s
 |p::rest,s=>jg i rest (if (decP p.2).1==0 then evN (qT s) ⟨5,i,0,3,(decP p.2).2⟩ else qT s)
def endLN(i:Nat)(s:NSt):NSt:=jg i s.q (evN (lost0N s) ⟨3,i,0,0,pk0⟩)
def j6(c:Cfg)(i:Nat)(s:NSt)(now:Int):NSt:=
 if i=0∨s.synced=false then s else match s.p,s.k with
 |some (R,L),some x=>if qR (pN (kN s (some (vf x))) (some (R,keptL L now c.loss)))=64 then endLN i s else endN i s R L x now c.loss
 |_,_=>s
def hear1V(c:Cfg)(d:Dr)(known:List Int)(now:Int)(i j:Nat)(x:WM):WM:=
 let X:=decF (x.snd j).2.1
 let s:=zq i c (x.nd i) X now (msW c d x i j) (z7 c i X.2)
 {WM.tells c known (x.put i (noEv s)) s.ev with back:=x.back.set i (ansN i c (x.nd i) X now (msW c d x i j) (kQ i X.2 now (msW c d x i j)))}
def hear0V(c:Cfg)(d:Dr)(known:List Int)(now:Int)(i:Nat)(b:List Int)(x:WM):WM:=
 let X:=decF b
 let s:=zq i c (x.nd i) X now (msW c d x i i) (z7 c i X.2)
 WM.tells c known (x.put i (noEv s)) s.ev
def qz(c:Cfg)(d:Dr)(known:List Int)(now:Int)(ij:Inj)(i:Nat)(x:WM):WM:=
 if (x.snd i).2.1.isEmpty then (match heardW c d x i with|[j]=>hear1V c d known now i j x|[]=>(match ij i with|some b=>hear0V c d known now i b x|none=>x)|_=>x) else x
def ackV(c:Cfg)(d:Dr)(known:List Int)(now:Int)(i:Nat)(x:WM):WM:=
 if (x.snd i).2.1.isEmpty then x else
 let s:=z8 i (x.nd i) ((jK c d x i).getD []) now
 WM.tells c known (x.put i (noEv s)) s.ev
def endV(c:Cfg)(known:List Int)(now:Int)(i:Nat)(x:WM):WM:=
 WM.tells c known (x.put i (noEv (j6 c i (x.nd i) now))) (j6 c i (x.nd i) now).ev
def zN(c:Cfg)(d:Dr)(n:Nat)(now:Int)(ij:Inj)(x:WM):WM:=iter (qz c d (qf d n x).bound now ij) n {jN c d n now x with back:=List.replicate n none}
def slot4V(c:Cfg)(d:Dr)(n:Nat)(now:Int)(ij:Inj)(x:WM):WM:=iter (ackV c d (qf d n x).bound now) n (zN c d n now ij x)
def slot5V(c:Cfg)(d:Dr)(n:Nat)(now:Int)(ij:Inj)(x:WM):WM:=iter (endV c (qf d n x).bound now) n (slot4V c d n now ij x)
section
variable {w0 w w':World}{o0 o o':Cls}{c:Cfg}{i b:Nat}{s s':NSt}{r r':NR}
def qmeas(b:Nat)(w:World):Nat:=
 match w.cell? ⟨b,11,none⟩ with
 |some (.pointer (some p))=>(match w.cell? ⟨p.block,1,none⟩ with|some (.slice _ n _)=>n|_=>0)
 |_=>0
theorem NAt.qm(h:NAt w0 o0 c i b s w o r):qmeas b w=s.q.length:=by
 have c11:w.cell? ⟨b,11,none⟩=some (.pointer (some ⟨r.q,0,none⟩)):=h.cell 11
 obtain⟨v,lost,ps,q1,q2,q3,q4,q5,q6,q7,q8⟩:=h.nd.np.2.2.2.1
 have hQ:Qb w r.q c.queue v lost ps:=⟨q1,q5⟩
 obtain⟨A,cp,e⟩:=hQ.val
 have c1:=hQ.c1
 rw[e] at c1
 unfold qmeas
 rw[c11]
 dsimp only
 rw[c1]
 dsimp only
 rw[q8,List.length_map]
theorem lostAt(h:NAt w0 o0 c i b s w o r):
  NAt w0 o0 c i b (lost0N s)
   ((((((((((((w.setCell ⟨b,18,none⟩ (.bool false)).setCell ⟨b,21,none⟩ (.int .i64 0)).setCell ⟨b,19,none⟩ (.pointer none)).setCell ⟨b,20,none⟩ (.pointer none)).setCell ⟨b,23,none⟩ (.int .i64 0)).setCell ⟨b,24,none⟩ (.int .i64 0)).setCell ⟨b,25,none⟩ (.int .i64 0)).setCell ⟨b,26,none⟩ (.int .i64 0)).setCell ⟨b,27,none⟩ (.int .i64 0)).setCell ⟨b,28,none⟩ (.slice none 0 0)).setCell ⟨b,29,none⟩ (.slice none 0 0)).setCell ⟨b,30,none⟩ (.bool false))
   o {r with pv:= .pointer none,kv:= .pointer none,ia:=none,il:=0,ic:=0,da:=none,dl:=0,dc:=0}:=by
 have h1:=h.set (s':={s with synced:=false}) (r':=r) 18 (.bool false) rfl h.nd.np
 have h2:=h1.set (s':={s with synced:=false,listened:=0}) (r':=r) 21 (.int .i64 0) rfl h1.nd.np
 have h3:=h2.set (s':={s with synced:=false,listened:=0,p:=none}) (r':={r with pv:= .pointer none}) 19 (.pointer none) rfl (by
  obtain⟨p1,p2,p3,p4,p5,p6,p7,p8,p9,pa,pb⟩:=h2.nd.np
  exact⟨p1,p2,p3,p4,p5,p6,p7,rfl,p9,pa,pb⟩)
 have h4:=h3.set (s':={s with synced:=false,listened:=0,p:=none,k:=none}) (r':={r with pv:= .pointer none,kv:= .pointer none}) 20 (.pointer none) rfl (by
  obtain⟨p1,p2,p3,p4,p5,p6,p7,p8,p9,pa,pb⟩:=h3.nd.np
  exact⟨p1,p2,p3,p4,p5,p6,p7,p8,rfl,pa,pb⟩)
 have h5:=h4.set (s':={s with synced:=false,listened:=0,p:=none,k:=none,sasn:=0}) (r':={r with pv:= .pointer none,kv:= .pointer none}) 23 (.int .i64 0) rfl h4.nd.np
 have h6:=h5.set (s':={s with synced:=false,listened:=0,p:=none,k:=none,sasn:=0,skind:=0}) (r':={r with pv:= .pointer none,kv:= .pointer none}) 24 (.int .i64 0) rfl h5.nd.np
 have h7:=h6.set (s':={s with synced:=false,listened:=0,p:=none,k:=none,sasn:=0,skind:=0,ssrc:=0}) (r':={r with pv:= .pointer none,kv:= .pointer none}) 25 (.int .i64 0) rfl h6.nd.np
 have h8:=h7.set (s':={s with synced:=false,listened:=0,p:=none,k:=none,sasn:=0,skind:=0,ssrc:=0,sdst:=0}) (r':={r with pv:= .pointer none,kv:= .pointer none}) 26 (.int .i64 0) rfl h7.nd.np
 have h9:=h8.set (s':={s with synced:=false,listened:=0,p:=none,k:=none,sasn:=0,skind:=0,ssrc:=0,sdst:=0,sseq:=0}) (r':={r with pv:= .pointer none,kv:= .pointer none}) 27 (.int .i64 0) rfl h8.nd.np
 have ha:=h9.set (s':={s with synced:=false,listened:=0,p:=none,k:=none,sasn:=0,skind:=0,ssrc:=0,sdst:=0,sseq:=0}) (r':={r with pv:= .pointer none,kv:= .pointer none,ia:=none,il:=0,ic:=0}) 28 (.slice none 0 0) rfl h9.nd.np
 have hb:=ha.set (s':={s with synced:=false,listened:=0,p:=none,k:=none,sasn:=0,skind:=0,ssrc:=0,sdst:=0,sseq:=0}) (r':={r with pv:= .pointer none,kv:= .pointer none,ia:=none,il:=0,ic:=0,da:=none,dl:=0,dc:=0}) 29 (.slice none 0 0) rfl ha.nd.np
 exact hb.set (s':=lost0N s) 30 (.bool false) rfl hb.nd.np
theorem nend_lost(hc:CfgOk c)(h:NAt w0 o0 c i b s w o r)(hin:i<c.nodes)(now:Int)(h0:0≤now)(h1:now<1099511627776)(hi:i≠0)(hsy:s.synced=true)(R:Int)(L:List Pa)(x:Int)(hp:s.p=some (R,L))(hk:s.k=some x)(hev:s.ev.length≤90)
  (hq:s.q.length≤800) (hql:∀p∈s.q,p.2.length≤100000)
  (hne:qR (pN (kN s (some (vf x))) (some (R,keptL L now c.loss)))=64):
  Calls Tryz.prog 38 #[.pointer (some ⟨b,0,none⟩),.int .i64 now] w (PN w0 o0 c i b (noEv (endLN i s)) (λv w' o'=>Eo w' o' (cl i 9) v (endLN i s).ev)):=by
 have HA:=qQ (λw=>jB now h0 h1 w)
 have c18:w.cell? ⟨b,18,none⟩=some (.bool true):=by rw[←hsy];exact h.cell 18
 have c9:w.cell? ⟨b,9,none⟩=some (.int .i64 i):=h.cell 9
 have c20:w.cell? ⟨b,20,none⟩=some r.kv:=h.cell 20
 have hi16:i<16:=by have:=hc.n1;omega
 have hko:=h.nd.np.2.2.2.2.2.2.2.2.1
 rw[hk] at hko
 obtain⟨kb,hk1,hk2,hk3,hk4⟩:=hko
 rw[hk1] at c20
 have HK:=qQ (kpslot_any w kb c.keep x (vf x) hk2 (by omega) (by omega) rfl)
 have HK2:=qQ (λw' k g=>h.kset (w':=w') (x:=vf x) hk1 hk3 k (by unfold vf;omega) g)
 have i0:((i:Int)==0)=false:=by simp;omega
 obtain⟨F,hF⟩:=qZ (endLN i s)
 rw[←hF]
 have HF0:=qQ hF
 have HQ:=qQ (And.intro hq (And.intro hql hev))
 clear h hk hk1 hk2 hk3 hk4 hsy hF hq hql hev
 go_enter Tryz.func38,Tryz.ntmps38
 go_wp2_with fail
 (with_reducible refine (HA.out _).mono ?_)
 rintro en w1 ⟨rfl,rfl⟩
 go_wp2_with fail
 with_reducible refine HK.out.mono ?_
 rintro en w2 ⟨rfl,k1,k2⟩
 have H2:=qQ (HK2.out _ k1 k2)
 clear k1 k2 HK HK2
 have HF:=qQ (qt H2.out)
 go_wp2_with fail
 with_reducible refine HF.out.mono ?_
 rintro en w3 ⟨rfl,g3⟩
 have H3:=qQ (H2.out.kept g3)
 have hpo:=H3.out.nd.np.2.2.2.2.2.2.2.1
 obtain⟨pb,row,e1,hP,hq1,hq2,hR0,hR1,hL,hS⟩:=(show Po w3 o (cl i 6) r.pv i (some (R,L)) from hp▸hpo)
 have c19:w3.cell? ⟨b,19,none⟩=some (.pointer (some ⟨pb,0,none⟩)):=e1▸H3.out.cell 19
 have c6:w3.cell? ⟨b,6,none⟩=some (.int .i64 c.loss):=H3.out.cell 6
 have HO:=qQ (λW (g:Chg (λ_=>False) w3 W)=>psold_any W pb row i R L now c.loss (hP.kept g) hL h0 (by omega) (by have:=hc.l;omega) hc.l.2)
 have HPS:=qQ (λW (g:Chg (λ_=>False) w3 W) w' v' g2 P hn=>(H3.out.kept g).pset (w':=w') (v':=v') (R':=R) (L':=keptL L now c.loss) e1 hq1 hq2 g2 P hn ⟨hR0,hR1⟩ (Nat.le_trans (List.length_filter_le _ _) hL) (hS.filter _))
 clear g3 HF H2 hpo hP hq1 hq2 hR0 hR1 hL hS e1
 go_wp2_with fail
 go_still_tail 10,(by kernel_rfl)
 change wpList _ _ _ _ _ w3.drew
 go_wp2_with fail
 (with_reducible refine (HO.out _ (Chg.drew _ w3)).mono ?_)
 rintro en w4 ⟨vo,v',rfl,hP4,g4,hv4⟩
 obtain⟨o4,h4⟩:=HPS.out _ (Chg.drew _ w3) w4 v' g4 hP4 (λk hk=> .inl (by rw[←hv4];exact hk))
 have H4:=qQ h4
 have HF:=qQ (qt h4)
 clear hP4 g4 hv4 h4 HPS HO c19 c6
 obtain⟨t,ht⟩:=qZ (qR (pN (kN s (some (vf x))) (some (R,keptL L now c.loss))))
 rw[←ht] at HF hne
 have t64:(t != 64)=false:=by simpa using hne
 obtain⟨was,hw⟩:∃f,f=qR (kN s (some (vf x))):=⟨_,rfl⟩
 rw[←hw]
 clear ht hw hne
 go_wp2_with fail
 with_reducible refine HF.out.mono ?_
 rintro en w5 ⟨rfl,g5⟩
 have h5:=H4.out.kept g5
 have f18:=h5.f 18
 have f19:=h5.f 19
 have f20:=h5.f 20
 have f21:=h5.f 21
 have f23:=h5.f 23
 have f24:=h5.f 24
 have f25:=h5.f 25
 have f26:=h5.f 26
 have f27:=h5.f 27
 have f28:=h5.f 28
 have f29:=h5.f 29
 have f30:=h5.f 30
 have d18:w5.cell? ⟨b,18,none⟩=some (.bool s.synced):=h5.cell 18
 have d19:w5.cell? ⟨b,19,none⟩=some (r.pv):=h5.cell 19
 have d20:w5.cell? ⟨b,20,none⟩=some (r.kv):=h5.cell 20
 have d21:w5.cell? ⟨b,21,none⟩=some (.int .i64 s.listened):=h5.cell 21
 have d23:w5.cell? ⟨b,23,none⟩=some (.int .i64 s.sasn):=h5.cell 23
 have d24:w5.cell? ⟨b,24,none⟩=some (.int .i64 s.skind):=h5.cell 24
 have d25:w5.cell? ⟨b,25,none⟩=some (.int .i64 s.ssrc):=h5.cell 25
 have d26:w5.cell? ⟨b,26,none⟩=some (.int .i64 s.sdst):=h5.cell 26
 have d27:w5.cell? ⟨b,27,none⟩=some (.int .i64 s.sseq):=h5.cell 27
 have d28:w5.cell? ⟨b,28,none⟩=some (.slice r.ia r.il r.ic):=h5.cell 28
 have d29:w5.cell? ⟨b,29,none⟩=some (.slice r.da r.dl r.dc):=h5.cell 29
 have d30:w5.cell? ⟨b,30,none⟩=some (.bool s.sopen):=h5.cell 30
 have H6:=qQ (lostAt h5)
 clear g5 HF H4 h5
 go_upto_region 11 with fail
 clear d18 d19 d20 d21 d23 d24 d25 d26 d27 d28 d29 d30 f18 f19 f20 f21 f23 f24 f25 f26 f27 f28 f29 f30
 generalize (((((((((((w5.setCell ⟨b,18,none⟩ (.bool false)).setCell ⟨b,21,none⟩ (.int .i64 0)).setCell ⟨b,19,none⟩ (.pointer none)).setCell ⟨b,20,none⟩ (.pointer none)).setCell ⟨b,23,none⟩ (.int .i64 0)).setCell ⟨b,24,none⟩ (.int .i64 0)).setCell ⟨b,25,none⟩ (.int .i64 0)).setCell ⟨b,26,none⟩ (.int .i64 0)).setCell ⟨b,27,none⟩ (.int .i64 0)).setCell ⟨b,28,none⟩ (.slice none 0 0)).setCell ⟨b,29,none⟩ (.slice none 0 0)).setCell ⟨b,30,none⟩ (.bool false)=w6 at *
 have h6':=H6.out
 generalize hr6:({r with pv:= .pointer none,kv:= .pointer none,ia:=none,il:=0,ic:=0,da:=none,dl:=0,dc:=0}:NR)=r6 at h6'
 have h6:NAt w0 o0 c i b (lost0N s) w6 o4 r6:=h6'
 have HE:=qQ (zx h6 3 0 (show s.ev.length≤1000 by have:=HQ.out.2.2;omega))
 clear H6 h6' h6 hr6
 go_wp2_with fail
 with_reducible refine HE.out.mono ?_
 rintro en w7 ⟨v7,o7,r7,rfl,h7,rfl⟩
 have HS:Hid (∃s2 o2 r2,NAt w0 o0 c i b s2 w7 o2 r2∧jg i s2.q s2=F∧s2.q.length≤800∧(∀p∈s2.q,p.2.length≤100000)∧s2.ev.length+s2.q.length≤900):=qQ
  ⟨_,o7,r7,h7,HF0.out.symm,HQ.out.1,HQ.out.2.1,by
   show (s.ev++[_]).length+s.q.length≤900
   have:=HQ.out
   rw[List.length_append]
   simp
   omega⟩
 clear h7 HE
 go_wp2_with fail
 go_loopw [] (λwr=>∃s2 o2 r2,NAt w0 o0 c i b s2 wr o2 r2∧jg i s2.q s2=F∧s2.q.length≤800∧(∀p∈s2.q,p.2.length≤100000)∧s2.ev.length+s2.q.length≤900) (λwr=>qmeas b wr)
 case atStart=>exact HS.out
 case round=>
  clear HS
  obtain⟨s2,o2,r2,h2,hF2,hq2,hql2,hev2⟩:=hrel
  have hqm:=h2.qm
  have c11:wr.cell? ⟨b,11,none⟩=some (.pointer (some ⟨r2.q,0,none⟩)):=h2.cell 11
  obtain⟨qv,lost,ps,q1,q2,q3,q4,q5,q6,q7,q8⟩:=h2.nd.np.2.2.2.1
  have HL:=qQ (qlen_any wr r2.q c.queue lost qv ps ⟨q1,q5⟩)
  have hlp:ps.length=s2.q.length:=by rw[q8,List.length_map]
  rw[hlp] at HL
  have H2:=qQ (And.intro h2 (And.intro hF2 (And.intro hq2 (And.intro hql2 (And.intro hev2 hqm)))))
  clear h2 hF2 hq2 hql2 hev2 hqm q1 q2 q3 q4 q5 q6 q7 q8 hlp
  cases hsq:s2.q with
  |nil=>
   rw[hsq] at HL
   have HTL:=qQ (zH H2.out.1)
   have hFs:F=s2:=by have:=H2.out.2.1;rw[hsq] at this;exact this.symm
   have HFS:=qQ hFs
   clear hFs hsq
   rw[show (([]:List (Int×List Int)).length:Int)=0 from rfl] at HL
   go_wp2_with fail
   with_reducible refine HL.out.mono ?_
   rintro en w8 ⟨rfl,rfl⟩
   go_wp2_with fail
   with_reducible refine HTL.out.mono ?_
   rintro en w9 ⟨v9,o9,r9,rfl,h9,hE9⟩
   have H9:=qQ (And.intro h9 hE9)
   clear h9 hE9 HTL
   go_wp2_with fail
   go_ret
   rw[HFS.out]
   exact⟨_,o9,r9,rfl,H9.out.1,H9.out.2⟩
  |cons p rest=>
   obtain⟨tt,LL⟩:=p
   rw[hsq] at HL
   obtain⟨k,hk⟩:∃k:Int,k=((((tt,LL)::rest).length:Nat):Int):=⟨_,rfl⟩
   rw[←hk] at HL
   have k0:(0:Int)<k:=by rw[hk];simp only[List.length_cons];omega
   have hx:=H2.out
   have hrl:rest.length≤800:=by have:=hx.2.2.1;rw[hsq] at this;simp only[List.length_cons] at this;omega
   have HLV:=qQ (nleaves_any hx.1 tt LL rest hsq hi16 hrl (hx.2.2.2.1 (tt,LL) (by rw[hsq];simp)))
   have HSQ:=qQ hsq
   clear hsq hk hx
   go_wp2_with fail
   with_reducible refine HL.out.mono ?_
   rintro en w8 ⟨rfl,rfl⟩
   go_wp2_with fail
   with_reducible refine HLV.out.mono ?_
   rintro en w9 ⟨v9,o9,r9,rfl,h9,lv2,dv2,rfl,hPO2⟩
   have hl9:NAt w0 o0 c i b (qT s2) w9 o9 r9:=by
    have e1:qT s2= {s2 with q:=rest,tries:=0}:=by unfold qT;rw[HSQ.out];rfl
    rw[e1];exact h9
   obtain⟨lA2,lc2,e',_⟩:=hPO2.1
   obtain⟨⟨dA2,dc2,e'',_⟩,_⟩:=hPO2.2
   have HN9:=qQ hl9
   have HPO9:=qQ hPO2
   subst e' e''
   have hFn:jg i rest (if (decP LL).1==0 then evN (qT s2) ⟨5,i,0,3,(decP LL).2⟩ else qT s2)=F:=by
    have:=H2.out.2.1;rw[HSQ.out] at this;exact this
   have HFN:=qQ hFn
   clear h9 hl9 hPO2 HLV HL hFn
   generalize (decP LL).2=pq at *
   generalize ((decP LL).1==0)=be at *
   obtain⟨pS,pD,pN,pL,pP,pT⟩:=pq
   unfold pkV
   dsimp only at *
   generalize hppn:pP.length=ppn at *
   generalize hptn:pT.length=ptn at *
   go_upto_region 14 with fail
   have ga:=Chg.alloc (λ_=>False) w9 (.cells #[.int .i64 pS,.int .i64 pD,.int .i64 pN,.int .i64 pL,.slice lA2 ppn lc2,.slice dA2 ptn dc2] 42)
   have hba:=qV w9 (.cells #[.int .i64 pS,.int .i64 pD,.int .i64 pN,.int .i64 pL,.slice lA2 ppn lc2,.slice dA2 ptn dc2] 42)
   have HN7:=qQ (HN9.out.kept ga)
   have HPO7:=qQ (HPO9.out.keep ga (λ_ _ e=>e))
   generalize w9.alloc (.cells #[.int .i64 pS,.int .i64 pD,.int .i64 pN,.int .i64 pL,.slice lA2 ppn lc2,.slice dA2 ptn dc2] 42)=wa at *
   obtain⟨d0,d1,d2,d3,d4,d5⟩:=qC hba
   clear ga hba HN9 HPO9
   have hqr:(qT s2).q=rest:=by unfold qT;rw[HSQ.out];rfl
   have hev3:(qT s2).ev.length+rest.length+1≤900:=by
    have:=H2.out.2.2.2.2.1
    rw[HSQ.out] at this
    simp only[List.length_cons] at this
    show s2.ev.length+rest.length+1≤900
    omega
   have HQR:=qQ (And.intro hqr (And.intro hev3 (show∀p∈rest,p.2.length≤100000 from λp hp=>H2.out.2.2.2.1 p (by rw[HSQ.out];exact List.mem_cons_of_mem _ hp))))
   have hm0:qmeas b w8=rest.length+1:=by
    rw[H2.out.2.2.2.2.2,HSQ.out];rfl
   have HM0:=qQ (And.intro hm0 hrl)
   clear hqr hev3 hm0 hrl
   cases be with
   |false=>
    clear d0 d1 d2 d3 d4 d5
    go_wp2_with fail
    refine⟨⟨qT s2,o9,r9,HN7.out,?_,?_,?_,?_⟩,?_⟩
    ·have:=HFN.out
     rw[if_neg (by simp)] at this
     rw[HQR.out.1];exact this
    ·rw[HQR.out.1];exact HM0.out.2
    ·rw[HQR.out.1];exact HQR.out.2.2
    ·rw[HQR.out.1];have:=HQR.out.2.1;omega
    ·rw[HM0.out.1,HN7.out.qm,HQR.out.1];omega
   |true=>
    have hDR:=zj HN7.out ⟨pS,pD,pN,pL,pP,pT⟩ _ _ 3 HPO7.out (by have:=HQR.out.2.1;omega)
    unfold pkV at hDR
    have HDR:=qQ hDR
    clear hDR
    go_wp2_with fail
    with_reducible refine HDR.out.mono ?_
    rintro en wb ⟨vb,ob,rb,rfl,hb,rfl⟩
    have HB:=qQ hb
    clear hb d0 d1 d2 d3 d4 d5 HDR
    go_wp2_with fail
    refine⟨⟨evN (qT s2) ⟨5,i,0,3,⟨pS,pD,pN,pL,pP,pT⟩⟩,ob,rb,HB.out,?_,?_,?_,?_⟩,?_⟩
    ·have:=HFN.out
     rw[if_pos trivial] at this
     show jg i (qT s2).q _=F
     rw[HQR.out.1];exact this
    ·show (qT s2).q.length≤800
     rw[HQR.out.1];exact HM0.out.2
    ·show∀p∈(qT s2).q,p.2.length≤100000
     rw[HQR.out.1];exact HQR.out.2.2
    ·show ((qT s2).ev++[_]).length+(qT s2).q.length≤900
     rw[HQR.out.1,List.length_append];have:=HQR.out.2.1;simp;omega
    ·rw[HM0.out.1,HB.out.qm]
     show (qT s2).q.length<rest.length+1
     rw[HQR.out.1];omega
end
end Go.Proofs.YtnpihllannobgaaGreatDoor
