/- Steps of the proof, part G26. No condition. -/
import Derived.Test.YtnpihllannobgaaGreatDoorG19
import Derived.Test.YtnpihllannobgaaGreatDoorG25
import Derived.Test.YtnpihllannobgaaGreatDoorG16
import Derived.Test.YtnpihllannobgaaGreatDoorG23
namespace Go.Proofs.YtnpihllannobgaaGreatDoor
set_option linter.unusedVariables false
set_option linter.unusedSimpArgs false
set_option maxRecDepth 100000
set_option maxHeartbeats 32000000
open Go.ChangeShapes Go.WideShapes Go.ChangeAt Go.RowKit
section
variable {w0 w w':World}{o0 o o':Cls}{c:Cfg}{i b:Nat}{s s':NSt}{r r':NR}
theorem hearsN_qp(i:Nat)(s:NSt)(src rk now t:Int):(qq i s src rk now t).q=s.q∧(qq i s src rk now t).paths=s.paths:=by
 have e1:∀(s2:NSt) q,(qz i s2 q).q=s2.q∧(qz i s2 q).paths=s2.paths:=λs2 q=>by unfold qz;split <;> exact⟨rfl,rfl⟩
 have e2:(zT i (zR s src rk now) src t).q=s.q∧(zT i (zR s src rk now) src t).paths=s.paths:=by unfold zT;split <;> exact⟨rfl,rfl⟩
 unfold qq
 exact⟨(e1 _ _).1.trans e2.1,(e1 _ _).2.trans e2.2⟩
theorem nhear2v_any(hc:CfgOk c)(h:NAt w0 o0 c i b s w o r)(hi:i<c.nodes)(v:Value)(L:List Int)(hv:BS w w.heap.size v L)(hL:L.length≤100000)(now ms:Int)(h0:0≤now)(h1:now<1099511627776)(hev:s.ev=[])(hms: -30000≤ms∧ms≤30000)
  (hb: -1000000000000000≤s.base∧s.base≤1000000000000000) (hp:s.synced=true→i≠0→s.p≠none∧s.k≠none) (B:NSt→NSt) (A:NSt→Option (List Int)) (X:Int×Fr) (hX:X=decF L)
  (HB:∀(W0:World) (O0:Cls) (s2:NSt) (W:World) (o':Cls) (r':NR) iA il ic dA dl dc,NAt W0 O0 c i b s2 W o' r'→s2.ev.length≤900→(s2.q=s.q∧s2.paths=s.paths)→(s2.synced=true→i≠0→s2.p≠none)→IeO W o' (.slice iA il ic) X.2.ies→BO W o' (.slice dA dl dc) X.2.data→
   Calls Tryz.prog 108 #[.pointer (some ⟨b,0,none⟩),frV X.2 (.slice iA il ic) (.slice dA dl dc),.int .i64 now,.int .i64 ms] W (PN W0 O0 c i b (B s2) (λv W' o''=>AV (A s2) v W' o''))):
  Calls Tryz.prog 63 #[.pointer (some ⟨b,0,none⟩),.int .i64 now,v,.int .i64 ms] w (PHearN w0 o0 c i b (zy i c s X now ms B) (ansN i c s X now ms A)):=by
 have HD:=qQ (kX w v L hv hL)
 rw[←hX] at HD
 have HA:=qQ (λw=>jt now h0 h1 w)
 have hcs:(X.1=0∧mayF X.2=true)∨(X.1≠0∧X.2=fr0):=by rw[hX];exact vp L
 obtain⟨F,hF⟩:=qZ (zy i c s X now ms B)
 obtain⟨a,ha⟩:=qZ (ansN i c s X now ms A)
 rw[←hF,←ha]
 have HF:=qQ (And.intro hF ha)
 have H:=qQ h
 have HLB:=qQ (qX h.nd.blk)
 obtain⟨vA,vc,rfl,_⟩:=hv
 obtain⟨vn,hvn⟩:∃n,n=L.length:=⟨_,rfl⟩
 rw[←hvn] at HD ⊢
 have HBB:=qQ HB
 clear h hF ha hX HB hvn hL
 go_enter Tryz.func63,Tryz.ntmps63
 go_wp2_with fail
 (with_reducible refine (HA.out _).mono ?_)
 rintro en w1 ⟨rfl,rfl⟩
 go_wp2_with fail
 with_reducible refine HD.out.mono ?_
 rintro en w2 ⟨iv,dv,rfl,hI,hD,hG⟩
 have H2:=qQ (H.out.kept hG)
 have HI2:=qQ (hI o H.out.z)
 have HD2:=qQ (hD o H.out.z)
 obtain⟨iA,ic,hiv⟩:=HI2.out.val
 obtain⟨⟨dA,dc,hdv,_⟩,_⟩:=HD2.out
 clear hI hD hG H HD
 obtain⟨e,f⟩:=X
 dsimp only at hiv hdv HI2 HD2 hcs HBB HF ⊢
 obtain⟨il,hil⟩:∃n,n=f.ies.length:=⟨_,rfl⟩
 obtain⟨dl,hdl⟩:∃n,n=f.data.length:=⟨_,rfl⟩
 rw[←hil] at hiv
 rw[←hdl] at hdv
 subst hiv hdv
 clear hil hdl
 have ga:=Chg.alloc (λ_=>False) w2 (.cells #[.int .i64 f.kind,.int .i64 f.src,.int .i64 f.dst,.int .i64 f.seq,.slice iA il ic,.slice dA dl dc] 71)
 have HB3:=qQ (qV w2 (.cells #[.int .i64 f.kind,.int .i64 f.src,.int .i64 f.dst,.int .i64 f.seq,.slice iA il ic,.slice dA dl dc] 71))
 have HT:=qQ (H2.out.kept ga)
 have HI3:=qQ (HI2.out.keep ga (λ_ _ e=>e))
 have HD3:=qQ (HD2.out.keep ga (λ_ _ e=>e))
 have HZ0:=qQ (H2.out.z _ (Nat.le_refl _))
 clear ga HI2 HD2 H2
 unfold frV
 go_wp2_with fail
 generalize hW:w2.alloc (.cells #[.int .i64 f.kind,.int .i64 f.src,.int .i64 f.dst,.int .i64 f.seq,.slice iA il ic,.slice dA dl dc] 71)=w3 at *
 have HBK:=qQ (show∀W s' o' r',NAt w3 o c i b s' W o' r'→W.heap[w2.heap.size]? =some (.cells #[.int .i64 f.kind,.int .i64 f.src,.int .i64 f.dst,.int .i64 f.seq,.slice iA il ic,.slice dA dl dc] 71 (0,0)) from
  λW s' o' r' hN=>Chg.keep hN.chg HB3.out (λe=>by obtain⟨j,_,e⟩:=e;rw[HZ0.out] at e;exact qf i j e.symm))
 have H3:=qQ (NAt.start HT.out.nd HT.out.z)
 obtain⟨d0,d1,d2,d3,d4,d5⟩:=qC HB3.out
 have c1:w3.cell? ⟨b,9,none⟩=some (.int .i64 i):=H3.out.cell 9
 obtain⟨I,F1,hI,hF1,hFA⟩:=clsF w3
 have e1:=qF hF1 d1
 have e2:=qF hF1 c1
 obtain⟨M,hM⟩:=qZ (inR f.src 0 ((c.nodes:Int)-1))
 have HC1:=qQ (show∀n,Calls Tryz.prog 78 #[.pointer (some ⟨b,0,none⟩),.int .i64 f.src] (F1 n) (λe w'=>e= .returned (.bool M)∧∃m,w'=F1 m) from
  λn=>(nhas_any (H3.out.kept (hF1 n)) f.src hc.n1).mono (λe w' ⟨h1,h2⟩=>⟨by rw[hM];exact h1,n,h2⟩))
 have HFF:=qQ hF1
 have HFA:=qQ (hFA _ (Chg.drew _ _))
 have HBAD:=qQ (show goodF i c (e,f)=false→F=s∧a=none from λhg=>⟨by rw[HF.out.1];unfold zy;rw[hg];rfl,by rw[HF.out.2];unfold ansN;rw[hg];rfl⟩)
 have HM:=qQ hM
 clear hF1 hFA d0 d1 d2 d3 d4 d5 c1 hW hM
 with_reducible refine qW F1 (by kernel_rfl) (by kernel_rfl) HFA.out ?_
 by_cases he:e=0
 ·have t1:(e != 0)=false:=by simp[he]
  have hmay:mayF f=true:=by
   rcases hcs with h|h
   ·exact h.2
   ·exact absurd he h.1
  have HMAY:=qQ hmay
  clear hcs hmay
  cases hMM:M with
  |false=>
   rw[hMM] at HC1
   repeat ((with_reducible refine wpQuiet_step (λK hK=>?_));go_simp;(try (rw[if_neg];rotate_left;(intro h;cases h)));first|((with_reducible refine hK _ ?_);clear hK K)|(apply Exists.intro;(with_reducible refine⟨λ_=>?_,hK _ ?_⟩);(exact HC1.out _);clear hK K))
   with_reducible refine wpQuiet_nil ?_
   intro _ hw'
   obtain⟨nq,rfl⟩:=hw'
   obtain⟨hf1,ha1⟩:=HBAD.out (by unfold goodF;rw[←HM.out,hMM];simp)
   have H4:=qQ (H3.out.kept (HFF.out nq))
   clear e1 e2 HFF HFA hI HC1 H3
   generalize F1 nq=w4 at *
   subst hf1 ha1
   go_wp2_with fail
   go_ret2
   refine⟨_,o,r,rfl,?_,_,_,rfl,rfl,?_⟩
   ·rw[jM hev];exact HT.out.trans H4.out
   ·rw[hev];exact Eo.nil _ _ _
  |true=>
   rw[hMM] at HC1
   have HM2:=qQ (hMM.symm.trans HM.out)
   clear hMM HM
   by_cases hsi:f.src=i
   ·have t2:(f.src==(i:Int))=true:=by simp[hsi]
    have HSI:=qQ hsi
    clear hsi
    repeat ((with_reducible refine wpQuiet_step (λK hK=>?_));go_simp;(try (rw[if_neg];rotate_left;(intro h;cases h)));first|((with_reducible refine hK _ ?_);clear hK K)|(apply Exists.intro;(with_reducible refine⟨λ_=>?_,hK _ ?_⟩);(exact HC1.out _);clear hK K))
    with_reducible refine wpQuiet_nil ?_
    intro _ hw'
    obtain⟨nq,rfl⟩:=hw'
    obtain⟨hf1,ha1⟩:=HBAD.out (by unfold goodF;simp[HSI.out])
    have H4:=qQ (H3.out.kept (HFF.out nq))
    clear e1 e2 HFF HFA hI HC1 H3
    generalize F1 nq=w4 at *
    subst hf1 ha1
    go_wp2_with fail
    go_ret2
    refine⟨_,o,r,rfl,?_,_,_,rfl,rfl,?_⟩
    ·rw[jM hev];exact HT.out.trans H4.out
    ·rw[hev];exact Eo.nil _ _ _
   ·have t2:(f.src==(i:Int))=false:=by simp[hsi]
    have hg:goodF i c (e,f)=true:=by unfold goodF;simp only[];rw[←HM2.out,t2,he];rfl
    have HGD:=qQ hg
    repeat ((with_reducible refine wpQuiet_step (λK hK=>?_));go_simp;(try (rw[if_neg];rotate_left;(intro h;cases h)));first|((with_reducible refine hK _ ?_);clear hK K)|(apply Exists.intro;(with_reducible refine⟨λ_=>?_,hK _ ?_⟩);(exact HC1.out _);clear hK K))
    with_reducible refine wpQuiet_nil ?_
    intro _ hw'
    obtain⟨nq,rfl⟩:=hw'
    have H4:=qQ (H3.out.kept (HFF.out nq))
    have HI4:=qQ (HI3.out.keep (HFF.out nq) (λ_ _ e=>e))
    have HD4:=qQ (HD3.out.keep (HFF.out nq) (λ_ _ e=>e))
    clear e1 e2 HFF HFA hI HC1 H3 HBAD hg t1
    generalize F1 nq=w4 at *
    obtain⟨d0,d1,d2,d3,d4,d5⟩:=qC (HBK.out _ _ _ _ H4.out)
    obtain⟨hm1,hm2⟩:=mayF_ies HMAY.out
    have hR:=nrankf_any w4 o f (.slice iA il ic) dA dl dc now HI4.out hm1 hm2
    have hrb:=rankF_bd HMAY.out now
    obtain⟨⟨rk,ok⟩,hRK⟩:∃x,x=zV f now:=⟨_,rfl⟩
    rw[←hRK] at hR hrb
    dsimp only at hR hrb
    unfold frV at hR
    have HR:=qQ hR
    have HRK:=qQ hRK
    clear hR hRK hm1 hm2
    go_wp2_with fail
    with_reducible refine HR.out.mono ?_
    rintro en w5 ⟨rfl,g5⟩
    have H5:=qQ (H4.out.kept g5)
    have HI5:=qQ (HI4.out.keep g5 (λ_ _ e=>e))
    have HD5:=qQ (HD4.out.keep g5 (λ_ _ e=>e))
    clear g5 HR H4 HI4 HD4 d0 d1 d2 d3 d4 d5
    cases ok with
    |false=>
     have hf1:F=s:=by rw[HF.out.1];unfold zy;simp only[];rw[←HRK.out];simp
     have ha1:a=none:=by rw[HF.out.2];unfold ansN;simp only[];rw[←HRK.out];simp
     go_wp2_with fail
     go_ret2
     refine⟨_,o,r,rfl,?_,_,_,rfl,?_,?_⟩
     ·rw[hf1,jM hev];exact HT.out.trans H5.out
     ·rw[ha1];rfl
     ·rw[hf1,hev];exact Eo.nil _ _ _
    |true=>
     have c18:w5.cell? ⟨b,18,none⟩=some (.bool s.synced):=H5.out.cell 18
     obtain⟨m0,m1⟩:=hms
     obtain⟨d0,d1,d2,d3,d4,d5⟩:=qC (HBK.out _ _ _ _ H5.out)
     have hrr:=hrb
     have hsb:0≤f.src∧f.src≤15:=by
      obtain⟨_,_,_,q1,q2,_⟩:=kV HMAY.out
      omega
     have HRX:=qQ (show zV f now=(rk,true) from HRK.out.symm)
     go_upto_region 9 with fail
     go_cut [3] (λu3 wx=>u3= .int .i64 ms∧wx=w5)
     case first=>
      rcases Int.lt_or_eq_of_le m0 with m0|m0
      ·go_wp2_with fail
       go_meet
       exact⟨rfl,rfl⟩
      ·rw[←m0]
       go_wp2_with fail
       go_meet
       exact⟨rfl,rfl⟩
     obtain⟨rfl,rfl⟩:=hcut
     cases hsy:s.synced with
     |false=>
      rw[hsy] at c18
      have HAD:=qQ (nadopt_any hc H5.out (by have:=hc.n1;omega) f iA il ic dA dl dc rk now ms (by rw[hev];simp) hb hsb (by simpa using hsi) hrr h0)
      unfold frV at HAD
      go_wp2_with fail
      with_reducible refine HAD.out.mono ?_
      rintro en w6 ⟨v6,o6,r6,rfl,h6,rfl⟩
      have hf1:F=adoptN i c s f rk now ms:=by rw[HF.out.1];unfold zy;simp only[];rw[HRX.out,HGD.out,hsy];rfl
      have ha1:a=none:=by rw[HF.out.2];unfold ansN;simp only[];rw[hsy];simp
      rw[←hf1] at h6
      have HTL:=qQ (zk h6)
      have HFA1:=qQ ha1
      clear h6 HAD hf1 ha1 d0 d1 d2 d3 d4 d5
      go_wp2_with fail
      with_reducible refine HTL.out.mono ?_
      rintro en w7 ⟨v7,o7,r7,rfl,h7,hE7⟩
      have H7:=qQ (And.intro h7 hE7)
      clear h7 hE7 HTL
      go_wp2_with fail
      go_ret2
      refine⟨_,o7,r7,rfl,HT.out.trans H7.out.1,_,_,rfl,?_,H7.out.2⟩
      rw[HFA1.out];rfl
     |true=>
      rw[hsy] at c18
      have HEV:=qQ (jC H5.out 1 f.src (by rw[hev];simp))
      have HP:=qQ (hp hsy)
      have HSY:=qQ hsy
      clear hp hsy
      go_wp2_with fail
      with_reducible refine HEV.out.mono ?_
      rintro en w6 ⟨v6,o6,r6,rfl,h6,rfl⟩
      clear d0 d1 d2 d3 d4 d5 HEV c18
      obtain⟨d0,d1,d2,d3,d4,d5⟩:=qC (HBK.out _ _ _ _ h6)
      have c9:w6.cell? ⟨b,9,none⟩=some (.int .i64 i):=h6.cell 9
      have hl6:(evN s ⟨1,i,f.src,0,pk0⟩).ev.length≤1:=by show (s.ev++[_]).length≤1;rw[hev];simp
      have HH:=qQ (λ(q:i≠0)=>nhears_any h6 f.src rk now ms (by omega) hb (HP.out q).2 (HP.out q).1 hsb (by simpa using hsi) hrr h0)
      have HIX:=qQ (And.intro (h6.io HT.out.z HI3.out) (h6.bo HT.out.z HD3.out))
      have HB6:=qQ (HBB.out w3 o _ w6 o6 r6 iA il ic dA dl dc h6 (by omega) ⟨rfl,rfl⟩ (λ_ q=>(HP.out q).1) HIX.out.1 HIX.out.2)
      unfold frV at HB6
      obtain⟨s1,hs1⟩:=qZ (evN s ⟨1,i,f.src,0,pk0⟩)
      have H6:=qQ h6
      rw[←hs1] at H6 HB6 HH
      have HS1Q:=qQ (show s1.q=s.q∧s1.paths=s.paths from by rw[hs1];exact⟨rfl,rfl⟩)
      have HS1P:=qQ (show i≠0→s1.p≠none from λq=>by rw[hs1];exact (HP.out q).1)
      have hF1:F=hear2N i s f rk now ms B:=by rw[HF.out.1];unfold zy;simp only[];rw[HRX.out,HGD.out,HSY.out];rfl
      have hA1:a=(if i=0 then A s1 else if qM (qq i s1 f.src rk now ms)=64 then none else A (qq i s1 f.src rk now ms)):=by rw[HF.out.2,hs1];unfold ansN;simp only[];rw[HRX.out,HGD.out,HSY.out];simp
      unfold hear2N at hF1
      rw[←hs1] at hF1
      have HFA1:=qQ (And.intro hF1 hA1)
      have HLN2:=qQ (show∀s2,s2=qq i s1 f.src rk now ms→s2.ev.length≤900 from λs2 e=>by
       have:=hearsN_ev i s1 f.src rk now ms
       rw[e]
       have h1:s1.ev.length≤1:=by rw[hs1];exact hl6
       omega)
      clear h6 hF1 hA1 hs1 hl6 HIX H5 HI5 HD5
      by_cases hi0:i=0
      ·have HI0:=qQ hi0
       have i0:((i:Int) != 0)=false:=by simp[hi0]
       clear hi0
       go_wp2_with fail
       with_reducible refine HB6.out.mono ?_
       rintro en w7 ⟨v7,o7,r7,rfl,h7,hA7⟩
       have HTL:=qQ (zk (NAt.start h7.nd h7.z))
       have H7:=qQ (And.intro h7 hA7)
       clear d0 d1 d2 d3 d4 d5 c9 HB6 H6 h7 hA7 HH
       go_wp2_with fail
       with_reducible refine HTL.out.mono ?_
       rintro en w8 ⟨v8,o8,r8,rfl,h8,hE8⟩
       have H8:=qQ (And.intro h8 hE8)
       clear h8 hE8 HTL
       go_wp2_with fail
       go_ret2
       have e1:F=B s1:=by rw[HFA1.out.1,if_pos HI0.out]
       have e2:a=A s1:=by rw[HFA1.out.2,if_pos HI0.out]
       rw[e1,e2]
       exact⟨_,o8,r8,rfl,HT.out.trans (H7.out.1.trans H8.out.1),_,_,rfl,AV.told H8.out.1 H7.out.1.z H7.out.2,H8.out.2⟩
      ·have HI0:=qQ hi0
       have i0:((i:Int) != 0)=true:=by simp[hi0]
       have HH2:=qQ (HH.out hi0)
       clear hi0 HB6 HH
       go_wp2_with fail
       with_reducible refine HH2.out.mono ?_
       rintro en w7 ⟨v7,o7,r7,rfl,h7,rfl⟩
       obtain⟨s2,hs2⟩:=qZ (qq i s1 f.src rk now ms)
       rw[←hs2] at h7 HFA1
       have HF7:=qQ (zZ h7)
       have H7:=qQ h7
       have HPN7:=qQ (show s2.p≠none from by rw[hs2];exact hearsN_p _ _ _ _ _ _ (HS1P.out (HI0.out)))
       have HQP7:=qQ (show s2.q=s.q∧s2.paths=s.paths from by rw[hs2];obtain⟨a1,a2⟩:=hearsN_qp i s1 f.src rk now ms;rw[a1,a2];exact HS1Q.out)
       have hl7:s2.ev.length≤900:=HLN2.out s2 hs2
       have HL7:=qQ hl7
       obtain⟨t,ht⟩:=qZ (qM s2)
       rw[←ht] at HF7 HFA1
       clear d0 d1 d2 d3 d4 d5 c9 H6 h7 hs2 ht HH2 hl7
       by_cases h64:t=64
       ·have HT64:=qQ h64
        have t64:(t==64)=true:=by simp[h64]
        clear h64
        go_wp2_with fail
        with_reducible refine HF7.out.mono ?_
        rintro en w8 ⟨rfl,g8⟩
        have HTL:=qQ (zk (H7.out.kept g8))
        clear g8 HF7
        go_wp2_with fail
        with_reducible refine HTL.out.mono ?_
        rintro en w9 ⟨v9,o9,r9,rfl,h9,hE9⟩
        have H9:=qQ (And.intro h9 hE9)
        clear h9 hE9 HTL
        go_wp2_with fail
        go_ret2
        have e1:F=s2:=by rw[HFA1.out.1,if_neg HI0.out,if_pos HT64.out]
        have e2:a=none:=by rw[HFA1.out.2,if_neg HI0.out,if_pos HT64.out]
        rw[e1,e2]
        exact⟨_,o9,r9,rfl,HT.out.trans H9.out.1,_,_,rfl,rfl,H9.out.2⟩
       ·have HT64:=qQ h64
        have t64:(t==64)=false:=by simp[h64]
        clear h64
        go_wp2_with fail
        with_reducible refine HF7.out.mono ?_
        rintro en w8 ⟨rfl,g8⟩
        have h8:=H7.out.kept g8
        have HIX:=qQ (And.intro (h8.io HT.out.z HI3.out) (h8.bo HT.out.z HD3.out))
        have HB8:=qQ (HBB.out w3 o _ w8 o7 r7 iA il ic dA dl dc h8 HL7.out HQP7.out (λ_ _=>HPN7.out) HIX.out.1 HIX.out.2)
        unfold frV at HB8
        obtain⟨d0,d1,d2,d3,d4,d5⟩:=qC (HBK.out _ _ _ _ h8)
        clear h8 g8 HF7 HIX
        go_wp2_with fail
        with_reducible refine HB8.out.mono ?_
        rintro en w9 ⟨v9,o9,r9,rfl,h9,hA9⟩
        have HTL:=qQ (zk (NAt.start h9.nd h9.z))
        have H9:=qQ (And.intro h9 hA9)
        clear d0 d1 d2 d3 d4 d5 HB8 h9 hA9
        go_wp2_with fail
        with_reducible refine HTL.out.mono ?_
        rintro en wa ⟨va,oa,ra,rfl,ha,hEa⟩
        have HA2:=qQ (And.intro ha hEa)
        clear ha hEa HTL
        go_wp2_with fail
        go_ret2
        have e1:F=B s2:=by rw[HFA1.out.1,if_neg HI0.out,if_neg HT64.out]
        have e2:a=A s2:=by rw[HFA1.out.2,if_neg HI0.out,if_neg HT64.out]
        rw[e1,e2]
        exact⟨_,oa,ra,rfl,HT.out.trans (H9.out.1.trans HA2.out.1),_,_,rfl,AV.told HA2.out.1 H9.out.1.z H9.out.2,HA2.out.2⟩
 ·have t1:(e != 0)=true:=by simp[he]
  have t2:(e==0)=false:=by simp[he]
  have t3:=t2
  repeat ((with_reducible refine wpQuiet_step (λK hK=>?_));go_simp;(try (rw[if_neg];rotate_left;(intro h;cases h)));first|((with_reducible refine hK _ ?_);clear hK K)|(apply Exists.intro;(with_reducible refine⟨λ_=>?_,hK _ ?_⟩);(exact HC1.out _);clear hK K))
  with_reducible refine wpQuiet_nil ?_
  intro _ hw'
  obtain⟨nq,rfl⟩:=hw'
  obtain⟨hf1,ha1⟩:=HBAD.out (by unfold goodF;simp[t1,t2,t3])
  have H4:=qQ (H3.out.kept (HFF.out nq))
  clear e1 e2 HFF HFA hI HC1 H3
  generalize F1 nq=w4 at *
  subst hf1 ha1
  go_wp2_with fail
  go_ret2
  refine⟨_,o,r,rfl,?_,_,_,rfl,rfl,?_⟩
  ·rw[jM hev];exact HT.out.trans H4.out
  ·rw[hev];exact Eo.nil _ _ _
def zL(c:Cfg)(i:Nat)(f:Fr)(s:NSt):NSt:=if f.dst=(i:Int)∧f.kind=1 then zm c i s f.data else s
theorem nhear3v_any(hc:CfgOk c)(h:NAt w0 o0 c i b s w o r)(hi:i<c.nodes)(v:Value)(L:List Int)(hv:BS w w.heap.size v L)(hL:L.length≤100000)(now ms:Int)(h0:0≤now)(h1:now<1099511627776)(hev:s.ev=[])(hms: -30000≤ms∧ms≤30000)
  (hb: -1000000000000000≤s.base∧s.base≤1000000000000000) (hp:s.synced=true→i≠0→s.p≠none∧s.k≠none) (hq:s.q.length≤900) (hpl:∀n L,s.paths n=some L→L.length≤100000):
  Calls Tryz.prog 63 #[.pointer (some ⟨b,0,none⟩),.int .i64 now,v,.int .i64 ms] w (PHearN w0 o0 c i b (zy i c s (decF L) now ms (zL c i (decF L).2)) (ansN i c s (decF L) now ms (vW i (decF L).2 now ms))):=by
 refine nhear2v_any hc h hi v L hv hL now ms h0 h1 hev hms hb hp (zL c i (decF L).2) (vW i (decF L).2 now ms) (decF L) rfl (λW0 O0 s2 W o' r' iA il ic dA dl dc hN hl hqp hp2 hI hD=>?_)
 by_cases hd:(decF L).2.dst=i
 ·by_cases hk1:(decF L).2.kind=1
  ·have hfl:(decF L).2.data.length≤100000:=by
    rcases vp L with ⟨_,h⟩|⟨_,h⟩
    ·have:=(kV h).2.2.1
     omega
    ·rw[h];simp[fr0]
   have e:zL c i (decF L).2 s2=zm c i s2 (decF L).2.data:=by unfold zL;rw[if_pos ⟨hd,hk1⟩]
   rw[e]
   exact nback_data hc hN hi (decF L).2 iA il ic dA dl dc now ms hd hk1 hp2 (by omega) hD hfl (by rw[hqp.2];exact hpl) (by rw[hqp.1];exact hq) hl
  have e:zL c i (decF L).2 s2=s2:=by unfold zL;rw[if_neg (λh=>hk1 h.2)]
  rw[e]
  by_cases hk4:(decF L).2.kind=4
  ·refine (nback_keep hN (decF L).2 iA il ic dA dl dc now ms hd hk4 hp2 (by omega)).mono (λen w' hpv=>?_)
   obtain⟨v,e,ha,g⟩:=hpv
   exact⟨v,o',r',e,hN.kept g,ha⟩
  ·refine (nback_none hN (decF L).2 iA il ic dA dl dc now ms (.inr ⟨hk1,hk4⟩)).mono (λen w' hpv=>?_)
   obtain⟨e,g⟩:=hpv
   refine⟨_,o',r',e,hN.kept g,?_⟩
   unfold vW
   rw[if_neg (λh=>h.2.elim hk1 hk4)]
   rfl
 ·have e:zL c i (decF L).2 s2=s2:=by unfold zL;rw[if_neg (λh=>hd h.1)]
  rw[e]
  refine (nback_none hN (decF L).2 iA il ic dA dl dc now ms (.inl hd)).mono (λen w' hpv=>?_)
  obtain⟨e,g⟩:=hpv
  refine⟨_,o',r',e,hN.kept g,?_⟩
  unfold vW
  rw[if_neg (λh=>hd h.1)]
  rfl
end
section
variable {w0 w w':World}{o0 o o':Cls}{c:Cfg}{i b:Nat}{s s':NSt}{r r':NR}
def vm(i:Nat)(s:NSt)(f:Fr)(tt rk now:Int):NSt:=if i≠0∧qM s=tt then qq i s tt rk now (ticksF f) else s
theorem ndone_any(h:NAt w0 o0 c i b s w o r)(f:Fr)(iA:Option Addr)(il ic:Nat)(dA:Option Addr)(dl dc:Nat)(tt rk now:Int)(hI:IeO w o (.slice iA il ic) f.ies)(hE:f.ies.length≤100000)(hll:∀e∈f.ies,e.list.length≤100000)
  (hsk:s.skind≠1) (hn:s.ev.length≤900) (hb: -1000000000000000≤s.base∧s.base≤1000000000000000) (hk:s.p≠none→s.k≠none) (hs:0≤tt∧tt≤15) (hm:tt≠i) (hr:0≤rk∧rk≤255) (ht:0≤now):
  Calls Tryz.prog 67 #[.pointer (some ⟨b,0,none⟩),frV f (.slice iA il ic) (.slice dA dl dc),.int .i64 tt,.int .i64 rk,.int .i64 now] w (PN w0 o0 c i b (vm i s f tt rk now) (λv _ _=>v= .tuple #[])):=by
 obtain⟨F,hF⟩:=qZ (vm i s f tt rk now)
 rw[←hF]
 have HF:=qQ hF
 unfold frV
 have hba:=qV w (.cells #[.int .i64 f.kind,.int .i64 f.src,.int .i64 f.dst,.int .i64 f.seq,.slice iA il ic,.slice dA dl dc] 71)
 have ga:=Chg.alloc (λ_=>False) w (.cells #[.int .i64 f.kind,.int .i64 f.src,.int .i64 f.dst,.int .i64 f.seq,.slice iA il ic,.slice dA dl dc] 71)
 have HB:=qQ hba
 have H:=qQ (h.kept ga)
 have HI:=qQ (hI.keep ga (λ_ _ e=>e))
 have t1:(s.skind==1)=false:=by simpa using hsk
 have HFD:=qQ (λW (g:Chg (λ_=>False) (w.alloc (.cells #[.int .i64 f.kind,.int .i64 f.src,.int .i64 f.dst,.int .i64 f.seq,.slice iA il ic,.slice dA dl dc] 71)) W)=>zQ W o (.slice iA il ic) f.ies 2 (HI.out.keep g (λ_ _ e=>e)) hE hll)
 clear h hba ga hF hI hE hll
 obtain⟨d0,d1,d2,d3,d4,d5⟩:=qC HB.out
 have c24:(w.alloc (.cells #[.int .i64 f.kind,.int .i64 f.src,.int .i64 f.dst,.int .i64 f.seq,.slice iA il ic,.slice dA dl dc] 71)).cell? ⟨b,24,none⟩=some (.int .i64 s.skind):=H.out.cell 24
 have c9:(w.alloc (.cells #[.int .i64 f.kind,.int .i64 f.src,.int .i64 f.dst,.int .i64 f.seq,.slice iA il ic,.slice dA dl dc] 71)).cell? ⟨b,9,none⟩=some (.int .i64 i):=H.out.cell 9
 have HN:=qQ (zZ H.out)
 by_cases hi:i=0
 ·have i0:((i:Int) != 0)=false:=by simp[hi]
  have hF:=HF.out
  unfold vm at hF
  rw[if_neg (by simp[hi])] at hF
  have HFF:=qQ hF
  clear hF hi
  go_enter Tryz.func67,Tryz.ntmps67
  go_wp2_with fail
  go_end0
  rw[HFF.out]
  exact⟨_,o,r,rfl,H.out,rfl⟩
 ·have i0:((i:Int) != 0)=true:=by simp[hi]
  obtain⟨t,ht2⟩:=qZ (qM s)
  rw[←ht2] at HN
  have HT:=qQ ht2
  clear ht2
  have HI0:=qQ hi
  clear hi
  go_enter Tryz.func67,Tryz.ntmps67
  go_wp2_with fail
  generalize hW:w.alloc (.cells #[.int .i64 f.kind,.int .i64 f.src,.int .i64 f.dst,.int .i64 f.seq,.slice iA il ic,.slice dA dl dc] 71)=w1 at *
  obtain⟨fb,hfb⟩:∃x,x=w.heap.size:=⟨_,rfl⟩
  rw[←hfb] at d0 d1 d2 d3 d4 d5 HB ⊢
  clear hfb hW
  with_reducible refine HN.out.mono ?_
  rintro en w2 ⟨rfl,g2⟩
  have HG2:=qQ g2
  have H2:=qQ (H.out.kept g2)
  have HB2:=qQ (Chg.keep g2 HB.out (λe=>e))
  clear d0 d1 d2 d3 d4 d5 c24 c9 HN g2 HB H
  obtain⟨d0,d1,d2,d3,d4,d5⟩:=qC HB2.out
  by_cases hto:t=tt
  ·have t2:(t==tt)=true:=by simp[hto]
   have hF:=HF.out
   unfold vm at hF
   rw[if_pos ⟨HI0.out,by rw[←HT.out,hto]⟩] at hF
   have HFF:=qQ hF
   have HP:=qQ (show s.p≠none from λe=>by
    have h1:=HT.out
    unfold qM at h1
    rw[e] at h1
    have h2:t=64:=h1
    omega)
   have HFD2:=qQ (HFD.out w2 HG2.out)
   obtain⟨X,hX⟩:=qZ ((zH f.ies 2).getD el0)
   have htk:ticksF f=X.ticks:=by
    rw[hX];unfold ticksF
    cases zH f.ies 2 <;> rfl
   obtain⟨Y,hY⟩:=qZ ((zH f.ies 2).isSome)
   unfold PFind at HFD2
   rw[←hX,←hY] at HFD2
   rw[htk] at HFF
   clear hto hF hX hY htk HFD
   go_wp2_with fail
   with_reducible refine HFD2.out.mono ?_
   rintro en w3 ⟨lv,rfl,hO,hG⟩
   have H3:=qQ (H2.out.kept hG)
   obtain⟨lA,ln,lc,rfl⟩:∃A n c,lv= .slice A n c:=by
    rcases qD hO with ⟨e,_⟩|⟨g,cap,e,_⟩
    ·exact⟨_,_,_,e⟩
    ·exact⟨_,_,_,e⟩
   clear hO hG d0 d1 d2 d3 d4 d5 HB2 H2 HG2 HFD2
   unfold elV
   go_wp2_with fail
   have hgb:=Chg.alloc (λ_=>False) w3 (.cells #[.int .i64 X.kind,.int .i64 X.asn,.int .i64 X.rank,.int .i64 X.ticks,.slice lA ln lc] 172)
   have HHE:=qQ (nhears_any (H3.out.kept hgb) tt rk now X.ticks hn hb (hk HP.out) HP.out hs hm hr ht)
   obtain⟨e0,e1,e2,e3,e4⟩:=zN (qV w3 (.cells #[.int .i64 X.kind,.int .i64 X.asn,.int .i64 X.rank,.int .i64 X.ticks,.slice lA ln lc] 172))
   generalize w3.alloc (.cells #[.int .i64 X.kind,.int .i64 X.asn,.int .i64 X.rank,.int .i64 X.ticks,.slice lA ln lc] 172)=w4 at *
   clear hgb
   go_wp2_with fail
   with_reducible refine HHE.out.mono ?_
   rintro en w5 ⟨v5,o5,r5,rfl,h5,rfl⟩
   have H5:=qQ h5
   clear h5 HHE e0 e1 e2 e3 e4
   go_wp2_with fail
   go_end0
   rw[HFF.out]
   exact⟨_,o5,r5,rfl,H5.out,rfl⟩
  ·have t2:(t==tt)=false:=by simpa using hto
   have hF:=HF.out
   unfold vm at hF
   rw[if_neg (by rw[←HT.out];exact λh=>hto h.2)] at hF
   have HFF:=qQ hF
   clear hF hto
   go_wp2_with fail
   go_end0
   rw[HFF.out]
   exact⟨_,o,r,rfl,H2.out,rfl⟩
end
def qh(s:NSt):NSt:={s with q:=s.q.tail,tries:=0}
section
variable {w0 w w':World}{o0 o o':Cls}{c:Cfg}{i b:Nat}{s s':NSt}{r r':NR}
theorem nleaves2_any(h:NAt w0 o0 c i b s w o r)(hq:s.q≠[])(hi:i<16)(hn:s.q.length≤800)(hL:∀p∈s.q,p.2.length≤100000):
  Calls Tryz.prog 68 #[.pointer (some ⟨b,0,none⟩)] w (PN w0 o0 c i b (qh s) (PLeave (decP (s.q.headD (0,[])).2))):=by
 obtain⟨⟨t,L⟩,rest,e⟩:∃p rest,s.q=p::rest:=by
  cases h:s.q with
  |nil=>exact absurd h hq
  |cons p rest=>exact⟨p,rest,rfl⟩
 have:=nleaves_any h t L rest e hi (by rw[e] at hn;simp at hn;omega) (hL (t,L) (by rw[e];simp))
 have e1:qh s= {s with q:=rest,tries:=0}:=by unfold qh;rw[e];rfl
 have e2:(s.q.headD (0,[])).2=L:=by rw[e];rfl
 rw[e1,e2]
 exact this
theorem ndoned_any(h:NAt w0 o0 c i b s w o r)(f:Fr)(iA:Option Addr)(il ic:Nat)(dA:Option Addr)(dl dc:Nat)(tt rk now:Int)(hI:IeO w o (.slice iA il ic) f.ies)(hE:f.ies.length≤100000)(hll:∀e∈f.ies,e.list.length≤100000)
  (hsk:s.skind=1) (hq:s.q≠[]) (hi16:i<16) (hqn:s.q.length≤800) (hqL:∀p∈s.q,p.2.length≤100000) (hn:s.ev.length≤900) (hb: -1000000000000000≤s.base∧s.base≤1000000000000000) (hk:s.p≠none→s.k≠none) (hs:0≤tt∧tt≤15) (hm:tt≠i) (hr:0≤rk∧rk≤255) (ht:0≤now):
  Calls Tryz.prog 67 #[.pointer (some ⟨b,0,none⟩),frV f (.slice iA il ic) (.slice dA dl dc),.int .i64 tt,.int .i64 rk,.int .i64 now] w (PN w0 o0 c i b (vm i (qh s) f tt rk now) (λv _ _=>v= .tuple #[])):=by
 have hba:=qV w (.cells #[.int .i64 f.kind,.int .i64 f.src,.int .i64 f.dst,.int .i64 f.seq,.slice iA il ic,.slice dA dl dc] 71)
 have ga:=Chg.alloc (λ_=>False) w (.cells #[.int .i64 f.kind,.int .i64 f.src,.int .i64 f.dst,.int .i64 f.seq,.slice iA il ic,.slice dA dl dc] 71)
 obtain⟨w1,hw1⟩:=qZ (w.alloc (.cells #[.int .i64 f.kind,.int .i64 f.src,.int .i64 f.dst,.int .i64 f.seq,.slice iA il ic,.slice dA dl dc] 71))
 obtain⟨fb,hfb⟩:=qZ w.heap.size
 rw[←hw1] at ga hba
 rw[←hfb] at hba
 have h1:=h.kept ga
 have hof:o fb=0:=h.z _ (by omega)
 have HLV:=qQ (nleaves2_any (NAt.start h1.nd h1.z) hq hi16 hqn hqL)
 have e24:w1.cell? ⟨b,24,none⟩=some (.int .i64 1):=by rw[←hsk];exact h1.cell 24
 obtain⟨d0,d1,d2,d3,d4,d5⟩:=qC hba
 have H1:=qQ h1
 have HB1:=qQ hba
 have HW:=qQ hw1
 have HFBE:=qQ hfb
 have HI1:=qQ (hI.keep ga (λ_ _ e=>e))
 have hn2:(qh s).ev.length≤900:=hn
 have hb2: -1000000000000000≤(qh s).base∧(qh s).base≤1000000000000000:=hb
 have hk2:(qh s).p≠none→(qh s).k≠none:=hk
 obtain⟨s2,hs2⟩:=qZ (qh s)
 rw[←hs2] at HLV hn2 hb2 hk2 ⊢
 obtain⟨F,hF⟩:=qZ (vm i s2 f tt rk now)
 rw[←hF]
 have HF:=qQ hF
 clear hn hb hk hs2 hF h h1 hba ga hw1 hfb hI hsk hq hqn hqL hi16
 unfold frV
 go_enter Tryz.func67,Tryz.ntmps67
 go_upto_region 1 with fail
 rw[←HW.out,←HFBE.out]
 clear HW HFBE
 go_wp2_with fail
 with_reducible refine HLV.out.mono ?_
 rintro en w2 ⟨v2,o2,r2,rfl,hN2,lv2,dv2,rfl,hPO2⟩
 have H:=qQ (H1.out.trans hN2)
 have HB:=qQ (Chg.keep hN2.chg HB1.out (λe=>by obtain⟨j,_,e⟩:=e;rw[hof] at e;exact qf i j e.symm))
 have HI:=qQ (hN2.io H1.out.z HI1.out)
 have HFD:=qQ (λW (g:Chg (λ_=>False) w2 W)=>zQ W o2 (.slice iA il ic) f.ies 2 (HI.out.keep g (λ_ _ e=>e)) hE hll)
 obtain⟨lA2,lc2,e,_⟩:=hPO2.1
 obtain⟨⟨dA2,dc2,e',_⟩,_⟩:=hPO2.2
 subst e e'
 clear hN2 hPO2 HLV H1 HB1 HI1 hE hll d0 d1 d2 d3 d4 d5 e24 hof
 generalize (decP (s.q.headD (0,[])).2).2=pq at *
 generalize ((decP (s.q.headD (0,[])).2).1==0)=be at *
 obtain⟨pS,pD,pN,pL,pP,pT⟩:=pq
 unfold pkV
 dsimp only
 generalize pP.length=ppn at *
 generalize pT.length=ptn at *
 obtain⟨d0,d1,d2,d3,d4,d5⟩:=qC HB.out
 have c9:w2.cell? ⟨b,9,none⟩=some (.int .i64 i):=H.out.cell 9
 have HN:=qQ (zZ H.out)
 by_cases hi:i=0
 ·have i0:((i:Int) != 0)=false:=by simp[hi]
  have hF:=HF.out
  unfold vm at hF
  rw[if_neg (by simp[hi])] at hF
  have HFF:=qQ hF
  clear hF hi
  go_wp2_with fail
  go_end0
  rw[HFF.out]
  exact⟨_,o2,r2,rfl,H.out,rfl⟩
 ·have i0:((i:Int) != 0)=true:=by simp[hi]
  obtain⟨t,ht2⟩:=qZ (qM s2)
  rw[←ht2] at HN
  have HT:=qQ ht2
  clear ht2
  have HI0:=qQ hi
  clear hi
  go_wp2_with fail
  with_reducible refine HN.out.mono ?_
  rintro en w3 ⟨rfl,g2⟩
  have HG2:=qQ g2
  have H2:=qQ (H.out.kept g2)
  have HB2:=qQ (Chg.keep g2 HB.out (λe=>e))
  clear d0 d1 d2 d3 d4 d5 c9 HN g2 HB H
  obtain⟨d0,d1,d2,d3,d4,d5⟩:=qC HB2.out
  by_cases hto:t=tt
  ·have t2:(t==tt)=true:=by simp[hto]
   have hF:=HF.out
   unfold vm at hF
   rw[if_pos ⟨HI0.out,by rw[←HT.out,hto]⟩] at hF
   have HFF:=qQ hF
   have HP:=qQ (show s2.p≠none from λe=>by
    have h1:=HT.out
    unfold qM at h1
    rw[e] at h1
    have h2:t=64:=h1
    omega)
   have HFD2:=qQ (HFD.out w3 HG2.out)
   obtain⟨X,hX⟩:=qZ ((zH f.ies 2).getD el0)
   have htk:ticksF f=X.ticks:=by
    rw[hX];unfold ticksF
    cases zH f.ies 2 <;> rfl
   obtain⟨Y,hY⟩:=qZ ((zH f.ies 2).isSome)
   unfold PFind at HFD2
   rw[←hX,←hY] at HFD2
   rw[htk] at HFF
   clear hto hF hX hY htk HFD
   go_wp2_with fail
   with_reducible refine HFD2.out.mono ?_
   rintro en w4 ⟨lv,rfl,hO,hG⟩
   have H3:=qQ (H2.out.kept hG)
   obtain⟨lA,ln,lc,rfl⟩:∃A n c,lv= .slice A n c:=by
    rcases qD hO with ⟨e,_⟩|⟨g,cap,e,_⟩
    ·exact⟨_,_,_,e⟩
    ·exact⟨_,_,_,e⟩
   clear hO hG d0 d1 d2 d3 d4 d5 HB2 H2 HG2 HFD2
   unfold elV
   go_wp2_with fail
   have hgb:=Chg.alloc (λ_=>False) w4 (.cells #[.int .i64 X.kind,.int .i64 X.asn,.int .i64 X.rank,.int .i64 X.ticks,.slice lA ln lc] 172)
   have HHE:=qQ (nhears_any (H3.out.kept hgb) tt rk now X.ticks hn2 hb2 (hk2 HP.out) HP.out hs hm hr ht)
   obtain⟨e0,e1,e2,e3,e4⟩:=zN (qV w4 (.cells #[.int .i64 X.kind,.int .i64 X.asn,.int .i64 X.rank,.int .i64 X.ticks,.slice lA ln lc] 172))
   generalize w4.alloc (.cells #[.int .i64 X.kind,.int .i64 X.asn,.int .i64 X.rank,.int .i64 X.ticks,.slice lA ln lc] 172)=w5 at *
   clear hgb
   go_wp2_with fail
   with_reducible refine HHE.out.mono ?_
   rintro en w6 ⟨v6,o6,r6,rfl,h6,rfl⟩
   have H5:=qQ h6
   clear h6 HHE e0 e1 e2 e3 e4
   go_wp2_with fail
   go_end0
   rw[HFF.out]
   exact⟨_,o6,r6,rfl,H5.out,rfl⟩
  ·have t2:(t==tt)=false:=by simpa using hto
   have hF:=HF.out
   unfold vm at hF
   rw[if_neg (by rw[←HT.out];exact λh=>hto h.2)] at hF
   have HFF:=qQ hF
   clear hF hto
   go_wp2_with fail
   go_end0
   rw[HFF.out]
   exact⟨_,o2,r2,rfl,H2.out,rfl⟩
end
end Go.Proofs.YtnpihllannobgaaGreatDoor
