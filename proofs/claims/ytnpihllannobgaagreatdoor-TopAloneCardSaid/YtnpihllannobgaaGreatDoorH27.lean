/- Steps of the proof, part H27. No condition. -/
import Derived.Test.YtnpihllannobgaaGreatDoorH24
namespace Go.Proofs.YtnpihllannobgaaGreatDoor
set_option linter.unusedVariables false
set_option linter.unusedSimpArgs false
set_option maxRecDepth 100000
set_option maxHeartbeats 32000000
open Go.ChangeShapes Go.WideShapes Go.ChangeAt Go.RowKit
section
variable {w0 w w':World}{o0 o o':Cls}{c:Cfg}{i b:Nat}{s s':NSt}{r r':NR}
theorem nack_any(h:NAt w0 o0 c i b s w o r)(now m:Int)(v:Value)(L:List Int)(hv:BO w o v L)(hL:L.length≤100000)(hs:s.synced=true∧s.sopen=true∧s.sasn=now)(hk:s.skind≠1)
  (hev:s.ev=[]) (hb: -1000000000000000≤s.base∧s.base≤1000000000000000) (hpk:s.p≠none→s.k≠none) (hsd:0≤s.sdst∧s.sdst≤15) (hsi:s.sdst≠i) (h0:0≤now):
  Calls Tryz.prog 36 #[.pointer (some ⟨b,0,none⟩),.int .i64 now,v,.int .i64 m] w (PN w0 o0 c i b (noEv (ackN i s L now)) (λv w' o'=>Eo w' o' (cl i 9) v (ackN i s L now).ev)):=by
 obtain⟨hsy,hop,hsa⟩:=hs
 have c18:w.cell? ⟨b,18,none⟩=some (.bool true):=by rw[←hsy];exact h.cell 18
 have c30:w.cell? ⟨b,30,none⟩=some (.bool true):=by rw[←hop];exact h.cell 30
 have c23:w.cell? ⟨b,23,none⟩=some (.int .i64 now):=by rw[←hsa];exact h.cell 23
 have c26:w.cell? ⟨b,26,none⟩=some (.int .i64 s.sdst):=h.cell 26
 have f30:=h.f 30
 have H1:=qQ (h.set (r':=r) (s':=opnN s false) 30 (.bool false) rfl h.nd.np)
 have hlt:=qX h.nd.blk
 have hvo:BO w o v L:=hv
 have HDC:=qQ (vT _ v L ((hvo.keep (chg1 w b 30 (.bool false)) (λj hj e=>by have e:j=b:=e;subst e;rw[h.nd.ob] at hj;exact qP i 0 hj)).bs) hL)
 have hcs:((decF L).1=0∧mayF (decF L).2=true)∨((decF L).1≠0∧(decF L).2=fr0):=vK L
 obtain⟨F,hF⟩:=qZ (ackN i s L now)
 have hF2:F=(if zL i s (decF L) now then j7 i (opnN s false) (decF L).2 s.sdst (zZ (decF L).2 now).1 now else opnN s false):=by
  rw[hF];unfold ackN j7;rw[hsy,hop,hsa];simp only[Bool.and_self,decide_true,if_true];rfl
 rw[←hF]
 obtain⟨X,hX⟩:=qZ (decF L)
 rw[←hX] at HDC hcs hF2
 obtain⟨e,f⟩:=X
 dsimp only at HDC hcs hF2
 have hie:f.ies.length≤100000∧∀e∈f.ies,e.list.length≤100000:=by
  rcases hcs with ⟨_,h⟩|⟨_,h⟩
  ·exact mayF_ies h
  ·rw[h];exact⟨by simp[fr0],λe he=>by cases he⟩
 have hrb:0≤(zZ f now).1∧(zZ f now).1≤255:=by
  rcases hcs with ⟨_,h⟩|⟨_,h⟩
  ·exact rankF_bd h now
  ·rw[h];show (0:Int)≤0∧(0:Int)≤255;omega
 have HF:=qQ hF2
 have HIE:=qQ hie
 obtain⟨⟨vA,vc,rfl,_⟩,_⟩:=hvo
 obtain⟨tt,htt⟩:∃x,x=s.sdst:=⟨_,rfl⟩
 rw[←htt] at c26 HF hsd hsi
 have HTT:=qQ htt
 clear h hsy hop hsa hF hF2 hX hcs hie htt
 go_enter Tryz.func36,Tryz.ntmps36
 go_wp2_with fail
 generalize w.setCell ⟨b,30,none⟩ (.bool false)=w1 at *
 with_reducible refine HDC.out.mono ?_
 rintro en w2 ⟨iv,dv,rfl,hI,hD,hG⟩
 have H2:=qQ (H1.out.kept hG)
 have HI2:=qQ (hI o H1.out.z)
 have HD2:=qQ (hD o H1.out.z)
 obtain⟨iA,ic,hiv⟩:=HI2.out.val
 obtain⟨⟨dA,dc,hdv,_⟩,_⟩:=HD2.out
 obtain⟨il,hil⟩:∃n,n=(f.ies).length:=⟨_,rfl⟩
 obtain⟨dl,hdl⟩:∃n,n=(f.data).length:=⟨_,rfl⟩
 dsimp only at hiv hdv HI2 HD2
 rw[←hil] at hiv
 rw[←hdl] at hdv
 subst hiv hdv
 clear hI hD hG H1 HDC hil hdl
 have ga:=Chg.alloc (λ_=>False) w2 (.cells #[.int .i64 f.kind,.int .i64 f.src,.int .i64 f.dst,.int .i64 f.seq,.slice iA il ic,.slice dA dl dc] 71)
 have HB3:=qQ (qV w2 (.cells #[.int .i64 f.kind,.int .i64 f.src,.int .i64 f.dst,.int .i64 f.seq,.slice iA il ic,.slice dA dl dc] 71))
 have HT:=qQ (H2.out.kept ga)
 have HI3:=qQ (HI2.out.keep ga (λ_ _ e=>e))
 have HR:=qQ (nrankf_any _ o f (.slice iA il ic) dA dl dc now HI3.out HIE.out.1 HIE.out.2)
 obtain⟨⟨rk,ok⟩,hRK⟩:∃x,x=zZ f now:=⟨_,rfl⟩
 rw[←hRK] at HR hrb HF
 dsimp only at HR hrb HF
 have HRK:=qQ hRK
 clear hRK
 unfold frV at HR
 unfold frV
 go_wp2_with fail
 with_reducible refine HR.out.mono ?_
 rintro en w3 ⟨rfl,g3⟩
 have H3:=qQ (HT.out.kept g3)
 have HI4:=qQ (HI3.out.keep g3 (λ_ _ e=>e))
 have hb3:w3.heap[w2.heap.size]? =_:=Chg.keep g3 HB3.out (λe=>e)
 obtain⟨fb,hfb⟩:∃x,x=w2.heap.size:=⟨_,rfl⟩
 rw[←hfb] at hb3 ⊢
 have HB4:=qQ hb3
 obtain⟨d0,d1,d2,d3,d4,d5⟩:=qC hb3
 have c9:w3.cell? ⟨b,9,none⟩=some (.int .i64 i):=H3.out.cell 9
 have c27:w3.cell? ⟨b,27,none⟩=some (.int .i64 s.sseq):=H3.out.cell 27
 have HTL:=qQ (λW (g:Chg (λ_=>False) w3 W)=>zH (H3.out.kept g))
 have C24:=qQ (λW (g:Chg (λ_=>False) w3 W)=>(H3.out.kept g).cell 24)
 have HBW:=qQ (λW (g:Chg (λ_=>False) w3 W)=>Chg.keep g HB4.out (λe=>e))
 have HDN:=qQ (λW (g:Chg (λ_=>False) w3 W)=>ndone_any (H3.out.kept g) f iA il ic dA dl dc tt rk now (HI4.out.keep g (λ_ _ e=>e)) HIE.out.1 HIE.out.2 hk (by show s.ev.length≤900;rw[hev];simp) hb hpk hsd hsi hrb h0)
 unfold frV at HDN
 have HE0:=qQ hev
 clear ga HB3 HT HR g3 H2 hlt hb3 hfb hev c18 c30 c23 c26 f30
 go_wp2_with fail
 obtain⟨I,F1,hI,hF1,hFA⟩:=clsF w3
 have k0:=qF hF1 d0
 have k1:=qF hF1 d1
 have k2:=qF hF1 d2
 have k3:=qF hF1 d3
 have k4:=qF hF1 c9
 have k5:=qF hF1 c27
 have HFF:=qQ hF1
 have HFA:=qQ (hFA _ (Chg.drew _ _))
 clear hF1 hFA d0 d1 d2 d3 d4 d5 c9 c27
 by_cases q0:e=0
 ·have t0:(e==0)=true:=by simpa using q0
  clear q0
  cases ok with
  |false=>
   have HGA:=qQ (show zL i s (e,f) now=false by unfold zL;simp only[];rw[←HRK.out,t0];rfl)
   with_reducible refine qW F1 (by kernel_rfl) (by kernel_rfl) HFA.out ?_
   repeat ((with_reducible refine wpQuiet_step (λK hK=>?_));go_simp;(try (rw[if_neg];rotate_left;(intro h;cases h)));first|((with_reducible refine hK _ ?_);clear hK K)|(apply Exists.intro;(with_reducible refine⟨λ_=>?_,hK _ ?_⟩);(exact False.elim (by assumption));clear hK K))
   with_reducible refine wpQuiet_nil ?_
   intro _ hw'
   obtain⟨nq,rfl⟩:=hw'
   have HTL2:=qQ (HTL.out _ (HFF.out nq))
   have c24:(F1 nq).cell? ⟨b,24,none⟩=some (.int .i64 s.skind):=C24.out _ (HFF.out nq)
   have tk:(s.skind==1)=false:=by simpa using hk
   clear HFF HFA hI HTL C24 k0 k1 k2 k3 k4 k5 HBW HDN
   generalize F1 nq=w4 at *
   go_wp2_with fail
   with_reducible refine HTL2.out.mono ?_
   rintro en w5 ⟨v5,o5,r5,rfl,h5,hE5⟩
   have H5:=qQ (And.intro h5 hE5)
   clear h5 hE5 HTL2
   go_wp2_with fail
   go_ret
   have hf:=HF.out
   rw[if_neg (by rw[HGA.out];simp)] at hf
   rw[hf]
   exact⟨_,o5,r5,rfl,H5.out.1,H5.out.2⟩
  |true=>
   have t1:true=true:=rfl
   by_cases q2:f.kind=2
   ·have t2:(f.kind==2)=true:=by simpa using q2
    clear q2
    by_cases q3:f.src=tt
    ·have t3:(f.src==tt)=true:=by simpa using q3
     clear q3
     by_cases q4:f.dst=(i:Int)
     ·have t4:(f.dst==(i:Int))=true:=by simpa using q4
      clear q4
      by_cases q5:f.seq=s.sseq
      ·have t5:(f.seq==s.sseq)=true:=by simpa using q5
       clear q5
       have HGA:=qQ (show zL i s (e,f) now=true by unfold zL;simp only[];rw[←HRK.out,←HTT.out,t0,t1,t2,t3,t4,t5];rfl)
       cases t1
       with_reducible refine qW F1 (by kernel_rfl) (by kernel_rfl) HFA.out ?_
       repeat ((with_reducible refine wpQuiet_step (λK hK=>?_));go_simp;(try (rw[if_neg];rotate_left;(intro h;cases h)));first|((with_reducible refine hK _ ?_);clear hK K)|(apply Exists.intro;(with_reducible refine⟨λ_=>?_,hK _ ?_⟩);(exact False.elim (by assumption));clear hK K))
       with_reducible refine wpQuiet_nil ?_
       intro _ hw'
       obtain⟨nq,rfl⟩:=hw'
       have HD2:=qQ (HDN.out _ (HFF.out nq))
       obtain⟨d0,d1,d2,d3,d4,d5⟩:=qC (HBW.out _ (HFF.out nq))
       clear HFF HFA hI HTL C24 k0 k1 k2 k3 k4 k5 HBW HDN
       generalize F1 nq=w4 at *
       go_wp2_with fail
       with_reducible refine HD2.out.mono ?_
       rintro en w5 ⟨v5,o5,r5,rfl,h5,rfl⟩
       have HTL2:=qQ (zH h5)
       clear HD2 d0 d1 d2 d3 d4 d5 h5
       go_wp2_with fail
       with_reducible refine HTL2.out.mono ?_
       rintro en w6 ⟨v6,o6,r6,rfl,h6,hE6⟩
       have H6:=qQ (And.intro h6 hE6)
       clear h6 hE6 HTL2
       go_wp2_with fail
       go_ret
       have hf:=HF.out
       rw[if_pos HGA.out] at hf
       rw[hf]
       exact⟨_,o6,r6,rfl,H6.out.1,H6.out.2⟩
      ·have t5:(f.seq==s.sseq)=false:=by simpa using q5
       clear q5
       have HGA:=qQ (show zL i s (e,f) now=false by unfold zL;simp only[];rw[←HRK.out,←HTT.out,t0,t2,t3,t4,t5];simp)
       with_reducible refine qW F1 (by kernel_rfl) (by kernel_rfl) HFA.out ?_
       repeat ((with_reducible refine wpQuiet_step (λK hK=>?_));go_simp;(try (rw[if_neg];rotate_left;(intro h;cases h)));first|((with_reducible refine hK _ ?_);clear hK K)|(apply Exists.intro;(with_reducible refine⟨λ_=>?_,hK _ ?_⟩);(exact False.elim (by assumption));clear hK K))
       with_reducible refine wpQuiet_nil ?_
       intro _ hw'
       obtain⟨nq,rfl⟩:=hw'
       have HTL2:=qQ (HTL.out _ (HFF.out nq))
       have c24:(F1 nq).cell? ⟨b,24,none⟩=some (.int .i64 s.skind):=C24.out _ (HFF.out nq)
       have tk:(s.skind==1)=false:=by simpa using hk
       clear HFF HFA hI HTL C24 k0 k1 k2 k3 k4 k5 HBW HDN
       generalize F1 nq=w4 at *
       go_wp2_with fail
       with_reducible refine HTL2.out.mono ?_
       rintro en w5 ⟨v5,o5,r5,rfl,h5,hE5⟩
       have H5:=qQ (And.intro h5 hE5)
       clear h5 hE5 HTL2
       go_wp2_with fail
       go_ret
       have hf:=HF.out
       rw[if_neg (by rw[HGA.out];simp)] at hf
       rw[hf]
       exact⟨_,o5,r5,rfl,H5.out.1,H5.out.2⟩
     ·have t4:(f.dst==(i:Int))=false:=by simpa using q4
      clear q4
      have HGA:=qQ (show zL i s (e,f) now=false by unfold zL;simp only[];rw[←HRK.out,←HTT.out,t0,t2,t3,t4];simp)
      with_reducible refine qW F1 (by kernel_rfl) (by kernel_rfl) HFA.out ?_
      repeat ((with_reducible refine wpQuiet_step (λK hK=>?_));go_simp;(try (rw[if_neg];rotate_left;(intro h;cases h)));first|((with_reducible refine hK _ ?_);clear hK K)|(apply Exists.intro;(with_reducible refine⟨λ_=>?_,hK _ ?_⟩);(exact False.elim (by assumption));clear hK K))
      with_reducible refine wpQuiet_nil ?_
      intro _ hw'
      obtain⟨nq,rfl⟩:=hw'
      have HTL2:=qQ (HTL.out _ (HFF.out nq))
      have c24:(F1 nq).cell? ⟨b,24,none⟩=some (.int .i64 s.skind):=C24.out _ (HFF.out nq)
      have tk:(s.skind==1)=false:=by simpa using hk
      clear HFF HFA hI HTL C24 k0 k1 k2 k3 k4 k5 HBW HDN
      generalize F1 nq=w4 at *
      go_wp2_with fail
      with_reducible refine HTL2.out.mono ?_
      rintro en w5 ⟨v5,o5,r5,rfl,h5,hE5⟩
      have H5:=qQ (And.intro h5 hE5)
      clear h5 hE5 HTL2
      go_wp2_with fail
      go_ret
      have hf:=HF.out
      rw[if_neg (by rw[HGA.out];simp)] at hf
      rw[hf]
      exact⟨_,o5,r5,rfl,H5.out.1,H5.out.2⟩
    ·have t3:(f.src==tt)=false:=by simpa using q3
     clear q3
     have HGA:=qQ (show zL i s (e,f) now=false by unfold zL;simp only[];rw[←HRK.out,←HTT.out,t0,t2,t3];simp)
     with_reducible refine qW F1 (by kernel_rfl) (by kernel_rfl) HFA.out ?_
     repeat ((with_reducible refine wpQuiet_step (λK hK=>?_));go_simp;(try (rw[if_neg];rotate_left;(intro h;cases h)));first|((with_reducible refine hK _ ?_);clear hK K)|(apply Exists.intro;(with_reducible refine⟨λ_=>?_,hK _ ?_⟩);(exact False.elim (by assumption));clear hK K))
     with_reducible refine wpQuiet_nil ?_
     intro _ hw'
     obtain⟨nq,rfl⟩:=hw'
     have HTL2:=qQ (HTL.out _ (HFF.out nq))
     have c24:(F1 nq).cell? ⟨b,24,none⟩=some (.int .i64 s.skind):=C24.out _ (HFF.out nq)
     have tk:(s.skind==1)=false:=by simpa using hk
     clear HFF HFA hI HTL C24 k0 k1 k2 k3 k4 k5 HBW HDN
     generalize F1 nq=w4 at *
     go_wp2_with fail
     with_reducible refine HTL2.out.mono ?_
     rintro en w5 ⟨v5,o5,r5,rfl,h5,hE5⟩
     have H5:=qQ (And.intro h5 hE5)
     clear h5 hE5 HTL2
     go_wp2_with fail
     go_ret
     have hf:=HF.out
     rw[if_neg (by rw[HGA.out];simp)] at hf
     rw[hf]
     exact⟨_,o5,r5,rfl,H5.out.1,H5.out.2⟩
   ·have t2:(f.kind==2)=false:=by simpa using q2
    clear q2
    have HGA:=qQ (show zL i s (e,f) now=false by unfold zL;simp only[];rw[←HRK.out,←HTT.out,t0,t2];simp)
    with_reducible refine qW F1 (by kernel_rfl) (by kernel_rfl) HFA.out ?_
    repeat ((with_reducible refine wpQuiet_step (λK hK=>?_));go_simp;(try (rw[if_neg];rotate_left;(intro h;cases h)));first|((with_reducible refine hK _ ?_);clear hK K)|(apply Exists.intro;(with_reducible refine⟨λ_=>?_,hK _ ?_⟩);(exact False.elim (by assumption));clear hK K))
    with_reducible refine wpQuiet_nil ?_
    intro _ hw'
    obtain⟨nq,rfl⟩:=hw'
    have HTL2:=qQ (HTL.out _ (HFF.out nq))
    have c24:(F1 nq).cell? ⟨b,24,none⟩=some (.int .i64 s.skind):=C24.out _ (HFF.out nq)
    have tk:(s.skind==1)=false:=by simpa using hk
    clear HFF HFA hI HTL C24 k0 k1 k2 k3 k4 k5 HBW HDN
    generalize F1 nq=w4 at *
    go_wp2_with fail
    with_reducible refine HTL2.out.mono ?_
    rintro en w5 ⟨v5,o5,r5,rfl,h5,hE5⟩
    have H5:=qQ (And.intro h5 hE5)
    clear h5 hE5 HTL2
    go_wp2_with fail
    go_ret
    have hf:=HF.out
    rw[if_neg (by rw[HGA.out];simp)] at hf
    rw[hf]
    exact⟨_,o5,r5,rfl,H5.out.1,H5.out.2⟩
 ·have t0:(e==0)=false:=by simpa using q0
  clear q0
  have HGA:=qQ (show zL i s (e,f) now=false by unfold zL;simp only[];rw[←HRK.out,←HTT.out,t0];simp)
  with_reducible refine qW F1 (by kernel_rfl) (by kernel_rfl) HFA.out ?_
  repeat ((with_reducible refine wpQuiet_step (λK hK=>?_));go_simp;(try (rw[if_neg];rotate_left;(intro h;cases h)));first|((with_reducible refine hK _ ?_);clear hK K)|(apply Exists.intro;(with_reducible refine⟨λ_=>?_,hK _ ?_⟩);(exact False.elim (by assumption));clear hK K))
  with_reducible refine wpQuiet_nil ?_
  intro _ hw'
  obtain⟨nq,rfl⟩:=hw'
  have HTL2:=qQ (HTL.out _ (HFF.out nq))
  have c24:(F1 nq).cell? ⟨b,24,none⟩=some (.int .i64 s.skind):=C24.out _ (HFF.out nq)
  have tk:(s.skind==1)=false:=by simpa using hk
  clear HFF HFA hI HTL C24 k0 k1 k2 k3 k4 k5 HBW HDN
  generalize F1 nq=w4 at *
  go_wp2_with fail
  with_reducible refine HTL2.out.mono ?_
  rintro en w5 ⟨v5,o5,r5,rfl,h5,hE5⟩
  have H5:=qQ (And.intro h5 hE5)
  clear h5 hE5 HTL2
  go_wp2_with fail
  go_ret
  have hf:=HF.out
  rw[if_neg (by rw[HGA.out];simp)] at hf
  rw[hf]
  exact⟨_,o5,r5,rfl,H5.out.1,H5.out.2⟩
end
end Go.Proofs.YtnpihllannobgaaGreatDoor
