/- Steps of the proof, part H38. No condition. -/
import Derived.Test.YtnpihllannobgaaGreatDoorH36
namespace Go.Proofs.YtnpihllannobgaaGreatDoor
set_option linter.unusedVariables false
set_option linter.unusedSimpArgs false
set_option maxRecDepth 100000
set_option maxHeartbeats 32000000
open Go.ChangeShapes Go.WideShapes Go.ChangeAt Go.RowKit
theorem learnsN_qev(i:Nat)(s:NSt)(p:Pk):(jS i s p).q=s.q∧(jS i s p).ev=s.ev:=by unfold jS;split <;> exact⟨rfl,rfl⟩
theorem jG(i:Nat)(s:NSt)(p:Pk)(f:Seen):(jH i s p f).q=s.q∧(jH i s p f).ev=s.ev∧(jH i s p f).paths=s.paths:=by unfold jH;split;exact⟨rfl,rfl,rfl⟩;split <;> exact⟨rfl,rfl,rfl⟩
section
variable {w0 w w':World}{o0 o o':Cls}{c:Cfg}{i b:Nat}{s s':NSt}{r r':NR}
theorem ntakes_any(hc:CfgOk c)(h:NAt w0 o0 c i b s w o r)(hi:i<c.nodes)(v:Value)(L:List Int)(hv:BO w o v L)(hL:L.length≤100000)(hpl:∀n L,s.paths n=some L→L.length≤100000)(hq:s.q.length≤900)(hn:s.ev.length≤900):
  Calls Tryz.prog 160 #[.pointer (some ⟨b,0,none⟩),v] w (PN w0 o0 c i b (vl c i s L) (λv _ _=>v= .tuple #[])):=by
 obtain⟨FS,hFS⟩:∃FS,vl c i s L=FS:=⟨_,rfl⟩
 rw[hFS]
 unfold vl at hFS
 have HDEC:=pdecode_any w v L hv.bs hL
 have hcs:=decP_cases L
 obtain⟨x,hx⟩:=qZ (decP L)
 rw[←hx] at HDEC hcs hFS
 obtain⟨vA,vc,rfl,_⟩:=hv.1
 obtain⟨vn,hvn⟩:∃n,n=L.length:=⟨_,rfl⟩
 rw[←hvn] at HDEC ⊢
 have HD:=qQ HDEC
 have H:=qQ h
 have HPL:=qQ hpl
 have HQ:=qQ (And.intro hq (And.intro hn (And.intro hi hc)))
 obtain⟨E,S,D,N,Lf,P,T⟩:=x
 have HCS:=qQ hcs
 have HFS:=qQ hFS
 clear HDEC hx hcs hFS hvn hL hpl hq hn hi hc hv h
 go_enter Tryz.func160,Tryz.ntmps160
 go_wp2_with fail
 with_reducible refine HD.out.mono ?_
 rintro en w1 ⟨lv,dv,rfl,hl,hd,G1⟩
 have hpo:PO w1 o lv dv ⟨S,D,N,Lf,P,T⟩:=⟨hl o H.out.z,hd o H.out.z⟩
 obtain⟨lA,lc,hlv,_⟩:=hpo.1
 obtain⟨⟨dA,dc,hdv,_⟩,_⟩:=hpo.2
 obtain⟨m,hm⟩:=qZ P.length
 obtain⟨n,hnn⟩:=qZ T.length
 dsimp only at hlv hdv
 rw[←hm] at hlv
 rw[←hnn] at hdv
 subst hlv hdv
 have HM:=qQ (And.intro hm hnn)
 have ga:=Chg.alloc (λ_=>False) w1 (.cells #[.int .i64 S,.int .i64 D,.int .i64 N,.int .i64 Lf,.slice lA m lc,.slice dA n dc] 42)
 have hba:=qV w1 (.cells #[.int .i64 S,.int .i64 D,.int .i64 N,.int .i64 Lf,.slice lA m lc,.slice dA n dc] 42)
 have HG1:=qQ (G1.trans ga)
 have HP1:=qQ (hpo.keep ga (λ_ _ e=>e))
 have HB1:=qQ hba
 have HA:=qQ (show o w1.heap.size=0 from (H.out.kept G1).z _ (Nat.le_refl _))
 clear hl hd G1 hpo hm hnn ga hba HD
 unfold pkV
 dsimp only
 go_upto_region 1 with fail
 obtain⟨a,hae⟩:=qZ w1.heap.size
 rw[←hae] at HB1 HA ⊢
 clear hae
 generalize w1.alloc (.cells #[.int .i64 S,.int .i64 D,.int .i64 N,.int .i64 Lf,.slice lA m lc,.slice dA n dc] 42)=w2 at *
 obtain⟨d0,d1,d2,d3,d4,d5⟩:=qC HB1.out
 by_cases hE:E=0
 rotate_left
 ·have t14:(E != 0)=true:=by simpa using hE
  have HF:=qQ (show FS=s from by rw[←HFS.out,if_pos hE])
  have HN:=qQ (H.out.kept HG1.out)
  clear hE d0 d1 d2 d3 d4 d5
  go_wp2_with fail
  go_end0
  exact⟨_,o,r,rfl,by rw[HF.out];exact HN.out,rfl⟩
 subst hE
 have hmp:mayP ⟨S,D,N,Lf,P,T⟩=true:=by rcases HCS.out with h|h;exact h.2;exact absurd rfl h.1
 have hpl16:P.length≤16:=(zm hmp).2.2.2.2.2.1.1
 have htl:T.length≤24:=(zm hmp).2.2.2.2.2.2.2
 have HMP:=qQ (And.intro hmp (And.intro hpl16 htl))
 have HKN:=qQ (nknown_any (H.out.kept HG1.out) ⟨S,D,N,Lf,P,T⟩ _ _ HP1.out (by have:=HQ.out.2.2.2.n1;omega) (by show P.length≤100000;omega))
 obtain⟨kn,hkn⟩:=qZ (knownB c ⟨S,D,N,Lf,P,T⟩)
 rw[←hkn] at HKN
 have HFS2:=qQ (show FS=if kn then take2N c i s ⟨S,D,N,Lf,P,T⟩ else s from by rw[←HFS.out,if_neg (by simp),hkn])
 unfold pkV at HKN
 dsimp only at HKN
 clear hmp hpl16 htl hkn HFS HCS
 go_wp2_with fail
 with_reducible refine HKN.out.mono ?_
 rintro en w3 ⟨rfl,G3⟩
 have hN3:=H.out.kept (HG1.out.trans G3)
 have hb3:=Chg.keep G3 HB1.out (λe=>e)
 have HN3:=qQ hN3
 have HP3:=qQ (HP1.out.keep G3 (λ_ _ e=>e))
 have HB3:=qQ hb3
 clear d0 d1 d2 d3 d4 d5 G3 hN3 H HG1 HP1 HB1 HKN
 cases kn with
 |false=>
  have HF:=qQ (show FS=s from HFS2.out)
  clear hb3
  go_wp2_with fail
  go_end0
  exact⟨_,o,r,rfl,by rw[HF.out];exact HN3.out,rfl⟩
 |true=>
 have HF:=qQ (show FS=take2N c i s ⟨S,D,N,Lf,P,T⟩ from HFS2.out)
 clear HFS2
 obtain⟨d0,d1,d2,d3,d4,d5⟩:=qC hb3
 have c9:w3.cell? ⟨b,9,none⟩=some (.int .i64 i):=HN3.out.cell 9
 clear hb3
 obtain⟨dn,hdn⟩:=qZ (downB i ⟨S,D,N,Lf,P,T⟩)
 have HDN:=qQ hdn
 clear hdn
 go_upto_region 2 with fail
 go_cut [6] (λu6 wx=>u6= .bool dn∧Chg (λ_=>False) w3 wx)
 case first=>
  by_cases hi0:i=0
  ·have t25:((i:Int) != 0)=false:=by simp;omega
   have HV:=qQ (show dn=false from by rw[HDN.out];unfold downB;simp[hi0])
   clear hi0
   go_wp2_with fail
   go_meet
   exact⟨by rw[HV.out],Chg.refl _ _⟩
  ·have t25:((i:Int) != 0)=true:=by simp;omega
   rcases P with _|⟨x0,P'⟩
   ·have hm0:m=0:=HM.out.1
    subst hm0
    have HV:=qQ (show dn=false from by rw[HDN.out];unfold downB;simp)
    clear hi0
    go_wp2_with fail
    go_meet
    exact⟨by rw[HV.out],Chg.refl _ _⟩
   ·have hm1:=HM.out.1
    rw[List.length_cons] at hm1
    have t30:decide ((m:Int)>0)=true:=by simp;omega
    have t30':0<m:=by omega
    have t30'':(0:Int)<(m:Int):=by omega
    obtain⟨Ax,cx,ex,hro,_⟩:=HP3.out.1
    cases ex
    obtain⟨Ax,z0,hAx,hz0,hcx⟩:=hro.at (i:=0) (by simp)
    have hz1:z0=x0:=by simp at hz0;exact hz0.symm
    subst hAx hz1
    unfold VI at hcx
    have hcx':w3.cell? Ax=some (.int .i64 z0):=hcx
    have HV:=qQ (show dn=(z0==0) from by rw[HDN.out];unfold downB;simp[hi0])
    clear hi0 hro hz0
    go_wp2_with fail
    go_meet
    exact⟨by rw[HV.out],Chg.refl _ _⟩
 case rest=>
  obtain⟨rfl,hg0⟩:=hcut
  obtain⟨wA,rfl⟩:=qZ wc
  have HN4:=qQ (HN3.out.kept hg0)
  have HP4:=qQ (HP3.out.keep hg0 (λ_ _ e=>e))
  have HB4:=qQ (Chg.keep hg0 HB3.out (λe=>e))
  clear hg0 HN3 HP3 HB3 d0 d1 d2 d3 d4 d5 c9
  obtain⟨d0,d1,d2,d3,d4,d5⟩:=qC HB4.out
  have c9:wA.cell? ⟨b,9,none⟩=some (.int .i64 i):=HN4.out.cell 9
  have c12:wA.cell? ⟨b,12,none⟩=some (.pointer (some ⟨r.up,0,none⟩)):=HN4.out.cell 12
  go_upto_region 4 with fail
  clear c12
  by_cases hD:D=(i:Int)
  ·have t50:(D==(i:Int))=true:=by simpa using hD
   have HDD:=qQ hD
   clear hD
   obtain⟨I,F1,hI,hF1,hFA⟩:=clsF wA
   have e1:=qF hF1 d1
   have e9:=qF hF1 c9
   have HFF:=qQ hF1
   have HFA:=qQ (hFA _ (Chg.drew _ _))
   clear hF1 hFA d1 c9
   with_reducible refine qW F1 (by kernel_rfl) (by kernel_rfl) HFA.out ?_
   repeat ((with_reducible refine wpQuiet_step (λK hK=>?_));go_simp;(try (rw[if_neg];rotate_left;(intro h;cases h)));(with_reducible refine hK _ ?_);clear hK K)
   with_reducible refine wpQuiet_nil ?_
   intro _ hw'
   obtain⟨nq,rfl⟩:=hw'
   have HX0:=qQ (HFF.out nq)
   clear e1 e9 HFF HFA hI d0 d2 d3 d4 d5
   generalize F1 nq=w5 at *
   have hG4:=HX0.out
   have cW:w5.cell? ⟨b,14,none⟩=some (.pointer (some ⟨r.got,0,none⟩)):=(HN4.out.kept hG4).cell 14
   have hN5:=HN4.out.kept hG4
   have hb5:=Chg.keep hG4 HB4.out (λe=>e)
   have hp5:=HP4.out.keep hG4 (λ_ _ e=>e)
   obtain⟨mw,hway⟩:=hN5.way ⟨S,D,N,Lf,P,T⟩
   have hway:WayR w0 o0 c i b s ⟨S,D,N,Lf,P,T⟩ w5 o r r.got mw:=by have h:=hway;rw[if_pos HDD.out] at h;exact h
   have hNN:N≤9223372036854775807:=by have:=(zm HMP.out.1).2.2.2.1.2;show N≤_;have e:(⟨S,D,N,Lf,P,T⟩:Pk).n=N:=rfl;rw[e] at this;omega
   have HDUP:=dupput_any w5 (r.got) mw (wayS i s ⟨S,D,N,Lf,P,T⟩) S N hway.wk hway.fine hNN
   obtain⟨nb,hnb⟩:=qZ (isnew (wayS i s ⟨S,D,N,Lf,P,T⟩) S N)
   obtain⟨ff,hff⟩:=qZ (nextf (wayS i s ⟨S,D,N,Lf,P,T⟩) S N)
   rw[←hnb,←hff] at HDUP
   have HFI:=qQ (show Fine ff from by rw[hff];exact hway.fine.next S N hNN)
   obtain⟨s1,hs1⟩:=qZ (jH i s ⟨S,D,N,Lf,P,T⟩ ff)
   have hsm:=jG i s ⟨S,D,N,Lf,P,T⟩ ff
   rw[←hs1] at hsm
   have HF2:=qQ (show FS=if nb=true then vQ c i s1 ⟨S,D,N,Lf,P,T⟩ else evN s1 ⟨5,i,0,5,⟨S,D,N,Lf,P,T⟩⟩ from by rw[HF.out];unfold take2N;rw[hs1,hff,hnb])
   have HWAY:=qQ hway
   have HS1:=qQ hs1
   have HSM:=qQ hsm
   have HDUP:=qQ HDUP
   have HP5:=qQ hp5
   have HB5:=qQ hb5
   obtain⟨d0,d1,d2,d3,d4,d5⟩:=qC hb5
   clear hN5 hb5 hp5 hway hnb hff hs1 hsm hG4 HN4 HP4 HB4 HF hNN
   go_wp2_with fail
   with_reducible refine HDUP.out.mono ?_
   rintro en w6 ⟨rfl,hWk,G6⟩
   have hN6:NAt w0 o0 c i b s1 w6 o r:=by rw[HS1.out];exact HWAY.out.set _ _ hWk HFI.out G6
   have hp6:=HP5.out.keep G6 (λj hj e=>HWAY.out.om (by rw[←show j=mw from e];exact hj))
   have hb6:=Chg.keep G6 HB5.out (λe=>HWAY.out.om (by rw[←show a=mw from e];exact HA.out))
   have HN6:=qQ hN6
   have HP6:=qQ hp6
   have HB6:=qQ hb6
   have HEQ:=qQ (show s1.q.length≤900∧s1.ev.length≤900∧(∀n L,s1.paths n=some L→L.length≤100000) from by rw[HSM.out.1,HSM.out.2.1,HSM.out.2.2];exact⟨HQ.out.1,HQ.out.2.1,HPL.out⟩)
   clear d0 d1 d2 d3 d4 d5 hWk G6 hN6 hp6 HWAY HS1 HSM HDUP HP5 HB5 HFI
   obtain⟨d0,d1,d2,d3,d4,d5⟩:=qC hb6
   clear hb6
   cases nb with
   |false=>
    have HF3:=qQ (show FS=evN s1 ⟨5,i,0,5,⟨S,D,N,Lf,P,T⟩⟩ from by rw[HF2.out,if_neg (by decide)])
    have HDR:=zj HN6.out ⟨S,D,N,Lf,P,T⟩ _ _ 5 HP6.out (by have:=HEQ.out.2.1;omega)
    unfold pkV at HDR
    have HDR:=qQ HDR
    go_wp2_with fail
    with_reducible refine HDR.out.mono ?_
    rintro en w7 ⟨v7,o7,r7,rfl,hN7,rfl⟩
    have HN7:=qQ hN7
    clear hN7 d0 d1 d2 d3 d4 d5 HDR
    go_wp2_with fail
    go_end0
    exact⟨_,_,_,rfl,by rw[HF3.out];exact HN7.out,rfl⟩
   |true=>
   have HF3:=qQ (show FS=vQ c i s1 ⟨S,D,N,Lf,P,T⟩ from by rw[HF2.out,if_pos rfl])
   clear HF2
   have c9:w6.cell? ⟨b,9,none⟩=some (.int .i64 i):=HN6.out.cell 9
   go_upto_region 11 with fail
   have t81:(D==(i:Int))=true:=t50
   have HF4:=qQ (show FS=evN (jS i s1 ⟨S,D,N,Lf,P,T⟩) ⟨4,i,0,0,⟨S,D,N,Lf,P,T⟩⟩ from by rw[HF3.out];unfold vQ;rw[if_pos HDD.out])
   clear HF3 d0 d2 d3 d4 d5
   obtain⟨I,F1,hI,hF1,hFA⟩:=clsF w6
   have e1:=qF hF1 d1
   have e9:=qF hF1 c9
   have HFF:=qQ hF1
   have HFA:=qQ (hFA _ (Chg.drew _ _))
   clear hF1 hFA d1 c9
   with_reducible refine qW F1 (by kernel_rfl) (by kernel_rfl) HFA.out ?_
   repeat ((with_reducible refine wpQuiet_step (λK hK=>?_));go_simp;(try (rw[if_neg];rotate_left;(intro h;cases h)));(with_reducible refine hK _ ?_);clear hK K)
   with_reducible refine wpQuiet_nil ?_
   intro _ hw'
   obtain⟨nq,rfl⟩:=hw'
   have HX:=qQ (HFF.out nq)
   clear e1 e9 HFF HFA hI
   generalize F1 nq=w7 at *
   have hN7:=HN6.out.kept HX.out
   have hb7:=Chg.keep HX.out HB6.out (λe=>e)
   have hp7:=HP6.out.keep HX.out (λ_ _ e=>e)
   have HLE:=nlearns_any (NAt.start hN7.nd hN7.z) ⟨S,D,N,Lf,P,T⟩ _ _ hp7 HMP.out.1
   unfold pkV at HLE
   have HLE:=qQ HLE
   have HN7:=qQ hN7
   have HB7:=qQ hb7
   have HP7:=qQ hp7
   obtain⟨d0,d1,d2,d3,d4,d5⟩:=qC hb7
   clear hN7 hb7 hp7 HN6 HB6 HP6
   go_wp2_with fail
   with_reducible refine HLE.out.mono ?_
   rintro en w8 ⟨v8,o8,r8,rfl,hN8,rfl⟩
   have h:=HN7.out.trans hN8
   have hp8:=(NAt.start HN7.out.nd HN7.out.z).old hN8 hN8.ext hN8.chg HP7.out
   have hb8:=Chg.keep hN8.chg HB7.out (λe=>by obtain⟨j,_,e⟩:=e;rw[HA.out] at e;exact qP i j e.symm)
   have HPO:=qQ hp8
   have hse:=(learnsN_qev i s1 ⟨S,D,N,Lf,P,T⟩).2
   obtain⟨s2,hs2⟩:=qZ (jS i s1 ⟨S,D,N,Lf,P,T⟩)
   rw[←hs2] at h hse
   have HF5:=qQ (show FS=evN s2 ⟨4,i,0,0,⟨S,D,N,Lf,P,T⟩⟩ from by rw[HF4.out,hs2])
   clear hN8 hp8 d0 d1 d2 d3 d4 d5 HLE HN7 HB7 HP7 HF4 hs2
   obtain⟨d0,d1,d2,d3,d4,d5⟩:=qC hb8
   clear hb8
   have c1:w8.cell? ⟨b,9,none⟩=some (.int .i64 i):=h.cell 9
   have c2:w8.cell? ⟨b,31,none⟩=some r8.ev:=h.cell 31
   have f2:w8.frozen? ⟨b,31,none⟩=false:=h.f 31
   have H:=qQ h
   have hlb:=qX h.nd.blk
   obtain⟨A,cap,hev⟩:=h.evrow
   rw[hev] at c2
   obtain⟨ne,hln⟩:=qZ s2.ev.length
   have hne:ne≤1000:=by have:=HEQ.out.2.1;rw[hln,hse];omega
   rw[←hln] at c2 hev
   have HV:=qQ (And.intro hev hln)
   obtain⟨ps,e1,e2,e3,e4⟩:=h.nd.np.2.2.2.2.2.2.2.2.2.2
   have hpl:ps.length=ne:=by rw[hln,e4,List.length_map]
   rw[hpl,hev] at e1
   have HROW:=qQ e1
   have HPLL:=qQ (And.intro e3 e4)
   have hnb:∀k,(Value.slice A ne cap).ownBlock=some k→k≠b:=λk hk e=>by
    rw[←hev] at hk
    have h1:=e2 k hk;rw[e,h.nd.ob] at h1;have:=(qy h1 (by omega) (by omega)).2;omega
   have HNB:=qQ hnb
   obtain⟨ei,z,i1,i2,i3,i4,i5,i6⟩:=ElV.2
   have hEI:=qQ (And.intro i1 (And.intro i2 (And.intro i3 (And.intro i4 (And.intro i5 i6)))))
   clear i1 i2 i3 i4 i5 i6
   have HONE:=qQ (show∀u∈[Value.int .i64 4,.int .i64 i,.int .i64 0,.int .i64 0,.int .i64 S,.int .i64 D,.int .i64 N,.int .i64 Lf,.slice lA m lc,.slice dA n dc],u.oneCell'=true by intro u hu;simp at hu;rcases hu with rfl|rfl|rfl|rfl|rfl|rfl|rfl|rfl|rfl|rfl <;> rfl)
   have HLN:=qQ (show ne+1≤maxLen∧(ne+1)*112≤140737488355328 by unfold maxLen;omega)
   obtain⟨ob,hob⟩:=qZ (Obj.cells #[.int .i64 4,.int .i64 i,.int .i64 0,.int .i64 0,.int .i64 S,.int .i64 D,.int .i64 N,.int .i64 Lf,.slice lA m lc,.slice dA n dc] 44)
   have c2a:=qL c2 ob
   rw[hob] at c2a
   clear h hev hln e1 e2 e3 e4 hpl hob ob hnb hse hne
   go_upto_region 13 with fail
   go_region_law
    ((
     refine step_append_lies (P:=Tryz.prog) _ (by rfl) (.tmp 89) (.tmp 96) 29 (by rfl) 0 44 ei z 10 112 Tryz.underlying29 hEI.out.1 hEI.out.2.1 hEI.out.2.2.1 hEI.out.2.2.2.1 hEI.out.2.2.2.2.1 hEI.out.2.2.2.2.2 (.slice A ne cap) ne (ps.flatMap z6) rfl (qY HROW.out ((Chg.alloc (λ_=>False) w8 (.cells #[.int .i64 4,.int .i64 i,.int .i64 0,.int .i64 0,.int .i64 S,.int .i64 D,.int .i64 N,.int .i64 Lf,.slice lA m lc,.slice dA n dc] 44)).trans (Chg.drew _ _)) (λ_ _ e=>e)) ⟨w8.heap.size,0,none⟩ 1 1 [.int .i64 4,.int .i64 i,.int .i64 0,.int .i64 0,.int .i64 S,.int .i64 D,.int .i64 N,.int .i64 Lf,.slice lA m lc,.slice dA n dc] rfl rfl (World.news_of_block (w:=(w8.alloc (.cells #[.int .i64 4,.int .i64 i,.int .i64 0,.int .i64 0,.int .i64 S,.int .i64 D,.int .i64 N,.int .i64 Lf,.slice lA m lc,.slice dA n dc] 44)).drew) (qV w8 (.cells #[.int .i64 4,.int .i64 i,.int .i64 0,.int .i64 0,.int .i64 S,.int .i64 D,.int .i64 N,.int .i64 Lf,.slice lA m lc,.slice dA n dc] 44))) HONE.out (by omega) HLN.out.1 HLN.out.2 (Nat.zero_le _) (w8.heap.size+1) (by simp) ?_
     intro g5 cap5 w5 hown5 hgr5 hat5 hlt5
     have G5:Chg (λk=>(Value.slice A ne cap).ownBlock=some k) w8 w5:=((Chg.alloc _ w8 (.cells #[.int .i64 4,.int .i64 i,.int .i64 0,.int .i64 0,.int .i64 S,.int .i64 D,.int .i64 N,.int .i64 Lf,.slice lA m lc,.slice dA n dc] 44)).trans (Chg.drew _ _)).trans (qH hgr5 (λj e=>e.symm▸rfl))
     have kb:=Chg.keep G5 H.out.nd.blk (λe=>HNB.out b e rfl)
     have k2:w5.cell? ⟨b,31,none⟩=some (.slice A ne cap):=by rw[qJ kb];exact congrArg some HV.out.1
     have kf:w5.frozen? ⟨b,31,none⟩=false:=qK kb 31
     have HKB:=qQ kb
     have HG5:=qQ G5
     have HO5:=qQ (And.intro hown5 (And.intro hat5 hlt5))
     clear kb G5 hown5 hgr5 hat5 hlt5))
   all_goals
    go_wp2_with fail
    go_end0
    obtain⟨o',r',hN⟩:=H.out.told ⟨4,i,0,0,⟨S,D,N,Lf,P,T⟩⟩ (.slice lA m lc) (.slice dA n dc) g5 cap5 ne w5 (by rw[HV.out.1];exact HG5.out) HV.out.2 ps HPLL.out.1 HPLL.out.2 HO5.out.1
     (by rw[HV.out.1];rcases HO5.out.2.1 with h|h;exact .inl h;right;omega) HO5.out.2.2 HPO.out
    refine⟨_,o',r',rfl,?_,rfl⟩
    rw[HF5.out]
    exact hN
  ·have t50:(D==(i:Int))=false:=by simpa using hD
   have HDD:=qQ hD
   clear hD
   obtain⟨I,F1,hI,hF1,hFA⟩:=clsF wA
   have e1:=qF hF1 d1
   have e9:=qF hF1 c9
   have HFF:=qQ hF1
   have HFA:=qQ (hFA _ (Chg.drew _ _))
   clear hF1 hFA d1 c9
   with_reducible refine qW F1 (by kernel_rfl) (by kernel_rfl) HFA.out ?_
   repeat ((with_reducible refine wpQuiet_step (λK hK=>?_));go_simp;(try (rw[if_neg];rotate_left;(intro h;cases h)));(with_reducible refine hK _ ?_);clear hK K)
   with_reducible refine wpQuiet_nil ?_
   intro _ hw'
   obtain⟨nq,rfl⟩:=hw'
   have HX0:=qQ (HFF.out nq)
   clear e1 e9 HFF HFA hI d0 d2 d3 d4 d5
   generalize F1 nq=w5 at *
   cases dn with
   |true=>
    have hG4:=HX0.out
    have cW:w5.cell? ⟨b,13,none⟩=some (.pointer (some ⟨r.down,0,none⟩)):=(HN4.out.kept hG4).cell 13
    have hN5:=HN4.out.kept hG4
    have hb5:=Chg.keep hG4 HB4.out (λe=>e)
    have hp5:=HP4.out.keep hG4 (λ_ _ e=>e)
    obtain⟨mw,hway⟩:=hN5.way ⟨S,D,N,Lf,P,T⟩
    have hway:WayR w0 o0 c i b s ⟨S,D,N,Lf,P,T⟩ w5 o r r.down mw:=by have h:=hway;rw[if_neg HDD.out,←HDN.out,if_pos rfl] at h;exact h
    have hNN:N≤9223372036854775807:=by have:=(zm HMP.out.1).2.2.2.1.2;show N≤_;have e:(⟨S,D,N,Lf,P,T⟩:Pk).n=N:=rfl;rw[e] at this;omega
    have HDUP:=dupput_any w5 (r.down) mw (wayS i s ⟨S,D,N,Lf,P,T⟩) S N hway.wk hway.fine hNN
    obtain⟨nb,hnb⟩:=qZ (isnew (wayS i s ⟨S,D,N,Lf,P,T⟩) S N)
    obtain⟨ff,hff⟩:=qZ (nextf (wayS i s ⟨S,D,N,Lf,P,T⟩) S N)
    rw[←hnb,←hff] at HDUP
    have HFI:=qQ (show Fine ff from by rw[hff];exact hway.fine.next S N hNN)
    obtain⟨s1,hs1⟩:=qZ (jH i s ⟨S,D,N,Lf,P,T⟩ ff)
    have hsm:=jG i s ⟨S,D,N,Lf,P,T⟩ ff
    rw[←hs1] at hsm
    have HF2:=qQ (show FS=if nb=true then vQ c i s1 ⟨S,D,N,Lf,P,T⟩ else evN s1 ⟨5,i,0,5,⟨S,D,N,Lf,P,T⟩⟩ from by rw[HF.out];unfold take2N;rw[hs1,hff,hnb])
    have HWAY:=qQ hway
    have HS1:=qQ hs1
    have HSM:=qQ hsm
    have HDUP:=qQ HDUP
    have HP5:=qQ hp5
    have HB5:=qQ hb5
    obtain⟨d0,d1,d2,d3,d4,d5⟩:=qC hb5
    clear hN5 hb5 hp5 hway hnb hff hs1 hsm hG4 HN4 HP4 HB4 HF hNN
    go_wp2_with fail
    with_reducible refine HDUP.out.mono ?_
    rintro en w6 ⟨rfl,hWk,G6⟩
    have hN6:NAt w0 o0 c i b s1 w6 o r:=by rw[HS1.out];exact HWAY.out.set _ _ hWk HFI.out G6
    have hp6:=HP5.out.keep G6 (λj hj e=>HWAY.out.om (by rw[←show j=mw from e];exact hj))
    have hb6:=Chg.keep G6 HB5.out (λe=>HWAY.out.om (by rw[←show a=mw from e];exact HA.out))
    have HN6:=qQ hN6
    have HP6:=qQ hp6
    have HB6:=qQ hb6
    have HEQ:=qQ (show s1.q.length≤900∧s1.ev.length≤900∧(∀n L,s1.paths n=some L→L.length≤100000) from by rw[HSM.out.1,HSM.out.2.1,HSM.out.2.2];exact⟨HQ.out.1,HQ.out.2.1,HPL.out⟩)
    clear d0 d1 d2 d3 d4 d5 hWk G6 hN6 hp6 HWAY HS1 HSM HDUP HP5 HB5 HFI
    obtain⟨d0,d1,d2,d3,d4,d5⟩:=qC hb6
    clear hb6
    cases nb with
    |false=>
     have HF3:=qQ (show FS=evN s1 ⟨5,i,0,5,⟨S,D,N,Lf,P,T⟩⟩ from by rw[HF2.out,if_neg (by decide)])
     have HDR:=zj HN6.out ⟨S,D,N,Lf,P,T⟩ _ _ 5 HP6.out (by have:=HEQ.out.2.1;omega)
     unfold pkV at HDR
     have HDR:=qQ HDR
     go_wp2_with fail
     with_reducible refine HDR.out.mono ?_
     rintro en w7 ⟨v7,o7,r7,rfl,hN7,rfl⟩
     have HN7:=qQ hN7
     clear hN7 d0 d1 d2 d3 d4 d5 HDR
     go_wp2_with fail
     go_end0
     exact⟨_,_,_,rfl,by rw[HF3.out];exact HN7.out,rfl⟩
    |true=>
    have HF3:=qQ (show FS=vQ c i s1 ⟨S,D,N,Lf,P,T⟩ from by rw[HF2.out,if_pos rfl])
    clear HF2
    have c9:w6.cell? ⟨b,9,none⟩=some (.int .i64 i):=HN6.out.cell 9
    go_upto_region 11 with fail
    have t81:(D==(i:Int))=false:=t50
    have HF4:=qQ (show FS=if true=true then js c i s1 ⟨S,D,N,Lf,P,T⟩ ⟨S,D,N,Lf,P,T⟩ else if i=0 then vk c i s1 ⟨S,D,N,Lf,P,T⟩ else vm c i s1 ⟨S,D,N,Lf,P,T⟩ from by rw[HF3.out];unfold vQ;rw[if_neg HDD.out,←HDN.out])
    clear HF3 d0 d2 d3 d4 d5
    obtain⟨I,F1,hI,hF1,hFA⟩:=clsF w6
    have e1:=qF hF1 d1
    have e9:=qF hF1 c9
    have HFF:=qQ hF1
    have HFA:=qQ (hFA _ (Chg.drew _ _))
    clear hF1 hFA d1 c9
    with_reducible refine qW F1 (by kernel_rfl) (by kernel_rfl) HFA.out ?_
    repeat ((with_reducible refine wpQuiet_step (λK hK=>?_));go_simp;(try (rw[if_neg];rotate_left;(intro h;cases h)));(with_reducible refine hK _ ?_);clear hK K)
    with_reducible refine wpQuiet_nil ?_
    intro _ hw'
    obtain⟨nq,rfl⟩:=hw'
    have HX:=qQ (HFF.out nq)
    clear e1 e9 HFF HFA hI
    generalize F1 nq=w7 at *
    have hN7:=HN6.out.kept HX.out
    have hb7:=Chg.keep HX.out HB6.out (λe=>e)
    have hp7:=HP6.out.keep HX.out (λ_ _ e=>e)
    have HN7:=qQ hN7
    have HP7:=qQ hp7
    obtain⟨d0,d1,d2,d3,d4,d5⟩:=qC hb7
    have c9:w7.cell? ⟨b,9,none⟩=some (.int .i64 i):=hN7.cell 9
    clear hN7 hb7 hp7 HN6 HB6 HP6
    have HF5:=qQ (show FS=js c i s1 ⟨S,D,N,Lf,P,T⟩ ⟨S,D,N,Lf,P,T⟩ from by rw[HF4.out,if_pos rfl])
    have HCA:=nhands_any HN7.out ⟨S,D,N,Lf,P,T⟩ ⟨S,D,N,Lf,P,T⟩ _ _ _ _ HP7.out HP7.out (by show P.length≤100000;have:=HMP.out.2.1;omega) (by show T.length≤100000;have:=HMP.out.2.2;omega) HEQ.out.1 (by have:=HEQ.out.2.1;omega)
    unfold pkV at HCA
    have HCA:=qQ HCA
    go_wp2_with fail
    with_reducible refine HCA.out.mono ?_
    rintro en w8 ⟨v8,o8,r8,rfl,hN8,rfl⟩
    have HN8:=qQ hN8
    clear hN8 d0 d1 d2 d3 d4 d5 HCA c9
    go_wp2_with fail
    go_end0
    exact⟨_,_,_,rfl,by rw[HF5.out];exact HN8.out,rfl⟩
   |false=>
    have hG4:=HX0.out
    have cW:w5.cell? ⟨b,12,none⟩=some (.pointer (some ⟨r.up,0,none⟩)):=(HN4.out.kept hG4).cell 12
    have hN5:=HN4.out.kept hG4
    have hb5:=Chg.keep hG4 HB4.out (λe=>e)
    have hp5:=HP4.out.keep hG4 (λ_ _ e=>e)
    obtain⟨mw,hway⟩:=hN5.way ⟨S,D,N,Lf,P,T⟩
    have hway:WayR w0 o0 c i b s ⟨S,D,N,Lf,P,T⟩ w5 o r r.up mw:=by have h:=hway;rw[if_neg HDD.out,←HDN.out,if_neg (by decide)] at h;exact h
    have hNN:N≤9223372036854775807:=by have:=(zm HMP.out.1).2.2.2.1.2;show N≤_;have e:(⟨S,D,N,Lf,P,T⟩:Pk).n=N:=rfl;rw[e] at this;omega
    have HDUP:=dupput_any w5 (r.up) mw (wayS i s ⟨S,D,N,Lf,P,T⟩) S N hway.wk hway.fine hNN
    obtain⟨nb,hnb⟩:=qZ (isnew (wayS i s ⟨S,D,N,Lf,P,T⟩) S N)
    obtain⟨ff,hff⟩:=qZ (nextf (wayS i s ⟨S,D,N,Lf,P,T⟩) S N)
    rw[←hnb,←hff] at HDUP
    have HFI:=qQ (show Fine ff from by rw[hff];exact hway.fine.next S N hNN)
    obtain⟨s1,hs1⟩:=qZ (jH i s ⟨S,D,N,Lf,P,T⟩ ff)
    have hsm:=jG i s ⟨S,D,N,Lf,P,T⟩ ff
    rw[←hs1] at hsm
    have HF2:=qQ (show FS=if nb=true then vQ c i s1 ⟨S,D,N,Lf,P,T⟩ else evN s1 ⟨5,i,0,5,⟨S,D,N,Lf,P,T⟩⟩ from by rw[HF.out];unfold take2N;rw[hs1,hff,hnb])
    have HWAY:=qQ hway
    have HS1:=qQ hs1
    have HSM:=qQ hsm
    have HDUP:=qQ HDUP
    have HP5:=qQ hp5
    have HB5:=qQ hb5
    obtain⟨d0,d1,d2,d3,d4,d5⟩:=qC hb5
    clear hN5 hb5 hp5 hway hnb hff hs1 hsm hG4 HN4 HP4 HB4 HF hNN
    go_wp2_with fail
    with_reducible refine HDUP.out.mono ?_
    rintro en w6 ⟨rfl,hWk,G6⟩
    have hN6:NAt w0 o0 c i b s1 w6 o r:=by rw[HS1.out];exact HWAY.out.set _ _ hWk HFI.out G6
    have hp6:=HP5.out.keep G6 (λj hj e=>HWAY.out.om (by rw[←show j=mw from e];exact hj))
    have hb6:=Chg.keep G6 HB5.out (λe=>HWAY.out.om (by rw[←show a=mw from e];exact HA.out))
    have HN6:=qQ hN6
    have HP6:=qQ hp6
    have HB6:=qQ hb6
    have HEQ:=qQ (show s1.q.length≤900∧s1.ev.length≤900∧(∀n L,s1.paths n=some L→L.length≤100000) from by rw[HSM.out.1,HSM.out.2.1,HSM.out.2.2];exact⟨HQ.out.1,HQ.out.2.1,HPL.out⟩)
    clear d0 d1 d2 d3 d4 d5 hWk G6 hN6 hp6 HWAY HS1 HSM HDUP HP5 HB5 HFI
    obtain⟨d0,d1,d2,d3,d4,d5⟩:=qC hb6
    clear hb6
    cases nb with
    |false=>
     have HF3:=qQ (show FS=evN s1 ⟨5,i,0,5,⟨S,D,N,Lf,P,T⟩⟩ from by rw[HF2.out,if_neg (by decide)])
     have HDR:=zj HN6.out ⟨S,D,N,Lf,P,T⟩ _ _ 5 HP6.out (by have:=HEQ.out.2.1;omega)
     unfold pkV at HDR
     have HDR:=qQ HDR
     go_wp2_with fail
     with_reducible refine HDR.out.mono ?_
     rintro en w7 ⟨v7,o7,r7,rfl,hN7,rfl⟩
     have HN7:=qQ hN7
     clear hN7 d0 d1 d2 d3 d4 d5 HDR
     go_wp2_with fail
     go_end0
     exact⟨_,_,_,rfl,by rw[HF3.out];exact HN7.out,rfl⟩
    |true=>
    have HF3:=qQ (show FS=vQ c i s1 ⟨S,D,N,Lf,P,T⟩ from by rw[HF2.out,if_pos rfl])
    clear HF2
    have c9:w6.cell? ⟨b,9,none⟩=some (.int .i64 i):=HN6.out.cell 9
    go_upto_region 11 with fail
    have t81:(D==(i:Int))=false:=t50
    have HF4:=qQ (show FS=if false=true then js c i s1 ⟨S,D,N,Lf,P,T⟩ ⟨S,D,N,Lf,P,T⟩ else if i=0 then vk c i s1 ⟨S,D,N,Lf,P,T⟩ else vm c i s1 ⟨S,D,N,Lf,P,T⟩ from by rw[HF3.out];unfold vQ;rw[if_neg HDD.out,←HDN.out])
    clear HF3 d0 d2 d3 d4 d5
    obtain⟨I,F1,hI,hF1,hFA⟩:=clsF w6
    have e1:=qF hF1 d1
    have e9:=qF hF1 c9
    have HFF:=qQ hF1
    have HFA:=qQ (hFA _ (Chg.drew _ _))
    clear hF1 hFA d1 c9
    with_reducible refine qW F1 (by kernel_rfl) (by kernel_rfl) HFA.out ?_
    repeat ((with_reducible refine wpQuiet_step (λK hK=>?_));go_simp;(try (rw[if_neg];rotate_left;(intro h;cases h)));(with_reducible refine hK _ ?_);clear hK K)
    with_reducible refine wpQuiet_nil ?_
    intro _ hw'
    obtain⟨nq,rfl⟩:=hw'
    have HX:=qQ (HFF.out nq)
    clear e1 e9 HFF HFA hI
    generalize F1 nq=w7 at *
    have hN7:=HN6.out.kept HX.out
    have hb7:=Chg.keep HX.out HB6.out (λe=>e)
    have hp7:=HP6.out.keep HX.out (λ_ _ e=>e)
    have HN7:=qQ hN7
    have HP7:=qQ hp7
    obtain⟨d0,d1,d2,d3,d4,d5⟩:=qC hb7
    have c9:w7.cell? ⟨b,9,none⟩=some (.int .i64 i):=hN7.cell 9
    clear hN7 hb7 hp7 HN6 HB6 HP6
    by_cases hi0:i=0
    ·have t111:((i:Int)==0)=true:=by simp[hi0]
     have HF5:=qQ (show FS=vk c i s1 ⟨S,D,N,Lf,P,T⟩ from by rw[HF4.out,if_neg (by decide),if_pos hi0])
     have HCA:=nturns_any HN7.out ⟨S,D,N,Lf,P,T⟩ _ _ HP7.out HEQ.out.2.2 (by show P.length≤100000;have:=HMP.out.2.1;omega) (by show T.length≤100000;have:=HMP.out.2.2;omega) HEQ.out.1 (by have:=HEQ.out.2.1;omega)
     unfold pkV at HCA
     have HCA:=qQ HCA
     clear hi0
     go_wp2_with fail
     with_reducible refine HCA.out.mono ?_
     rintro en w8 ⟨v8,o8,r8,rfl,hN8,rfl⟩
     have HN8:=qQ hN8
     clear hN8 d0 d1 d2 d3 d4 d5 HCA c9
     go_wp2_with fail
     go_end0
     exact⟨_,_,_,rfl,by rw[HF5.out];exact HN8.out,rfl⟩
    ·have t111:((i:Int)==0)=false:=by simp;omega
     have HF5:=qQ (show FS=vm c i s1 ⟨S,D,N,Lf,P,T⟩ from by rw[HF4.out,if_neg (by decide),if_neg hi0])
     have HCA:=nrises_any HN7.out ⟨S,D,N,Lf,P,T⟩ _ _ HP7.out (by show P.length≤100000;have:=HMP.out.2.1;omega) (by show T.length≤100000;have:=HMP.out.2.2;omega) HEQ.out.1 (by have:=HEQ.out.2.1;omega)
     unfold pkV at HCA
     have HCA:=qQ HCA
     clear hi0
     go_wp2_with fail
     with_reducible refine HCA.out.mono ?_
     rintro en w8 ⟨v8,o8,r8,rfl,hN8,rfl⟩
     have HN8:=qQ hN8
     clear hN8 d0 d1 d2 d3 d4 d5 HCA c9
     go_wp2_with fail
     go_end0
     exact⟨_,_,_,rfl,by rw[HF5.out];exact HN8.out,rfl⟩
end
end Go.Proofs.YtnpihllannobgaaGreatDoor
