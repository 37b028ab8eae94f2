/- Steps of the proof, part H18. No condition. -/
import Derived.Test.YtnpihllannobgaaGreatDoorH16
namespace Go.Proofs.YtnpihllannobgaaGreatDoor
set_option linter.unusedVariables false
set_option linter.unusedSimpArgs false
set_option maxRecDepth 100000
set_option maxHeartbeats 32000000
open Go.ChangeShapes Go.WideShapes Go.ChangeAt Go.RowKit
section
variable {w0 w w':World}{o0 o o':Cls}{c:Cfg}{i b:Nat}{s s':NSt}{r r':NR}
theorem nback_none(h:NAt w0 o0 c i b s w o r)(f:Fr)(iA:Option Addr)(il ic:Nat)(dA:Option Addr)(dl dc:Nat)(now ms:Int)(hno:f.dst≠i∨(f.kind≠1∧f.kind≠4)):
  Calls Tryz.prog 108 #[.pointer (some ⟨b,0,none⟩),frV f (.slice iA il ic) (.slice dA dl dc),.int .i64 now,.int .i64 ms] w (PV (.slice none 0 0) w):=by
 unfold frV
 have hba:=qV w (.cells #[.int .i64 f.kind,.int .i64 f.src,.int .i64 f.dst,.int .i64 f.seq,.slice iA il ic,.slice dA dl dc] 71)
 have ga:=Chg.alloc (λ_=>False) w (.cells #[.int .i64 f.kind,.int .i64 f.src,.int .i64 f.dst,.int .i64 f.seq,.slice iA il ic,.slice dA dl dc] 71)
 have HB:=qQ hba
 have H:=qQ (h.kept ga)
 have HG:=qQ ga
 clear h hba ga
 go_enter Tryz.func108,Tryz.ntmps108
 go_wp2_with fail
 generalize hW:w.alloc (.cells #[.int .i64 f.kind,.int .i64 f.src,.int .i64 f.dst,.int .i64 f.seq,.slice iA il ic,.slice dA dl dc] 71)=w1 at *
 obtain⟨d0,d1,d2,d3,d4,d5⟩:=qC HB.out
 have c1:w1.cell? ⟨b,9,none⟩=some (.int .i64 i):=H.out.cell 9
 obtain⟨I,F1,hI,hF1,hFA⟩:=clsF w1
 have e0:=qF hF1 d0
 have e2:=qF hF1 d2
 have e3:=qF hF1 c1
 have HFF:=qQ hF1
 have HFA:=qQ (hFA _ (Chg.drew _ _))
 clear hF1 hFA d0 d1 d2 d3 d4 d5 c1
 by_cases hd:f.dst=i
 ·rcases hno with hno|⟨h1,h4⟩
  ·exact absurd hd hno
  have t1:(f.dst != (i:Int))=false:=by simp[hd]
  have t2:(f.kind != 1)=true:=by simp[h1]
  have t3:(f.kind != 4)=true:=by simp[h4]
  with_reducible refine qW F1 (by kernel_rfl) (by kernel_rfl) HFA.out ?_
  repeat ((with_reducible refine wpQuiet_step (λK hK=>?_));go_simp;(try (rw[if_neg];rotate_left;(intro h;cases h)));(with_reducible refine hK _ ?_);clear hK K)
  with_reducible refine wpQuiet_nil ?_
  intro _ hw'
  obtain⟨nq,rfl⟩:=hw'
  have H2:=qQ (HG.out.trans (HFF.out nq))
  clear e0 e2 e3 HFF HFA hI H
  generalize F1 nq=w2 at *
  go_wp2_with fail
  go_ret
  exact⟨rfl,H2.out⟩
 ·have t1:(f.dst != (i:Int))=true:=by simp[hd]
  with_reducible refine qW F1 (by kernel_rfl) (by kernel_rfl) HFA.out ?_
  repeat ((with_reducible refine wpQuiet_step (λK hK=>?_));go_simp;(try (rw[if_neg];rotate_left;(intro h;cases h)));(with_reducible refine hK _ ?_);clear hK K)
  with_reducible refine wpQuiet_nil ?_
  intro _ hw'
  obtain⟨nq,rfl⟩:=hw'
  have H2:=qQ (HG.out.trans (HFF.out nq))
  clear e0 e2 e3 HFF HFA hI H
  generalize F1 nq=w2 at *
  go_wp2_with fail
  go_ret
  exact⟨rfl,H2.out⟩
end
theorem vK(L:List Int):((decF L).1=0∧mayF (decF L).2=true)∨((decF L).1≠0∧(decF L).2=fr0):=by
 unfold decF
 by_cases h1:L.length<9
 ·right;simp[h1]
 ·rw[if_neg h1]
  by_cases h2:(!jV L)=true
  ·right;simp[h2]
  ·rw[if_neg h2]
   generalize readF ⟨L.take (L.length-2),0⟩=x
   obtain⟨first,f,els,s⟩:=x
   simp only[]
   by_cases h3:first≠197∨rEnd s≠0
   ·right;rw[if_pos h3];simp
   ·rw[if_neg h3]
    generalize decI els=y
    obtain⟨e,ies⟩:=y
    simp only[]
    by_cases h4:e≠0
    ·right;rw[if_pos h4];exact⟨h4,rfl⟩
    ·rw[if_neg h4]
     by_cases h5:mayF {f with ies:=ies}=true
     ·left;rw[if_pos h5];exact⟨rfl,h5⟩
     ·right;rw[if_neg h5];simp
theorem mayF_ies{f:Fr}(h:mayF f=true):f.ies.length≤100000∧∀e∈f.ies,e.list.length≤100000:=by
 obtain⟨h1,h2,_⟩:=vN h
 refine⟨by omega,λe he=>?_⟩
 have h3:=h2 e he
 unfold mayE at h3
 simp only[Bool.and_eq_true,decide_eq_true_eq] at h3
 obtain⟨h4,h5,h6⟩:=h3
 unfold zW at h5
 unfold plainE at h6
 by_cases k1:e.kind=1
 ·rw[if_pos k1] at h6;rw[h6];simp
 ·rw[if_neg k1] at h5 h6
  by_cases k2:e.kind=2
  ·rw[if_pos k2] at h6;rw[h6];simp
  ·rw[if_neg k2] at h5
   simp only[Bool.and_eq_true,decide_eq_true_eq] at h5
   omega
theorem rankF_bd{f:Fr}(h:mayF f=true)(now:Int):0≤(zZ f now).1∧(zZ f now).1≤255:=by
 obtain⟨h1,h2,_⟩:=vN h
 unfold zZ
 cases hf:zM f.ies 1 with
 |none=>simp
 |some e=>
  have h3:=h2 e (List.mem_of_find?_eq_some hf)
  have hk:=List.find?_some hf
  simp only[beq_iff_eq] at hk
  unfold mayE at h3
  simp only[Bool.and_eq_true,decide_eq_true_eq] at h3
  obtain⟨h4,h5,h6⟩:=h3
  unfold zW at h5
  rw[if_pos hk] at h5
  simp only[Bool.and_eq_true,inR,decide_eq_true_eq] at h5
  exact h5.2
def goodF(i:Nat)(c:Cfg)(x:Int×Fr):Bool:=x.1==0&&(inR x.2.src 0 ((c.nodes:Int)-1)&& !(x.2.src==(i:Int)))
def hear2N(i:Nat)(s:NSt)(f:Fr)(rk now ms:Int)(B:NSt→NSt):NSt:=
 if i=0 then B (evN s ⟨1,i,f.src,0,pk0⟩) else
 if qR (qx i (evN s ⟨1,i,f.src,0,pk0⟩) f.src rk now ms)=64 then qx i (evN s ⟨1,i,f.src,0,pk0⟩) f.src rk now ms else B (qx i (evN s ⟨1,i,f.src,0,pk0⟩) f.src rk now ms)
def zq(i:Nat)(c:Cfg)(s:NSt)(x:Int×Fr)(now ms:Int)(B:NSt→NSt):NSt:=
 if goodF i c x&&(zZ x.2 now).2 then (if s.synced then hear2N i s x.2 (zZ x.2 now).1 now ms B else adoptN i c s x.2 (zZ x.2 now).1 now ms) else s
def AV(a:Option (List Int))(v:Value)(w:World)(o:Cls):Prop:=match a with|none=>v= .slice none 0 0|some l=>BO w o v l
def ansN(i:Nat)(c:Cfg)(s:NSt)(x:Int×Fr)(now ms:Int)(A:NSt→Option (List Int)):Option (List Int):=
 if goodF i c x&&(zZ x.2 now).2&&s.synced then
  (if i=0 then A (evN s ⟨1,i,x.2.src,0,pk0⟩) else
   if qR (qx i (evN s ⟨1,i,x.2.src,0,pk0⟩) x.2.src (zZ x.2 now).1 now ms)=64 then none else A (qx i (evN s ⟨1,i,x.2.src,0,pk0⟩) x.2.src (zZ x.2 now).1 now ms))
 else none
def PHearN(w0:World)(o0:Cls)(c:Cfg)(i b:Nat)(s:NSt)(a:Option (List Int)):Ending→World→Prop:=
 PN w0 o0 c i b (noEv s) (λv w' o'=>∃bv ev,v= .tuple #[bv,ev]∧AV a bv w' o'∧Eo w' o' (cl i 9) ev s.ev)
theorem Eo.nil(w:World)(own:Cls)(c:Nat):Eo w own c (.slice none 0 0) []:=⟨[],World.ownsRow_nil _ _ _ _,λk hk=>by (cases hk),λp hp=>by (cases hp),rfl⟩
section
variable {w0 w w':World}{o0 o o':Cls}{c:Cfg}{i b:Nat}{s s':NSt}{r r':NR}
theorem NAt.avoid(h:NAt w0 o0 c i b s w o r)(z:Z w0 o0):∀j,o j=0→¬NdS o0 i j:=λj hj hn=>by
 obtain⟨k,_,hn⟩:=hn
 rcases Nat.lt_or_ge j w0.heap.size with hlt|hge
 ·rw[h.ext j hlt] at hj;rw[hj] at hn;exact qP i k hn.symm
 ·rw[z j hge] at hn;exact qP i k hn.symm
theorem NAt.io(h:NAt w0 o0 c i b s w o r)(z:Z w0 o0){v:Value}{l:List El}(k:IeO w0 o0 v l):IeO w o v l:=(k.ext h.ext).keep h.chg (h.avoid z)
theorem NAt.bo(h:NAt w0 o0 c i b s w o r)(z:Z w0 o0){v:Value}{l:List Int}(k:BO w0 o0 v l):BO w o v l:=(k.ext h.ext).keep h.chg (h.avoid z)
theorem AV.told{a:Option (List Int)}{v:Value}(h:NAt w0 o0 c i b s w o r)(z:Z w0 o0)(k:AV a v w0 o0):AV a v w o:=by
 cases a with
 |none=>exact k
 |some l=>exact h.bo z k
theorem hearsN_ev(i:Nat)(s:NSt)(src rank now ticks:Int):(qx i s src rank now ticks).ev.length≤s.ev.length+2:=by
 unfold qx
 have h:=hears1_ev i (jd s src rank now) src ticks
 have h0:(jd s src rank now).ev=s.ev:=rfl
 rw[h0] at h
 unfold zQ
 split
 ·omega
 ·show ((zY i (jd s src rank now) src ticks).ev++[_]).length≤_
  simp;omega
theorem jR(h:s.ev=[]):noEv s=s:=by cases s;simp only at h;subst h;rfl
end
section
variable {w0 w w':World}{o0 o o':Cls}{c:Cfg}{i b:Nat}{s s':NSt}{r r':NR}
theorem nsynced_any(h:NAt w0 o0 c i b s w o r):Calls Tryz.prog 10 #[.pointer (some ⟨b,0,none⟩)] w (PV0 (.bool s.synced) w):=by
 have c2:w.cell? ⟨b,18,none⟩=some (.bool s.synced):=h.cell 18
 clear h
 go_enter Tryz.func10,Tryz.ntmps10
 go_wp2_with fail
 go_ret
 exact⟨rfl,rfl⟩
def offN(s:NSt):Int:=s.base+downf s.sum
theorem noff_any(h:NAt w0 o0 c i b s w o r)(hx: -1000000000000000≤s.base∧s.base≤1000000000000000)(hy: -1000000000000000≤s.sum∧s.sum≤1000000000000000):
  Calls Tryz.prog 33 #[.pointer (some ⟨b,0,none⟩)] w (PV (.int .i64 (offN s)) w):=by
 have c1:w.cell? ⟨b,10,none⟩=some (.pointer (some ⟨r.clk,0,none⟩)):=h.cell 10
 have HM:=qQ (ckoff_quiet w r.clk s.base s.sum s.slots h.nd.np.2.2.1.1 hx hy)
 obtain⟨q,hq⟩:=qZ r.clk
 rw[←hq] at c1 HM
 unfold offN
 obtain⟨t,ht⟩:=qZ (s.base+downf s.sum)
 rw[←ht] at HM ⊢
 clear h hq ht
 go_enter Tryz.func33,Tryz.ntmps33
 go_wp2_with fail
 with_reducible refine HM.out.mono ?_
 rintro en w1 ⟨rfl,m,hm⟩
 have HG:=qQ (show Chg (λ_=>False) w w1 from hm▸Chg.drewN _ _ _)
 clear hm HM
 go_wp2_with fail
 go_ret
 exact⟨rfl,HG.out⟩
end
section
variable {w0 w w':World}{o0 o o':Cls}{c:Cfg}{i b:Nat}{s s':NSt}{r r':NR}
theorem nack_closed(h:NAt w0 o0 c i b s w o r)(now m:Int)(v:Value)(hs:s.synced=false∨s.sopen=false∨s.sasn≠now):
  Calls Tryz.prog 36 #[.pointer (some ⟨b,0,none⟩),.int .i64 now,v,.int .i64 m] w (PV0 (.slice none 0 0) w):=by
 have c18:w.cell? ⟨b,18,none⟩=some (.bool s.synced):=h.cell 18
 have c30:w.cell? ⟨b,30,none⟩=some (.bool s.sopen):=h.cell 30
 have c23:w.cell? ⟨b,23,none⟩=some (.int .i64 s.sasn):=h.cell 23
 clear h
 cases hsy:s.synced with
 |false=>
  rw[hsy] at c18
  clear hs
  go_enter Tryz.func36,Tryz.ntmps36
  go_wp2_with fail
  go_ret
  exact⟨rfl,rfl⟩
 |true=>
  rw[hsy] at c18
  cases hop:s.sopen with
  |false=>
   rw[hop] at c30
   clear hs
   go_enter Tryz.func36,Tryz.ntmps36
   go_wp2_with fail
   go_ret
   exact⟨rfl,rfl⟩
  |true=>
   rw[hop] at c30
   have hne:s.sasn≠now:=by
    rcases hs with h|h|h
    ·rw[hsy] at h;cases h
    ·rw[hop] at h;cases h
    ·exact h
   have t1:(s.sasn != now)=true:=by simpa using hne
   clear hs hne
   go_enter Tryz.func36,Tryz.ntmps36
   go_wp2_with fail
   go_ret
   exact⟨rfl,rfl⟩
def opnN(s:NSt)(x:Bool):NSt:={s with sopen:=x}
end
end Go.Proofs.YtnpihllannobgaaGreatDoor
