/- Steps of the proof, part H24. No condition. -/
import Derived.Test.YtnpihllannobgaaGreatDoorH19
import Derived.Test.YtnpihllannobgaaGreatDoorH20
import Derived.Deep.RegionHeld3
namespace Go.Proofs.YtnpihllannobgaaGreatDoor
set_option linter.unusedVariables false
set_option linter.unusedSimpArgs false
set_option maxRecDepth 100000
set_option maxHeartbeats 32000000
open Go.ChangeShapes Go.WideShapes Go.ChangeAt Go.RowKit
section
variable {w0 w w':World}{o0 o o':Cls}{c:Cfg}{i b:Nat}{s s':NSt}{r r':NR}
def j7(i:Nat)(s:NSt)(f:Fr)(tt rk now:Int):NSt:=if i≠0∧qR s=tt then qx i s tt rk now (ticksF f) else s
theorem ndone_any(h:NAt w0 o0 c i b s w o r)(f:Fr)(iA:Option Addr)(il ic:Nat)(dA:Option Addr)(dl dc:Nat)(tt rk now:Int)(hI:IeO w o (.slice iA il ic) f.ies)(hE:f.ies.length≤100000)(hll:∀e∈f.ies,e.list.length≤100000)
  (hsk:s.skind≠1) (hn:s.ev.length≤900) (hb: -1000000000000000≤s.base∧s.base≤1000000000000000) (hk:s.p≠none→s.k≠none) (hs:0≤tt∧tt≤15) (hm:tt≠i) (hr:0≤rk∧rk≤255) (ht:0≤now):
  Calls Tryz.prog 67 #[.pointer (some ⟨b,0,none⟩),frV f (.slice iA il ic) (.slice dA dl dc),.int .i64 tt,.int .i64 rk,.int .i64 now] w (PN w0 o0 c i b (j7 i s f tt rk now) (λv _ _=>v= .tuple #[])):=by
 obtain⟨F,hF⟩:=qZ (j7 i s f tt rk now)
 rw[←hF]
 have HF:=qQ hF
 unfold frV
 have hba:=qV w (.cells #[.int .i64 f.kind,.int .i64 f.src,.int .i64 f.dst,.int .i64 f.seq,.slice iA il ic,.slice dA dl dc] 71)
 have ga:=Chg.alloc (λ_=>False) w (.cells #[.int .i64 f.kind,.int .i64 f.src,.int .i64 f.dst,.int .i64 f.seq,.slice iA il ic,.slice dA dl dc] 71)
 have HB:=qQ hba
 have H:=qQ (h.kept ga)
 have HI:=qQ (hI.keep ga (λ_ _ e=>e))
 have t1:(s.skind==1)=false:=by simpa using hsk
 have HFD:=qQ (λW (g:Chg (λ_=>False) (w.alloc (.cells #[.int .i64 f.kind,.int .i64 f.src,.int .i64 f.dst,.int .i64 f.seq,.slice iA il ic,.slice dA dl dc] 71)) W)=>qr W o (.slice iA il ic) f.ies 2 (HI.out.keep g (λ_ _ e=>e)) hE hll)
 clear h hba ga hF hI hE hll
 obtain⟨d0,d1,d2,d3,d4,d5⟩:=qC HB.out
 have c24:(w.alloc (.cells #[.int .i64 f.kind,.int .i64 f.src,.int .i64 f.dst,.int .i64 f.seq,.slice iA il ic,.slice dA dl dc] 71)).cell? ⟨b,24,none⟩=some (.int .i64 s.skind):=H.out.cell 24
 have c9:(w.alloc (.cells #[.int .i64 f.kind,.int .i64 f.src,.int .i64 f.dst,.int .i64 f.seq,.slice iA il ic,.slice dA dl dc] 71)).cell? ⟨b,9,none⟩=some (.int .i64 i):=H.out.cell 9
 have HN:=qQ (qt H.out)
 by_cases hi:i=0
 ·have i0:((i:Int) != 0)=false:=by simp[hi]
  have hF:=HF.out
  unfold j7 at hF
  rw[if_neg (by simp[hi])] at hF
  have HFF:=qQ hF
  clear hF hi
  go_enter Tryz.func67,Tryz.ntmps67
  go_wp2_with fail
  go_end0
  rw[HFF.out]
  exact⟨_,o,r,rfl,H.out,rfl⟩
 ·have i0:((i:Int) != 0)=true:=by simp[hi]
  obtain⟨t,ht2⟩:=qZ (qR s)
  rw[←ht2] at HN
  have HT:=qQ ht2
  clear ht2
  have HI0:=qQ hi
  clear hi
  go_enter Tryz.func67,Tryz.ntmps67
  go_wp2_with fail
  generalize hW:w.alloc (.cells #[.int .i64 f.kind,.int .i64 f.src,.int .i64 f.dst,.int .i64 f.seq,.slice iA il ic,.slice dA dl dc] 71)=w1 at *
  obtain⟨fb,hfb⟩:∃x,x=w.heap.size:=⟨_,rfl⟩
  rw[←hfb] at d0 d1 d2 d3 d4 d5 HB ⊢
  clear hfb hW
  with_reducible refine HN.out.mono ?_
  rintro en w2 ⟨rfl,g2⟩
  have HG2:=qQ g2
  have H2:=qQ (H.out.kept g2)
  have HB2:=qQ (Chg.keep g2 HB.out (λe=>e))
  clear d0 d1 d2 d3 d4 d5 c24 c9 HN g2 HB H
  obtain⟨d0,d1,d2,d3,d4,d5⟩:=qC HB2.out
  by_cases hto:t=tt
  ·have t2:(t==tt)=true:=by simp[hto]
   have hF:=HF.out
   unfold j7 at hF
   rw[if_pos ⟨HI0.out,by rw[←HT.out,hto]⟩] at hF
   have HFF:=qQ hF
   have HP:=qQ (show s.p≠none from λe=>by
    have h1:=HT.out
    unfold qR at h1
    rw[e] at h1
    have h2:t=64:=h1
    omega)
   have HFD2:=qQ (HFD.out w2 HG2.out)
   obtain⟨X,hX⟩:=qZ ((zM f.ies 2).getD el0)
   have htk:ticksF f=X.ticks:=by
    rw[hX];unfold ticksF
    cases zM f.ies 2 <;> rfl
   obtain⟨Y,hY⟩:=qZ ((zM f.ies 2).isSome)
   unfold PFind at HFD2
   rw[←hX,←hY] at HFD2
   rw[htk] at HFF
   clear hto hF hX hY htk HFD
   go_wp2_with fail
   with_reducible refine HFD2.out.mono ?_
   rintro en w3 ⟨lv,rfl,hO,hG⟩
   have H3:=qQ (H2.out.kept hG)
   obtain⟨lA,ln,lc,rfl⟩:∃A n c,lv= .slice A n c:=by
    rcases qD hO with ⟨e,_⟩|⟨g,cap,e,_⟩
    ·exact⟨_,_,_,e⟩
    ·exact⟨_,_,_,e⟩
   clear hO hG d0 d1 d2 d3 d4 d5 HB2 H2 HG2 HFD2
   unfold elV
   go_wp2_with fail
   have hgb:=Chg.alloc (λ_=>False) w3 (.cells #[.int .i64 X.kind,.int .i64 X.asn,.int .i64 X.rank,.int .i64 X.ticks,.slice lA ln lc] 172)
   have HHE:=qQ (nhears_any (H3.out.kept hgb) tt rk now X.ticks hn hb (hk HP.out) HP.out hs hm hr ht)
   obtain⟨e0,e1,e2,e3,e4⟩:=zB (qV w3 (.cells #[.int .i64 X.kind,.int .i64 X.asn,.int .i64 X.rank,.int .i64 X.ticks,.slice lA ln lc] 172))
   generalize w3.alloc (.cells #[.int .i64 X.kind,.int .i64 X.asn,.int .i64 X.rank,.int .i64 X.ticks,.slice lA ln lc] 172)=w4 at *
   clear hgb
   go_wp2_with fail
   with_reducible refine HHE.out.mono ?_
   rintro en w5 ⟨v5,o5,r5,rfl,h5,rfl⟩
   have H5:=qQ h5
   clear h5 HHE e0 e1 e2 e3 e4
   go_wp2_with fail
   go_end0
   rw[HFF.out]
   exact⟨_,o5,r5,rfl,H5.out,rfl⟩
  ·have t2:(t==tt)=false:=by simpa using hto
   have hF:=HF.out
   unfold j7 at hF
   rw[if_neg (by rw[←HT.out];exact λh=>hto h.2)] at hF
   have HFF:=qQ hF
   clear hF hto
   go_wp2_with fail
   go_end0
   rw[HFF.out]
   exact⟨_,o,r,rfl,H2.out,rfl⟩
end
theorem getc2(x0 x1 x2 x3 x4 y0 y1 y2 y3 y4:Value)(t:TypeId)(w:World)(g:Nat)(h:w.heap[g]? =some (.cells #[x0,x1,x2,x3,x4,y0,y1,y2,y3,y4] t (0,0))):
  w.ownsRow g t 5 (.slice (some ⟨g,0,none⟩) 2 2) 2 [x0,x1,x2,x3,x4,y0,y1,y2,y3,y4]:=
 ⟨rfl,.inr ⟨g,2,_,rfl,Nat.le_refl _,h,Nat.le_refl _,by decide,rfl,rfl⟩⟩
theorem IeO.twoT{w:World}{o:Cls}{g cap base:Nat}{e f:El}{lv mv:Value}
  (h:w.ownsRow base 172 5 (.slice (some ⟨g,0,none⟩) 2 cap) 2 [.int .i64 e.kind,.int .i64 e.asn,.int .i64 e.rank,.int .i64 e.ticks,lv,.int .i64 f.kind,.int .i64 f.asn,.int .i64 f.rank,.int .i64 f.ticks,mv])
  (ho:o g=0) (hl:RV VI w o lv e.list) (hm:RV VI w o mv f.list):IeO w o (.slice (some ⟨g,0,none⟩) 2 cap) [e,f]:=by
 rcases qD h with ⟨e1,_⟩|⟨g2,c2,e1,hb,hg,hc,hmx⟩
 ·cases e1
 ·cases e1
  refine .inr ⟨g,cap,rfl,ho,hc,hmx,hg,λi hi=>?_⟩
  have:i=0∨i=1:=by simp at hi;omega
  rcases this with rfl|rfl
  ·exact⟨lv,⟨qM h 0 _ rfl,qM h 1 _ rfl,qM h 2 _ rfl,qM h 3 _ rfl,qM h 4 _ rfl⟩,hl⟩
  ·exact⟨mv,⟨qM h 5 _ rfl,qM h 6 _ rfl,qM h 7 _ rfl,qM h 8 _ rfl,qM h 9 _ rfl⟩,hm⟩
section
variable {w0 w w':World}{o0 o o':Cls}{c:Cfg}{i b:Nat}{s s':NSt}{r r':NR}
def PEn(a:Option (List Int))(o:Cls)(w:World)(en:Ending)(w':World):Prop:=∃(y:Value) (e:Int),en= .returned (.tuple #[y,.int .i64 e])∧AV a y w' o∧Chg (λ_=>False) w w'
def PAV(a:Option (List Int))(w:World)(o:Cls)(en:Ending)(w':World):Prop:=∃v,en= .returned v∧AV a v w' o∧Chg (λ_=>False) w w'
theorem nback_keep(h:NAt w0 o0 c i b s w o r)(f:Fr)(iA:Option Addr)(il ic:Nat)(dA:Option Addr)(dl dc:Nat)(now ms:Int)(hd:f.dst=i)(hk:f.kind=4)(hp:s.synced=true→i≠0→s.p≠none)(hms: -30000≤ms∧ms≤30000):
  Calls Tryz.prog 108 #[.pointer (some ⟨b,0,none⟩),frV f (.slice iA il ic) (.slice dA dl dc),.int .i64 now,.int .i64 ms] w (PAV (kQ i f now ms s) w o):=by
 obtain⟨a,ha⟩:=qZ (kQ i f now ms s)
 have ha2:a=(if mayF (ackFr i s f now ms) then some (encF (ackFr i s f now ms)) else none):=by rw[ha];unfold kQ;rw[if_pos ⟨hd,.inr hk⟩]
 rw[←ha]
 obtain⟨E,hE⟩:=qZ (syncE i s now)
 have hfr:ackFr i s f now ms=⟨2,i,f.src,f.seq,[E,⟨2,0,0,-ms,[]⟩],[]⟩:=by rw[hE];rfl
 rw[hfr] at ha2
 have hEl:E.list=[]:=by rw[hE];rfl
 have HA:=qQ ha2
 unfold frV
 have hba:=qV w (.cells #[.int .i64 f.kind,.int .i64 f.src,.int .i64 f.dst,.int .i64 f.seq,.slice iA il ic,.slice dA dl dc] 71)
 have ga:=Chg.alloc (λ_=>False) w (.cells #[.int .i64 f.kind,.int .i64 f.src,.int .i64 f.dst,.int .i64 f.seq,.slice iA il ic,.slice dA dl dc] 71)
 have HB:=qQ hba
 have H:=qQ (h.kept ga)
 have HG:=qQ ga
 have e1:IntKind.i64.wrap (-ms)= -ms:=IntWalk.i64_in _ (by omega)
 have HS:=qQ (λW (g:Chg (λ_=>False) w W)=>nsync_any (h.kept g) now hp)
 rw[←hE] at HS
 unfold elV at HS
 have HENC:=qQ (show∀W,Chg (λ_=>False) w W→Calls Tryz.prog 60 #[frV ⟨2,i,f.src,f.seq,[E,⟨2,0,0,-ms,[]⟩],[]⟩ (.slice (some ⟨W.heap.size,0,none⟩) 2 2) (.slice none 0 0)]
   (W.alloc (.cells #[.int .i64 E.kind,.int .i64 E.asn,.int .i64 E.rank,.int .i64 E.ticks,.slice none 0 0,.int .i64 2,.int .i64 0,.int .i64 0,.int .i64 (-ms),.slice none 0 0] 172)) (PEncF (W.alloc (.cells #[.int .i64 E.kind,.int .i64 E.asn,.int .i64 E.rank,.int .i64 E.ticks,.slice none 0 0,.int .i64 2,.int .i64 0,.int .i64 0,.int .i64 (-ms),.slice none 0 0] 172)) ⟨2,i,f.src,f.seq,[E,⟨2,0,0,-ms,[]⟩],[]⟩) from
  λW g=>by
   have gz:=h.z.more (Nat.le_trans g.size (Chg.alloc (λ_=>False) W (.cells #[.int .i64 E.kind,.int .i64 E.asn,.int .i64 E.rank,.int .i64 E.ticks,.slice none 0 0,.int .i64 2,.int .i64 0,.int .i64 0,.int .i64 (-ms),.slice none 0 0] 172)).size)
   refine fencode_any _ o gz _ _ _ (IeO.twoT (e:=E) (f:=⟨2,0,0,-ms,[]⟩) (getc2 _ _ _ _ _ _ _ _ _ _ 172 _ _ (qV W _)) (h.z _ g.size) (by rw[hEl];exact RV.nil _ _ _) (RV.nil _ _ _)) (BO.nil _ _) (by simp) (by simp) ?_
   intro e he
   simp at he
   rcases he with rfl|rfl
   ·rw[hEl];simp
   ·simp)
 have HENC2:=qQ (show∀W,Chg (λ_=>False) w W→Calls Tryz.prog 60 #[frV ⟨2,i,f.src,f.seq,[E,⟨2,0,0,-ms,[]⟩],[]⟩ (.slice (some ⟨W.heap.size,0,none⟩) 2 2) (.slice none 0 0)]
   (W.alloc (.cells #[.int .i64 E.kind,.int .i64 E.asn,.int .i64 E.rank,.int .i64 E.ticks,.slice none 0 0,.int .i64 2,.int .i64 0,.int .i64 0,.int .i64 (-ms),.slice none 0 0] 172)) (PEn a o (W.alloc (.cells #[.int .i64 E.kind,.int .i64 E.asn,.int .i64 E.rank,.int .i64 E.ticks,.slice none 0 0,.int .i64 2,.int .i64 0,.int .i64 0,.int .i64 (-ms),.slice none 0 0] 172))) from
  λW g=>(HENC.out W g).mono (λen wq hpe=>by
   have hA:=HA.out
   rcases hpe with ⟨hm1,y,he,hown,gq⟩|⟨hm1,he,gq⟩
   ·rw[if_pos hm1] at hA
    refine⟨y,0,he,?_,gq⟩
    rw[hA]
    exact BO.of_own hown (encF_byte _ hm1 (by intro x hx;cases hx)) (λk hk=>h.z k (Nat.le_trans (Nat.le_trans g.size (Chg.alloc (λ_=>False) W _).size) hk))
   ·rw[if_neg (by simp[hm1])] at hA
    refine⟨_,1,he,?_,gq⟩
    rw[hA];rfl))
 have HZ:=qQ h.z
 have t1:(f.dst != (i:Int))=false:=by simp[hd]
 have t2:(f.kind != 1)=true:=by simp[hk]
 have t3:(f.kind != 4)=false:=by simp[hk]
 have t4:(f.kind==1)=false:=by simp[hk]
 clear h hba ga ha ha2 hfr hE hEl hd hk
 unfold frV at HENC2
 clear HENC
 go_enter Tryz.func108,Tryz.ntmps108
 go_wp2_with fail
 generalize hW:w.alloc (.cells #[.int .i64 f.kind,.int .i64 f.src,.int .i64 f.dst,.int .i64 f.seq,.slice iA il ic,.slice dA dl dc] 71)=w1 at *
 obtain⟨d0,d1,d2,d3,d4,d5⟩:=qC HB.out
 have c1:w1.cell? ⟨b,9,none⟩=some (.int .i64 i):=H.out.cell 9
 obtain⟨I,F1,hI,hF1,hFA⟩:=clsF w1
 have e0:=qF hF1 d0
 have e2:=qF hF1 d2
 have e3:=qF hF1 c1
 have HFF:=qQ hF1
 have HFA:=qQ (hFA _ (Chg.drew _ _))
 clear hF1 hFA d0 d1 d2 d3 d4 d5 c1
 with_reducible refine qW F1 (by kernel_rfl) (by kernel_rfl) HFA.out ?_
 repeat ((with_reducible refine wpQuiet_step (λK hK=>?_));go_simp;(try (rw[if_neg];rotate_left;(intro h;cases h)));(with_reducible refine hK _ ?_);clear hK K)
 with_reducible refine wpQuiet_nil ?_
 intro _ hw'
 obtain⟨nq,rfl⟩:=hw'
 have hgq:=HFF.out nq
 have hbq:(F1 nq).heap[w.heap.size]? =_:=Chg.keep hgq HB.out (λe=>e)
 have HG2:=qQ (HG.out.trans hgq)
 have H2:=qQ (H.out.kept hgq)
 have HB2:=qQ hbq
 clear e0 e2 e3 HFF HFA hI HB HG H hgq hbq hW
 generalize F1 nq=w2 at *
 have HBW:=qQ (show∀W,Chg (λ_=>False) w2 W→W.heap[w.heap.size]? =some (.cells #[.int .i64 f.kind,.int .i64 f.src,.int .i64 f.dst,.int .i64 f.seq,.slice iA il ic,.slice dA dl dc] 71 (0,0))∧W.cell? ⟨b,9,none⟩=some (.int .i64 i) from
  λW g=>⟨Chg.keep g HB2.out (λe=>e),(H2.out.kept g).cell 9⟩)
 obtain⟨d0,d1,d2,d3,d4,d5⟩:=qC HB2.out
 have c1:w2.cell? ⟨b,9,none⟩=some (.int .i64 i):=H2.out.cell 9
 have HC:=qQ (Chg.refl (λ_=>False) w2)
 go_wp2_with fail
 have HSS:=qQ (show∀W,Chg (λ_=>False) w2 W→W.cell? ⟨b,9,none⟩=some (.int .i64 i)∧W.cell? ⟨w.heap.size,1,none⟩=some (.int .i64 f.src)∧W.cell? ⟨w.heap.size,3,none⟩=some (.int .i64 f.seq) from
  λW g=>by
   obtain⟨h1,h2⟩:=HBW.out W g
   exact⟨h2,by rw[qJ h1];rfl,by rw[qJ h1];rfl⟩)
 go_cut [9,10] (λt9 t10 wx=>∃y,t9=y∧AV a y wx o∧Chg (λ_=>False) w wx∧Chg (λ_=>False) w2 wx)
 case first=>
  go_region_held3 (λW=>W.cell? ⟨b,9,none⟩=some (.int .i64 i)∧W.cell? ⟨w.heap.size,1,none⟩=some (.int .i64 f.src)∧W.cell? ⟨w.heap.size,3,none⟩=some (.int .i64 f.seq))
   (((with_reducible refine HSS.out _ ?_);repeat (first|with_reducible exact Chg.drew _ _|with_reducible exact HGX.out|with_reducible exact HGW.out|(with_reducible refine Chg.trans ?_ (Chg.alloc _ _ _)))))
   (first
   |(go_at_call 95;refine (HS.out _ (HG2.out.trans (Chg.drew _ w2))).mono ?_;rintro en wp ⟨rfl,gp⟩
     have HGW:=qQ ((Chg.drew _ w2).trans gp))
   |(go_at_call 60;refine (HENC2.out _ (HG2.out.trans HGW.out)).mono ?_;rintro en wq ⟨y,er,rfl,hay,gq⟩
     have HGX:=qQ (HGW.out.trans ((Chg.alloc _ wp _).trans gq))))
  all_goals
   go_wp2_with fail
   go_meet
   exact⟨y,rfl,hay,HG2.out.trans HGX.out,HGX.out⟩
 case rest=>
  obtain⟨y,rfl,hy,hg,hg2⟩:=hcut
  obtain⟨hb3,_⟩:=HBW.out _ hg2
  obtain⟨d0,d1,d2,d3,d4,d5⟩:=qC hb3
  have HY:=qQ (And.intro hy hg)
  clear hy hg hg2 hb3
  go_wp2_with fail
  go_ret
  exact⟨_,rfl,HY.out⟩
end
section
variable {w0 w w':World}{o0 o o':Cls}{c:Cfg}{i b:Nat}{s s':NSt}{r r':NR}
theorem hearsN_p(i:Nat)(s:NSt)(src rk now t:Int)(h:s.p≠none):(qx i s src rk now t).p≠none:=by
 have e1:∀(s2:NSt) q,(zQ i s2 q).p=s2.p:=λs2 q=>by unfold zQ;split <;> rfl
 have e2:(zY i (jd s src rk now) src t).p=(jd s src rk now).p:=by unfold zY;split <;> rfl
 unfold qx
 rw[e1,e2]
 obtain⟨x,hx⟩:=Option.ne_none_iff_exists'.1 h
 unfold jd pN
 rw[hx]
 simp
end
end Go.Proofs.YtnpihllannobgaaGreatDoor
