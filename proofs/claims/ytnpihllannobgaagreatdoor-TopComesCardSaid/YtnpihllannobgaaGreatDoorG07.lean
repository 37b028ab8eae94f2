/- Steps of the proof, part G07. No condition. -/
import Derived.Test.YtnpihllannobgaaGreatDoorG06
namespace Go.Proofs.YtnpihllannobgaaGreatDoor
set_option linter.unusedVariables false
set_option linter.unusedSimpArgs false
set_option maxRecDepth 100000
set_option maxHeartbeats 32000000
open Go.ChangeShapes Go.WideShapes Go.ChangeAt Go.RowKit
def isElem(X:Value):Prop:=(∀w,(binOp .eql 227 X .nilIface).run Tryz.prog w= .ok (.bool false) w)∧∀w,(eqGuard .eql 227 (.tmp 15) (.const .nilIface) X .nilIface).run Tryz.prog w= .ok () w
theorem el_eq1(x:Value):isElem (.iface 273 x):=⟨λw=>by kernel_rfl,λw=>by kernel_rfl⟩
theorem el_eq2(x:Value):isElem (.iface 275 x):=⟨λw=>by kernel_rfl,λw=>by kernel_rfl⟩
theorem el_eq3(x:Value):isElem (.iface 277 x):=⟨λw=>by kernel_rfl,λw=>by kernel_rfl⟩
theorem nil_eq0(w:World):(binOp .eql 227 .nilIface .nilIface).run Tryz.prog w= .ok (.bool true) w:=by kernel_rfl
def PSome(w:World)(e:Ending)(w':World):Prop:=∃X,e= .returned X∧isElem X∧Chg (λ_=>False) w w'
theorem of_yes(k:Int)(hk:ofE k=true)(w:World):Calls Tryz.prog 153 #[.agg #[.int .i64 k,.int .i64 0,.int .i64 0,.int .i64 0,.slice none 0 0]] w (PSome w):=by
 rcases ofE_cases hk with rfl|rfl|rfl|rfl
 ·exact (of_1 0 0 0 _ w).mono λe w' ⟨h,g⟩=>⟨_,h,el_eq1 _,g⟩
 ·exact (of_2 0 0 0 _ w).mono λe w' ⟨h,g⟩=>⟨_,h,el_eq2 _,g⟩
 ·exact (of_l 3 0 0 0 none 0 0 w (.inl rfl)).mono λe w' ⟨h,g⟩=>⟨_,h,el_eq3 _,g⟩
 ·exact (of_l 4 0 0 0 none 0 0 w (.inr rfl)).mono λe w' ⟨h,g⟩=>⟨_,h,el_eq3 _,g⟩
def POne(w:World)(r:Nat)(x:Int×El×RS)(en:Ending)(w':World):Prop:=
 ∃lv,en= .returned (.tuple #[elV x.2.1 lv,.int .i64 x.1])∧w'.ownsRow w.heap.size 3 1 lv x.2.1.list.length (x.2.1.list.map VI)∧Rx w' r x.2.2∧Chg (· =r) w w'
structure OAt(w:World)(r:Nat)(s:RS)(W:World):Prop where
 blk:W.heap[w.heap.size]? =some (.cells #[.int .i64 0,.int .i64 0,.int .i64 0,.int .i64 0,.slice none 0 0] 172 (0,0))
 rx:Rx W r s
 lt:r<w.heap.size
 chg:Chg (λk=>k=r∨w.heap.size≤k) w W
theorem OAt.kept{w W W':World}{r:Nat}{s:RS}(h:OAt w r s W)(g:Chg (λ_=>False) W W'):OAt w r s W':=
 ⟨Chg.keep g h.blk (λe=>e),h.rx.kept g,h.lt,h.chg.trans g.none⟩
theorem OAt.next{w W W':World}{r:Nat}{s s':RS}(h:OAt w r s W)(k:Rx W' r s')(g:Chg (· =r) W W'):OAt w r s' W':=
 ⟨Chg.keep g h.blk (λe=>by have:=h.lt;omega),k,h.lt,h.chg.trans (g.mono (λ_ _ e=> .inl e))⟩
theorem OAt.fin{w W W':World}{r:Nat}{s:RS}(h:OAt w r s W)(v0 v1 v2 v3 v4:Value)(hW:W'=((((W.setCell ⟨w.heap.size,0,none⟩ v0).setCell ⟨w.heap.size,1,none⟩ v1).setCell ⟨w.heap.size,2,none⟩ v2).setCell ⟨w.heap.size,3,none⟩ v3).setCell ⟨w.heap.size,4,none⟩ v4):
  W'.heap[w.heap.size]? =some (.cells #[v0,v1,v2,v3,v4] 172 (0,0))∧Rx W' r s∧Chg (· =r) w W'∧Chg (· =w.heap.size) W W':=by
 subst hW
 have gs:=set5 W w.heap.size v0 v1 v2 v3 v4
 exact⟨set5b h.blk v0 v1 v2 v3 v4,h.rx.keep gs (λj h1 h2=>by have:=h.lt;have h2:j=w.heap.size:=h2;omega),
  (h.chg.trans (gs.mono (λk _ h=> .inr (by have h:k=w.heap.size:=h;omega)))).old,gs⟩
theorem one_any(w:World)(r:Nat)(s:RS)(h:Rx w r s):Calls Tryz.prog 167 #[.pointer (some ⟨r,0,none⟩)] w (POne w r (oneE s)):=by
 obtain⟨R,hR⟩:=qZ (oneE s)
 rw[←hR]
 obtain⟨k,hk⟩:∃k,ql s 1=k:=⟨_,rfl⟩
 obtain⟨s1,hs1⟩:∃s1,qS s 1=s1:=⟨_,rfl⟩
 obtain⟨n,hn⟩:∃n,ql s1 1=n:=⟨_,rfl⟩
 obtain⟨s2,hs2⟩:∃s2,qS s1 1=s2:=⟨_,rfl⟩
 obtain⟨s3,hs3⟩:∃s3,j7 s2 k n=s3:=⟨_,rfl⟩
 obtain⟨X,hX⟩:∃X,takeE s2 k n=X:=⟨_,rfl⟩
 have hR2:R=if zq s1 then (2,el0,s1) else if !ofE k then (3,el0,s1) else if zq s2 then (2,el0,s2) else if !vD k n then (3,el0,s2) else if zq s3 then (2,el0,s3) else (0,X,s3):=by
  rw[hR];unfold oneE;simp only[hk,hs1,hn,hs2,hs3,hX]
 have hkb:=zj h 1
 rw[hk] at hkb
 have hk0:0≤k:=hkb.1
 have hk1:k<256:=hkb.2
 clear hkb
 have HH:=qQ h
 have HR:=qQ hR2
 have HK:=qQ hk
 have HS1:=qQ hs1
 have HN:=qQ hn
 have HS2:=qQ hs2
 have HS3:=qQ hs3
 have HX:=qQ hX
 clear h hR hR2 hk hs1 hn hs2 hs3 hX
 go_enter Tryz.func167,Tryz.ntmps167
 go_wp2_with fail
 have O1:OAt w r s (w.alloc (.cells #[.int .i64 0,.int .i64 0,.int .i64 0,.int .i64 0,.slice none 0 0] 172)):=⟨qV _ _,HH.out.kept (Chg.alloc _ _ _),HH.out.lt,Chg.alloc _ _ _⟩
 have HO:=qQ O1
 clear O1 HH
 (with_reducible refine (jr HO.out.rx 1 8 rfl (by omega) k HK.out s1 HS1.out).mono ?_)
 rintro e w2 ⟨rfl,R2,G2⟩
 have HO2:=qQ (HO.out.next R2 G2)
 clear R2 G2 HO HK HS1
 go_wp2_with fail
 (with_reducible refine (short_any _ r s1 HO2.out.rx).mono ?_)
 rintro e w3 ⟨rfl,R3,G3⟩
 have HO3:=qQ (HO2.out.next R3 G3)
 clear R3 G3 HO2
 by_cases hc:zq s1=true
 ·rw[hc]
  have HC:=qQ hc
  clear hc
  obtain⟨c0,c1,c2,c3,c4⟩:=zN HO3.out.blk
  obtain⟨f0,f1,f2,f3,f4⟩:=froz5 HO3.out.blk
  have hr:=HR.out
  rw[if_pos HC.out] at hr
  have HRR:=qQ hr
  clear hr
  go_wp2_with fail
  obtain⟨hb,R,G,_⟩:=HO3.out.fin (.int .i64 0) (.int .i64 0) (.int .i64 0) (.int .i64 0) (.slice none 0 0) rfl
  obtain⟨k0,k1,k2,k3,k4⟩:=zN hb
  rw[HRR.out]
  exact bodyPost_ret (v:= .tuple #[elV el0 (.slice none 0 0),.int .i64 2]) (by simp[results,Tryz.results167,go_sem,elV,el0,k0,k1,k2,k3,k4]) rfl ⟨_,rfl,World.ownsRow_nil _ _ _ _,R,G⟩
 ·have hc:zq s1=false:=by simpa using hc
  rw[hc]
  have HC1:=qQ hc
  clear hc
  go_wp2_with fail
  by_cases hc:ofE k=true
  ·have HC2:=qQ hc
   clear hc
   (with_reducible refine (of_yes k HC2.out _).mono ?_)
   rintro e w4 ⟨X',rfl,hq,G4⟩
   obtain⟨hq,hq2⟩:=hq
   have HO4:=qQ (HO3.out.kept G4)
   clear G4 HO3
   go_wp2_with fail
   clear hq hq2
   have hnb:=zj HO4.out.rx 1
   rw[HN.out] at hnb
   have hn0:0≤n:=hnb.1
   have hn1:n<256:=hnb.2
   clear hnb
   (with_reducible refine (jr HO4.out.rx 1 8 rfl (by omega) n HN.out s2 HS2.out).mono ?_)
   rintro e w5 ⟨rfl,R5,G5⟩
   have HO5:=qQ (HO4.out.next R5 G5)
   clear R5 G5 HO4 HN HS2
   go_wp2_with fail
   (with_reducible refine (short_any _ r s2 HO5.out.rx).mono ?_)
   rintro e w6 ⟨rfl,R6,G6⟩
   have HO6:=qQ (HO5.out.next R6 G6)
   clear R6 G6 HO5
   by_cases hc:zq s2=true
   ·rw[hc]
    have HC:=qQ hc
    clear hc
    obtain⟨c0,c1,c2,c3,c4⟩:=zN HO6.out.blk
    obtain⟨f0,f1,f2,f3,f4⟩:=froz5 HO6.out.blk
    have hr:=HR.out
    rw[if_neg (by rw[HC1.out];simp),if_neg (by rw[HC2.out];simp),if_pos HC.out] at hr
    have HRR:=qQ hr
    clear hr
    go_wp2_with fail
    obtain⟨hb,R,G,_⟩:=HO6.out.fin (.int .i64 0) (.int .i64 0) (.int .i64 0) (.int .i64 0) (.slice none 0 0) rfl
    obtain⟨k0,k1,k2,k3,k4⟩:=zN hb
    rw[HRR.out]
    exact bodyPost_ret (v:= .tuple #[elV el0 (.slice none 0 0),.int .i64 2]) (by simp[results,Tryz.results167,go_sem,elV,el0,k0,k1,k2,k3,k4]) rfl ⟨_,rfl,World.ownsRow_nil _ _ _ _,R,G⟩
   ·have hc:zq s2=false:=by simpa using hc
    rw[hc]
    have HC3:=qQ hc
    clear hc
    go_wp2_with fail
    (with_reducible refine (right_any k n HC2.out _).mono ?_)
    rintro e w7 ⟨rfl,G7⟩
    have HO7:=qQ (HO6.out.kept G7)
    clear G7 HO6
    by_cases hc:vD k n=true
    ·rw[hc]
     have HC4:=qQ hc
     clear hc
     go_wp2_with fail
     (with_reducible refine (takeE_any _ r s2 k n HC2.out (by omega) HO7.out.rx).mono ?_)
     rintro e w8 ⟨lv,rfl,hown,R8,G8⟩
     rw[HS3.out] at R8
     rw[HX.out] at hown ⊢
     have HO8:=qQ (HO7.out.next R8 G8)
     have hlt:w.heap.size+1≤w7.heap.size:=by have:=qX HO7.out.blk;omega
     have HOWN:=qQ (qk hown hlt)
     clear R8 G8 HO7 hown hlt HS3 HX
     unfold elV
     obtain⟨A,c,rfl,_⟩:=Rs.of_own (V:=VI) (zs:=X.list) HOWN.out
     go_wp2_with fail
     have hba:=qV w8 (.cells #[.int .i64 X.kind,.int .i64 X.asn,.int .i64 X.rank,.int .i64 X.ticks,.slice A X.list.length c] 172)
     have ga:=Chg.alloc (λ_=>False) w8 (.cells #[.int .i64 X.kind,.int .i64 X.asn,.int .i64 X.rank,.int .i64 X.ticks,.slice A X.list.length c] 172)
     have hne:w8.heap.size≠r:=by have:=HO8.out.rx.lt;omega
     have hne2:w8.heap.size≠w.heap.size:=by have:=qX HO8.out.blk;omega
     have HO9:=qQ (HO8.out.kept ga)
     have HOWN9:=qQ (qY HOWN.out ga (λ_ _ e=>e))
     have HB9:=qQ hba
     have HNE:=qQ (And.intro hne hne2)
     clear ga hba HO8 HOWN hne hne2
     generalize w8.heap.size=b9 at *
     generalize w8.alloc (.cells #[.int .i64 X.kind,.int .i64 X.asn,.int .i64 X.rank,.int .i64 X.ticks,.slice A X.list.length c] 172)=w9 at *
     (with_reducible refine (short_any _ r s3 HO9.out.rx).mono ?_)
     rintro e w10 ⟨rfl,R10,G10⟩
     have HO10:=qQ (HO9.out.next R10 G10)
     have HOWN10:=qQ (qY HOWN9.out G10 (λb h1 h2=>by have:=(qT HOWN9.out h1).1;have h2:b=r:=h2;have:=HO9.out.lt;omega))
     have HB10:=qQ (Chg.keep G10 HB9.out HNE.out.1)
     clear R10 G10 HO9 HOWN9 HB9
     by_cases hc:zq s3=true
     ·rw[hc]
      have HC:=qQ hc
      clear hc
      obtain⟨c0,c1,c2,c3,c4⟩:=zN HO10.out.blk
      obtain⟨f0,f1,f2,f3,f4⟩:=froz5 HO10.out.blk
      have hr:=HR.out
      rw[if_neg (by rw[HC1.out];simp),if_neg (by rw[HC2.out];simp),if_neg (by rw[HC3.out];simp),if_neg (by rw[HC4.out];simp),if_pos HC.out] at hr
      have HRR:=qQ hr
      clear hr
      go_wp2_with fail
      obtain⟨hb,R,G,_⟩:=HO10.out.fin (.int .i64 0) (.int .i64 0) (.int .i64 0) (.int .i64 0) (.slice none 0 0) rfl
      obtain⟨k0,k1,k2,k3,k4⟩:=zN hb
      rw[HRR.out]
      exact bodyPost_ret (v:= .tuple #[elV el0 (.slice none 0 0),.int .i64 2]) (by simp[results,Tryz.results167,go_sem,elV,el0,k0,k1,k2,k3,k4]) rfl ⟨_,rfl,World.ownsRow_nil _ _ _ _,R,G⟩
     ·have hc:zq s3=false:=by simpa using hc
      rw[hc]
      have HC5:=qQ hc
      clear hc
      obtain⟨c0,c1,c2,c3,c4⟩:=zN HO10.out.blk
      obtain⟨f0,f1,f2,f3,f4⟩:=froz5 HO10.out.blk
      obtain⟨d0,d1,d2,d3,d4⟩:=zN HB10.out
      have hr:=HR.out
      rw[if_neg (by rw[HC1.out];simp),if_neg (by rw[HC2.out];simp),if_neg (by rw[HC3.out];simp),if_neg (by rw[HC4.out];simp),if_neg (by rw[HC5.out];simp)] at hr
      have HRR:=qQ hr
      clear hr
      go_wp2_with fail
      obtain⟨hb,R,G,GG⟩:=HO10.out.fin (.int .i64 X.kind) (.int .i64 X.asn) (.int .i64 X.rank) (.int .i64 X.ticks) (.slice A X.list.length c) rfl
      obtain⟨k0,k1,k2,k3,k4⟩:=zN hb
      have hown:=qY HOWN10.out GG (λb h1 h2=>by have:=(qT HOWN10.out h1).1;have h2:b=w.heap.size:=h2;omega)
      rw[HRR.out]
      exact bodyPost_ret (v:= .tuple #[elV X (.slice A X.list.length c),.int .i64 0]) (by simp[results,Tryz.results167,go_sem,elV,k0,k1,k2,k3,k4]) rfl ⟨_,rfl,qk hown (by omega),R,G⟩
    ·have hc:vD k n=false:=by simpa using hc
     rw[hc]
     have HC:=qQ hc
     clear hc
     obtain⟨c0,c1,c2,c3,c4⟩:=zN HO7.out.blk
     obtain⟨f0,f1,f2,f3,f4⟩:=froz5 HO7.out.blk
     have hr:=HR.out
     rw[if_neg (by rw[HC1.out];simp),if_neg (by rw[HC2.out];simp),if_neg (by rw[HC3.out];simp),if_pos (by rw[HC.out];rfl)] at hr
     have HRR:=qQ hr
     clear hr
     go_wp2_with fail
     obtain⟨hb,R,G,_⟩:=HO7.out.fin (.int .i64 0) (.int .i64 0) (.int .i64 0) (.int .i64 0) (.slice none 0 0) rfl
     obtain⟨k0,k1,k2,k3,k4⟩:=zN hb
     rw[HRR.out]
     exact bodyPost_ret (v:= .tuple #[elV el0 (.slice none 0 0),.int .i64 3]) (by simp[results,Tryz.results167,go_sem,elV,el0,k0,k1,k2,k3,k4]) rfl ⟨_,rfl,World.ownsRow_nil _ _ _ _,R,G⟩
  ·have hc:ofE k=false:=by simpa using hc
   have HC:=qQ hc
   clear hc
   (with_reducible refine (of_no k 0 0 0 _ _ HC.out).mono ?_)
   rintro e w4 ⟨rfl,G4⟩
   have HO4:=qQ (HO3.out.kept G4)
   clear G4 HO3
   have hq:=nil_eq0
   obtain⟨c0,c1,c2,c3,c4⟩:=zN HO4.out.blk
   obtain⟨f0,f1,f2,f3,f4⟩:=froz5 HO4.out.blk
   have hr:=HR.out
   rw[if_neg (by rw[HC1.out];simp),if_pos (by rw[HC.out];rfl)] at hr
   have HRR:=qQ hr
   clear hr
   go_wp2_with fail
   obtain⟨hb,R,G,_⟩:=HO4.out.fin (.int .i64 0) (.int .i64 0) (.int .i64 0) (.int .i64 0) (.slice none 0 0) rfl
   obtain⟨k0,k1,k2,k3,k4⟩:=zN hb
   rw[HRR.out]
   exact bodyPost_ret (v:= .tuple #[elV el0 (.slice none 0 0),.int .i64 3]) (by simp[results,Tryz.results167,go_sem,elV,el0,k0,k1,k2,k3,k4]) rfl ⟨_,rfl,World.ownsRow_nil _ _ _ _,R,G⟩
theorem qg{w:World}{base e size n:Nat}{v:Value}{xs:List Value}(h:w.ownsRow base e size v n xs){j:Nat}(hj:v.ownBlock=some j):base≤j∧j<w.heap.size:=h.lt j hj
theorem own_ne{w:World}{b1 b2 e1 e2 s1 s2 n1 n2:Nat}{v1 v2:Value}{x1 x2:List Value}(h:w.ownsRow b1 e1 s1 v1 n1 x1)(k:w.ownsRow b2 e2 s2 v2 n2 x2)(he:e1≠e2){j:Nat}(hj:v1.ownBlock=some j):v2.ownBlock≠some j:=by
 intro h2
 rcases h.2 with ⟨rfl,_⟩|⟨g,cap,cur,rfl,hb,hg,_⟩
 ·cases hj
 ·rcases k.2 with ⟨rfl,_⟩|⟨g',cap',cur',rfl,hb',hg',_⟩
  ·cases h2
  ·cases hj;cases h2
   rw[hg] at hg';cases hg';exact he rfl
def NewIO(w w':World)(v:Value)(l:List El):Prop:=∀own,Z w own→IeO w' own v l
def PDecI(w:World)(x:Int×List El)(en:Ending)(w':World):Prop:=
 ∃v,en= .returned (.tuple #[v,.int .i64 x.1])∧NewIO w w' v x.2∧Chg (λ_=>False) w w'
theorem loopE_step(n:Nat)(acc:List El)(s:RS)(e:El)(s':RS)(h:oneE s=(0,e,s')):loopE (n+1) acc s=loopE n (acc++[e]) s':=by
 simp[loopE,h]
theorem loopE_err(n:Nat)(acc:List El)(s:RS)(g:Int)(e:El)(s':RS)(h:oneE s=(g,e,s'))(hg:g≠0):loopE (n+1) acc s=(g,[],s'):=by
 simp[loopE,h,hg]
structure DAt(w w1:World)(r:Nat)(F:Int×List El×RS)(N j:Nat)(v:Value)(W:World):Prop where
 st:∃(ps:List (El×Value)) (s:RS),W.ownsRow w1.heap.size 172 5 v j (ps.flatMap cellsE)∧ps.length=j∧(∀p∈ps,W.ownsRow w1.heap.size 3 1 p.2 p.1.list.length (p.1.list.map VI))∧Rx W r s∧loopE (N-j) (ps.map Prod.fst) s=F
 lt:r<w1.heap.size
 ws:w.heap.size≤r
 sz:w1.heap.size≤W.heap.size
 chg:Chg (λb=>w.heap.size≤b) w W
theorem idecode_any(w:World)(v:Value)(L:List Int)(h:BS w w.heap.size v L)(hL:L.length≤100000):
  Calls Tryz.prog 115 #[v] w (PDecI w (decI L)):=by
 obtain⟨s0,hs0⟩:∃s0:RS,⟨L,0⟩=s0:=⟨_,rfl⟩
 obtain⟨n,hn⟩:∃n,ql s0 1=n:=⟨_,rfl⟩
 obtain⟨s1,hs1⟩:∃s1,qS s0 1=s1:=⟨_,rfl⟩
 obtain⟨F,hF⟩:∃F,loopE n.toNat [] s1=F:=⟨_,rfl⟩
 obtain⟨D,hD⟩:=qZ (decI L)
 have hD2:D=if zq s1 then (2,[]) else if 4<n then (3,[]) else if F.1≠0 then (F.1,[]) else if rEnd F.2.2≠0 then (rEnd F.2.2,[]) else (0,F.2.1):=by
  rw[hD];unfold decI;simp only[hs0,hn,hs1,hF]
 rw[←hD]
 have hnew:=rx_new w v L h hL
 have HS0:=qQ hs0
 obtain⟨A,c,rfl,_⟩:=h
 have HD:=qQ hD2
 have HN:=qQ hn
 have HS1:=qQ hs1
 have HF:=qQ hF
 have HNEW:=qQ hnew
 clear hs0 hn hs1 hF hD hD2 hnew
 go_enter Tryz.func115,Tryz.ntmps115
 go_wp2_with fail
 with_reducible refine HNEW.out.mono ?_
 rintro e w1 ⟨r,rfl,R1,hr,G1⟩
 rw[HS0.out] at R1
 have HR1:=qQ (And.intro R1 (And.intro hr G1))
 clear R1 hr G1 HNEW
 go_wp2_with fail
 have hnb:=zj HR1.out.1 1
 rw[HN.out] at hnb
 have hn0:0≤n:=hnb.1
 have hn1:n<256:=hnb.2
 clear hnb
 (with_reducible refine (jr HR1.out.1 1 8 rfl (by omega) n HN.out s1 HS1.out).mono ?_)
 rintro e w2 ⟨rfl,R2,G2⟩
 have HR2:=qQ (And.intro R2 G2)
 clear R2 G2 HN HS1
 go_wp2_with fail
 (with_reducible refine (short_any _ r s1 HR2.out.1).mono ?_)
 rintro e w3 ⟨rfl,R3,G3⟩
 have hchg:Chg (λb=>w.heap.size≤b) w w3:=(HR1.out.2.2.none.trans (HR2.out.2.one HR1.out.2.1)).trans (G3.one HR1.out.2.1)
 have hsz:w1.heap.size≤w3.heap.size:=Nat.le_trans HR2.out.2.size G3.size
 have HR3:=qQ (And.intro R3 (And.intro hchg (And.intro hsz HR1.out.1.lt)))
 have HWS:=qQ HR1.out.2.1
 clear R3 G3 HR2 HR1 hchg hsz
 by_cases hc:zq s1=true
 ·rw[hc]
  have HC:=qQ hc
  clear hc
  go_wp2_with fail
  have hd:=HD.out
  rw[if_pos HC.out] at hd
  rw[hd]
  exact bodyPost_ret (v:= .tuple #[.slice none 0 0,.int .i64 2]) (by simp[results,Tryz.results115,go_sem]) rfl ⟨_,rfl,λown _=>IeO.nil _ _,HR3.out.2.1.fresh⟩
 ·have hc:zq s1=false:=by simpa using hc
  rw[hc]
  have HC:=qQ hc
  clear hc
  by_cases h4:4<n
  ·go_wp2_with fail
   have hd:=HD.out
   rw[if_neg (by rw[HC.out];simp),if_pos h4] at hd
   rw[hd]
   exact bodyPost_ret (v:= .tuple #[.slice none 0 0,.int .i64 3]) (by simp[results,Tryz.results115,go_sem]) rfl ⟨_,rfl,λown _=>IeO.nil _ _,HR3.out.2.1.fresh⟩
  ·obtain⟨N,rfl⟩:∃N:Nat,n=N:=⟨n.toNat,by omega⟩
   have hN4:N≤4:=by omega
   have hF:=HF.out
   rw[Int.toNat_natCast] at hF
   have hd:=HD.out
   rw[if_neg (by rw[HC.out];simp),if_neg h4] at hd
   have D0:DAt w w1 r F N 0 (.slice none 0 0) w3:=⟨⟨[],s1,World.ownsRow_nil _ _ _ _,rfl,(λp hp=>by cases hp),HR3.out.1,by simpa using hF⟩,HR3.out.2.2.2,HWS.out,HR3.out.2.2.1,HR3.out.2.1⟩
   have HD0:=qQ D0
   have HDD:=qQ hd
   clear D0 hd hF HF HD HC HR3 hn0 hn1 HWS
   go_wp2_with fail
   go_loopw [6,20] (λu6 i wr=>∃(j:Nat),j≤N∧i= .int .i64 j∧DAt w w1 r F N j u6 wr) (λ_ i _=>N-(intOf i).toNat)
   case atStart=>exact⟨0,by omega,rfl,HD0.out⟩
   case round=>
    obtain⟨j,hj,rfl,hA⟩:=hrel
    have HA:=qQ hA
    clear hA HD0
    by_cases hlt:j<N
    ·obtain⟨⟨ps,s,hrow,hpl,hls,hrx,hlp⟩,_,_,_,_⟩:=id HA.out
     obtain⟨g,e,s',ho⟩:∃g e s',oneE s=(g,e,s'):=⟨_,_,_,rfl⟩
     have hone:=one_any wr r s hrx
     rw[ho] at hone
     have HO:=qQ ho
     have HROW:=qQ (And.intro hrow (And.intro hpl hls))
     have HLP:=qQ hlp
     have HONE:=qQ hone
     clear ho hrow hpl hls hrx hlp hone
     go_wp2_with fail
     with_reducible refine HONE.out.mono ?_
     rintro en w4 ⟨lv,rfl,hown,R4,G4⟩
     have hlt1:=HA.out.lt
     have hrow4:=qY HROW.out.1 G4 (λb h1 h2=>by have:=(qg HROW.out.1 h1).1;have h2:b=r:=h2;omega)
     have hls4:∀p∈ps,w4.ownsRow w1.heap.size 3 1 p.2 p.1.list.length (p.1.list.map VI):=λp hp=>qY (HROW.out.2.2 p hp) G4 (λb h1 h2=>by have:=(qT (HROW.out.2.2 p hp) h1).1;have h2:b=r:=h2;omega)
     have hown4:=qk hown HA.out.sz
     have HX4:=qQ (And.intro hrow4 (And.intro hls4 (And.intro hown4 (And.intro R4 (And.intro (HA.out.chg.trans (G4.one HA.out.ws)) (Nat.le_trans HA.out.sz G4.size))))))
     have HG0:=qQ (And.intro hlt1 HA.out.ws)
     clear hown R4 G4 hlt1 hrow4 hls4 hown4 HONE HA
     unfold elV
     obtain⟨A4,c4,rfl,_⟩:=Rs.of_own (V:=VI) (zs:=e.list) HX4.out.2.2.1
     by_cases hg:g=0
     ·subst hg
      have hcv:=loopE_step (N-(j+1)) (ps.map Prod.fst) s e s' HO.out
      rw[show N-(j+1)+1=N-j from by omega,HLP.out] at hcv
      have HCV:=qQ hcv
      clear hcv
      go_wp2_with (at_builtin;go_loud (refine app1S ElE rfl (.tmp 30) (.tmp 32) rfl w1.heap.size u6 j (ps.flatMap cellsE) rfl ?o1 _ [.int .i64 e.kind,.int .i64 e.asn,.int .i64 e.rank,.int .i64 e.ticks,.slice A4 e.list.length c4] rfl ?c1 rfl ?c2 (by omega) (by omega) ?hb ?grow))
      case o1=>exact (HX4.out.1.alloc _).alloc _
      case c1=>simpa using qV (w4.alloc (.cells #[.int .i64 e.kind,.int .i64 e.asn,.int .i64 e.rank,.int .i64 e.ticks,.slice A4 e.list.length c4] 172)) (.cells #[.int .i64 e.kind,.int .i64 e.asn,.int .i64 e.rank,.int .i64 e.ticks,.slice A4 e.list.length c4] 172)
      case c2=>intro u hu;simp at hu;rcases hu with rfl|rfl|rfl|rfl|rfl <;> rfl
      case hb=>have:=HX4.out.2.2.2.2.2;simp;omega
      case grow=>
       intro v5 w5 hown5 hgr hat
       have ga:Chg (λ_=>False) w4 ((w4.alloc (.cells #[.int .i64 e.kind,.int .i64 e.asn,.int .i64 e.rank,.int .i64 e.ticks,.slice A4 e.list.length c4] 172)).alloc (.cells #[.int .i64 e.kind,.int .i64 e.asn,.int .i64 e.rank,.int .i64 e.ticks,.slice A4 e.list.length c4] 172)):=(Chg.alloc _ _ _).trans (Chg.alloc _ _ _)
       have gg:=qH (S:=λb=>u6.ownBlock=some b) hgr (λb e=>e.symm▸rfl)
       have gt:=ga.none.trans gg
       have hls5:∀p∈ps++[(e,.slice A4 e.list.length c4)],w5.ownsRow w1.heap.size 3 1 p.2 p.1.list.length (p.1.list.map VI):=λp hp=>by
        rcases List.mem_append.1 hp with hp|hp
        ·have h0:=HX4.out.2.1 p hp
         exact qY h0 gt (λb h1 h2=>own_ne h0 HX4.out.1 (by decide) h1 h2)
        ·simp at hp;subst hp
         have h0:=HX4.out.2.2.1
         exact qY h0 gt (λb h1 h2=>own_ne h0 HX4.out.1 (by decide) h1 h2)
       have hrx5:Rx w5 r s':=HX4.out.2.2.2.1.keep gt (λb h1 h2=>by have:=(qg HX4.out.1 h2).1;have:=HG0.out.1;omega)
       have hD5:DAt w w1 r F N (j+1) v5 w5:=⟨⟨ps++[(e,.slice A4 e.list.length c4)],s',by rw[List.flatMap_append];exact hown5,by simp[HROW.out.2.1],hls5,hrx5,by rw[List.map_append];exact HCV.out.symm⟩,HG0.out.1,HG0.out.2,Nat.le_trans HX4.out.2.2.2.2.2 gt.size,HX4.out.2.2.2.2.1.trans (gt.mono (λb _ h2=>by have:=(qg HX4.out.1 h2).1;have:=HG0.out.1;have:=HG0.out.2;omega))⟩
       have HD5:=qQ hD5
       clear hown5 hgr hat ga gg gt hls5 hrx5 hD5 HX4 HROW HCV HLP HO
       go_wp2_with fail
       go_roundw
       case measure=>simp[intOf];omega
       case rel=>exact⟨j+1,by omega,by go_num,HD5.out⟩
     ·have hge:=loopE_err (N-(j+1)) (ps.map Prod.fst) s g e s' HO.out hg
      rw[show N-(j+1)+1=N-j from by omega,HLP.out] at hge
      have hb1:(g != 0)=true:=by simpa using hg
      have hb2:(g==0)=false:=by simpa using hg
      have hd:=HDD.out
      rw[hge] at hd
      simp only[] at hd
      rw[if_pos hg] at hd
      have HE:=qQ hd
      have hfin:=HX4.out.2.2.2.2.1
      have HFI:=qQ hfin
      clear hge hg hd hfin
      go_wp2_with fail
      rw[HE.out]
      have gt:Chg (λb=>w.heap.size≤b) w (w4.alloc (.cells #[.int .i64 e.kind,.int .i64 e.asn,.int .i64 e.rank,.int .i64 e.ticks,.slice A4 e.list.length c4] 172)):=HFI.out.trans (Chg.alloc _ _ _)
      exact bodyPost_ret (v:= .tuple #[.slice none 0 0,.int .i64 g]) (by simp[results,Tryz.results115,go_sem]) rfl ⟨_,rfl,λown _=>IeO.nil _ _,gt.fresh⟩
    ·obtain rfl:j=N:=by omega
     obtain⟨⟨ps,s,hrow,hpl,hls,hrx,hlp⟩,hl1,hl2,hl3,hl4⟩:=HA.out
     rw[Nat.sub_self] at hlp
     have hlp:F=(0,ps.map Prod.fst,s):=hlp.symm
     have he:=rx_end wr r s hrx
     obtain⟨q,hq⟩:∃q,rEnd s=q:=⟨_,rfl⟩
     have hd:=HDD.out
     rw[hlp] at hd
     simp only[hq] at hd
     rw[if_neg (by simp)] at hd
     rw[hq] at he
     have HE:=qQ he
     have HD2:=qQ hd
     have HRW:=qQ (And.intro hrow (And.intro hls (And.intro hl4 (And.intro hl1 hpl))))
     have HSZ:=qQ (And.intro hl2 hl3)
     clear hrow hpl hls hrx hlp hl1 hl2 hl3 hl4 he hq hd HDD HA
     go_wp2_with fail
     with_reducible refine HE.out.mono ?_
     rintro en w4 ⟨rfl,R4,G4⟩
     have hrow4:=qY HRW.out.1 G4 (λb h1 h2=>by have:=(qg HRW.out.1 h1).1;have h2:b=r:=h2;have:=HRW.out.2.2.2.1;omega)
     have hls4:∀p∈ps,w4.ownsRow w1.heap.size 3 1 p.2 p.1.list.length (p.1.list.map VI):=λp hp=>qY (HRW.out.2.1 p hp) G4 (λb h1 h2=>by have:=(qT (HRW.out.2.1 p hp) h1).1;have h2:b=r:=h2;have:=HRW.out.2.2.2.1;omega)
     have hg4:=(HRW.out.2.2.1.trans (G4.one HSZ.out.1)).fresh
     have hsz:w.heap.size≤w1.heap.size:=by have:=HSZ.out.1;have:=HRW.out.2.2.2.1;omega
     have hio:NewIO w w4 u6 (ps.map Prod.fst):=λown hz=>by
      have hz2:∀k,w1.heap.size≤k→own k=0:=λk hk=>hz k (by omega)
      have hr:=hrow4
      rw[←HRW.out.2.2.2.2] at hr
      exact IeO.of_own hr hz2 (λp hp=>RV.of_own (hls4 p hp) hz2)
     have HF:=qQ (And.intro hio hg4)
     clear R4 G4 hrow4 hls4 hg4 hsz hio HE HRW HSZ
     by_cases hq0:q=0
     ·subst hq0
      go_wp2_with fail
      have hd:=HD2.out
      rw[if_neg (by simp)] at hd
      rw[hd]
      exact bodyPost_ret (v:= .tuple #[u6,.int .i64 0]) (by simp[results,Tryz.results115,go_sem]) rfl ⟨_,rfl,HF.out.1,HF.out.2⟩
     ·have hb1:(q != 0)=true:=by simpa using hq0
      have hb2:(q==0)=false:=by simpa using hq0
      have hd:=HD2.out
      rw[if_pos hq0] at hd
      have HD3:=qQ hd
      clear hq0 hd HD2
      go_wp2_with fail
      rw[HD3.out]
      exact bodyPost_ret (v:= .tuple #[.slice none 0 0,.int .i64 q]) (by simp[results,Tryz.results115,go_sem]) rfl ⟨_,rfl,λown _=>IeO.nil _ _,HF.out.2⟩
theorem findE_at(L:List El)(q:Int)(k:Nat)(e:El)(hk:L[k]? =some e) (he:e.kind=q) (h:∀j y,j<k→L[j]? =some y→y.kind≠q):zH L q=some e:=by
 unfold zH
 rw[List.find?_eq_some_iff_getElem]
 have hlt:=(List.getElem?_eq_some_iff.1 hk).1
 refine⟨by simpa using he,k,hlt,by rw[List.getElem?_eq_getElem hlt] at hk;simpa using hk,λj hj=>?_⟩
 have:=h j L[j] hj (List.getElem?_eq_getElem (by omega))
 simpa using this
theorem findE_no(L:List El)(q:Int)(h:∀(j:Nat) y,L[j]? =some y→y.kind≠q):zH L q=none:=by
 unfold zH
 rw[List.find?_eq_none]
 intro x hx
 obtain⟨j,hj,rfl⟩:=List.getElem_of_mem hx
 have:=h j _ (List.getElem?_eq_getElem hj)
 simpa using this
def NewI(w w':World)(v:Value)(L:List Int):Prop:=w'.ownsRow w.heap.size 3 1 v L.length (L.map VI)
def PFind(w:World)(x:Option El)(en:Ending)(w':World):Prop:=
 ∃lv,en= .returned (.tuple #[elV (x.getD el0) lv,.bool x.isSome])∧NewI w w' lv (x.getD el0).list∧Chg (λ_=>False) w w'
structure FAt(w W:World):Prop where
 blk:W.heap[w.heap.size]? =some (.cells #[.int .i64 0,.int .i64 0,.int .i64 0,.int .i64 0,.slice none 0 0] 172 (0,0))
 chg:Chg (λ_=>False) w W
theorem FAt.kept{w W W':World}(h:FAt w W)(g:Chg (λ_=>False) W W'):FAt w W':=⟨Chg.keep g h.blk (λe=>e),h.chg.trans g⟩
theorem FAt.fin{w W W':World}(h:FAt w W)(v0 v1 v2 v3 v4:Value)(hW:W'=((((W.setCell ⟨w.heap.size,0,none⟩ v0).setCell ⟨w.heap.size,1,none⟩ v1).setCell ⟨w.heap.size,2,none⟩ v2).setCell ⟨w.heap.size,3,none⟩ v3).setCell ⟨w.heap.size,4,none⟩ v4):
  W'.heap[w.heap.size]? =some (.cells #[v0,v1,v2,v3,v4] 172 (0,0))∧Chg (λ_=>False) w W'∧Chg (· =w.heap.size) W W':=by
 subst hW
 have gs:=set5 W w.heap.size v0 v1 v2 v3 v4
 exact⟨set5b h.blk v0 v1 v2 v3 v4,(h.chg.none.trans (gs.mono (λk _ h=>(by have h:k=w.heap.size:=h;show w.heap.size≤k;omega)))).fresh,gs⟩
theorem zQ(w:World)(own:Cls)(v:Value)(L:List El)(q:Int)(h:IeO w own v L)(hL:L.length≤100000)(hll:∀e∈L,e.list.length≤100000):
  Calls Tryz.prog 116 #[v,.int .i64 q] w (PFind w (zH L q)):=by
 have HR:=qQ h
 obtain⟨A,c,rfl⟩:=h.val
 obtain⟨len,hlen⟩:=qZ L.length
 rw[←hlen] at hL HR ⊢
 have hl:(len:Int)≤100000:=by omega
 have HL:=qQ hlen
 have HLL:=qQ hll
 clear hlen h hll
 go_enter Tryz.func116,Tryz.ntmps116
 go_wp2_with fail
 have hF0:FAt w (w.alloc (.cells #[.int .i64 0,.int .i64 0,.int .i64 0,.int .i64 0,.slice none 0 0] 172)):=⟨qV _ _,Chg.alloc _ _ _⟩
 have HF0:=qQ hF0
 clear hF0
 go_loopw [10] (λi wr=>∃(k:Nat),k≤len∧i= .int .i64 k∧(∀j y,j<k→L[j]? =some y→y.kind≠q)∧FAt w wr) (λi _=>len-(intOf i).toNat)
 case atStart=>exact⟨0,by omega,rfl,(λj y hj=>absurd hj (by omega)),HF0.out⟩
 case round=>
  obtain⟨k,hk,rfl,hno,hF⟩:=hrel
  have HN:=qQ hno
  have HF:=qQ hF
  clear hno hF HF0
  by_cases hlt:k<len
  ·obtain⟨e,he⟩:∃e,L[k]? =some e:=⟨_,List.getElem?_eq_getElem (by have:=HL.out;omega)⟩
   obtain⟨g,c',lv,hv,⟨c0,c1,c2,c3,c4⟩,hr⟩:=(HR.out.keep HF.out.chg (λ_ _ e=>e)).at he
   rw[←HL.out] at hv
   cases hv
   have hll:=HLL.out e (List.mem_of_getElem? he)
   obtain⟨A',ca,rfl,hrs,hA,_,_⟩:=hr.rs
   have i1:(k:Int)<(len:Int):=by omega
   have HZ:=qQ he
   have HRS:=qQ (And.intro hrs (And.intro hA hll))
   have ga:=Chg.alloc (λ_=>False) wr (.cells #[.int .i64 e.kind,.int .i64 e.asn,.int .i64 e.rank,.int .i64 e.ticks,.slice A' e.list.length ca] 172)
   have hba:=qV wr (.cells #[.int .i64 e.kind,.int .i64 e.asn,.int .i64 e.rank,.int .i64 e.ticks,.slice A' e.list.length ca] 172)
   have hne:wr.heap.size≠w.heap.size:=by have:=qX HF.out.blk;omega
   have HWR:=qQ HF.out.chg.size
   have HF1:=qQ (HF.out.kept ga)
   have HGB:=qQ (And.intro ga (And.intro hba hne))
   clear he hr hrs hA hll ga hba hne HF
   by_cases hq:e.kind=q
   ·have hb:(e.kind==q)=true:=by simpa using hq
    have hfi:=findE_at L q k e HZ.out hq HN.out
    have HFI:=qQ hfi
    clear hq hfi
    go_wp2_with fail
    clear c0 c1 c2 c3 c4
    (with_reducible refine (jz _ A' e.list.length ca e.list ((HRS.out.1.keep HGB.out.1 (λ_ _ e=>e)).more HGB.out.1.size) HRS.out.2.1 HRS.out.2.2).mono ?_)
    rintro en w2 ⟨v2,rfl,hown,G2⟩
    have hb2:=Chg.keep G2 HGB.out.2.1 (λe=>e)
    have HF2:=qQ (HF1.out.kept G2)
    have HO2:=qQ (And.intro hown hb2)
    have HNE:=qQ HGB.out.2.2
    have HSZ:=qQ (show w.heap.size<(wr.alloc (.cells #[.int .i64 e.kind,.int .i64 e.asn,.int .i64 e.rank,.int .i64 e.ticks,.slice A' e.list.length ca] 172)).heap.size from qX HF1.out.blk)
    have HSZ2:=qQ (show wr.heap.size<(wr.alloc (.cells #[.int .i64 e.kind,.int .i64 e.asn,.int .i64 e.rank,.int .i64 e.ticks,.slice A' e.list.length ca] 172)).heap.size from qX HGB.out.2.1)
    clear hown hb2 G2 HF1 HGB
    obtain⟨A2,cc2,rfl,_⟩:=Rs.of_own (V:=VI) (zs:=e.list) HO2.out.1
    obtain⟨d0,d1,d2,d3,d4⟩:=zN HO2.out.2
    have f4:w2.frozen? ⟨wr.heap.size,4,none⟩=false:=qK HO2.out.2 4
    have hs4:=qB HO2.out.2 4 (.slice A2 e.list.length cc2)
    have gs4:=chg1 w2 wr.heap.size 4 (.slice A2 e.list.length cc2)
    have hown4:=qY HO2.out.1 gs4 (λb h1 h2=>by have:=(qT HO2.out.1 h1).1;have h2:b=wr.heap.size:=h2;have:=HSZ2.out;omega)
    have hF4:FAt w (w2.setCell ⟨wr.heap.size,4,none⟩ (.slice A2 e.list.length cc2)):=⟨Chg.keep gs4 HF2.out.blk (λh=>by have h:w.heap.size=wr.heap.size:=h;have:=HNE.out;omega),(HF2.out.chg.none.trans (gs4.mono (λb _ h=>by have h:b=wr.heap.size:=h;have:=HWR.out;show w.heap.size≤b;omega))).fresh⟩
    have HF4:=qQ hF4
    have HS4:=qQ (And.intro hs4 hown4)
    clear hF4 hs4 hown4 gs4
    obtain⟨c0,c1,c2,c3,c4⟩:=zN HF2.out.blk
    obtain⟨f0,f1,f2,f3,f5⟩:=froz5 HF2.out.blk
    have hne1:¬(wr.heap.size=w.heap.size):=HNE.out
    have hne2:¬(w.heap.size=wr.heap.size):=λe=>HNE.out e.symm
    go_wp2_with fail
    obtain⟨hb,G,GG⟩:=HF4.out.fin (.int .i64 e.kind) (.int .i64 e.asn) (.int .i64 e.rank) (.int .i64 e.ticks) (.slice A2 e.list.length cc2) rfl
    obtain⟨k0,k1,k2,k3,k4⟩:=zN hb
    have hown:=qY HS4.out.2 GG (λb h1 h2=>by have:=(qT HS4.out.2 h1).1;have h2:b=w.heap.size:=h2;have:=HSZ.out;omega)
    rw[HFI.out]
    exact bodyPost_ret (v:= .tuple #[elV e (.slice A2 e.list.length cc2),.bool true]) (by simp[results,Tryz.results116,go_sem,elV,k0,k1,k2,k3,k4]) rfl ⟨_,rfl,qk hown (Nat.le_of_lt HSZ.out),G⟩
   ·have hb:(e.kind==q)=false:=by simpa using hq
    have hn:∀j y,j<k+1→L[j]? =some y→y.kind≠q:=λj y hj hy=>by
     by_cases ej:j=k
     ·subst ej;rw[HZ.out] at hy;cases hy;exact hq
     ·exact HN.out j y (by omega) hy
    have HN1:=qQ hn
    clear hn hq
    go_wp2_with fail
    go_roundw
    case measure=>simp[intOf];omega
    case rel=>exact⟨k+1,by omega,by go_num,HN1.out,HF1.out⟩
  ·obtain rfl:k=len:=by omega
   have hi:=findE_no L q (λj y hj=>HN.out j y (by have:=(List.getElem?_eq_some_iff.1 hj).1;rw[←HL.out] at this;exact this) hj)
   have HI:=qQ hi
   clear hi
   obtain⟨c0,c1,c2,c3,c4⟩:=zN HF.out.blk
   obtain⟨f0,f1,f2,f3,f4⟩:=froz5 HF.out.blk
   go_wp2_with fail
   obtain⟨hb,G,_⟩:=HF.out.fin (.int .i64 0) (.int .i64 0) (.int .i64 0) (.int .i64 0) (.slice none 0 0) rfl
   obtain⟨k0,k1,k2,k3,k4⟩:=zN hb
   rw[HI.out]
   exact bodyPost_ret (v:= .tuple #[elV el0 (.slice none 0 0),.bool false]) (by simp[results,Tryz.results116,go_sem,elV,el0,k0,k1,k2,k3,k4]) rfl ⟨_,rfl,World.ownsRow_nil _ _ _ _,G⟩
end Go.Proofs.YtnpihllannobgaaGreatDoor
