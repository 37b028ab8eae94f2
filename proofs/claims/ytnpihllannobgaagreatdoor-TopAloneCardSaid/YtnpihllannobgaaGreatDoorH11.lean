/- Steps of the proof, part H11. No condition. -/
import Derived.Test.YtnpihllannobgaaGreatDoorH09
import Derived.Test.YtnpihllannobgaaGreatDoorH08
import Derived.Test.YtnpihllannobgaaGreatDoorH02
import Derived.Deep.DeepCutAuto
import Derived.RegionTactic
namespace Go.Proofs.YtnpihllannobgaaGreatDoor
set_option linter.unusedVariables false
set_option linter.unusedSimpArgs false
set_option maxRecDepth 100000
set_option maxHeartbeats 32000000
open Go.ChangeShapes Go.WideShapes Go.ChangeAt Go.RowKit
def decP(L:List Int):Int×Pk:=
 let s0:RS:=⟨L,0⟩
 let s1:=qN s0 1
 let s2:=qN s1 1
 let s3:=qN s2 6
 let s4:=qN s3 1
 let s5:=qN s4 1
 if 16<qk s4 1 then (3,pk0) else
 let s6:=zP s5 (qk s4 1)
 let s7:=qN s6 1
 if rEnd s7=2 then (2,pk0) else if !inR (qk s6 1) 1 24 then (3,pk0) else
 let s8:=zP s7 (qk s6 1)
 if rEnd s8≠0 then (rEnd s8,pk0) else
 let p:Pk:=⟨qk s0 1,qk s1 1,qk s2 6,qk s3 1,jY s5 (qk s4 1),jY s7 (qk s6 1)⟩
 if mayP p then (0,p) else (3,pk0)
theorem take_nxt{α:Type}(L:List α)(k:Nat)(z:α)(h:L[k]? =some z):L.take (k+1)=L.take k++[z]:=by rw[List.take_add_one,h];rfl
theorem vp(w:World)(r:Nat)(s:RS)(h:Rx w r s)(x:Int)(hx:qk s 1=x)(s':RS)(hs:qN s 1=s'):Calls Tryz.prog 169 #[.pointer (some ⟨r,0,none⟩)] w (PRx w r s' (.int .i64 x)):=by
 have ht:=jW h 1 8 rfl (by omega) x hx s' hs
 have hb:=zG h 1
 rw[hx] at hb
 have h0:0≤x:=hb.1
 have h1:x<256:=hb.2
 have HT:=qQ ht
 clear ht hb hx hs h
 go_enter Tryz.func169,Tryz.ntmps169
 go_wp2_with fail
 with_reducible refine HT.out.mono ?_
 rintro en w1 ⟨rfl,R,G⟩
 have HG:=qQ (And.intro R G)
 clear R G HT
 go_wp2_with fail
 go_ret
 exact⟨rfl,HG.out.1,HG.out.2⟩
def NewR(w w':World)(v:Value)(L:List Int):Prop:=∀own,Z w own→RV VI w' own v L
def PDecP(w:World)(x:Int×Pk)(en:Ending)(w':World):Prop:=
 ∃lv dv,en= .returned (.tuple #[pkV x.2 lv dv,.int .i64 x.1])∧NewR w w' lv x.2.path∧NewB w w' dv x.2.data∧Chg (λ_=>False) w w'
theorem PDecP.err(w w':World)(e:Int)(g:Chg (λ_=>False) w w'):PDecP w (e,pk0) (.returned (.tuple #[pkV pk0 (.slice none 0 0) (.slice none 0 0),.int .i64 e])) w':=
 ⟨_,_,rfl,λown _=>RV.nil _ _ _,λown _=>BO.nil _ _,g⟩
structure PD(w:World)(r b:Nat)(cs:Array Value)(s:RS)(W:World):Prop where
 res:W.heap[w.heap.size]? =some (.cells #[.int .i64 0,.int .i64 0,.int .i64 0,.int .i64 0,.slice none 0 0,.slice none 0 0] 42 (0,0))
 chg:Chg (λ_=>False) w W
 rx:Rx W r s
 blk:W.heap[b]? =some (.cells cs 42 (0,0))
 lt:w.heap.size<r∧r<b∧b<W.heap.size
section
variable {w W W':World}{r b base:Nat}{cs:Array Value}{s s':RS}
theorem PD.kept(h:PD w r b cs s W)(g:Chg (λ_=>False) W W'):PD w r b cs s W':=
 ⟨Chg.keep g h.res (λe=>e),h.chg.trans g,h.rx.kept g,Chg.keep g h.blk (λe=>e),by have:=h.lt;have:=g.size;omega⟩
theorem PD.read(h:PD w r b cs s W)(g:Chg (λj=>j=r) W W')(hr:Rx W' r s'):PD w r b cs s' W':=by
 have hl:=h.lt
 exact⟨Chg.keep g h.res (λe=>by omega),(h.chg.none.trans (g.mono (λj _ e=>(by omega:w.heap.size≤j)))).fresh,hr,Chg.keep g h.blk (λe=>by omega),by have:=g.size;omega⟩
theorem PD.high(h:PD w r b cs s W)(hb:b<base)(g:Chg (λj=>base≤j) W W'):PD w r b cs s W':=by
 have hl:=h.lt
 exact⟨Chg.keep g h.res (λe=>by omega),(h.chg.none.trans (g.mono (λj _ e=>(by omega:w.heap.size≤j)))).fresh,h.rx.keep g (λj h1 h2=>by omega),Chg.keep g h.blk (λe=>by omega),by have:=g.size;omega⟩
theorem PD.set(h:PD w r b cs s W)(k:Nat)(v:Value):PD w r b (cs.setIfInBounds k v) s (W.setCell ⟨b,k,none⟩ v):=by
 have hl:=h.lt
 have g:=chg1 W b k v
 exact⟨Chg.keep g h.res (λe=>by have e:w.heap.size=b:=e;omega),(h.chg.none.trans (g.mono (λj _ e=>(by have e:j=b:=e;omega:w.heap.size≤j)))).fresh,h.rx.keep g (λj h1 h2=>by have h2:j=b:=h2;omega),qB h.blk k v,by have:=g.size;omega⟩
theorem PD.fin(h:PD w r b cs s W)(v0 v1 v2 v3 v4 v5:Value)(W':World)(hW:W'=(((((W.setCell ⟨w.heap.size,0,none⟩ v0).setCell ⟨w.heap.size,1,none⟩ v1).setCell ⟨w.heap.size,2,none⟩ v2).setCell ⟨w.heap.size,3,none⟩ v3).setCell ⟨w.heap.size,4,none⟩ v4).setCell ⟨w.heap.size,5,none⟩ v5):
  W'.heap[w.heap.size]? =some (.cells #[v0,v1,v2,v3,v4,v5] 42 (0,0))∧Chg (λ_=>False) w W'∧Chg (· =w.heap.size) W W':=by
 subst hW
 have gs:=set6 W w.heap.size v0 v1 v2 v3 v4 v5
 exact⟨set6b h.res v0 v1 v2 v3 v4 v5,(h.chg.none.trans (gs.mono (λk _ h=>(by have h:k=w.heap.size:=h;show w.heap.size≤k;omega)))).fresh,gs⟩
end
theorem pdecode_any(w:World)(v:Value)(L:List Int)(h:BS w w.heap.size v L)(hL:L.length≤100000):Calls Tryz.prog 118 #[v] w (PDecP w (decP L)):=by
 obtain⟨R,hR⟩:=qZ (decP L)
 rw[←hR]
 obtain⟨s0,hs0⟩:∃s0:RS,(⟨L,0⟩:RS)=s0:=⟨_,rfl⟩
 obtain⟨x0,hx0⟩:∃x,qk s0 1=x:=⟨_,rfl⟩
 obtain⟨s1,hs1⟩:∃s,qN s0 1=s:=⟨_,rfl⟩
 obtain⟨x1,hx1⟩:∃x,qk s1 1=x:=⟨_,rfl⟩
 obtain⟨s2,hs2⟩:∃s,qN s1 1=s:=⟨_,rfl⟩
 obtain⟨x2,hx2⟩:∃x,qk s2 6=x:=⟨_,rfl⟩
 obtain⟨s3,hs3⟩:∃s,qN s2 6=s:=⟨_,rfl⟩
 obtain⟨x3,hx3⟩:∃x,qk s3 1=x:=⟨_,rfl⟩
 obtain⟨s4,hs4⟩:∃s,qN s3 1=s:=⟨_,rfl⟩
 obtain⟨x4,hx4⟩:∃x,qk s4 1=x:=⟨_,rfl⟩
 obtain⟨s5,hs5⟩:∃s,qN s4 1=s:=⟨_,rfl⟩
 obtain⟨P,hP⟩:∃x,jY s5 x4=x:=⟨_,rfl⟩
 obtain⟨s6,hs6⟩:∃s,zP s5 x4=s:=⟨_,rfl⟩
 obtain⟨x6,hx6⟩:∃x,qk s6 1=x:=⟨_,rfl⟩
 obtain⟨s7,hs7⟩:∃s,qN s6 1=s:=⟨_,rfl⟩
 obtain⟨q7,hq7⟩:∃q,rEnd s7=q:=⟨_,rfl⟩
 obtain⟨T,hT⟩:∃x,jY s7 x6=x:=⟨_,rfl⟩
 obtain⟨s8,hs8⟩:∃s,zP s7 x6=s:=⟨_,rfl⟩
 obtain⟨q8,hq8⟩:∃q,rEnd s8=q:=⟨_,rfl⟩
 have hr:R=if 16<x4 then (3,pk0) else if q7=2 then (2,pk0) else if !inR x6 1 24 then (3,pk0) else if q8≠0 then (q8,pk0) else if mayP ⟨x0,x1,x2,x3,P,T⟩ then (0,⟨x0,x1,x2,x3,P,T⟩) else (3,pk0):=by
  rw[hR];unfold decP;simp only[hs0,hx0,hs1,hx1,hs2,hx2,hs3,hx3,hs4,hx4,hs5,hP,hs6,hx6,hs7,hq7,hT,hs8,hq8]
 have HR:=qQ hr
 have HX0:=qQ (And.intro hx0 hs1)
 have HX1:=qQ (And.intro hx1 hs2)
 have HX2:=qQ (And.intro hx2 hs3)
 have HX3:=qQ (And.intro hx3 hs4)
 have HX4:=qQ (And.intro hx4 hs5)
 have HP:=qQ (And.intro hP hs6)
 have HX6:=qQ (And.intro hx6 hs7)
 have HQ7:=qQ hq7
 have HT:=qQ (And.intro hT hs8)
 have HQ8:=qQ hq8
 have HS0:=qQ hs0
 have ga:=Chg.alloc (λ_=>False) w (.cells #[.int .i64 0,.int .i64 0,.int .i64 0,.int .i64 0,.slice none 0 0,.slice none 0 0] 42)
 have hb0:=qV w (.cells #[.int .i64 0,.int .i64 0,.int .i64 0,.int .i64 0,.slice none 0 0,.slice none 0 0] 42)
 have HN:=qQ (rx_new _ v L ((h.kept ga).more ga.size) hL)
 obtain⟨A,c,hv,_⟩:=h
 obtain⟨n,hn⟩:=qZ L.length
 rw[←hn] at hv
 subst hv
 have HB:=qQ (And.intro hb0 ga)
 clear hR hs0 hx0 hs1 hx1 hs2 hx2 hs3 hx3 hs4 hx4 hs5 hP hs6 hx6 hs7 hq7 hT hs8 hq8 hr ga hb0 hn hL
 obtain⟨wz,hwz⟩:=qZ w.heap.size
 go_enter Tryz.func118,Tryz.ntmps118
 go_wp2_with fail
 with_reducible refine HN.out.mono ?_
 rintro en w1 ⟨r,rfl,Rr,hrr,G1⟩
 rw[HS0.out] at Rr
 have HRL:=qQ (show w.heap.size<r by have:=qX HB.out.1;omega)
 have HB1:=qQ (And.intro (Chg.keep G1 HB.out.1 (λe=>e)) (HB.out.2.trans G1))
 have HX:=qQ Rr
 clear G1 HB HN Rr hrr
 go_wp2_with fail
 (with_reducible refine (vp _ r _ HX.out _ HX0.out.1 _ HX0.out.2).mono ?_)
 rintro en w2 ⟨rfl,Rr,G⟩
 have HB2:=qQ (And.intro (Chg.keep G HB1.out.1 (λe=>by have e:w.heap.size=r:=e;have:=HRL.out;omega)) (((HB1.out.2.none (S:=λq=>w.heap.size≤q)).trans (G.mono (λj _ e=>by have e:j=r:=e;have:=HRL.out;omega))).fresh))
 clear HX
 have HX:=qQ Rr
 clear Rr G HB1 HX0
 go_wp2_with fail
 (with_reducible refine (vp _ r _ HX.out _ HX1.out.1 _ HX1.out.2).mono ?_)
 rintro en w3 ⟨rfl,Rr,G⟩
 have HB3:=qQ (And.intro (Chg.keep G HB2.out.1 (λe=>by have e:w.heap.size=r:=e;have:=HRL.out;omega)) (((HB2.out.2.none (S:=λq=>w.heap.size≤q)).trans (G.mono (λj _ e=>by have e:j=r:=e;have:=HRL.out;omega))).fresh))
 clear HX
 have HX:=qQ Rr
 clear Rr G HB2 HX1
 go_wp2_with fail
 have hx2b:=zG HX.out 6
 rw[HX2.out.1] at hx2b
 obtain⟨hx2a,hx2c⟩:=hx2b
 have hx2c:x2<281474976710656:=hx2c
 (with_reducible refine (jW HX.out 6 48 rfl (by omega) _ HX2.out.1 _ HX2.out.2).mono ?_)
 rintro en w4 ⟨rfl,Rr,G⟩
 have HB4:=qQ (And.intro (Chg.keep G HB3.out.1 (λe=>by have e:w.heap.size=r:=e;have:=HRL.out;omega)) (((HB3.out.2.none (S:=λq=>w.heap.size≤q)).trans (G.mono (λj _ e=>by have e:j=r:=e;have:=HRL.out;omega))).fresh))
 clear HX
 have HX:=qQ Rr
 clear Rr G HB3 HX2
 go_wp2_with fail
 (with_reducible refine (vp _ r _ HX.out _ HX3.out.1 _ HX3.out.2).mono ?_)
 rintro en w5 ⟨rfl,Rr,G⟩
 have HB5:=qQ (And.intro (Chg.keep G HB4.out.1 (λe=>by have e:w.heap.size=r:=e;have:=HRL.out;omega)) (((HB4.out.2.none (S:=λq=>w.heap.size≤q)).trans (G.mono (λj _ e=>by have e:j=r:=e;have:=HRL.out;omega))).fresh))
 clear HX
 have HX:=qQ Rr
 clear Rr G HB4 HX3
 go_wp2_with fail
 clear hx2a hx2c
 have hD:PD w r w5.heap.size #[.int .i64 x0,.int .i64 x1,.int .i64 x2,.int .i64 x3,.slice none 0 0,.slice none 0 0] s4 (w5.alloc (.cells #[.int .i64 x0,.int .i64 x1,.int .i64 x2,.int .i64 x3,.slice none 0 0,.slice none 0 0] 42)):=by
  have g:=Chg.alloc (λ_=>False) w5 (.cells #[.int .i64 x0,.int .i64 x1,.int .i64 x2,.int .i64 x3,.slice none 0 0,.slice none 0 0] 42)
  exact⟨Chg.keep g HB5.out.1 (λe=>e),HB5.out.2.trans g,HX.out.kept g,qV _ _,HRL.out,HX.out.lt,by simp⟩
 have HD:=qQ hD
 clear hD HX HB5 HRL
 generalize w5.alloc (.cells #[.int .i64 x0,.int .i64 x1,.int .i64 x2,.int .i64 x3,.slice none 0 0,.slice none 0 0] 42)=w6 at *
 generalize w5.heap.size=b at *
 (with_reducible refine (vp _ r _ HD.out.rx _ HX4.out.1 _ HX4.out.2).mono ?_)
 rintro en w7 ⟨rfl,Rr,G⟩
 have h4b:=zG HD.out.rx 1
 rw[HX4.out.1] at h4b
 have HD7:=qQ (HD.out.read G Rr)
 clear G Rr HD HX4
 obtain⟨h4a,h4c⟩:=h4b
 have h4c:x4<256:=h4c
 by_cases h16:16<x4
 ·have b16:decide (16<x4)=true:=by simpa using h16
  have HRF:=qQ (show R=(3,pk0) from by rw[HR.out,if_pos h16])
  clear h16
  obtain⟨c0,c1,c2,c3,c4,c5⟩:=qC HD7.out.res
  obtain⟨f0,f1,f2,f3,f4,f5⟩:=zF HD7.out.res
  go_wp2_with fail
  obtain⟨hbk,G,_⟩:=HD7.out.fin (.int .i64 0) (.int .i64 0) (.int .i64 0) (.int .i64 0) (.slice none 0 0) (.slice none 0 0) _ rfl
  obtain⟨k0,k1,k2,k3,k4,k5⟩:=qC hbk
  rw[HRF.out]
  exact bodyPost_ret (v:= .tuple #[pkV pk0 (.slice none 0 0) (.slice none 0 0),.int .i64 3]) (by simp[results,Tryz.results118,go_sem,pkV,pk0,k0,k1,k2,k3,k4,k5]) rfl (PDecP.err _ _ _ G)
 have b16:decide (16<x4)=false:=by simpa using h16
 have HR2:=qQ HR.out
 rw[if_neg h16] at HR2
 clear HR
 have h16':x4≤16:=by omega
 clear h16
 go_wp2_with fail
 (with_reducible refine (rx_text w7 r s5 x4 HD7.out.rx (by omega)).mono ?_)
 rintro en w8 ⟨tv,rfl,hown,Rr,G,heb,hel⟩
 rw[HP.out.1] at hown heb hel
 rw[HP.out.2] at Rr
 have hP16:P.length≤16:=by
  rw[←HP.out.1]
  unfold jY
  split
  ·rw[List.length_take];omega
  ·simp
 have HD8:=qQ (HD7.out.read G Rr)
 obtain⟨m,hm⟩:=qZ P.length
 rw[←hm] at hown hP16
 have htv:∃tA tc,tv= .slice tA m tc:=by
  rcases qD hown with ⟨e,h0,_⟩|⟨g,cap,e,_⟩
  ·exact⟨none,0,by rw[e,h0]⟩
  ·exact⟨_,_,e⟩
 obtain⟨tA,tc,rfl⟩:=htv
 have HTX:=qQ (And.intro hown (And.intro heb hm))
 have HBL:=qQ (show b<w7.heap.size∧b<w8.heap.size from ⟨HD7.out.lt.2.2,HD8.out.lt.2.2⟩)
 clear hown heb hel hm Rr G HD7 HP
 go_wp2_with fail
 clear b16 h4a h4c h16'
 go_loopw [32] (λi wr=>∃(k:Nat) (u:Value),k≤m∧i= .int .i64 k∧PD w r b #[.int .i64 x0,.int .i64 x1,.int .i64 x2,.int .i64 x3,u,.slice none 0 0] s6 wr∧wr.ownsRow w8.heap.size 3 1 u k ((P.take k).map VI)∧Chg (λj=>j=b∨w8.heap.size≤j) w8 wr) (λi _=>m-(intOf i).toNat)
 case atStart=>exact⟨0,.slice none 0 0,by omega,rfl,HD8.out,World.ownsRow_nil _ _ _ _,Chg.refl _ _⟩
 case round=>
  obtain⟨k,u,hk,rfl,hD,hU,hG⟩:=hrel
  have HDR:=qQ hD
  have HU:=qQ hU
  have HG:=qQ hG
  obtain⟨uA,uc,rfl⟩:∃uA uc,u= .slice uA k uc:=by
   rcases qD hU with ⟨e,h0,_⟩|⟨g,cap,e,_⟩
   ·exact⟨none,0,by rw[e,h0]⟩
   ·exact⟨_,_,e⟩
  have htr:=qY HTX.out.1 hG (λj h1 h2=>by have:=qS HTX.out.1 h1;have:=HBL.out;have:=qX HD8.out.blk;omega)
  have HTR:=qQ htr
  clear hD hU hG htr
  by_cases hlt:k<m
  ·obtain⟨z,hz⟩:∃z,P[k]? =some z:=⟨_,List.getElem?_eq_getElem (by have:=HTX.out.2.2;omega)⟩
   obtain⟨g,cap2,hvv⟩:∃g cap2,tA=some ⟨g,0,none⟩∧tc=cap2:=by
    rcases qD HTX.out.1 with ⟨e,h1,_⟩|⟨g,cap2,e,_⟩
    ·omega
    ·cases e;exact⟨_,_,rfl,rfl⟩
   obtain⟨rfl,rfl⟩:=hvv
   have hc:=qp HTR.out k (V8 z) (by rw[List.getElem?_map,hz];rfl)
   obtain⟨z0,z1⟩:=HTX.out.2.1 z (List.mem_of_getElem? hz)
   have HNX:=qQ (take_nxt P k z hz)
   unfold V8 at hc
   obtain⟨c0,c1,c2,c3,c4,c5⟩:=qC HDR.out.blk
   have i1:(k:Int)<(m:Int):=by omega
   have hk16:(k:Int)≤16:=by omega
   have hbw:¬b=wr.heap.size:=by have:=HDR.out.lt;omega
   clear hz
   go_wp2_with (at_builtin;go_loud (refine app1 (V:=VI) elI rfl (.tmp 37) (.tmp 40) rfl w8.heap.size (.slice uA k uc) k ((P.take k).map VI) rfl (HU.out.alloc _) wr.heap.size z rfl ?c1 rfl (by omega) (by omega) ?hb ?grow))
   case c1=>simp[VI]
   case hb=>have:=HG.out.size;simp;omega
   case grow=>
    intro v4 w4 hown hgr hat
    have ga:=Chg.alloc (λ_=>False) wr (.cells #[.int .i64 z] 3)
    have gg:=qH (S:=λj=>w8.heap.size≤j) hgr (λj e=>(qS HU.out e).1)
    have hD4:=(HDR.out.kept ga).high HBL.out.2 gg
    have hX:w4.ownsRow w8.heap.size 3 1 v4 (k+1) ((P.take (k+1)).map VI):=by rw[HNX.out,List.map_append,List.map_take];exact hown
    obtain⟨vA,vc,rfl⟩:∃vA vc,v4= .slice vA (k+1) vc:=by
     rcases qD hX with ⟨e,h0,_⟩|⟨g,cap,e,_⟩
     ·omega
     ·exact⟨_,_,e⟩
    have gS:=chg1 w4 b 4 (.slice vA (k+1) vc)
    have hX5:=qY hX gS (λj h1 h2=>by have:=(qS hX h1).1;have:=HBL.out;have h2:j=b:=h2;omega)
    have HX5:=qQ (And.intro (hD4.set 4 (.slice vA (k+1) vc)) (And.intro hX5 (((HG.out.trans ga.none).trans (gg.mono (λj _ h=> .inr h))).trans (gS.mono (λj _ h=> .inl h)))))
    obtain⟨e0,e1,e2,e3,e4,e5⟩:=qC hD4.blk
    have f4:=qK hD4.blk 4
    clear hown hgr hat ga gg hX hD4 gS hX5 HU HDR HG hc c0 c1 c2 c3 c4 c5 hbw
    go_wp2_with fail
    go_roundw
    case measure=>simp[intOf];omega
    case rel=>exact⟨k+1,_,by omega,by go_num,HX5.out⟩
  ·obtain rfl:m=k:=by omega
   have hPP:RV VI wr (λ_=>0) (.slice uA m uc) P:=by
    have:=HU.out
    rw[List.take_of_length_le (by have:=HTX.out.2.2;omega),HTX.out.2.2] at this
    rw[HTX.out.2.2]
    exact RV.of_own this (λ_ _=>rfl)
   have HPP:=qQ hPP
   have HUW:=HU
   rw[List.take_of_length_le (by have:=HTX.out.2.2;omega)] at HUW
   have HSZ:=qQ (show w.heap.size≤w8.heap.size from HD8.out.chg.size)
   clear hPP HG HTR HD8 HU hk hlt
   go_wp2_with fail
   (with_reducible refine (vp _ r _ HDR.out.rx _ HX6.out.1 _ HX6.out.2).mono ?_)
   rintro en w9 ⟨rfl,Rr,G⟩
   have h6b:=zG HDR.out.rx 1
   rw[HX6.out.1] at h6b
   obtain⟨h6a,h6c⟩:=h6b
   have h6c:x6<256:=h6c
   have HD9:=qQ (HDR.out.read G Rr)
   have HU9:=qQ (qY HUW.out G (λj h1 h2=>by have:=(qS HUW.out h1).1;have:=HBL.out;have:=HDR.out.lt;have h2:j=r:=h2;omega))
   clear G Rr HX6 HUW HPP
   go_wp2_with fail
   (with_reducible refine (rx_end w9 r s7 HD9.out.rx).mono ?_)
   rintro en w10 ⟨rfl,Rr,G⟩
   rw[HQ7.out]
   have HD10:=qQ (HD9.out.read G Rr)
   have HU10:=qQ (qY HU9.out G (λj h1 h2=>by have:=(qS HU9.out h1).1;have:=HBL.out;have:=HDR.out.lt;have h2:j=r:=h2;omega))
   clear G Rr HD9 HU9 HQ7
   by_cases h7:q7=2
   ·have b7:(q7==2)=true:=by simp[h7]
    have HRF:=qQ (show R=(2,pk0) from by rw[HR2.out,if_pos h7])
    clear h7
    obtain⟨c0,c1,c2,c3,c4,c5⟩:=qC HD10.out.res
    obtain⟨f0,f1,f2,f3,f4,f5⟩:=zF HD10.out.res
    go_wp2_with fail
    obtain⟨hbk,G,_⟩:=HD10.out.fin (.int .i64 0) (.int .i64 0) (.int .i64 0) (.int .i64 0) (.slice none 0 0) (.slice none 0 0) _ rfl
    obtain⟨k0,k1,k2,k3,k4,k5⟩:=qC hbk
    rw[HRF.out]
    exact bodyPost_ret (v:= .tuple #[pkV pk0 (.slice none 0 0) (.slice none 0 0),.int .i64 2]) (by simp[results,Tryz.results118,go_sem,pkV,pk0,k0,k1,k2,k3,k4,k5]) rfl (PDecP.err _ _ _ G)
   have b7:(q7==2)=false:=by simp[h7]
   have HR3:=qQ HR2.out
   rw[if_neg h7] at HR3
   clear HR2 h7
   go_wp2_with fail
   (with_reducible refine (rin_any x6 1 24 _).mono ?_)
   rintro en w10' ⟨rfl,rfl⟩
   by_cases h24:inR x6 1 24=true
   case neg=>
    have h24:inR x6 1 24=false:=by simpa using h24
    have HRF:=qQ (show R=(3,pk0) from by rw[HR3.out,h24];rfl)
    rw[h24]
    clear h24
    obtain⟨c0,c1,c2,c3,c4,c5⟩:=qC HD10.out.res
    obtain⟨f0,f1,f2,f3,f4,f5⟩:=zF HD10.out.res
    go_wp2_with fail
    obtain⟨hbk,G,_⟩:=HD10.out.fin (.int .i64 0) (.int .i64 0) (.int .i64 0) (.int .i64 0) (.slice none 0 0) (.slice none 0 0) _ rfl
    obtain⟨k0,k1,k2,k3,k4,k5⟩:=qC hbk
    rw[HRF.out]
    exact bodyPost_ret (v:= .tuple #[pkV pk0 (.slice none 0 0) (.slice none 0 0),.int .i64 3]) (by simp[results,Tryz.results118,go_sem,pkV,pk0,k0,k1,k2,k3,k4,k5]) rfl (PDecP.err _ _ _ G)
   have HR4:=qQ HR3.out
   rw[h24] at HR4
   rw[h24]
   have HR5:Hid (R=if q8≠0 then (q8,pk0) else if mayP ⟨x0,x1,x2,x3,P,T⟩ then (0,⟨x0,x1,x2,x3,P,T⟩) else (3,pk0)):=qQ (by rw[HR4.out];rfl)
   clear HR3 HR4 h24 b7
   go_wp2_with fail
   (with_reducible refine (rx_text w10' r s7 x6 HD10.out.rx (by omega)).mono ?_)
   rintro en w11 ⟨dv,rfl,hown,Rr,G,hdb,hdl⟩
   rw[HT.out.1] at hown hdb hdl
   rw[HT.out.2] at Rr
   have HD11:=qQ (HD10.out.read G Rr)
   have HU11:=qQ (qY HU10.out G (λj h1 h2=>by have:=(qS HU10.out h1).1;have:=HBL.out;have:=HDR.out.lt;have h2:j=r:=h2;omega))
   obtain⟨AD,cD,rfl,_⟩:=BS.of_own hown hdb
   have HDT:=qQ (And.intro hown (And.intro hdb hdl))
   have HDB:=qQ (show b<w10'.heap.size from HD10.out.lt.2.2)
   have HWS:=qQ (show w.heap.size≤w10'.heap.size from HD10.out.chg.size)
   obtain⟨c0,c1,c2,c3,c4,c5⟩:=qC HD11.out.blk
   have f5:=qK HD11.out.blk 5
   have gS:=chg1 w11 b 5 (.slice AD T.length cD)
   have HD12:=qQ (HD11.out.set 5 (.slice AD T.length cD))
   have HU12:=qQ (qY HU11.out gS (λj h1 h2=>by have:=(qS HU11.out h1).1;have:=HBL.out;have h2:j=b:=h2;omega))
   have HT12:=qQ (qY hown gS (λj h1 h2=>by have:=(qS hown h1).1;have:=HDB.out;have h2:j=b:=h2;omega))
   clear hown Rr G hdb hdl HT HU10 HD10 gS h6a h6c
   go_wp2_with fail
   clear c0 c1 c2 c3 c4 c5 f5
   generalize w11.setCell ⟨b,5,none⟩ (.slice AD T.length cD)=w12 at *
   (with_reducible refine (rx_end w12 r s8 HD12.out.rx).mono ?_)
   rintro en w13 ⟨rfl,Rr,G⟩
   rw[HQ8.out]
   have HD13:=qQ (HD12.out.read G Rr)
   have HU13:=qQ (qY HU12.out G (λj h1 h2=>by have:=(qS HU12.out h1).1;have:=HBL.out;have:=HDR.out.lt;have h2:j=r:=h2;omega))
   have HT13:=qQ (qY HT12.out G (λj h1 h2=>by have:=(qS HT12.out h1).1;have:=HDB.out;have:=HDR.out.lt;have h2:j=r:=h2;omega))
   clear G Rr HD11 HU11 HD12 HU12 HT12 HQ8
   by_cases h8:q8=0
   case neg=>
    have b8:(q8 != 0)=true:=by simp[h8]
    have b8':(q8==0)=false:=by simp[h8]
    have HRF:=qQ (show R=(q8,pk0) from by rw[HR5.out,if_pos h8])
    clear h8
    obtain⟨c0,c1,c2,c3,c4,c5⟩:=qC HD13.out.res
    obtain⟨f0,f1,f2,f3,f4,f5⟩:=zF HD13.out.res
    go_wp2_with fail
    obtain⟨hbk,G,_⟩:=HD13.out.fin (.int .i64 0) (.int .i64 0) (.int .i64 0) (.int .i64 0) (.slice none 0 0) (.slice none 0 0) _ rfl
    obtain⟨k0,k1,k2,k3,k4,k5⟩:=qC hbk
    rw[HRF.out]
    exact bodyPost_ret (v:= .tuple #[pkV pk0 (.slice none 0 0) (.slice none 0 0),.int .i64 q8]) (by simp[results,Tryz.results118,go_sem,pkV,pk0,k0,k1,k2,k3,k4,k5]) rfl (PDecP.err _ _ _ G)
   have HR6:=qQ HR5.out
   rw[if_neg (λe=>e h8)] at HR6
   have b8:(q8 != 0)=false:=by simp[h8]
   clear HR5 h8
   have hPO:PO w13 (λ_=>0) (.slice uA m uc) (.slice AD T.length cD) ⟨x0,x1,x2,x3,P,T⟩:=by
    refine⟨?_,BO.of_own HT13.out HDT.out.2.1 (λ_ _=>rfl)⟩
    have:=HU13.out
    rw[HTX.out.2.2] at this ⊢
    exact RV.of_own this (λ_ _=>rfl)
   have HMAY:=qQ (pmay_any w13 _ ⟨x0,x1,x2,x3,P,T⟩ _ _ hPO (by have:=HTX.out.2.2;show P.length≤100000;omega) HDT.out.2.2)
   unfold pkV at HMAY
   obtain⟨d0,d1,d2,d3,d4,d5⟩:=qC HD13.out.blk
   clear hPO
   go_wp2_with fail
   with_reducible refine HMAY.out.mono ?_
   rintro en w14 ⟨rfl,G⟩
   have HD14:=qQ (HD13.out.kept G)
   have HU14:=qQ (qY HU13.out G (λ_ _ e=>e))
   have HT14:=qQ (qY HT13.out G (λ_ _ e=>e))
   clear d0 d1 d2 d3 d4 d5 G HMAY HD13 HU13 HT13 b8
   by_cases hmp:mayP ⟨x0,x1,x2,x3,P,T⟩=true
   case neg=>
    have hmp:mayP ⟨x0,x1,x2,x3,P,T⟩=false:=by simpa using hmp
    have HRF:=qQ (show R=(3,pk0) from by rw[HR6.out,hmp];rfl)
    rw[hmp]
    clear hmp
    obtain⟨c0,c1,c2,c3,c4,c5⟩:=qC HD14.out.res
    obtain⟨f0,f1,f2,f3,f4,f5⟩:=zF HD14.out.res
    go_wp2_with fail
    obtain⟨hbk,G,_⟩:=HD14.out.fin (.int .i64 0) (.int .i64 0) (.int .i64 0) (.int .i64 0) (.slice none 0 0) (.slice none 0 0) _ rfl
    obtain⟨k0,k1,k2,k3,k4,k5⟩:=qC hbk
    rw[HRF.out]
    exact bodyPost_ret (v:= .tuple #[pkV pk0 (.slice none 0 0) (.slice none 0 0),.int .i64 3]) (by simp[results,Tryz.results118,go_sem,pkV,pk0,k0,k1,k2,k3,k4,k5]) rfl (PDecP.err _ _ _ G)
   have HRF:=qQ (show R=(0,⟨x0,x1,x2,x3,P,T⟩) from by rw[HR6.out,hmp];rfl)
   rw[hmp]
   clear hmp
   obtain⟨c0,c1,c2,c3,c4,c5⟩:=qC HD14.out.res
   obtain⟨f0,f1,f2,f3,f4,f5⟩:=zF HD14.out.res
   obtain⟨d0,d1,d2,d3,d4,d5⟩:=qC HD14.out.blk
   go_wp2_with fail
   obtain⟨hbk,G,GS⟩:=HD14.out.fin (.int .i64 x0) (.int .i64 x1) (.int .i64 x2) (.int .i64 x3) (.slice uA m uc) (.slice AD T.length cD) _ rfl
   obtain⟨k0,k1,k2,k3,k4,k5⟩:=qC hbk
   rw[HRF.out]
   exact bodyPost_ret (v:= .tuple #[pkV ⟨x0,x1,x2,x3,P,T⟩ (.slice uA m uc) (.slice AD T.length cD),.int .i64 0]) (by simp[results,Tryz.results118,go_sem,pkV,k0,k1,k2,k3,k4,k5]) rfl
    ⟨_,_,rfl,λown' hz=>by
     have h1:=qY HU14.out GS (λj h1 h2=>by have:=(qS HU14.out h1).1;have:=HBL.out;have:=HDR.out.lt;have h2:j=w.heap.size:=h2;omega)
     have h2:(⟨x0,x1,x2,x3,P,T⟩:Pk).path=P:=rfl
     rw[HTX.out.2.2] at h1 ⊢
     exact RV.of_own h1 (λk hk=>hz k (by have:=HSZ.out;omega)),λown' hz=>by
     have h1:=qY HT14.out GS (λj h1 h2=>by have:=(qS HT14.out h1).1;have:=HDB.out;have:=HDR.out.lt;have h2:j=w.heap.size:=h2;omega)
     exact BO.of_own h1 HDT.out.2.1 (λk hk=>hz k (by have:=HWS.out;omega)),G⟩
def OwnP(w w':World)(lv dv:Value)(p:Pk):Prop:=
 w'.ownsRow w.heap.size 3 1 lv p.path.length (p.path.map VI)∧w'.ownsRow w.heap.size 5 1 dv p.data.length (p.data.map V8)∧(∀x∈p.data,0≤x∧x<256)
def POwnP(w:World)(p:Pk)(en:Ending)(w':World):Prop:=∃lv dv,en= .returned (pkV p lv dv)∧OwnP w w' lv dv p∧Chg (λ_=>False) w w'
structure PB2(w:World)(b:Nat)(S D N F:Int)(lv dv:Value)(W:World):Prop where
 blk:W.heap[w.heap.size]? =some (.cells #[.int .i64 S,.int .i64 D,.int .i64 N,.int .i64 F,lv,dv] 42 (0,0))
 res:W.heap[b]? =some (.cells #[.int .i64 0,.int .i64 0,.int .i64 0,.int .i64 0,.slice none 0 0,.slice none 0 0] 42 (0,0))
 chg:Chg (λ_=>False) w W
 lt:w.heap.size<b
section
variable {w W W':World}{b base:Nat}{S D N F:Int}{lv dv:Value}
theorem PB2.kept(h:PB2 w b S D N F lv dv W)(g:Chg (λ_=>False) W W'):PB2 w b S D N F lv dv W':=
 ⟨Chg.keep g h.blk (λe=>e),Chg.keep g h.res (λe=>e),h.chg.trans g,h.lt⟩
theorem PB2.start(w:World)(S D N F:Int)(lv dv:Value):PB2 w (w.heap.size+1) S D N F lv dv ((w.alloc (.cells #[.int .i64 S,.int .i64 D,.int .i64 N,.int .i64 F,lv,dv] 42)).alloc (.cells #[.int .i64 0,.int .i64 0,.int .i64 0,.int .i64 0,.slice none 0 0,.slice none 0 0] 42)):=by
 have g1:=Chg.alloc (λ_=>False) w (.cells #[.int .i64 S,.int .i64 D,.int .i64 N,.int .i64 F,lv,dv] 42)
 have g2:=Chg.alloc (λ_=>False) (w.alloc (.cells #[.int .i64 S,.int .i64 D,.int .i64 N,.int .i64 F,lv,dv] 42)) (.cells #[.int .i64 0,.int .i64 0,.int .i64 0,.int .i64 0,.slice none 0 0,.slice none 0 0] 42)
 have b2:=qV (w.alloc (.cells #[.int .i64 S,.int .i64 D,.int .i64 N,.int .i64 F,lv,dv] 42)) (.cells #[.int .i64 0,.int .i64 0,.int .i64 0,.int .i64 0,.slice none 0 0,.slice none 0 0] 42)
 rw[show (w.alloc (.cells #[.int .i64 S,.int .i64 D,.int .i64 N,.int .i64 F,lv,dv] 42)).heap.size=w.heap.size+1 by simp] at b2
 exact⟨Chg.keep g2 (qV _ _) (λe=>e),b2,g1.trans g2,by omega⟩
theorem PB2.setb(h:PB2 w b S D N F lv dv W)(g:Chg (λj=>j=w.heap.size) W W')(S' D' N' F':Int)(lv' dv':Value)(hb:W'.heap[w.heap.size]? =some (.cells #[.int .i64 S',.int .i64 D',.int .i64 N',.int .i64 F',lv',dv'] 42 (0,0))):PB2 w b S' D' N' F' lv' dv' W':=by
 have hl:=h.lt
 exact⟨hb,Chg.keep g h.res (λe=>by omega),(h.chg.none.trans (g.mono (λj _ e=>(by omega:w.heap.size≤j)))).fresh,h.lt⟩
theorem PB2.fin(h:PB2 w b S D N F lv dv W)(v0 v1 v2 v3 v4 v5:Value)(W':World)(hW:W'=(((((W.setCell ⟨b,0,none⟩ v0).setCell ⟨b,1,none⟩ v1).setCell ⟨b,2,none⟩ v2).setCell ⟨b,3,none⟩ v3).setCell ⟨b,4,none⟩ v4).setCell ⟨b,5,none⟩ v5):
  W'.heap[b]? =some (.cells #[v0,v1,v2,v3,v4,v5] 42 (0,0))∧Chg (λ_=>False) w W'∧Chg (· =b) W W':=by
 subst hW
 have gs:=set6 W b v0 v1 v2 v3 v4 v5
 have hl:=h.lt
 exact⟨set6b h.res v0 v1 v2 v3 v4 v5,(h.chg.none.trans (gs.mono (λk _ h=>(by have h:k=b:=h;omega:w.heap.size≤k)))).fresh,gs⟩
end
theorem set45(w:World)(a:Nat)(v4 v5:Value):Chg (λj=>j=a) w ((w.setCell ⟨a,4,none⟩ v4).setCell ⟨a,5,none⟩ v5):=(chg1 w a 4 v4).trans (chg1 _ a 5 v5)
theorem set45b{w:World}{a:Nat}{a0 a1 a2 a3 a4 a5:Value}{t:TypeId}(h:w.heap[a]? =some (.cells #[a0,a1,a2,a3,a4,a5] t (0,0))) (v4 v5:Value):((w.setCell ⟨a,4,none⟩ v4).setCell ⟨a,5,none⟩ v5).heap[a]? =some (.cells #[a0,a1,a2,a3,v4,v5] t (0,0)):=by
 have h5:=qB (qB h 4 v4) 5 v5
 simpa using h5
theorem pown_any(w:World)(own:Cls)(p:Pk)(lv dv:Value)(h:PO w own lv dv p)(hL:p.path.length≤100000)(hD:p.data.length≤100000):Calls Tryz.prog 295 #[pkV p lv dv] w (POwnP w p):=by
 obtain⟨S,D,N,F,P,T⟩:=p
 dsimp only at hL hD
 have HB:=qQ (PB2.start w S D N F lv dv)
 have HCI:=qQ (show∀W,Chg (λ_=>False) w W→Calls Tryz.prog 29 #[lv] W (PNew VI 3 W P) from λW g=>by
  obtain⟨A,c,e,h1,h2,_⟩:=(h.1.keep g (λ_ _ e=>e)).rs
  rw[e];exact jF W A P.length c P h1 h2 hL)
 have HC8:=qQ (show∀W,Chg (λ_=>False) w W→Calls Tryz.prog 41 #[dv] W (PNew V8 5 W T) from λW g=>by
  obtain⟨A,c,e,h1,h2,_⟩:=(h.2.keep g (λ_ _ e=>e)).bs
  rw[e];exact vX W A T.length c T h1 h2 hD)
 have HDB:=qQ (show∀x∈T,0≤x∧x<256 from h.2.2)
 obtain⟨lA,lc,hlv,_⟩:=h.1
 obtain⟨⟨dA,dc,hdv,_⟩,_⟩:=h.2
 obtain⟨m,hm⟩:=qZ P.length
 obtain⟨n,hn⟩:=qZ T.length
 rw[←hn] at hdv
 rw[←hm] at hlv
 subst hlv hdv
 clear h hm hn hL hD
 unfold pkV
 go_enter Tryz.func295,Tryz.ntmps295
 go_wp2_with fail
 obtain⟨b,hbe⟩:=qZ (w.heap.size+1)
 rw[←hbe] at HB ⊢
 clear hbe
 generalize (w.alloc (.cells #[.int .i64 S,.int .i64 D,.int .i64 N,.int .i64 F,.slice lA m lc,.slice dA n dc] 42)).alloc (.cells #[.int .i64 0,.int .i64 0,.int .i64 0,.int .i64 0,.slice none 0 0,.slice none 0 0] 42)=w1 at *
 obtain⟨a,hae⟩:=qZ w.heap.size
 obtain⟨d0,d1,d2,d3,d4,d5⟩:=qC HB.out.blk
 rw[←hae] at d0 d1 d2 d3 d4 d5 ⊢
 have HAE:=qQ hae
 have HF:=qQ (show∀W,Chg (λ_=>False) w1 W→W.heap[a]? =some (.cells #[.int .i64 S,.int .i64 D,.int .i64 N,.int .i64 F,.slice lA m lc,.slice dA n dc] 42 (0,0)) from λW g=>by rw[hae];exact Chg.keep g HB.out.blk (λe=>e))
 clear hae
 go_cut [] (λwx=>∃v1 v2,PB2 w b S D N F v1 v2 wx∧wx.ownsRow w.heap.size 3 1 v1 P.length (P.map VI)∧wx.ownsRow w.heap.size 5 1 v2 T.length (T.map V8))
 case first=>
  go_region_with (first
   |(go_at_call 29;refine (HCI.out _ (HB.out.chg.trans (Chg.drew _ w1))).mono ?_;rintro en wp ⟨v1,rfl,O1,g1⟩
     obtain⟨A1,n1,c1,rfl⟩:∃A n c,v1= .slice A n c:=by rcases qD O1 with ⟨e,_⟩|⟨g,cap,e,_⟩ <;> exact⟨_,_,_,e⟩
     have O1:=qQ O1
     have HG3:=qQ ((Chg.drew (λ_=>False) w1).trans g1)
     have hbp:=HF.out _ HG3.out
     obtain⟨d0,d1,d2,d3,d4,d5⟩:=qC hbp
     have fp4:=qK hbp 4
     have fp5:=qK hbp 5)
   |(go_at_call 41;refine (HC8.out _ (HB.out.chg.trans HG3.out)).mono ?_;rintro en wq ⟨v2,rfl,O2,g2⟩
     obtain⟨A2,n2,c2,rfl⟩:∃A n c,v2= .slice A n c:=by rcases qD O2 with ⟨e,_⟩|⟨g,cap,e,_⟩ <;> exact⟨_,_,_,e⟩
     have O2:=qQ O2
     have HG4:=qQ (HG3.out.trans g2)
     have hbq:=HF.out _ HG4.out
     obtain⟨d0,d1,d2,d3,d4,d5⟩:=qC hbq
     have fq4:=qK hbq 4
     have fq5:=qK hbq 5))
  all_goals
   go_wp2_with fail
   go_meet
   refine⟨.slice A1 n1 c1,.slice A2 n2 c2,?_,?_,?_⟩
   ·exact (HB.out.kept HG4.out).setb (by rw[←HAE.out];exact set45 wq a (.slice A1 n1 c1) (.slice A2 n2 c2)) S D N F (.slice A1 n1 c1) (.slice A2 n2 c2) (by rw[←HAE.out];exact set45b hbq (.slice A1 n1 c1) (.slice A2 n2 c2))
   ·exact qY (qY (qj O1.out HB.out.chg.size) g2 (λ_ _ e=>e)) (set45 wq a (.slice A1 n1 c1) (.slice A2 n2 c2)) (λj h1 h2=>by
     have:=(qS O1.out h1).1
     have h3:=qX HB.out.blk
     have h4:w1.drew.heap.size=w1.heap.size:=rfl
     have h2:j=a:=h2
     have:=HAE.out
     omega)
   ·exact qY (qj O2.out (Nat.le_trans HB.out.chg.size HG3.out.size)) (set45 wq a (.slice A1 n1 c1) (.slice A2 n2 c2)) (λj h1 h2=>by
     have:=(qS O2.out h1).1
     have h3:=qX HB.out.blk
     have h4:=HG3.out.size
     have h2:j=a:=h2
     have:=HAE.out
     omega)
 case rest=>
  obtain⟨v1,v2,hP,h1,h2⟩:=hcut
  obtain⟨A1,n1,c1,rfl⟩:∃A n c,v1= .slice A n c:=by rcases qD h1 with ⟨e,_⟩|⟨g,cap,e,_⟩ <;> exact⟨_,_,_,e⟩
  obtain⟨A2,n2,c2,rfl⟩:∃A n c,v2= .slice A n c:=by rcases qD h2 with ⟨e,_⟩|⟨g,cap,e,_⟩ <;> exact⟨_,_,_,e⟩
  have HP:=qQ hP
  have H12:=qQ (And.intro h1 h2)
  obtain⟨e0,e1,e2,e3,e4,e5⟩:=qC hP.blk
  rw[←HAE.out] at e0 e1 e2 e3 e4 e5
  obtain⟨c0,c1',c2',c3,c4,c5⟩:=qC hP.res
  obtain⟨f0,f1,f2,f3,f4,f5⟩:=zF hP.res
  clear hP h1 h2 d0 d1 d2 d3 d4 d5 HB HCI HC8 HF
  go_wp2_with fail
  obtain⟨hbk,G,GS⟩:=HP.out.fin (.int .i64 S) (.int .i64 D) (.int .i64 N) (.int .i64 F) (.slice A1 n1 c1) (.slice A2 n2 c2) _ rfl
  obtain⟨k0,k1,k2,k3,k4,k5⟩:=qC hbk
  have hres:=HP.out.res
  have hrow:∀{e v len xs},wc.ownsRow w.heap.size e 1 v len xs→e≠42→∀j,v.ownBlock=some j→¬j=b:=λ{e v len xs} hr he j hj e2=>by
   rcases hr.2 with ⟨e3,_⟩|⟨g,cap,cur,e3,_,hg,_⟩
   ·rw[e3] at hj;cases hj
   ·rw[e3] at hj;cases hj
    subst e2
    rw[hres] at hg
    cases hg
    exact he rfl
  exact bodyPost_ret (v:=pkV ⟨S,D,N,F,P,T⟩ (.slice A1 n1 c1) (.slice A2 n2 c2)) (by simp[results,Tryz.results295,go_sem,pkV,k0,k1,k2,k3,k4,k5]) rfl
   ⟨_,_,rfl,⟨qY H12.out.1 GS (hrow H12.out.1 (by decide)),qY H12.out.2 GS (hrow H12.out.2 (by decide)),HDB.out⟩,G⟩
def stepP(p:Pk)(me:Int):Int×Pk:=if !(mayP p&&zD me) then (1,pk0) else if p.life=0 then (11,pk0) else (0,{p with life:=p.life-1})
def PStepP(w:World)(x:Int×Pk)(en:Ending)(w':World):Prop:=∃lv dv,en= .returned (.tuple #[pkV x.2 lv dv,.int .i64 x.1])∧OwnP w w' lv dv x.2∧Chg (λ_=>False) w w'
theorem OwnP.nil(w w':World):OwnP w w' (.slice none 0 0) (.slice none 0 0) pk0:=⟨World.ownsRow_nil _ _ _ _,World.ownsRow_nil _ _ _ _,λx hx=>nomatch hx⟩
theorem PStepP.err(w w':World)(e:Int)(g:Chg (λ_=>False) w w'):PStepP w (e,pk0) (.returned (.tuple #[pkV pk0 (.slice none 0 0) (.slice none 0 0),.int .i64 e])) w':=⟨_,_,rfl,OwnP.nil _ _,g⟩
theorem pstep_any(w:World)(own:Cls)(p:Pk)(me:Int)(lv dv:Value)(h:PO w own lv dv p)(hL:p.path.length≤100000)(hD:p.data.length≤100000):Calls Tryz.prog 285 #[pkV p lv dv,.int .i64 me] w (PStepP w (stepP p me)):=by
 obtain⟨R,hR⟩:=qZ (stepP p me)
 rw[←hR]
 unfold stepP at hR
 obtain⟨S,D,N,F,P,T⟩:=p
 have HP:=qQ (show∀W,Chg (λ_=>False) w W→PO W own lv dv ⟨S,D,N,F,P,T⟩ from λW g=>h.keep g (λ_ _ e=>e))
 dsimp only at hL hD hR
 have HB:=qQ (PB2.start w S D N F lv dv)
 have HLD:=qQ (And.intro hL hD)
 obtain⟨lA,lc,hlv,_⟩:=h.1
 obtain⟨⟨dA,dc,hdv,_⟩,_⟩:=h.2
 obtain⟨mb,hmb⟩:∃b,mayP ⟨S,D,N,F,P,T⟩=b:=⟨_,rfl⟩
 rw[hmb] at hR
 have HM:=qQ hmb
 obtain⟨m,hm⟩:=qZ P.length
 obtain⟨n,hn⟩:=qZ T.length
 dsimp only at hdv hlv
 rw[←hn] at hdv
 rw[←hm] at hlv
 subst hlv hdv
 clear h hm hn hL hD hmb
 have HR:=qQ hR
 clear hR
 have HMAY:=qQ (show∀W,Chg (λ_=>False) w W→Calls Tryz.prog 123 #[.agg #[.int .i64 S,.int .i64 D,.int .i64 N,.int .i64 F,.slice lA m lc,.slice dA n dc]] W (PV (.bool (mayP ⟨S,D,N,F,P,T⟩)) W) from λW g=>pmay_any W own ⟨S,D,N,F,P,T⟩ _ _ (HP.out W g) HLD.out.1 HLD.out.2)
 have HOWN:=qQ (show∀W,Chg (λ_=>False) w W→Calls Tryz.prog 295 #[.agg #[.int .i64 S,.int .i64 D,.int .i64 N,.int .i64 F,.slice lA m lc,.slice dA n dc]] W (POwnP W ⟨S,D,N,F,P,T⟩) from λW g=>pown_any W own ⟨S,D,N,F,P,T⟩ _ _ (HP.out W g) HLD.out.1 HLD.out.2)
 clear HP HLD
 unfold pkV
 go_enter Tryz.func285,Tryz.ntmps285
 go_wp2_with fail
 obtain⟨b,hbe⟩:=qZ (w.heap.size+1)
 rw[←hbe] at HB ⊢
 clear hbe
 generalize (w.alloc (.cells #[.int .i64 S,.int .i64 D,.int .i64 N,.int .i64 F,.slice lA m lc,.slice dA n dc] 42)).alloc (.cells #[.int .i64 0,.int .i64 0,.int .i64 0,.int .i64 0,.slice none 0 0,.slice none 0 0] 42)=w1 at *
 obtain⟨a,hae⟩:=qZ w.heap.size
 obtain⟨d0,d1,d2,d3,d4,d5⟩:=qC HB.out.blk
 rw[←hae] at d0 d1 d2 d3 d4 d5 ⊢
 have HAE:=qQ hae
 clear hae
 (with_reducible refine (HMAY.out w1 HB.out.chg).mono ?_)
 rintro en w2 ⟨rfl,g2⟩
 rw[HM.out]
 have HB2:=qQ (HB.out.kept g2)
 clear HB d0 d1 d2 d3 d4 d5
 cases mb
 ·have HRF:=qQ (show R=(1,pk0) from by rw[HR.out];simp)
  obtain⟨c0,c1,c2,c3,c4,c5⟩:=qC HB2.out.res
  obtain⟨f0,f1,f2,f3,f4,f5⟩:=zF HB2.out.res
  go_wp2_with fail
  obtain⟨hbk,G,_⟩:=HB2.out.fin (.int .i64 0) (.int .i64 0) (.int .i64 0) (.int .i64 0) (.slice none 0 0) (.slice none 0 0) _ rfl
  obtain⟨k0,k1,k2,k3,k4,k5⟩:=qC hbk
  rw[HRF.out]
  exact bodyPost_ret (v:= .tuple #[pkV pk0 (.slice none 0 0) (.slice none 0 0),.int .i64 1]) (by simp[results,Tryz.results285,go_sem,pkV,pk0,k0,k1,k2,k3,k4,k5]) rfl (PStepP.err _ _ _ G)
 go_wp2_with fail
 (with_reducible refine (rnode_any me w2).mono ?_)
 rintro en w3 ⟨rfl,rfl⟩
 cases hnb:zD me
 ·have HRF:=qQ (show R=(1,pk0) from by rw[HR.out,hnb];simp)
  clear hnb
  obtain⟨c0,c1,c2,c3,c4,c5⟩:=qC HB2.out.res
  obtain⟨f0,f1,f2,f3,f4,f5⟩:=zF HB2.out.res
  go_wp2_with fail
  obtain⟨hbk,G,_⟩:=HB2.out.fin (.int .i64 0) (.int .i64 0) (.int .i64 0) (.int .i64 0) (.slice none 0 0) (.slice none 0 0) _ rfl
  obtain⟨k0,k1,k2,k3,k4,k5⟩:=qC hbk
  rw[HRF.out]
  exact bodyPost_ret (v:= .tuple #[pkV pk0 (.slice none 0 0) (.slice none 0 0),.int .i64 1]) (by simp[results,Tryz.results285,go_sem,pkV,pk0,k0,k1,k2,k3,k4,k5]) rfl (PStepP.err _ _ _ G)
 have HR2:=qQ (show R=if F=0 then (11,pk0) else (0,⟨S,D,N,F-1,P,T⟩) from by rw[HR.out,hnb];simp)
 clear hnb HR
 obtain⟨d0,d1,d2,d3,d4,d5⟩:=qC HB2.out.blk
 rw[←HAE.out] at d0 d1 d2 d3 d4 d5
 by_cases hF:F=0
 ·have HRF:=qQ (show R=(11,pk0) from by rw[HR2.out,if_pos hF])
  have b0:decide (F=0)=true:=by simpa using hF
  obtain⟨c0,c1,c2,c3,c4,c5⟩:=qC HB2.out.res
  obtain⟨f0,f1,f2,f3,f4,f5⟩:=zF HB2.out.res
  subst hF
  go_wp2_with fail
  obtain⟨hbk,G,_⟩:=HB2.out.fin (.int .i64 0) (.int .i64 0) (.int .i64 0) (.int .i64 0) (.slice none 0 0) (.slice none 0 0) _ rfl
  obtain⟨k0,k1,k2,k3,k4,k5⟩:=qC hbk
  rw[HRF.out]
  exact bodyPost_ret (v:= .tuple #[pkV pk0 (.slice none 0 0) (.slice none 0 0),.int .i64 11]) (by simp[results,Tryz.results285,go_sem,pkV,pk0,k0,k1,k2,k3,k4,k5]) rfl (PStepP.err _ _ _ G)
 have HRF:=qQ (show R=(0,⟨S,D,N,F-1,P,T⟩) from by rw[HR2.out,if_neg hF])
 have b1:decide (F=0)=false:=by simpa using hF
 have b2:(F==0)=false:=by simpa using hF
 have hfb:=(zm HM.out).2.2.2.2.1
 have hw:IntKind.wrap .i64 (F-1)=F-1:=wrap_small _ (by dsimp only at hfb;omega) (by dsimp only at hfb;omega)
 have HFF:=qQ hF
 clear hF hfb
 go_wp2_with fail
 (with_reducible refine (HOWN.out _ HB2.out.chg).mono ?_)
 rintro en w4 ⟨v1,v2,rfl,hO,g4⟩
 obtain⟨A1,n1,c1,rfl⟩:∃A n c,v1= .slice A n c:=by rcases qD hO.1 with ⟨e,_⟩|⟨g,cap,e,_⟩ <;> exact⟨_,_,_,e⟩
 obtain⟨A2,n2,c2,rfl⟩:∃A n c,v2= .slice A n c:=by rcases qD hO.2.1 with ⟨e,_⟩|⟨g,cap,e,_⟩ <;> exact⟨_,_,_,e⟩
 have HO:=qQ hO
 have HB4:=qQ (HB2.out.kept g4)
 have HG2:=qQ (HB2.out.chg)
 have HH:=qQ (qX HB2.out.res)
 have HH1:=qQ HB2.out.lt
 clear hO g4 HB2 d0 d1 d2 d3 d4 d5
 have hblk:=HB4.out.blk
 rw[←HAE.out] at hblk
 obtain⟨d0,d1,d2,d3,d4,d5⟩:=qC hblk
 obtain⟨e0,e1,e2,e3,e4,e5⟩:=zF hblk
 clear b1 b2
 unfold pkV
 go_upto_region 6 with fail
 have hb5:=set6b hblk (.int .i64 S) (.int .i64 D) (.int .i64 N) (.int .i64 F) (.slice A1 n1 c1) (.slice A2 n2 c2)
 have g5:=set6 w4 a (.int .i64 S) (.int .i64 D) (.int .i64 N) (.int .i64 F) (.slice A1 n1 c1) (.slice A2 n2 c2)
 generalize (((((w4.setCell ⟨a,0,none⟩ (.int .i64 S)).setCell ⟨a,1,none⟩ (.int .i64 D)).setCell ⟨a,2,none⟩ (.int .i64 N)).setCell ⟨a,3,none⟩ (.int .i64 F)).setCell ⟨a,4,none⟩ (.slice A1 n1 c1)).setCell ⟨a,5,none⟩ (.slice A2 n2 c2)=w5 at *
 have hb6:=qB hb5 3 (.int .i64 (F-1))
 have g6:=chg1 w5 a 3 (.int .i64 (F-1))
 have HB6:=qQ (HB4.out.setb (by rw[←HAE.out];exact g5.trans g6) S D N (F-1) (.slice A1 n1 c1) (.slice A2 n2 c2) (by rw[←HAE.out];exact hb6))
 have HG6:=qQ (g5.trans g6)
 clear hblk d0 d1 d2 d3 d4 d5 e0 e1 e2 e3 e4 e5
 obtain⟨d0,d1,d2,d3,d4,d5⟩:=qC hb5
 obtain⟨e0,e1,e2,e3,e4,e5⟩:=zF hb5
 clear g5 g6
 go_upto_region 7 with fail
 generalize w5.setCell ⟨a,3,none⟩ (.int .i64 (F-1))=w6 at *
 clear hb5 d0 d1 d2 d3 d4 d5 e0 e1 e2 e3 e4 e5
 obtain⟨d0,d1,d2,d3,d4,d5⟩:=qC hb6
 obtain⟨c0,c1',c2',c3,c4,c5⟩:=qC HB6.out.res
 obtain⟨f0,f1,f2,f3,f4,f5⟩:=zF HB6.out.res
 clear hb6
 go_wp2_with fail
 obtain⟨hbk,G,GS⟩:=HB6.out.fin (.int .i64 S) (.int .i64 D) (.int .i64 N) (.int .i64 (F-1)) (.slice A1 n1 c1) (.slice A2 n2 c2) _ rfl
 obtain⟨k0,k1,k2,k3,k4,k5⟩:=qC hbk
 rw[HRF.out]
 have hres:=HB6.out.res
 have hbl:=HB6.out.blk
 have hrow:∀{W:World} {e v len xs},W.ownsRow w3.heap.size e 1 v len xs→∀j,v.ownBlock=some j→¬j=a∧¬j=b:=λ{W e v len xs} hr j hj=>by
  have h1:=(qS hr hj).1
  have h2:=HH.out
  have h3:=HH1.out
  have h4:=HAE.out
  omega
 exact bodyPost_ret (v:= .tuple #[pkV ⟨S,D,N,F-1,P,T⟩ (.slice A1 n1 c1) (.slice A2 n2 c2),.int .i64 0]) (by simp[results,Tryz.results285,go_sem,pkV,k0,k1,k2,k3,k4,k5]) rfl
  ⟨_,_,rfl,⟨qj (qY (qY HO.out.1 HG6.out (λj hj=>(hrow HO.out.1 j hj).1)) GS (λj hj=>(hrow HO.out.1 j hj).2)) HG2.out.size,
   qj (qY (qY HO.out.2.1 HG6.out (λj hj=>(hrow HO.out.2.1 j hj).1)) GS (λj hj=>(hrow HO.out.2.1 j hj).2)) HG2.out.size,HO.out.2.2⟩,G⟩
def upP(p:Pk)(me:Int):Int×Pk:=
 let x:=stepP p me
 if x.1≠0 then x else if x.2.path.contains me then x else if 16≤x.2.path.length then (5,pk0) else (0,{x.2 with path:=x.2.path++[me]})
theorem stepP_len{p:Pk}{me:Int}{x:Int×Pk}(h:stepP p me=x)(hp:p.path.length≤100000):x.2.path.length≤100000:=by
 subst h
 unfold stepP
 split
 ·simp[pk0]
 ·split
  ·simp[pk0]
  ·exact hp
theorem PB2.high{w W W':World}{b base:Nat}{S D N F:Int}{lv dv:Value}(h:PB2 w b S D N F lv dv W)(hb:b<base)(g:Chg (λj=>base≤j) W W'):PB2 w b S D N F lv dv W':=by
 have hl:=h.lt
 exact⟨Chg.keep g h.blk (λe=>by omega),Chg.keep g h.res (λe=>by omega),(h.chg.none.trans (g.mono (λj _ e=>(by omega:w.heap.size≤j)))).fresh,hl⟩
theorem own_neT{W:World}{b1 b2 e1 e2 s1 s2 n1 n2:Nat}{v1 v2:Value}{xs ys:List Value}(h1:W.ownsRow b1 e1 s1 v1 n1 xs)(h2:W.ownsRow b2 e2 s2 v2 n2 ys)(ne:e1≠e2){j:Nat}(hj:v1.ownBlock=some j):¬v2.ownBlock=some j:=by
 intro hk
 rcases h1.2 with ⟨e,_⟩|⟨g,c,cur,e,_,hg,_⟩
 ·rw[e] at hj;cases hj
 ·rw[e] at hj;cases hj
  rcases h2.2 with ⟨e',_⟩|⟨g',c',cur',e',_,hg',_⟩
  ·rw[e'] at hk;cases hk
  ·rw[e'] at hk;cases hk
   rw[hg] at hg';cases hg'
   exact ne rfl
theorem pup_any(w:World)(own:Cls)(p:Pk)(me:Int)(lv dv:Value)(h:PO w own lv dv p)(hL:p.path.length≤100000)(hD:p.data.length≤100000):Calls Tryz.prog 255 #[pkV p lv dv,.int .i64 me] w (PStepP w (upP p me)):=by
 obtain⟨R,hR⟩:=qZ (upP p me)
 rw[←hR]
 unfold upP at hR
 obtain⟨x,hx⟩:∃x,stepP p me=x:=⟨_,rfl⟩
 have hxl:=stepP_len hx hL
 obtain⟨E,S',D',N',F',P',T'⟩:=x
 dsimp only at hxl
 rw[hx] at hR
 obtain⟨S,D,N,F,P,T⟩:=p
 dsimp only at hL hD hR
 have HB:=qQ (PB2.start w S D N F lv dv)
 have HSTEP:=qQ (show∀W,Chg (λ_=>False) w W→Calls Tryz.prog 285 #[.agg #[.int .i64 S,.int .i64 D,.int .i64 N,.int .i64 F,lv,dv],.int .i64 me] W (PStepP W (E,⟨S',D',N',F',P',T'⟩)) from
  λW g=>hx▸pstep_any W own ⟨S,D,N,F,P,T⟩ me lv dv (h.keep g (λ_ _ e=>e)) hL hD)
 obtain⟨lA,lc,hlv,_⟩:=h.1
 obtain⟨⟨dA,dc,hdv,_⟩,_⟩:=h.2
 obtain⟨m,hm⟩:=qZ P.length
 obtain⟨n,hn⟩:=qZ T.length
 dsimp only at hdv hlv
 rw[←hn] at hdv
 rw[←hm] at hlv
 subst hlv hdv
 clear h hm hn hL hD hx
 have HR:=qQ hR
 have HXL:=qQ hxl
 clear hR hxl
 unfold pkV
 go_enter Tryz.func255,Tryz.ntmps255
 go_wp2_with fail
 obtain⟨b,hbe⟩:=qZ (w.heap.size+1)
 rw[←hbe] at HB ⊢
 clear hbe
 generalize (w.alloc (.cells #[.int .i64 S,.int .i64 D,.int .i64 N,.int .i64 F,.slice lA m lc,.slice dA n dc] 42)).alloc (.cells #[.int .i64 0,.int .i64 0,.int .i64 0,.int .i64 0,.slice none 0 0,.slice none 0 0] 42)=w1 at *
 obtain⟨a,hae⟩:=qZ w.heap.size
 obtain⟨d0,d1,d2,d3,d4,d5⟩:=qC HB.out.blk
 rw[←hae] at d0 d1 d2 d3 d4 d5 ⊢
 have HAE:=qQ hae
 clear hae
 (with_reducible refine (HSTEP.out w1 HB.out.chg).mono ?_)
 rintro en w4 ⟨v1,v2,rfl,hO,g4⟩
 dsimp only at hO
 obtain⟨A1,n1,c1,rfl⟩:∃A n c,v1= .slice A n c:=by rcases qD hO.1 with ⟨e,_⟩|⟨g,cap,e,_⟩ <;> exact⟨_,_,_,e⟩
 obtain⟨A2,n2,c2,rfl⟩:∃A n c,v2= .slice A n c:=by rcases qD hO.2.1 with ⟨e,_⟩|⟨g,cap,e,_⟩ <;> exact⟨_,_,_,e⟩
 have HB4:=qQ (HB.out.kept g4)
 have HG2:=qQ (HB.out.chg)
 have HH:=qQ (qX HB.out.res)
 have HH1:=qQ HB.out.lt
 have hblk:=HB4.out.blk
 rw[←HAE.out] at hblk
 have HSZ:=qQ (show w1.heap.size≤w4.heap.size from g4.size)
 clear g4 HB HSTEP d0 d1 d2 d3 d4 d5
 obtain⟨d0,d1,d2,d3,d4,d5⟩:=qC hblk
 obtain⟨e0,e1,e2,e3,e4,e5⟩:=zF hblk
 unfold pkV
 dsimp only
 go_upto_region 2 with fail
 have hb5:=set6b hblk (.int .i64 S') (.int .i64 D') (.int .i64 N') (.int .i64 F') (.slice A1 n1 c1) (.slice A2 n2 c2)
 have g5:=set6 w4 a (.int .i64 S') (.int .i64 D') (.int .i64 N') (.int .i64 F') (.slice A1 n1 c1) (.slice A2 n2 c2)
 generalize (((((w4.setCell ⟨a,0,none⟩ (.int .i64 S')).setCell ⟨a,1,none⟩ (.int .i64 D')).setCell ⟨a,2,none⟩ (.int .i64 N')).setCell ⟨a,3,none⟩ (.int .i64 F')).setCell ⟨a,4,none⟩ (.slice A1 n1 c1)).setCell ⟨a,5,none⟩ (.slice A2 n2 c2)=w5 at *
 have HB5:=qQ (HB4.out.setb (by rw[←HAE.out];exact g5) S' D' N' F' (.slice A1 n1 c1) (.slice A2 n2 c2) (by rw[←HAE.out];exact hb5))
 have hrow:∀(W:World) (e:TypeId) (v:Value) (len:Nat) (xs:List Value),W.ownsRow w1.heap.size e 1 v len xs→∀j,v.ownBlock=some j→¬j=a∧¬j=b:=λW e v len xs hr j hj=>by
  have h1:=(qS hr hj).1
  have h2:=HH.out
  have h3:=HH1.out
  have h4:=HAE.out
  omega
 have HROW:=qQ hrow
 have HO:=qQ (show w5.ownsRow w1.heap.size 3 1 (.slice A1 n1 c1) P'.length (P'.map VI)∧w5.ownsRow w1.heap.size 5 1 (.slice A2 n2 c2) T'.length (T'.map V8)∧(∀x∈T',0≤x∧x<256) from
  ⟨qY hO.1 g5 (λj hj=>(hrow _ _ _ _ _ hO.1 j hj).1),qY hO.2.1 g5 (λj hj=>(hrow _ _ _ _ _ hO.2.1 j hj).1),hO.2.2⟩)
 have HSZ:=qQ (Nat.le_trans HSZ.out g5.size)
 clear hO g5 HB4 hblk d0 d1 d2 d3 d4 d5 e0 e1 e2 e3 e4 e5 hrow
 obtain⟨d0,d1,d2,d3,d4,d5⟩:=qC hb5
 obtain⟨e0,e1,e2,e3,e4,e5⟩:=zF hb5
 clear hb5
 obtain⟨c0,c1',c2',c3,c4,c5⟩:=qC HB5.out.res
 obtain⟨f0,f1,f2,f3,f4,f5⟩:=zF HB5.out.res
 by_cases hE:E≠0
 ·skip
  have i1:(E != 0)=true:=by simpa using hE
  have i2:(!decide (E=0))=true:=by simpa using hE
  have HRF:=qQ (show R=(E,⟨S',D',N',F',P',T'⟩) from by rw[HR.out,if_pos hE])
  go_wp2_with fail
  obtain⟨hbk,G,GS⟩:=HB5.out.fin (.int .i64 S') (.int .i64 D') (.int .i64 N') (.int .i64 F') (.slice A1 n1 c1) (.slice A2 n2 c2) _ rfl
  obtain⟨k0,k1,k2,k3,k4,k5⟩:=qC hbk
  rw[HRF.out]
  exact bodyPost_ret (v:= .tuple #[pkV ⟨S',D',N',F',P',T'⟩ (.slice A1 n1 c1) (.slice A2 n2 c2),.int .i64 E]) (by simp[results,Tryz.results255,go_sem,pkV,k0,k1,k2,k3,k4,k5]) rfl
   ⟨_,_,rfl,⟨qj (qY HO.out.1 GS (λj hj=>(HROW.out _ _ _ _ _ HO.out.1 j hj).2)) HG2.out.size,
    qj (qY HO.out.2.1 GS (λj hj=>(HROW.out _ _ _ _ _ HO.out.2.1 j hj).2)) HG2.out.size,HO.out.2.2⟩,G⟩
 obtain rfl:E=0:=by simpa using hE
 clear hE
 have HR2:=qQ (show R=if P'.contains me then (0,⟨S',D',N',F',P',T'⟩) else if 16≤P'.length then (5,pk0) else (0,⟨S',D',N',F',P'++[me],T'⟩) from by rw[HR.out,if_neg (by simp)])
 clear HR
 have hrv:=RV.of_own (own:=λ_=>0) HO.out.1 (λ_ _=>rfl)
 obtain⟨Ax,cx,ex,hrs,hAn,_⟩:=hrv.rs
 cases ex
 obtain⟨cb,hcb⟩:∃cb,P'.contains me=cb:=⟨_,rfl⟩
 have HC:=qQ (jD w5 A1 P'.length c1 P' me hrs HXL.out)
 rw[hcb] at HC HR2
 clear hrs hAn hrv hcb
 obtain⟨ln,hln⟩:∃ln,P'.length=ln:=⟨_,rfl⟩
 rw[hln] at HC HR2 HO d4 HXL HB5
 have HLN:=qQ hln
 clear hln
 go_wp2_with fail
 with_reducible refine HC.out.mono ?_
 rintro en w6 ⟨rfl,hw6⟩
 subst w6
 clear HC
 cases cb
 rotate_left
 ·have HRF:=qQ (show R=(0,⟨S',D',N',F',P',T'⟩) from by rw[HR2.out,if_pos rfl])
  go_wp2_with fail
  obtain⟨hbk,G,GS⟩:=HB5.out.fin (.int .i64 S') (.int .i64 D') (.int .i64 N') (.int .i64 F') (.slice A1 ln c1) (.slice A2 n2 c2) _ rfl
  obtain⟨k0,k1,k2,k3,k4,k5⟩:=qC hbk
  rw[HRF.out]
  exact bodyPost_ret (v:= .tuple #[pkV ⟨S',D',N',F',P',T'⟩ (.slice A1 ln c1) (.slice A2 n2 c2),.int .i64 0]) (by simp[results,Tryz.results255,go_sem,pkV,k0,k1,k2,k3,k4,k5]) rfl
   ⟨_,_,rfl,⟨by rw[HLN.out];exact qj (qY HO.out.1 GS (λj hj=>(HROW.out _ _ _ _ _ HO.out.1 j hj).2)) HG2.out.size,
    qj (qY HO.out.2.1 GS (λj hj=>(HROW.out _ _ _ _ _ HO.out.2.1 j hj).2)) HG2.out.size,HO.out.2.2⟩,G⟩
 have HR3:=qQ (show R=if 16≤ln then (5,pk0) else (0,⟨S',D',N',F',P'++[me],T'⟩) from by rw[HR2.out,if_neg (by simp)])
 clear HR2
 by_cases h16:16≤ln
 ·have HRF:=qQ (show R=(5,pk0) from by rw[HR3.out,if_pos h16])
  have i1:decide ((ln:Int)≥16)=true:=by simp;omega
  have i2:(16:Int)≤(ln:Int):=by omega
  clear h16
  go_wp2_with fail
  obtain⟨hbk,G,_⟩:=HB5.out.fin (.int .i64 0) (.int .i64 0) (.int .i64 0) (.int .i64 0) (.slice none 0 0) (.slice none 0 0) _ rfl
  obtain⟨k0,k1,k2,k3,k4,k5⟩:=qC hbk
  rw[HRF.out]
  exact bodyPost_ret (v:= .tuple #[pkV pk0 (.slice none 0 0) (.slice none 0 0),.int .i64 5]) (by simp[results,Tryz.results255,go_sem,pkV,pk0,k0,k1,k2,k3,k4,k5]) rfl (PStepP.err _ _ _ G)
 have HRF:=qQ (show R=(0,⟨S',D',N',F',P'++[me],T'⟩) from by rw[HR3.out,if_neg h16])
 have i1:decide ((ln:Int)≥16)=false:=by simp;omega
 have i2:¬(16:Int)≤(ln:Int):=by omega
 have h17:ln<16:=by omega
 clear h16 HR3
 go_wp2_with (at_builtin;go_loud (refine app1 (V:=VI) elI rfl (.tmp 29) (.tmp 31) rfl w1.heap.size (.slice A1 ln c1) ln (P'.map VI) rfl (HO.out.1.alloc _) w5.heap.size me rfl ?c1 rfl (by omega) (by omega) ?hb ?grow))
 case c1=>simp[VI]
 case hb=>have:=HSZ.out;simp;omega
 case grow=>
  intro v4 w6 hown hgr hat
  have ga:=Chg.alloc (λ_=>False) w5 (.cells #[.int .i64 me] 3)
  have gg:=qH (S:=λj=>(Value.slice A1 ln c1).ownBlock=some j) hgr (λj e=>e)
  have gh:=qH (S:=λj=>w1.heap.size≤j) hgr (λj e=>(qS HO.out.1 e).1)
  have hd:=qY (qY HO.out.2.1 ga (λ_ _ e=>e)) gg (λj hj e=>own_neT HO.out.2.1 HO.out.1 (by decide) hj e)
  have hp:=(HB5.out.kept ga).high (base:=w1.heap.size) (by have:=HH.out;omega) gh
  obtain⟨A3,n3,c6,rfl⟩:∃A n c,v4= .slice A n c:=by rcases qD hown with ⟨e,_⟩|⟨g,cap,e,_⟩ <;> exact⟨_,_,_,e⟩
  have HO6:=qQ (And.intro hown (And.intro hd HO.out.2.2))
  have HP6:=qQ hp
  have hb6:=hp.blk
  rw[←HAE.out] at hb6
  clear hown hgr hat ga gg gh hd hp d0 d1 d2 d3 d4 d5 e0 e1 e2 e3 e4 e5 c0 c1' c2' c3 c4 c5 f0 f1 f2 f3 f4 f5
  obtain⟨d0,d1,d2,d3,d4,d5⟩:=qC hb6
  obtain⟨e0,e1,e2,e3,e4,e5⟩:=zF hb6
  go_upto_region 7 with fail
  have hb7:=qB hb6 4 (.slice A3 n3 c6)
  have g7:=chg1 w6 a 4 (.slice A3 n3 c6)
  generalize w6.setCell ⟨a,4,none⟩ (.slice A3 n3 c6)=w7 at *
  have HB7:=qQ (HP6.out.setb (by rw[←HAE.out];exact g7) S' D' N' F' (.slice A3 n3 c6) (.slice A2 n2 c2) (by rw[←HAE.out];exact hb7))
  have HO7:=qQ (And.intro (qY HO6.out.1 g7 (λj hj=>(HROW.out _ _ _ _ _ HO6.out.1 j hj).1)) (qY HO6.out.2.1 g7 (λj hj=>(HROW.out _ _ _ _ _ HO6.out.2.1 j hj).1)))
  clear d0 d1 d2 d3 d4 d5 e0 e1 e2 e3 e4 e5 hb6 g7
  obtain⟨d0,d1,d2,d3,d4,d5⟩:=qC hb7
  obtain⟨c0,c1',c2',c3,c4,c5⟩:=qC HB7.out.res
  obtain⟨f0,f1,f2,f3,f4,f5⟩:=zF HB7.out.res
  clear hb7
  go_wp2_with fail
  obtain⟨hbk,G,GS⟩:=HB7.out.fin (.int .i64 S') (.int .i64 D') (.int .i64 N') (.int .i64 F') (.slice A3 n3 c6) (.slice A2 n2 c2) _ rfl
  obtain⟨k0,k1,k2,k3,k4,k5⟩:=qC hbk
  rw[HRF.out]
  exact bodyPost_ret (v:= .tuple #[pkV ⟨S',D',N',F',P'++[me],T'⟩ (.slice A3 n3 c6) (.slice A2 n2 c2),.int .i64 0]) (by simp[results,Tryz.results255,go_sem,pkV,k0,k1,k2,k3,k4,k5]) rfl
   ⟨_,_,rfl,⟨by
    have:=qj (qY HO7.out.1 GS (λj hj=>(HROW.out _ _ _ _ _ HO7.out.1 j hj).2)) HG2.out.size
    have hl:=HLN.out
    simpa [hl] using this,
    qj (qY HO7.out.2 GS (λj hj=>(HROW.out _ _ _ _ _ HO7.out.2 j hj).2)) HG2.out.size,HO.out.2.2⟩,G⟩
def downP(p:Pk)(me:Int):Int×Int×Pk:=
 let x:=stepP p me
 if x.1≠0 then (x.1,0,x.2) else
  let k:=zp x.2.path me
  if k<0∨k=(x.2.path.length:Int)-1 then (6,0,pk0) else (0,x.2.path.getD (k.toNat+1) 0,x.2)
def PDownP(w:World)(x:Int×Int×Pk)(en:Ending)(w':World):Prop:=∃lv dv,en= .returned (.tuple #[pkV x.2.2 lv dv,.int .i64 x.2.1,.int .i64 x.1])∧OwnP w w' lv dv x.2.2∧Chg (λ_=>False) w w'
theorem PDownP.err(w w':World)(e:Int)(g:Chg (λ_=>False) w w'):PDownP w (e,0,pk0) (.returned (.tuple #[pkV pk0 (.slice none 0 0) (.slice none 0 0),.int .i64 0,.int .i64 e])) w':=⟨_,_,rfl,OwnP.nil _ _,g⟩
theorem indexI_bd(L:List Int)(x:Int): -1≤zp L x∧zp L x<(L.length:Int):=by
 unfold zp
 split
 ·rename_i i hi
  have:=(List.findIdx?_eq_some_iff_getElem.1 hi).1
  omega
 ·omega
theorem pdown_any(w:World)(own:Cls)(p:Pk)(me:Int)(lv dv:Value)(h:PO w own lv dv p)(hL:p.path.length≤100000)(hD:p.data.length≤100000):Calls Tryz.prog 253 #[pkV p lv dv,.int .i64 me] w (PDownP w (downP p me)):=by
 obtain⟨R,hR⟩:=qZ (downP p me)
 rw[←hR]
 unfold downP at hR
 obtain⟨x,hx⟩:∃x,stepP p me=x:=⟨_,rfl⟩
 have hxl:=stepP_len hx hL
 obtain⟨E,S',D',N',F',P',T'⟩:=x
 dsimp only at hxl
 rw[hx] at hR
 obtain⟨S,D,N,F,P,T⟩:=p
 dsimp only at hL hD hR
 have HB:=qQ (PB2.start w S D N F lv dv)
 have HSTEP:=qQ (show∀W,Chg (λ_=>False) w W→Calls Tryz.prog 285 #[.agg #[.int .i64 S,.int .i64 D,.int .i64 N,.int .i64 F,lv,dv],.int .i64 me] W (PStepP W (E,⟨S',D',N',F',P',T'⟩)) from
  λW g=>hx▸pstep_any W own ⟨S,D,N,F,P,T⟩ me lv dv (h.keep g (λ_ _ e=>e)) hL hD)
 obtain⟨lA,lc,hlv,_⟩:=h.1
 obtain⟨⟨dA,dc,hdv,_⟩,_⟩:=h.2
 obtain⟨m,hm⟩:=qZ P.length
 obtain⟨n,hn⟩:=qZ T.length
 dsimp only at hdv hlv
 rw[←hn] at hdv
 rw[←hm] at hlv
 subst hlv hdv
 clear h hm hn hL hD hx
 have HR:=qQ hR
 have HXL:=qQ hxl
 clear hR hxl
 unfold pkV
 go_enter Tryz.func253,Tryz.ntmps253
 go_wp2_with fail
 obtain⟨b,hbe⟩:=qZ (w.heap.size+1)
 rw[←hbe] at HB ⊢
 clear hbe
 generalize (w.alloc (.cells #[.int .i64 S,.int .i64 D,.int .i64 N,.int .i64 F,.slice lA m lc,.slice dA n dc] 42)).alloc (.cells #[.int .i64 0,.int .i64 0,.int .i64 0,.int .i64 0,.slice none 0 0,.slice none 0 0] 42)=w1 at *
 obtain⟨a,hae⟩:=qZ w.heap.size
 obtain⟨d0,d1,d2,d3,d4,d5⟩:=qC HB.out.blk
 rw[←hae] at d0 d1 d2 d3 d4 d5 ⊢
 have HAE:=qQ hae
 clear hae
 (with_reducible refine (HSTEP.out w1 HB.out.chg).mono ?_)
 rintro en w4 ⟨v1,v2,rfl,hO,g4⟩
 dsimp only at hO
 obtain⟨A1,n1,c1,rfl⟩:∃A n c,v1= .slice A n c:=by rcases qD hO.1 with ⟨e,_⟩|⟨g,cap,e,_⟩ <;> exact⟨_,_,_,e⟩
 obtain⟨A2,n2,c2,rfl⟩:∃A n c,v2= .slice A n c:=by rcases qD hO.2.1 with ⟨e,_⟩|⟨g,cap,e,_⟩ <;> exact⟨_,_,_,e⟩
 have HB4:=qQ (HB.out.kept g4)
 have HG2:=qQ (HB.out.chg)
 have HH:=qQ (qX HB.out.res)
 have HH1:=qQ HB.out.lt
 have hblk:=HB4.out.blk
 rw[←HAE.out] at hblk
 have HSZ:=qQ (show w1.heap.size≤w4.heap.size from g4.size)
 clear g4 HB HSTEP d0 d1 d2 d3 d4 d5
 obtain⟨d0,d1,d2,d3,d4,d5⟩:=qC hblk
 obtain⟨e0,e1,e2,e3,e4,e5⟩:=zF hblk
 unfold pkV
 dsimp only
 go_upto_region 2 with fail
 have hb5:=set6b hblk (.int .i64 S') (.int .i64 D') (.int .i64 N') (.int .i64 F') (.slice A1 n1 c1) (.slice A2 n2 c2)
 have g5:=set6 w4 a (.int .i64 S') (.int .i64 D') (.int .i64 N') (.int .i64 F') (.slice A1 n1 c1) (.slice A2 n2 c2)
 generalize (((((w4.setCell ⟨a,0,none⟩ (.int .i64 S')).setCell ⟨a,1,none⟩ (.int .i64 D')).setCell ⟨a,2,none⟩ (.int .i64 N')).setCell ⟨a,3,none⟩ (.int .i64 F')).setCell ⟨a,4,none⟩ (.slice A1 n1 c1)).setCell ⟨a,5,none⟩ (.slice A2 n2 c2)=w5 at *
 have HB5:=qQ (HB4.out.setb (by rw[←HAE.out];exact g5) S' D' N' F' (.slice A1 n1 c1) (.slice A2 n2 c2) (by rw[←HAE.out];exact hb5))
 have hrow:∀(W:World) (e:TypeId) (v:Value) (len:Nat) (xs:List Value),W.ownsRow w1.heap.size e 1 v len xs→∀j,v.ownBlock=some j→¬j=a∧¬j=b:=λW e v len xs hr j hj=>by
  have h1:=(qS hr hj).1
  have h2:=HH.out
  have h3:=HH1.out
  have h4:=HAE.out
  omega
 have HROW:=qQ hrow
 have HO:=qQ (show w5.ownsRow w1.heap.size 3 1 (.slice A1 n1 c1) P'.length (P'.map VI)∧w5.ownsRow w1.heap.size 5 1 (.slice A2 n2 c2) T'.length (T'.map V8)∧(∀x∈T',0≤x∧x<256) from
  ⟨qY hO.1 g5 (λj hj=>(hrow _ _ _ _ _ hO.1 j hj).1),qY hO.2.1 g5 (λj hj=>(hrow _ _ _ _ _ hO.2.1 j hj).1),hO.2.2⟩)
 have HSZ:=qQ (Nat.le_trans HSZ.out g5.size)
 clear hO g5 HB4 hblk d0 d1 d2 d3 d4 d5 e0 e1 e2 e3 e4 e5 hrow
 obtain⟨d0,d1,d2,d3,d4,d5⟩:=qC hb5
 obtain⟨e0,e1,e2,e3,e4,e5⟩:=zF hb5
 clear hb5
 obtain⟨c0,c1',c2',c3,c4,c5⟩:=qC HB5.out.res
 obtain⟨f0,f1,f2,f3,f4,f5⟩:=zF HB5.out.res
 by_cases hE:E≠0
 ·skip
  have i1:(E != 0)=true:=by simpa using hE
  have i2:(!decide (E=0))=true:=by simpa using hE
  have HRF:=qQ (show R=(E,0,⟨S',D',N',F',P',T'⟩) from by rw[HR.out,if_pos hE])
  go_wp2_with fail
  obtain⟨hbk,G,GS⟩:=HB5.out.fin (.int .i64 S') (.int .i64 D') (.int .i64 N') (.int .i64 F') (.slice A1 n1 c1) (.slice A2 n2 c2) _ rfl
  obtain⟨k0,k1,k2,k3,k4,k5⟩:=qC hbk
  rw[HRF.out]
  exact bodyPost_ret (v:= .tuple #[pkV ⟨S',D',N',F',P',T'⟩ (.slice A1 n1 c1) (.slice A2 n2 c2),.int .i64 0,.int .i64 E]) (by simp[results,Tryz.results253,go_sem,pkV,k0,k1,k2,k3,k4,k5]) rfl
   ⟨_,_,rfl,⟨qj (qY HO.out.1 GS (λj hj=>(HROW.out _ _ _ _ _ HO.out.1 j hj).2)) HG2.out.size,
    qj (qY HO.out.2.1 GS (λj hj=>(HROW.out _ _ _ _ _ HO.out.2.1 j hj).2)) HG2.out.size,HO.out.2.2⟩,G⟩
 obtain rfl:E=0:=by simpa using hE
 clear hE
 have HR2:=qQ (show R=(let k:=zp P' me;if k<0∨k=(P'.length:Int)-1 then (6,0,pk0) else (0,P'.getD (k.toNat+1) 0,⟨S',D',N',F',P',T'⟩)) from by rw[HR.out,if_neg (by simp)])
 clear HR
 have hrv:=RV.of_own (own:=λ_=>0) HO.out.1 (λ_ _=>rfl)
 obtain⟨Ax,cx,ex,hrs,hAn,_⟩:=hrv.rs
 cases ex
 have hkb:=indexI_bd P' me
 have HC:=qQ (indexI_any w5 A1 P'.length c1 P' me hrs HXL.out)
 obtain⟨k,hk⟩:∃k,zp P' me=k:=⟨_,rfl⟩
 rw[hk] at HC HR2 hkb
 clear hrs hAn hrv hk
 obtain⟨ln,hln⟩:∃ln,P'.length=ln:=⟨_,rfl⟩
 rw[hln] at HC HR2 HO d4 HXL HB5 hkb
 have HLN:=qQ hln
 clear hln
 go_wp2_with fail
 with_reducible refine HC.out.mono ?_
 rintro en w6 ⟨rfl,hw6⟩
 subst w6
 clear HC
 have hxl:ln≤100000:=HXL.out
 by_cases hk:k<0∨k=(ln:Int)-1
 ·have HRF:=qQ (show R=(6,0,pk0) from by rw[HR2.out];exact if_pos hk)
  by_cases hk0:k<0
  ·clear hk
   have i1:decide (k<0)=true:=by simpa using hk0
   go_wp2_with fail
   obtain⟨hbk,G,_⟩:=HB5.out.fin (.int .i64 0) (.int .i64 0) (.int .i64 0) (.int .i64 0) (.slice none 0 0) (.slice none 0 0) _ rfl
   obtain⟨k0,k1,k2,k3,k4,k5⟩:=qC hbk
   rw[HRF.out]
   exact bodyPost_ret (v:= .tuple #[pkV pk0 (.slice none 0 0) (.slice none 0 0),.int .i64 0,.int .i64 6]) (by simp[results,Tryz.results253,go_sem,pkV,pk0,k0,k1,k2,k3,k4,k5]) rfl (PDownP.err _ _ _ G)
  ·have hw1:IntKind.wrap .i64 ((ln:Int)-1)=(ln:Int)-1:=wrap_small _ (by omega) (by omega)
   have hke:k=(ln:Int)-1:=by omega
   have i1:decide (k<0)=false:=by simpa using hk0
   have i2:(k==(ln:Int)-1)=true:=by simpa using hke
   have i3:decide (k=(ln:Int)-1)=true:=by simpa using hke
   have i4:¬k<0:=hk0
   have HKE:=qQ hke
   clear hk hke
   go_wp2_with fail
   obtain⟨hbk,G,_⟩:=HB5.out.fin (.int .i64 0) (.int .i64 0) (.int .i64 0) (.int .i64 0) (.slice none 0 0) (.slice none 0 0) _ rfl
   obtain⟨k0,k1,k2,k3,k4,k5⟩:=qC hbk
   rw[HRF.out]
   exact bodyPost_ret (v:= .tuple #[pkV pk0 (.slice none 0 0) (.slice none 0 0),.int .i64 0,.int .i64 6]) (by simp[results,Tryz.results253,go_sem,pkV,pk0,k0,k1,k2,k3,k4,k5]) rfl (PDownP.err _ _ _ G)
 ·obtain⟨q,rfl⟩:∃q:Nat,k=(q:Int):=⟨k.toNat,by omega⟩
  have HRF:=qQ (show R=(0,P'.getD (q+1) 0,⟨S',D',N',F',P',T'⟩) from by rw[HR2.out];exact if_neg hk)
  have i1:decide ((q:Int)<0)=false:=by simp
  have i2:((q:Int)==(ln:Int)-1)=false:=by simp;omega
  have i3:decide ((q:Int)=(ln:Int)-1)=false:=by simp;omega
  have i4:¬(q:Int)<0:=by omega
  have hq:q+1<ln:=by omega
  have hw1:IntKind.wrap .i64 ((ln:Int)-1)=(ln:Int)-1:=wrap_small _ (by omega) (by omega)
  clear hk HR2
  obtain⟨z,hz⟩:∃z,P'[q+1]? =some z:=⟨_,List.getElem?_eq_getElem (by have:=HLN.out;omega)⟩
  go_upto_region 7 with fail
  obtain⟨g,cap,e1,hgb,hgs,hcap⟩:∃g cap,A1=some ⟨g,0,none⟩∧w1.heap.size≤g∧c1=cap∧ln≤cap:=by
   rcases qD HO.out.1 with ⟨e,h1,_⟩|⟨g,cap,e,h2,h3,h4,_⟩
   ·omega
   ·cases e;exact⟨g,_,rfl,h2,rfl,h4⟩
  subst e1 hgs
  have hcz:w5.cell? ⟨g,q+1,none⟩=some (.int .i64 z):=by
   have:=qp HO.out.1 (q+1) (VI z) (by rw[List.getElem?_map,hz];rfl)
   exact this
  have hw2:IntKind.wrap .i64 ((q:Int)+1)=(q:Int)+1:=wrap_small _ (by omega) (by omega)
  have j1:0≤(q:Int)+1:=by omega
  have j2:(q:Int)+1<(ln:Int):=by omega
  have j3:((q:Int)+1).toNat=q+1:=by omega
  have hab:¬a=b:=by have:=HH1.out;have:=HAE.out;omega
  have hgb':¬g=b:=by have:=HH.out;omega
  have hK:∀W,Chg (· =b) w5 W→W.cell? ⟨a,0,none⟩=some (.int .i64 S')∧W.cell? ⟨a,1,none⟩=some (.int .i64 D')∧W.cell? ⟨a,2,none⟩=some (.int .i64 N')∧W.cell? ⟨a,3,none⟩=some (.int .i64 F')∧W.cell? ⟨a,4,none⟩=some (.slice (some ⟨g,0,none⟩) ln c1)∧W.cell? ⟨a,5,none⟩=some (.slice A2 n2 c2)∧W.cell? ⟨g,q+1,none⟩=some (.int .i64 z):=λW k=>by
   have L:=λ{o:Nat} {b':Nat} {v:Value} (h:w5.cell? ⟨b',o,none⟩=some v) (ne:¬b'=b)=>(k.cell (qG h) ne).trans h
   exact⟨L d0 hab,L d1 hab,L d2 hab,L d3 hab,L d4 hab,L d5 hab,L hcz hgb'⟩
  have HK:=qQ hK
  have hab0:=qQ hab
  have hgb0:=qQ hgb'
  have HZ:=qQ (show P'.getD (q+1) 0=z from by rw[List.getD_eq_getElem?_getD,hz];rfl)
  clear hK hab hgb' hcap hgb hz hq hxl hkb i1 i2 i3 i4 hw1
  have hab:=hab0.out
  have hgb':=hgb0.out
  go_cut [5,6] (λu5 u6 wx=>u5= .int .i64 z∧u6= .int .i64 0∧wx.heap[b]? =some (.cells #[.int .i64 S',.int .i64 D',.int .i64 N',.int .i64 F',.slice (some ⟨g,0,none⟩) ln c1,.slice A2 n2 c2] 42 (0,0))∧Chg (λj=>j=b) w5 wx)
  case first=>
   go_region_with fail
   all_goals
    go_wp2_with fail
    go_meet
    exact⟨rfl,rfl,Chg.keep (Chg.drew (λ_=>False) _) (set6b HB5.out.res (.int .i64 S') (.int .i64 D') (.int .i64 N') (.int .i64 F') (.slice (some ⟨g,0,none⟩) ln c1) (.slice A2 n2 c2)) (λe=>e),(set6 w5 b (.int .i64 S') (.int .i64 D') (.int .i64 N') (.int .i64 F') (.slice (some ⟨g,0,none⟩) ln c1) (.slice A2 n2 c2)).trans (Chg.drew _ _)⟩
  case rest=>
   obtain⟨rfl,rfl,hbk,GS⟩:=hcut
   obtain⟨k0,k1,k2,k3,k4,k5⟩:=qC hbk
   have G:Chg (λ_=>False) w wc:=by
    have hl:=HB5.out.lt
    exact (HB5.out.chg.none.trans (GS.mono (λk _ h=>(by have h:k=b:=h;omega:w.heap.size≤k)))).fresh
   clear d0 d1 d2 d3 d4 d5 e0 e1 e2 e3 e4 e5 c0 c1' c2' c3 c4 c5 f0 f1 f2 f3 f4 f5
   go_wp2_with fail
   rw[HRF.out,HZ.out]
   exact bodyPost_ret (v:= .tuple #[pkV ⟨S',D',N',F',P',T'⟩ (.slice (some ⟨g,0,none⟩) ln c1) (.slice A2 n2 c2),.int .i64 z,.int .i64 0]) (by simp[results,Tryz.results253,go_sem,pkV,k0,k1,k2,k3,k4,k5]) rfl
    ⟨_,_,rfl,⟨by rw[HLN.out];exact qj (qY HO.out.1 GS (λj hj=>(HROW.out _ _ _ _ _ HO.out.1 j hj).2)) HG2.out.size,
     qj (qY HO.out.2.1 GS (λj hj=>(HROW.out _ _ _ _ _ HO.out.2.1 j hj).2)) HG2.out.size,HO.out.2.2⟩,G⟩
end Go.Proofs.YtnpihllannobgaaGreatDoor
