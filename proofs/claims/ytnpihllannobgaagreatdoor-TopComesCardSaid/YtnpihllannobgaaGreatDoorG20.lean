/- Steps of the proof, part G20. No condition. -/
import Derived.Test.YtnpihllannobgaaGreatDoorG19
import Derived.Test.YtnpihllannobgaaGreatDoorG09
import Derived.Deep.DeepCutAuto
import Derived.RegionTactic
namespace Go.Proofs.YtnpihllannobgaaGreatDoor
set_option linter.unusedVariables false
set_option linter.unusedSimpArgs false
set_option maxRecDepth 100000
set_option maxHeartbeats 32000000
open Go.ChangeShapes Go.WideShapes Go.ChangeAt Go.RowKit
theorem jD{p:Pk}(h:mayP p=true):(0≤p.src∧p.src<16)∧(0≤p.dst∧p.dst<16)∧p.src≠p.dst∧(0≤p.n∧p.n≤70368744177663)∧(0≤p.life∧p.life≤15)∧(p.path.length≤16∧(∀z∈p.path,0≤z∧z<16)∧p.path.Nodup)∧1≤p.data.length∧p.data.length≤24:=by
 simp only[mayP,jQ,qt,inR,Bool.and_eq_true,decide_eq_true_eq,bne_iff_ne,ne_eq,List.all_eq_true] at h
 obtain⟨⟨⟨⟨⟨⟨h1,h2⟩,h3⟩,h4⟩,h5⟩,⟨⟨h6,h7⟩,h8⟩⟩,h9⟩:=h
 exact⟨by omega,by omega,h3,h4,h5,⟨h8,(λz hz=>by have:=h6 z hz;omega),h7⟩,by omega,by omega⟩
def PEncP(w:World)(p:Pk)(en:Ending)(w':World):Prop:=
 (mayP p=true∧PEnc w (encP p) en w')∨(mayP p=false∧en= .returned (.tuple #[.slice none 0 0,.int .i64 1])∧Chg (λ_=>False) w w')
theorem pencode_any(w:World)(own:Cls)(p:Pk)(lv dv:Value)(h:PO w own lv dv p)(hL:p.path.length≤100000)(hD:p.data.length≤100000):Calls Tryz.prog 79 #[pkV p lv dv] w (PEncP w p):=by
 have ga:=Chg.alloc (λ_=>False) w (pkB p lv dv)
 have hb:=qV w (pkB p lv dv)
 have HMAY:=qQ (pmay_any (w.alloc (pkB p lv dv)) own p lv dv (h.keep ga (λ_ _ e=>e)) hL hD)
 have H:=qQ h
 have HDB:Hid (∀x∈p.data,0≤x∧x<256):=qQ h.2.2
 obtain⟨lA,lc,hlv,_⟩:=h.1
 obtain⟨⟨dA,dc,hdv,_⟩,_⟩:=h.2
 obtain⟨m,hm⟩:=qZ p.path.length
 obtain⟨n,hn⟩:=qZ p.data.length
 rw[←hn] at hdv
 rw[←hm] at hlv
 subst hlv hdv
 have HMN:=qQ (And.intro hm hn)
 unfold pkB at hb ga HMAY
 unfold pkV at HMAY ⊢
 have HGA:=qQ ga
 have HBA:=qQ hb
 obtain⟨pb,hpb⟩:∃b,b=w.heap.size:=⟨_,rfl⟩
 clear ga hb h hm hn hL hD
 obtain⟨b0,b1,b2,b3,b4,b5⟩:=qC HBA.out
 rw[←hpb] at HBA
 by_cases hmp:mayP p=true
 ·have HM:=qQ hmp
  rw[hmp] at HMAY
  clear hmp
  go_enter Tryz.func79,Tryz.ntmps79
  go_wp2_with fail
  with_reducible refine HMAY.out.mono ?_
  rintro en w2 ⟨rfl,G2⟩
  rw[←hpb]
  clear hpb
  have HB2:=qQ (Chg.keep G2 HBA.out (λe=>e))
  have HG2:=qQ (HGA.out.trans G2)
  have HPL:=qQ (show pb<w2.heap.size from qX HB2.out)
  clear G2 HGA HBA HMAY b0 b1 b2 b3 b4 b5
  have hw4:Wr (w2.alloc (.cells #[.slice none 0 0,.int .i64 0] 180)) w2.heap.size (.slice none 0 0) []:=⟨qV _ _,World.ownsRow_nil _ _ _ _⟩
  have g4:=Chg.alloc (λ_=>False) w2 (.cells #[.slice none 0 0,.int .i64 0] 180)
  have HW:=qQ (WC.start hw4)
  have HB:=qQ (Chg.keep g4 HB2.out (λe=>e))
  have HG4:=qQ (HG2.out.trans g4)
  have hpo:=H.out.keep HG4.out (λ_ _ e=>e)
  have hsz4:(w2.alloc (.cells #[.slice none 0 0,.int .i64 0] 180)).heap.size=w2.heap.size+1:=by simp
  obtain⟨b,hbe⟩:=qZ w2.heap.size
  have HSB:=qQ (show pb<b∧w.heap.size≤b from ⟨by rw[hbe];exact HPL.out,by rw[hbe];exact HG2.out.size⟩)
  have HDS:=qQ (show Rs V8 (w2.alloc (.cells #[.slice none 0 0,.int .i64 0] 180)) w2.heap.size dA p.data.length p.data from by
   obtain⟨A',c',e1,h1,_⟩:=(H.out.2.keep HG2.out (λ_ _ e=>e)).bs
   cases e1;exact h1.keep g4 (λ_ _ e=>e))
  have HPS:=qQ (show Rs VI (w2.alloc (.cells #[.slice none 0 0,.int .i64 0] 180)) w2.heap.size lA p.path.length p.path from by
   obtain⟨A',c',e1,h1,_⟩:=(H.out.1.keep HG2.out (λ_ _ e=>e)).rs
   cases e1;exact h1.keep g4 (λ_ _ e=>e))
  rw[←hbe] at HW HDS HPS
  rw[←HMN.out.1] at HPS
  rw[←HMN.out.2] at HDS
  obtain⟨q1,q2,q3,q4,q5,q6,q7,q8⟩:=jD HM.out
  have u1:IntKind.u64.wrap p.src=p.src:=IntWalk.u64_in _ (by omega)
  have u2:IntKind.u64.wrap p.dst=p.dst:=IntWalk.u64_in _ (by omega)
  have u3:IntKind.u64.wrap p.n=p.n:=IntWalk.u64_in _ (by omega)
  have u4:IntKind.u64.wrap p.life=p.life:=IntWalk.u64_in _ (by omega)
  have u5:IntKind.u64.wrap (m:Int)=(m:Int):=IntWalk.u64_in _ (by have:=HMN.out.1;omega)
  have u6:IntKind.u64.wrap (n:Int)=(n:Int):=IntWalk.u64_in _ (by have:=HMN.out.2;omega)
  have hm16:m≤16:=by have:=HMN.out.1;omega
  have hn24:n≤24:=by have:=HMN.out.2;omega
  have HQ:=qQ (And.intro q1 (And.intro q2 (And.intro q4 (And.intro q5 q6.2.1))))
  clear q1 q2 q3 q4 q5 q6 q7 q8 hw4 g4 hpo
  obtain⟨c0,c1,c2,c3,c4,c5⟩:=qC HB.out
  have hne:¬pb=w2.heap.size:=by have:=HPL.out;omega
  go_wp2_with fail
  rw[←hbe]
  generalize w2.alloc (.cells #[.slice none 0 0,.int .i64 0] 180)=w3 at *
  clear hne hbe hsz4
  (with_reducible refine (zF HW.out 1 8 rfl (by omega) p.src HQ.out.1.1 (by have:=HQ.out;omega) (by simp[qw])).mono ?_)
  rintro en w4 ⟨rfl,W',C'⟩
  have HB':=qQ (C'.keep HB.out (by have:=HSB.out;omega) (.inl (by decide)))
  have HW':=qQ W'
  have HDS':=qQ (HDS.out.keep C'.chg (λj h1 h2=>by omega))
  have HPS':=qQ (HPS.out.keep C'.chg (λj h1 h2=>by omega))
  clear W' C' c0 c1 c2 c3 c4 c5 HW HB HDS HPS
  have HW:=HW'
  have HB:=HB'
  have HDS:=HDS'
  have HPS:=HPS'
  clear HW' HB' HDS' HPS'
  obtain⟨c0,c1,c2,c3,c4,c5⟩:=qC HB.out
  go_wp2_with fail
  (with_reducible refine (zF HW.out 1 8 rfl (by omega) p.dst HQ.out.2.1.1 (by have:=HQ.out;omega) (by simp[qw])).mono ?_)
  rintro en w5 ⟨rfl,W',C'⟩
  have HB':=qQ (C'.keep HB.out (by have:=HSB.out;omega) (.inl (by decide)))
  have HW':=qQ W'
  have HDS':=qQ (HDS.out.keep C'.chg (λj h1 h2=>by omega))
  have HPS':=qQ (HPS.out.keep C'.chg (λj h1 h2=>by omega))
  clear W' C' c0 c1 c2 c3 c4 c5 HW HB HDS HPS
  have HW:=HW'
  have HB:=HB'
  have HDS:=HDS'
  have HPS:=HPS'
  clear HW' HB' HDS' HPS'
  obtain⟨c0,c1,c2,c3,c4,c5⟩:=qC HB.out
  go_wp2_with fail
  (with_reducible refine (zF HW.out 6 48 rfl (by omega) p.n HQ.out.2.2.1.1 (by have:=HQ.out;omega) (by simp[qw])).mono ?_)
  rintro en w6 ⟨rfl,W',C'⟩
  have HB':=qQ (C'.keep HB.out (by have:=HSB.out;omega) (.inl (by decide)))
  have HW':=qQ W'
  have HDS':=qQ (HDS.out.keep C'.chg (λj h1 h2=>by omega))
  have HPS':=qQ (HPS.out.keep C'.chg (λj h1 h2=>by omega))
  clear W' C' c0 c1 c2 c3 c4 c5 HW HB HDS HPS
  have HW:=HW'
  have HB:=HB'
  have HDS:=HDS'
  have HPS:=HPS'
  clear HW' HB' HDS' HPS'
  obtain⟨c0,c1,c2,c3,c4,c5⟩:=qC HB.out
  go_wp2_with fail
  (with_reducible refine (zF HW.out 1 8 rfl (by omega) p.life HQ.out.2.2.2.1.1 (by have:=HQ.out;omega) (by simp[qw])).mono ?_)
  rintro en w7 ⟨rfl,W',C'⟩
  have HB':=qQ (C'.keep HB.out (by have:=HSB.out;omega) (.inl (by decide)))
  have HW':=qQ W'
  have HDS':=qQ (HDS.out.keep C'.chg (λj h1 h2=>by omega))
  have HPS':=qQ (HPS.out.keep C'.chg (λj h1 h2=>by omega))
  clear W' C' c0 c1 c2 c3 c4 c5 HW HB HDS HPS
  have HW:=HW'
  have HB:=HB'
  have HDS:=HDS'
  have HPS:=HPS'
  clear HW' HB' HDS' HPS'
  obtain⟨c0,c1,c2,c3,c4,c5⟩:=qC HB.out
  go_wp2_with fail
  (with_reducible refine (zF HW.out 1 8 rfl (by omega) (m:Int) (by omega) (by omega) (by simp[qw])).mono ?_)
  rintro en w8 ⟨rfl,W',C'⟩
  have HB':=qQ (C'.keep HB.out (by have:=HSB.out;omega) (.inl (by decide)))
  have HW':=qQ W'
  have HDS':=qQ (HDS.out.keep C'.chg (λj h1 h2=>by omega))
  have HPS':=qQ (HPS.out.keep C'.chg (λj h1 h2=>by omega))
  clear W' C' c0 c1 c2 c3 c4 c5 HW HB HDS HPS
  have HW:=HW'
  have HB:=HB'
  have HDS:=HDS'
  have HPS:=HPS'
  clear HW' HB' HDS' HPS'
  obtain⟨c0,c1,c2,c3,c4,c5⟩:=qC HB.out
  go_wp2_with fail
  obtain⟨M,hM⟩:=qZ (((((([]++be 1 p.src)++be 1 p.dst)++be 6 p.n)++be 1 p.life)++be 1 (m:Int)))
  rw[←hM] at HW
  have hMl:M.length=10:=by rw[hM];simp[qw]
  have HM2:=qQ (And.intro hM hMl)
  clear hM hMl c0 c1 c2 c3 c4 c5
  go_loopw [41] (λi wr=>∃(k:Nat),k≤m∧i= .int .i64 k∧WC w3 wr b (M++p.path.take k)∧Rs VI wr b lA m p.path∧Rs V8 wr b dA n p.data∧wr.heap[pb]? =some (.cells #[.int .i64 p.src,.int .i64 p.dst,.int .i64 p.n,.int .i64 p.life,.slice lA m lc,.slice dA n dc] 42 (0,0))) (λi _=>m-(intOf i).toNat)
  case atStart=>exact⟨0,by omega,rfl,by simpa using HW.out,HPS.out,HDS.out,HB.out⟩
  case round=>
   obtain⟨k,hk,rfl,hP,hS,hDd,hBb⟩:=hrel
   have HP:=qQ hP
   have HSR:=qQ hS
   have HDR:=qQ hDd
   have HBR:=qQ hBb
   clear hP hS hDd hBb HW HPS HDS HB
   by_cases hlt:k<m
   ·obtain⟨x,z,rfl,hxb,hz,hc⟩:=HSR.out.at hlt
    obtain⟨z0,z1⟩:=HQ.out.2.2.2.2 z (List.mem_of_getElem? hz)
    have HX:=qQ hz
    unfold VI at hc
    have u7:IntKind.u64.wrap z=z:=IntWalk.u64_in _ (by omega)
    clear hz
    go_wp2_with fail
    (with_reducible refine (zF HP.out 1 8 rfl (by omega) z z0 (by omega) (by have:=HM2.out.2;simp;omega)).mono ?_)
    rintro e w20 ⟨rfl,W2,C2⟩
    have hnx:M++p.path.take k++be 1 z=M++p.path.take (k+1):=by
     rw[List.take_add_one,HX.out,List.append_assoc,be_one z z0 (by omega)];rfl
    rw[hnx] at W2
    have HN:=qQ (And.intro W2 (And.intro (HSR.out.keep C2.chg (λj h1 h2=>by omega)) (And.intro (HDR.out.keep C2.chg (λj h1 h2=>by omega)) (C2.keep HBR.out (by have:=HSB.out;omega) (.inl (by decide))))))
    clear hnx W2 C2 hc HP HSR HDR HBR u7
    go_wp2_with fail
    go_roundw
    case measure=>simp[intOf];omega
    case rel=>exact⟨k+1,by omega,by go_num,HN.out⟩
   ·obtain rfl:m=k:=by omega
    obtain⟨c0,c1,c2,c3,c4,c5⟩:=qC HBR.out
    rw[List.take_of_length_le (by have:=HMN.out.1;omega)] at HP
    go_wp2_with fail
    (with_reducible refine (zF HP.out 1 8 rfl (by omega) (n:Int) (by omega) (by omega) (by have:=HM2.out.2;have:=HMN.out.1;simp;omega)).mono ?_)
    rintro en w21 ⟨rfl,W',C'⟩
    have HW5:=qQ W'
    have HB5:=qQ (C'.keep HBR.out (by have:=HSB.out;omega) (.inl (by decide)))
    have HD5:=qQ (HDR.out.keep C'.chg (λj h1 h2=>by omega))
    clear W' C' c0 c1 c2 c3 c4 c5 HP HSR HDR HBR
    obtain⟨c0,c1,c2,c3,c4,c5⟩:=qC HB5.out
    go_wp2_with fail
    (with_reducible refine (wc_text HW5.out dA n dc p.data HD5.out HDB.out (by have:=HM2.out.2;have:=HMN.out.1;simp[qw];omega)).mono ?_)
    rintro en w22 ⟨rfl,W',C'⟩
    have HW6:=qQ W'
    clear W' C' c0 c1 c2 c3 c4 c5 HW5 HB5 HD5
    go_wp2_with fail
    have hfin:M++p.path++be 1 (n:Int)++p.data=encP p:=by
     rw[HM2.out.1,HMN.out.1,HMN.out.2]
     unfold encP
     simp[List.append_assoc]
    rw[hfin] at HW6
    obtain⟨⟨v6,hw⟩,hc⟩:=HW6.out
    have HBY:=qQ (bytes_any w22 b v6 (encP p) hw (by rw[←hfin];have:=HM2.out.2;have:=HMN.out.1;have:=HMN.out.2;simp[qw];omega))
    have HC6:=qQ (((HG4.out.none (S:=λq=>w.heap.size≤q)).trans (hc.chg.mono (λj _ h2=>Nat.le_trans HSB.out.2 h2))).fresh)
    clear hw hc hfin HW6
    with_reducible refine HBY.out.mono ?_
    rintro en w23 ⟨v7,rfl,hown7,G7⟩
    have HX:=qQ (And.intro (qk hown7 HC6.out.size) (HC6.out.trans G7))
    obtain⟨A7,c7,rfl,_⟩:=Rs.of_own hown7
    clear hown7 G7 HBY
    go_wp2_with fail
    go_ret2
    exact .inl ⟨HM.out,_,rfl,HX.out.1,HX.out.2⟩
 ·have hmp:mayP p=false:=by simpa using hmp
  have HM:=qQ hmp
  rw[hmp] at HMAY
  clear hmp
  go_enter Tryz.func79,Tryz.ntmps79
  go_wp2_with fail
  with_reducible refine HMAY.out.mono ?_
  rintro en w2 ⟨rfl,G2⟩
  have HG2:=qQ (HGA.out.trans G2)
  clear G2 HGA HBA HMAY b0 b1 b2 b3 b4 b5
  go_wp2_with fail
  go_ret2
  exact .inr ⟨HM.out,rfl,HG2.out⟩
def decP(L:List Int):Int×Pk:=
 let s0:RS:=⟨L,0⟩
 let s1:=qS s0 1
 let s2:=qS s1 1
 let s3:=qS s2 6
 let s4:=qS s3 1
 let s5:=qS s4 1
 if 16<ql s4 1 then (3,pk0) else
 let s6:=zr s5 (ql s4 1)
 let s7:=qS s6 1
 if rEnd s7=2 then (2,pk0) else if !inR (ql s6 1) 1 24 then (3,pk0) else
 let s8:=zr s7 (ql s6 1)
 if rEnd s8≠0 then (rEnd s8,pk0) else
 let p:Pk:=⟨ql s0 1,ql s1 1,ql s2 6,ql s3 1,js s5 (ql s4 1),js s7 (ql s6 1)⟩
 if mayP p then (0,p) else (3,pk0)
theorem take_nxt{α:Type}(L:List α)(k:Nat)(z:α)(h:L[k]? =some z):L.take (k+1)=L.take k++[z]:=by rw[List.take_add_one,h];rfl
theorem pnext_any(w:World)(r:Nat)(s:RS)(h:Rx w r s)(x:Int)(hx:ql s 1=x)(s':RS)(hs:qS s 1=s'):Calls Tryz.prog 169 #[.pointer (some ⟨r,0,none⟩)] w (PRx w r s' (.int .i64 x)):=by
 have ht:=jr h 1 8 rfl (by omega) x hx s' hs
 have hb:=zj h 1
 rw[hx] at hb
 have h0:0≤x:=hb.1
 have h1:x<256:=hb.2
 have HT:=qQ ht
 clear ht hb hx hs h
 go_enter Tryz.func169,Tryz.ntmps169
 go_wp2_with fail
 with_reducible refine HT.out.mono ?_
 rintro en w1 ⟨rfl,R,G⟩
 have HG:=qQ (And.intro R G)
 clear R G HT
 go_wp2_with fail
 go_ret
 exact⟨rfl,HG.out.1,HG.out.2⟩
def NewR(w w':World)(v:Value)(L:List Int):Prop:=∀own,Z w own→RV VI w' own v L
def PDecP(w:World)(x:Int×Pk)(en:Ending)(w':World):Prop:=
 ∃lv dv,en= .returned (.tuple #[pkV x.2 lv dv,.int .i64 x.1])∧NewR w w' lv x.2.path∧NewB w w' dv x.2.data∧Chg (λ_=>False) w w'
theorem PDecP.err(w w':World)(e:Int)(g:Chg (λ_=>False) w w'):PDecP w (e,pk0) (.returned (.tuple #[pkV pk0 (.slice none 0 0) (.slice none 0 0),.int .i64 e])) w':=
 ⟨_,_,rfl,λown _=>RV.nil _ _ _,λown _=>BO.nil _ _,g⟩
structure PD(w:World)(r b:Nat)(cs:Array Value)(s:RS)(W:World):Prop where
 res:W.heap[w.heap.size]? =some (.cells #[.int .i64 0,.int .i64 0,.int .i64 0,.int .i64 0,.slice none 0 0,.slice none 0 0] 42 (0,0))
 chg:Chg (λ_=>False) w W
 rx:Rx W r s
 blk:W.heap[b]? =some (.cells cs 42 (0,0))
 lt:w.heap.size<r∧r<b∧b<W.heap.size
section
variable {w W W':World}{r b base:Nat}{cs:Array Value}{s s':RS}
theorem PD.kept(h:PD w r b cs s W)(g:Chg (λ_=>False) W W'):PD w r b cs s W':=
 ⟨Chg.keep g h.res (λe=>e),h.chg.trans g,h.rx.kept g,Chg.keep g h.blk (λe=>e),by have:=h.lt;have:=g.size;omega⟩
theorem PD.read(h:PD w r b cs s W)(g:Chg (λj=>j=r) W W')(hr:Rx W' r s'):PD w r b cs s' W':=by
 have hl:=h.lt
 exact⟨Chg.keep g h.res (λe=>by omega),(h.chg.none.trans (g.mono (λj _ e=>(by omega:w.heap.size≤j)))).fresh,hr,Chg.keep g h.blk (λe=>by omega),by have:=g.size;omega⟩
theorem PD.high(h:PD w r b cs s W)(hb:b<base)(g:Chg (λj=>base≤j) W W'):PD w r b cs s W':=by
 have hl:=h.lt
 exact⟨Chg.keep g h.res (λe=>by omega),(h.chg.none.trans (g.mono (λj _ e=>(by omega:w.heap.size≤j)))).fresh,h.rx.keep g (λj h1 h2=>by omega),Chg.keep g h.blk (λe=>by omega),by have:=g.size;omega⟩
theorem PD.set(h:PD w r b cs s W)(k:Nat)(v:Value):PD w r b (cs.setIfInBounds k v) s (W.setCell ⟨b,k,none⟩ v):=by
 have hl:=h.lt
 have g:=chg1 W b k v
 exact⟨Chg.keep g h.res (λe=>by have e:w.heap.size=b:=e;omega),(h.chg.none.trans (g.mono (λj _ e=>(by have e:j=b:=e;omega:w.heap.size≤j)))).fresh,h.rx.keep g (λj h1 h2=>by have h2:j=b:=h2;omega),qB h.blk k v,by have:=g.size;omega⟩
theorem PD.fin(h:PD w r b cs s W)(v0 v1 v2 v3 v4 v5:Value)(W':World)(hW:W'=(((((W.setCell ⟨w.heap.size,0,none⟩ v0).setCell ⟨w.heap.size,1,none⟩ v1).setCell ⟨w.heap.size,2,none⟩ v2).setCell ⟨w.heap.size,3,none⟩ v3).setCell ⟨w.heap.size,4,none⟩ v4).setCell ⟨w.heap.size,5,none⟩ v5):
  W'.heap[w.heap.size]? =some (.cells #[v0,v1,v2,v3,v4,v5] 42 (0,0))∧Chg (λ_=>False) w W'∧Chg (· =w.heap.size) W W':=by
 subst hW
 have gs:=set6 W w.heap.size v0 v1 v2 v3 v4 v5
 exact⟨set6b h.res v0 v1 v2 v3 v4 v5,(h.chg.none.trans (gs.mono (λk _ h=>(by have h:k=w.heap.size:=h;show w.heap.size≤k;omega)))).fresh,gs⟩
end
theorem pdecode_any(w:World)(v:Value)(L:List Int)(h:BS w w.heap.size v L)(hL:L.length≤100000):Calls Tryz.prog 118 #[v] w (PDecP w (decP L)):=by
 obtain⟨R,hR⟩:=qZ (decP L)
 rw[←hR]
 obtain⟨s0,hs0⟩:∃s0:RS,(⟨L,0⟩:RS)=s0:=⟨_,rfl⟩
 obtain⟨x0,hx0⟩:∃x,ql s0 1=x:=⟨_,rfl⟩
 obtain⟨s1,hs1⟩:∃s,qS s0 1=s:=⟨_,rfl⟩
 obtain⟨x1,hx1⟩:∃x,ql s1 1=x:=⟨_,rfl⟩
 obtain⟨s2,hs2⟩:∃s,qS s1 1=s:=⟨_,rfl⟩
 obtain⟨x2,hx2⟩:∃x,ql s2 6=x:=⟨_,rfl⟩
 obtain⟨s3,hs3⟩:∃s,qS s2 6=s:=⟨_,rfl⟩
 obtain⟨x3,hx3⟩:∃x,ql s3 1=x:=⟨_,rfl⟩
 obtain⟨s4,hs4⟩:∃s,qS s3 1=s:=⟨_,rfl⟩
 obtain⟨x4,hx4⟩:∃x,ql s4 1=x:=⟨_,rfl⟩
 obtain⟨s5,hs5⟩:∃s,qS s4 1=s:=⟨_,rfl⟩
 obtain⟨P,hP⟩:∃x,js s5 x4=x:=⟨_,rfl⟩
 obtain⟨s6,hs6⟩:∃s,zr s5 x4=s:=⟨_,rfl⟩
 obtain⟨x6,hx6⟩:∃x,ql s6 1=x:=⟨_,rfl⟩
 obtain⟨s7,hs7⟩:∃s,qS s6 1=s:=⟨_,rfl⟩
 obtain⟨q7,hq7⟩:∃q,rEnd s7=q:=⟨_,rfl⟩
 obtain⟨T,hT⟩:∃x,js s7 x6=x:=⟨_,rfl⟩
 obtain⟨s8,hs8⟩:∃s,zr s7 x6=s:=⟨_,rfl⟩
 obtain⟨q8,hq8⟩:∃q,rEnd s8=q:=⟨_,rfl⟩
 have hr:R=if 16<x4 then (3,pk0) else if q7=2 then (2,pk0) else if !inR x6 1 24 then (3,pk0) else if q8≠0 then (q8,pk0) else if mayP ⟨x0,x1,x2,x3,P,T⟩ then (0,⟨x0,x1,x2,x3,P,T⟩) else (3,pk0):=by
  rw[hR];unfold decP;simp only[hs0,hx0,hs1,hx1,hs2,hx2,hs3,hx3,hs4,hx4,hs5,hP,hs6,hx6,hs7,hq7,hT,hs8,hq8]
 have HR:=qQ hr
 have HX0:=qQ (And.intro hx0 hs1)
 have HX1:=qQ (And.intro hx1 hs2)
 have HX2:=qQ (And.intro hx2 hs3)
 have HX3:=qQ (And.intro hx3 hs4)
 have HX4:=qQ (And.intro hx4 hs5)
 have HP:=qQ (And.intro hP hs6)
 have HX6:=qQ (And.intro hx6 hs7)
 have HQ7:=qQ hq7
 have HT:=qQ (And.intro hT hs8)
 have HQ8:=qQ hq8
 have HS0:=qQ hs0
 have ga:=Chg.alloc (λ_=>False) w (.cells #[.int .i64 0,.int .i64 0,.int .i64 0,.int .i64 0,.slice none 0 0,.slice none 0 0] 42)
 have hb0:=qV w (.cells #[.int .i64 0,.int .i64 0,.int .i64 0,.int .i64 0,.slice none 0 0,.slice none 0 0] 42)
 have HN:=qQ (rx_new _ v L ((h.kept ga).more ga.size) hL)
 obtain⟨A,c,hv,_⟩:=h
 obtain⟨n,hn⟩:=qZ L.length
 rw[←hn] at hv
 subst hv
 have HB:=qQ (And.intro hb0 ga)
 clear hR hs0 hx0 hs1 hx1 hs2 hx2 hs3 hx3 hs4 hx4 hs5 hP hs6 hx6 hs7 hq7 hT hs8 hq8 hr ga hb0 hn hL
 obtain⟨wz,hwz⟩:=qZ w.heap.size
 go_enter Tryz.func118,Tryz.ntmps118
 go_wp2_with fail
 with_reducible refine HN.out.mono ?_
 rintro en w1 ⟨r,rfl,Rr,hrr,G1⟩
 rw[HS0.out] at Rr
 have HRL:=qQ (show w.heap.size<r by have:=qX HB.out.1;omega)
 have HB1:=qQ (And.intro (Chg.keep G1 HB.out.1 (λe=>e)) (HB.out.2.trans G1))
 have HX:=qQ Rr
 clear G1 HB HN Rr hrr
 go_wp2_with fail
 (with_reducible refine (pnext_any _ r _ HX.out _ HX0.out.1 _ HX0.out.2).mono ?_)
 rintro en w2 ⟨rfl,Rr,G⟩
 have HB2:=qQ (And.intro (Chg.keep G HB1.out.1 (λe=>by have e:w.heap.size=r:=e;have:=HRL.out;omega)) (((HB1.out.2.none (S:=λq=>w.heap.size≤q)).trans (G.mono (λj _ e=>by have e:j=r:=e;have:=HRL.out;omega))).fresh))
 clear HX
 have HX:=qQ Rr
 clear Rr G HB1 HX0
 go_wp2_with fail
 (with_reducible refine (pnext_any _ r _ HX.out _ HX1.out.1 _ HX1.out.2).mono ?_)
 rintro en w3 ⟨rfl,Rr,G⟩
 have HB3:=qQ (And.intro (Chg.keep G HB2.out.1 (λe=>by have e:w.heap.size=r:=e;have:=HRL.out;omega)) (((HB2.out.2.none (S:=λq=>w.heap.size≤q)).trans (G.mono (λj _ e=>by have e:j=r:=e;have:=HRL.out;omega))).fresh))
 clear HX
 have HX:=qQ Rr
 clear Rr G HB2 HX1
 go_wp2_with fail
 have hx2b:=zj HX.out 6
 rw[HX2.out.1] at hx2b
 obtain⟨hx2a,hx2c⟩:=hx2b
 have hx2c:x2<281474976710656:=hx2c
 (with_reducible refine (jr HX.out 6 48 rfl (by omega) _ HX2.out.1 _ HX2.out.2).mono ?_)
 rintro en w4 ⟨rfl,Rr,G⟩
 have HB4:=qQ (And.intro (Chg.keep G HB3.out.1 (λe=>by have e:w.heap.size=r:=e;have:=HRL.out;omega)) (((HB3.out.2.none (S:=λq=>w.heap.size≤q)).trans (G.mono (λj _ e=>by have e:j=r:=e;have:=HRL.out;omega))).fresh))
 clear HX
 have HX:=qQ Rr
 clear Rr G HB3 HX2
 go_wp2_with fail
 (with_reducible refine (pnext_any _ r _ HX.out _ HX3.out.1 _ HX3.out.2).mono ?_)
 rintro en w5 ⟨rfl,Rr,G⟩
 have HB5:=qQ (And.intro (Chg.keep G HB4.out.1 (λe=>by have e:w.heap.size=r:=e;have:=HRL.out;omega)) (((HB4.out.2.none (S:=λq=>w.heap.size≤q)).trans (G.mono (λj _ e=>by have e:j=r:=e;have:=HRL.out;omega))).fresh))
 clear HX
 have HX:=qQ Rr
 clear Rr G HB4 HX3
 go_wp2_with fail
 clear hx2a hx2c
 have hD:PD w r w5.heap.size #[.int .i64 x0,.int .i64 x1,.int .i64 x2,.int .i64 x3,.slice none 0 0,.slice none 0 0] s4 (w5.alloc (.cells #[.int .i64 x0,.int .i64 x1,.int .i64 x2,.int .i64 x3,.slice none 0 0,.slice none 0 0] 42)):=by
  have g:=Chg.alloc (λ_=>False) w5 (.cells #[.int .i64 x0,.int .i64 x1,.int .i64 x2,.int .i64 x3,.slice none 0 0,.slice none 0 0] 42)
  exact⟨Chg.keep g HB5.out.1 (λe=>e),HB5.out.2.trans g,HX.out.kept g,qV _ _,HRL.out,HX.out.lt,by simp⟩
 have HD:=qQ hD
 clear hD HX HB5 HRL
 generalize w5.alloc (.cells #[.int .i64 x0,.int .i64 x1,.int .i64 x2,.int .i64 x3,.slice none 0 0,.slice none 0 0] 42)=w6 at *
 generalize w5.heap.size=b at *
 (with_reducible refine (pnext_any _ r _ HD.out.rx _ HX4.out.1 _ HX4.out.2).mono ?_)
 rintro en w7 ⟨rfl,Rr,G⟩
 have h4b:=zj HD.out.rx 1
 rw[HX4.out.1] at h4b
 have HD7:=qQ (HD.out.read G Rr)
 clear G Rr HD HX4
 obtain⟨h4a,h4c⟩:=h4b
 have h4c:x4<256:=h4c
 by_cases h16:16<x4
 ·have b16:decide (16<x4)=true:=by simpa using h16
  have HRF:=qQ (show R=(3,pk0) from by rw[HR.out,if_pos h16])
  clear h16
  obtain⟨c0,c1,c2,c3,c4,c5⟩:=qC HD7.out.res
  obtain⟨f0,f1,f2,f3,f4,f5⟩:=zg HD7.out.res
  go_wp2_with fail
  obtain⟨hbk,G,_⟩:=HD7.out.fin (.int .i64 0) (.int .i64 0) (.int .i64 0) (.int .i64 0) (.slice none 0 0) (.slice none 0 0) _ rfl
  obtain⟨k0,k1,k2,k3,k4,k5⟩:=qC hbk
  rw[HRF.out]
  exact bodyPost_ret (v:= .tuple #[pkV pk0 (.slice none 0 0) (.slice none 0 0),.int .i64 3]) (by simp[results,Tryz.results118,go_sem,pkV,pk0,k0,k1,k2,k3,k4,k5]) rfl (PDecP.err _ _ _ G)
 have b16:decide (16<x4)=false:=by simpa using h16
 have HR2:=qQ HR.out
 rw[if_neg h16] at HR2
 clear HR
 have h16':x4≤16:=by omega
 clear h16
 go_wp2_with fail
 (with_reducible refine (rx_text w7 r s5 x4 HD7.out.rx (by omega)).mono ?_)
 rintro en w8 ⟨tv,rfl,hown,Rr,G,heb,hel⟩
 rw[HP.out.1] at hown heb hel
 rw[HP.out.2] at Rr
 have hP16:P.length≤16:=by
  rw[←HP.out.1]
  unfold js
  split
  ·rw[List.length_take];omega
  ·simp
 have HD8:=qQ (HD7.out.read G Rr)
 obtain⟨m,hm⟩:=qZ P.length
 rw[←hm] at hown hP16
 have htv:∃tA tc,tv= .slice tA m tc:=by
  rcases qD hown with ⟨e,h0,_⟩|⟨g,cap,e,_⟩
  ·exact⟨none,0,by rw[e,h0]⟩
  ·exact⟨_,_,e⟩
 obtain⟨tA,tc,rfl⟩:=htv
 have HTX:=qQ (And.intro hown (And.intro heb hm))
 have HBL:=qQ (show b<w7.heap.size∧b<w8.heap.size from ⟨HD7.out.lt.2.2,HD8.out.lt.2.2⟩)
 clear hown heb hel hm Rr G HD7 HP
 go_wp2_with fail
 clear b16 h4a h4c h16'
 go_loopw [32] (λi wr=>∃(k:Nat) (u:Value),k≤m∧i= .int .i64 k∧PD w r b #[.int .i64 x0,.int .i64 x1,.int .i64 x2,.int .i64 x3,u,.slice none 0 0] s6 wr∧wr.ownsRow w8.heap.size 3 1 u k ((P.take k).map VI)∧Chg (λj=>j=b∨w8.heap.size≤j) w8 wr) (λi _=>m-(intOf i).toNat)
 case atStart=>exact⟨0,.slice none 0 0,by omega,rfl,HD8.out,World.ownsRow_nil _ _ _ _,Chg.refl _ _⟩
 case round=>
  obtain⟨k,u,hk,rfl,hD,hU,hG⟩:=hrel
  have HDR:=qQ hD
  have HU:=qQ hU
  have HG:=qQ hG
  obtain⟨uA,uc,rfl⟩:∃uA uc,u= .slice uA k uc:=by
   rcases qD hU with ⟨e,h0,_⟩|⟨g,cap,e,_⟩
   ·exact⟨none,0,by rw[e,h0]⟩
   ·exact⟨_,_,e⟩
  have htr:=qY HTX.out.1 hG (λj h1 h2=>by have:=qT HTX.out.1 h1;have:=HBL.out;have:=qX HD8.out.blk;omega)
  have HTR:=qQ htr
  clear hD hU hG htr
  by_cases hlt:k<m
  ·obtain⟨z,hz⟩:∃z,P[k]? =some z:=⟨_,List.getElem?_eq_getElem (by have:=HTX.out.2.2;omega)⟩
   obtain⟨g,cap2,hvv⟩:∃g cap2,tA=some ⟨g,0,none⟩∧tc=cap2:=by
    rcases qD HTX.out.1 with ⟨e,h1,_⟩|⟨g,cap2,e,_⟩
    ·omega
    ·cases e;exact⟨_,_,rfl,rfl⟩
   obtain⟨rfl,rfl⟩:=hvv
   have hc:=qr HTR.out k (V8 z) (by rw[List.getElem?_map,hz];rfl)
   obtain⟨z0,z1⟩:=HTX.out.2.1 z (List.mem_of_getElem? hz)
   have HNX:=qQ (take_nxt P k z hz)
   unfold V8 at hc
   obtain⟨c0,c1,c2,c3,c4,c5⟩:=qC HDR.out.blk
   have i1:(k:Int)<(m:Int):=by omega
   have hk16:(k:Int)≤16:=by omega
   have hbw:¬b=wr.heap.size:=by have:=HDR.out.lt;omega
   clear hz
   go_wp2_with (at_builtin;go_loud (refine app1 (V:=VI) elI rfl (.tmp 37) (.tmp 40) rfl w8.heap.size (.slice uA k uc) k ((P.take k).map VI) rfl (HU.out.alloc _) wr.heap.size z rfl ?c1 rfl (by omega) (by omega) ?hb ?grow))
   case c1=>simp[VI]
   case hb=>have:=HG.out.size;simp;omega
   case grow=>
    intro v4 w4 hown hgr hat
    have ga:=Chg.alloc (λ_=>False) wr (.cells #[.int .i64 z] 3)
    have gg:=qH (S:=λj=>w8.heap.size≤j) hgr (λj e=>(qT HU.out e).1)
    have hD4:=(HDR.out.kept ga).high HBL.out.2 gg
    have hX:w4.ownsRow w8.heap.size 3 1 v4 (k+1) ((P.take (k+1)).map VI):=by rw[HNX.out,List.map_append,List.map_take];exact hown
    obtain⟨vA,vc,rfl⟩:∃vA vc,v4= .slice vA (k+1) vc:=by
     rcases qD hX with ⟨e,h0,_⟩|⟨g,cap,e,_⟩
     ·omega
     ·exact⟨_,_,e⟩
    have gS:=chg1 w4 b 4 (.slice vA (k+1) vc)
    have hX5:=qY hX gS (λj h1 h2=>by have:=(qT hX h1).1;have:=HBL.out;have h2:j=b:=h2;omega)
    have HX5:=qQ (And.intro (hD4.set 4 (.slice vA (k+1) vc)) (And.intro hX5 (((HG.out.trans ga.none).trans (gg.mono (λj _ h=> .inr h))).trans (gS.mono (λj _ h=> .inl h)))))
    obtain⟨e0,e1,e2,e3,e4,e5⟩:=qC hD4.blk
    have f4:=qK hD4.blk 4
    clear hown hgr hat ga gg hX hD4 gS hX5 HU HDR HG hc c0 c1 c2 c3 c4 c5 hbw
    go_wp2_with fail
    go_roundw
    case measure=>simp[intOf];omega
    case rel=>exact⟨k+1,_,by omega,by go_num,HX5.out⟩
  ·obtain rfl:m=k:=by omega
   have hPP:RV VI wr (λ_=>0) (.slice uA m uc) P:=by
    have:=HU.out
    rw[List.take_of_length_le (by have:=HTX.out.2.2;omega),HTX.out.2.2] at this
    rw[HTX.out.2.2]
    exact RV.of_own this (λ_ _=>rfl)
   have HPP:=qQ hPP
   have HUW:=HU
   rw[List.take_of_length_le (by have:=HTX.out.2.2;omega)] at HUW
   have HSZ:=qQ (show w.heap.size≤w8.heap.size from HD8.out.chg.size)
   clear hPP HG HTR HD8 HU hk hlt
   go_wp2_with fail
   (with_reducible refine (pnext_any _ r _ HDR.out.rx _ HX6.out.1 _ HX6.out.2).mono ?_)
   rintro en w9 ⟨rfl,Rr,G⟩
   have h6b:=zj HDR.out.rx 1
   rw[HX6.out.1] at h6b
   obtain⟨h6a,h6c⟩:=h6b
   have h6c:x6<256:=h6c
   have HD9:=qQ (HDR.out.read G Rr)
   have HU9:=qQ (qY HUW.out G (λj h1 h2=>by have:=(qT HUW.out h1).1;have:=HBL.out;have:=HDR.out.lt;have h2:j=r:=h2;omega))
   clear G Rr HX6 HUW HPP
   go_wp2_with fail
   (with_reducible refine (rx_end w9 r s7 HD9.out.rx).mono ?_)
   rintro en w10 ⟨rfl,Rr,G⟩
   rw[HQ7.out]
   have HD10:=qQ (HD9.out.read G Rr)
   have HU10:=qQ (qY HU9.out G (λj h1 h2=>by have:=(qT HU9.out h1).1;have:=HBL.out;have:=HDR.out.lt;have h2:j=r:=h2;omega))
   clear G Rr HD9 HU9 HQ7
   by_cases h7:q7=2
   ·have b7:(q7==2)=true:=by simp[h7]
    have HRF:=qQ (show R=(2,pk0) from by rw[HR2.out,if_pos h7])
    clear h7
    obtain⟨c0,c1,c2,c3,c4,c5⟩:=qC HD10.out.res
    obtain⟨f0,f1,f2,f3,f4,f5⟩:=zg HD10.out.res
    go_wp2_with fail
    obtain⟨hbk,G,_⟩:=HD10.out.fin (.int .i64 0) (.int .i64 0) (.int .i64 0) (.int .i64 0) (.slice none 0 0) (.slice none 0 0) _ rfl
    obtain⟨k0,k1,k2,k3,k4,k5⟩:=qC hbk
    rw[HRF.out]
    exact bodyPost_ret (v:= .tuple #[pkV pk0 (.slice none 0 0) (.slice none 0 0),.int .i64 2]) (by simp[results,Tryz.results118,go_sem,pkV,pk0,k0,k1,k2,k3,k4,k5]) rfl (PDecP.err _ _ _ G)
   have b7:(q7==2)=false:=by simp[h7]
   have HR3:=qQ HR2.out
   rw[if_neg h7] at HR3
   clear HR2 h7
   go_wp2_with fail
   (with_reducible refine (rin_any x6 1 24 _).mono ?_)
   rintro en w10' ⟨rfl,rfl⟩
   by_cases h24:inR x6 1 24=true
   case neg=>
    have h24:inR x6 1 24=false:=by simpa using h24
    have HRF:=qQ (show R=(3,pk0) from by rw[HR3.out,h24];rfl)
    rw[h24]
    clear h24
    obtain⟨c0,c1,c2,c3,c4,c5⟩:=qC HD10.out.res
    obtain⟨f0,f1,f2,f3,f4,f5⟩:=zg HD10.out.res
    go_wp2_with fail
    obtain⟨hbk,G,_⟩:=HD10.out.fin (.int .i64 0) (.int .i64 0) (.int .i64 0) (.int .i64 0) (.slice none 0 0) (.slice none 0 0) _ rfl
    obtain⟨k0,k1,k2,k3,k4,k5⟩:=qC hbk
    rw[HRF.out]
    exact bodyPost_ret (v:= .tuple #[pkV pk0 (.slice none 0 0) (.slice none 0 0),.int .i64 3]) (by simp[results,Tryz.results118,go_sem,pkV,pk0,k0,k1,k2,k3,k4,k5]) rfl (PDecP.err _ _ _ G)
   have HR4:=qQ HR3.out
   rw[h24] at HR4
   rw[h24]
   have HR5:Hid (R=if q8≠0 then (q8,pk0) else if mayP ⟨x0,x1,x2,x3,P,T⟩ then (0,⟨x0,x1,x2,x3,P,T⟩) else (3,pk0)):=qQ (by rw[HR4.out];rfl)
   clear HR3 HR4 h24 b7
   go_wp2_with fail
   (with_reducible refine (rx_text w10' r s7 x6 HD10.out.rx (by omega)).mono ?_)
   rintro en w11 ⟨dv,rfl,hown,Rr,G,hdb,hdl⟩
   rw[HT.out.1] at hown hdb hdl
   rw[HT.out.2] at Rr
   have HD11:=qQ (HD10.out.read G Rr)
   have HU11:=qQ (qY HU10.out G (λj h1 h2=>by have:=(qT HU10.out h1).1;have:=HBL.out;have:=HDR.out.lt;have h2:j=r:=h2;omega))
   obtain⟨AD,cD,rfl,_⟩:=BS.of_own hown hdb
   have HDT:=qQ (And.intro hown (And.intro hdb hdl))
   have HDB:=qQ (show b<w10'.heap.size from HD10.out.lt.2.2)
   have HWS:=qQ (show w.heap.size≤w10'.heap.size from HD10.out.chg.size)
   obtain⟨c0,c1,c2,c3,c4,c5⟩:=qC HD11.out.blk
   have f5:=qK HD11.out.blk 5
   have gS:=chg1 w11 b 5 (.slice AD T.length cD)
   have HD12:=qQ (HD11.out.set 5 (.slice AD T.length cD))
   have HU12:=qQ (qY HU11.out gS (λj h1 h2=>by have:=(qT HU11.out h1).1;have:=HBL.out;have h2:j=b:=h2;omega))
   have HT12:=qQ (qY hown gS (λj h1 h2=>by have:=(qT hown h1).1;have:=HDB.out;have h2:j=b:=h2;omega))
   clear hown Rr G hdb hdl HT HU10 HD10 gS h6a h6c
   go_wp2_with fail
   clear c0 c1 c2 c3 c4 c5 f5
   generalize w11.setCell ⟨b,5,none⟩ (.slice AD T.length cD)=w12 at *
   (with_reducible refine (rx_end w12 r s8 HD12.out.rx).mono ?_)
   rintro en w13 ⟨rfl,Rr,G⟩
   rw[HQ8.out]
   have HD13:=qQ (HD12.out.read G Rr)
   have HU13:=qQ (qY HU12.out G (λj h1 h2=>by have:=(qT HU12.out h1).1;have:=HBL.out;have:=HDR.out.lt;have h2:j=r:=h2;omega))
   have HT13:=qQ (qY HT12.out G (λj h1 h2=>by have:=(qT HT12.out h1).1;have:=HDB.out;have:=HDR.out.lt;have h2:j=r:=h2;omega))
   clear G Rr HD11 HU11 HD12 HU12 HT12 HQ8
   by_cases h8:q8=0
   case neg=>
    have b8:(q8 != 0)=true:=by simp[h8]
    have b8':(q8==0)=false:=by simp[h8]
    have HRF:=qQ (show R=(q8,pk0) from by rw[HR5.out,if_pos h8])
    clear h8
    obtain⟨c0,c1,c2,c3,c4,c5⟩:=qC HD13.out.res
    obtain⟨f0,f1,f2,f3,f4,f5⟩:=zg HD13.out.res
    go_wp2_with fail
    obtain⟨hbk,G,_⟩:=HD13.out.fin (.int .i64 0) (.int .i64 0) (.int .i64 0) (.int .i64 0) (.slice none 0 0) (.slice none 0 0) _ rfl
    obtain⟨k0,k1,k2,k3,k4,k5⟩:=qC hbk
    rw[HRF.out]
    exact bodyPost_ret (v:= .tuple #[pkV pk0 (.slice none 0 0) (.slice none 0 0),.int .i64 q8]) (by simp[results,Tryz.results118,go_sem,pkV,pk0,k0,k1,k2,k3,k4,k5]) rfl (PDecP.err _ _ _ G)
   have HR6:=qQ HR5.out
   rw[if_neg (λe=>e h8)] at HR6
   have b8:(q8 != 0)=false:=by simp[h8]
   clear HR5 h8
   have hPO:PO w13 (λ_=>0) (.slice uA m uc) (.slice AD T.length cD) ⟨x0,x1,x2,x3,P,T⟩:=by
    refine⟨?_,BO.of_own HT13.out HDT.out.2.1 (λ_ _=>rfl)⟩
    have:=HU13.out
    rw[HTX.out.2.2] at this ⊢
    exact RV.of_own this (λ_ _=>rfl)
   have HMAY:=qQ (pmay_any w13 _ ⟨x0,x1,x2,x3,P,T⟩ _ _ hPO (by have:=HTX.out.2.2;show P.length≤100000;omega) HDT.out.2.2)
   unfold pkV at HMAY
   obtain⟨d0,d1,d2,d3,d4,d5⟩:=qC HD13.out.blk
   clear hPO
   go_wp2_with fail
   with_reducible refine HMAY.out.mono ?_
   rintro en w14 ⟨rfl,G⟩
   have HD14:=qQ (HD13.out.kept G)
   have HU14:=qQ (qY HU13.out G (λ_ _ e=>e))
   have HT14:=qQ (qY HT13.out G (λ_ _ e=>e))
   clear d0 d1 d2 d3 d4 d5 G HMAY HD13 HU13 HT13 b8
   by_cases hmp:mayP ⟨x0,x1,x2,x3,P,T⟩=true
   case neg=>
    have hmp:mayP ⟨x0,x1,x2,x3,P,T⟩=false:=by simpa using hmp
    have HRF:=qQ (show R=(3,pk0) from by rw[HR6.out,hmp];rfl)
    rw[hmp]
    clear hmp
    obtain⟨c0,c1,c2,c3,c4,c5⟩:=qC HD14.out.res
    obtain⟨f0,f1,f2,f3,f4,f5⟩:=zg HD14.out.res
    go_wp2_with fail
    obtain⟨hbk,G,_⟩:=HD14.out.fin (.int .i64 0) (.int .i64 0) (.int .i64 0) (.int .i64 0) (.slice none 0 0) (.slice none 0 0) _ rfl
    obtain⟨k0,k1,k2,k3,k4,k5⟩:=qC hbk
    rw[HRF.out]
    exact bodyPost_ret (v:= .tuple #[pkV pk0 (.slice none 0 0) (.slice none 0 0),.int .i64 3]) (by simp[results,Tryz.results118,go_sem,pkV,pk0,k0,k1,k2,k3,k4,k5]) rfl (PDecP.err _ _ _ G)
   have HRF:=qQ (show R=(0,⟨x0,x1,x2,x3,P,T⟩) from by rw[HR6.out,hmp];rfl)
   rw[hmp]
   clear hmp
   obtain⟨c0,c1,c2,c3,c4,c5⟩:=qC HD14.out.res
   obtain⟨f0,f1,f2,f3,f4,f5⟩:=zg HD14.out.res
   obtain⟨d0,d1,d2,d3,d4,d5⟩:=qC HD14.out.blk
   go_wp2_with fail
   obtain⟨hbk,G,GS⟩:=HD14.out.fin (.int .i64 x0) (.int .i64 x1) (.int .i64 x2) (.int .i64 x3) (.slice uA m uc) (.slice AD T.length cD) _ rfl
   obtain⟨k0,k1,k2,k3,k4,k5⟩:=qC hbk
   rw[HRF.out]
   exact bodyPost_ret (v:= .tuple #[pkV ⟨x0,x1,x2,x3,P,T⟩ (.slice uA m uc) (.slice AD T.length cD),.int .i64 0]) (by simp[results,Tryz.results118,go_sem,pkV,k0,k1,k2,k3,k4,k5]) rfl
    ⟨_,_,rfl,λown' hz=>by
     have h1:=qY HU14.out GS (λj h1 h2=>by have:=(qT HU14.out h1).1;have:=HBL.out;have:=HDR.out.lt;have h2:j=w.heap.size:=h2;omega)
     have h2:(⟨x0,x1,x2,x3,P,T⟩:Pk).path=P:=rfl
     rw[HTX.out.2.2] at h1 ⊢
     exact RV.of_own h1 (λk hk=>hz k (by have:=HSZ.out;omega)),λown' hz=>by
     have h1:=qY HT14.out GS (λj h1 h2=>by have:=(qT HT14.out h1).1;have:=HDB.out;have:=HDR.out.lt;have h2:j=w.heap.size:=h2;omega)
     exact BO.of_own h1 HDT.out.2.1 (λk hk=>hz k (by have:=HWS.out;omega)),G⟩
def OwnP(w w':World)(lv dv:Value)(p:Pk):Prop:=
 w'.ownsRow w.heap.size 3 1 lv p.path.length (p.path.map VI)∧w'.ownsRow w.heap.size 5 1 dv p.data.length (p.data.map V8)∧(∀x∈p.data,0≤x∧x<256)
def POwnP(w:World)(p:Pk)(en:Ending)(w':World):Prop:=∃lv dv,en= .returned (pkV p lv dv)∧OwnP w w' lv dv p∧Chg (λ_=>False) w w'
structure PB2(w:World)(b:Nat)(S D N F:Int)(lv dv:Value)(W:World):Prop where
 blk:W.heap[w.heap.size]? =some (.cells #[.int .i64 S,.int .i64 D,.int .i64 N,.int .i64 F,lv,dv] 42 (0,0))
 res:W.heap[b]? =some (.cells #[.int .i64 0,.int .i64 0,.int .i64 0,.int .i64 0,.slice none 0 0,.slice none 0 0] 42 (0,0))
 chg:Chg (λ_=>False) w W
 lt:w.heap.size<b
section
variable {w W W':World}{b base:Nat}{S D N F:Int}{lv dv:Value}
theorem PB2.kept(h:PB2 w b S D N F lv dv W)(g:Chg (λ_=>False) W W'):PB2 w b S D N F lv dv W':=
 ⟨Chg.keep g h.blk (λe=>e),Chg.keep g h.res (λe=>e),h.chg.trans g,h.lt⟩
theorem PB2.start(w:World)(S D N F:Int)(lv dv:Value):PB2 w (w.heap.size+1) S D N F lv dv ((w.alloc (.cells #[.int .i64 S,.int .i64 D,.int .i64 N,.int .i64 F,lv,dv] 42)).alloc (.cells #[.int .i64 0,.int .i64 0,.int .i64 0,.int .i64 0,.slice none 0 0,.slice none 0 0] 42)):=by
 have g1:=Chg.alloc (λ_=>False) w (.cells #[.int .i64 S,.int .i64 D,.int .i64 N,.int .i64 F,lv,dv] 42)
 have g2:=Chg.alloc (λ_=>False) (w.alloc (.cells #[.int .i64 S,.int .i64 D,.int .i64 N,.int .i64 F,lv,dv] 42)) (.cells #[.int .i64 0,.int .i64 0,.int .i64 0,.int .i64 0,.slice none 0 0,.slice none 0 0] 42)
 have b2:=qV (w.alloc (.cells #[.int .i64 S,.int .i64 D,.int .i64 N,.int .i64 F,lv,dv] 42)) (.cells #[.int .i64 0,.int .i64 0,.int .i64 0,.int .i64 0,.slice none 0 0,.slice none 0 0] 42)
 rw[show (w.alloc (.cells #[.int .i64 S,.int .i64 D,.int .i64 N,.int .i64 F,lv,dv] 42)).heap.size=w.heap.size+1 by simp] at b2
 exact⟨Chg.keep g2 (qV _ _) (λe=>e),b2,g1.trans g2,by omega⟩
theorem PB2.setb(h:PB2 w b S D N F lv dv W)(g:Chg (λj=>j=w.heap.size) W W')(S' D' N' F':Int)(lv' dv':Value)(hb:W'.heap[w.heap.size]? =some (.cells #[.int .i64 S',.int .i64 D',.int .i64 N',.int .i64 F',lv',dv'] 42 (0,0))):PB2 w b S' D' N' F' lv' dv' W':=by
 have hl:=h.lt
 exact⟨hb,Chg.keep g h.res (λe=>by omega),(h.chg.none.trans (g.mono (λj _ e=>(by omega:w.heap.size≤j)))).fresh,h.lt⟩
theorem PB2.fin(h:PB2 w b S D N F lv dv W)(v0 v1 v2 v3 v4 v5:Value)(W':World)(hW:W'=(((((W.setCell ⟨b,0,none⟩ v0).setCell ⟨b,1,none⟩ v1).setCell ⟨b,2,none⟩ v2).setCell ⟨b,3,none⟩ v3).setCell ⟨b,4,none⟩ v4).setCell ⟨b,5,none⟩ v5):
  W'.heap[b]? =some (.cells #[v0,v1,v2,v3,v4,v5] 42 (0,0))∧Chg (λ_=>False) w W'∧Chg (· =b) W W':=by
 subst hW
 have gs:=set6 W b v0 v1 v2 v3 v4 v5
 have hl:=h.lt
 exact⟨set6b h.res v0 v1 v2 v3 v4 v5,(h.chg.none.trans (gs.mono (λk _ h=>(by have h:k=b:=h;omega:w.heap.size≤k)))).fresh,gs⟩
end
theorem set45(w:World)(a:Nat)(v4 v5:Value):Chg (λj=>j=a) w ((w.setCell ⟨a,4,none⟩ v4).setCell ⟨a,5,none⟩ v5):=(chg1 w a 4 v4).trans (chg1 _ a 5 v5)
theorem set45b{w:World}{a:Nat}{a0 a1 a2 a3 a4 a5:Value}{t:TypeId}(h:w.heap[a]? =some (.cells #[a0,a1,a2,a3,a4,a5] t (0,0))) (v4 v5:Value):((w.setCell ⟨a,4,none⟩ v4).setCell ⟨a,5,none⟩ v5).heap[a]? =some (.cells #[a0,a1,a2,a3,v4,v5] t (0,0)):=by
 have h5:=qB (qB h 4 v4) 5 v5
 simpa using h5
theorem pown_any(w:World)(own:Cls)(p:Pk)(lv dv:Value)(h:PO w own lv dv p)(hL:p.path.length≤100000)(hD:p.data.length≤100000):Calls Tryz.prog 295 #[pkV p lv dv] w (POwnP w p):=by
 obtain⟨S,D,N,F,P,T⟩:=p
 dsimp only at hL hD
 have HB:=qQ (PB2.start w S D N F lv dv)
 have HCI:=qQ (show∀W,Chg (λ_=>False) w W→Calls Tryz.prog 29 #[lv] W (PNew VI 3 W P) from λW g=>by
  obtain⟨A,c,e,h1,h2,_⟩:=(h.1.keep g (λ_ _ e=>e)).rs
  rw[e];exact jz W A P.length c P h1 h2 hL)
 have HC8:=qQ (show∀W,Chg (λ_=>False) w W→Calls Tryz.prog 41 #[dv] W (PNew V8 5 W T) from λW g=>by
  obtain⟨A,c,e,h1,h2,_⟩:=(h.2.keep g (λ_ _ e=>e)).bs
  rw[e];exact clone8_any W A T.length c T h1 h2 hD)
 have HDB:=qQ (show∀x∈T,0≤x∧x<256 from h.2.2)
 obtain⟨lA,lc,hlv,_⟩:=h.1
 obtain⟨⟨dA,dc,hdv,_⟩,_⟩:=h.2
 obtain⟨m,hm⟩:=qZ P.length
 obtain⟨n,hn⟩:=qZ T.length
 rw[←hn] at hdv
 rw[←hm] at hlv
 subst hlv hdv
 clear h hm hn hL hD
 unfold pkV
 go_enter Tryz.func295,Tryz.ntmps295
 go_wp2_with fail
 obtain⟨b,hbe⟩:=qZ (w.heap.size+1)
 rw[←hbe] at HB ⊢
 clear hbe
 generalize (w.alloc (.cells #[.int .i64 S,.int .i64 D,.int .i64 N,.int .i64 F,.slice lA m lc,.slice dA n dc] 42)).alloc (.cells #[.int .i64 0,.int .i64 0,.int .i64 0,.int .i64 0,.slice none 0 0,.slice none 0 0] 42)=w1 at *
 obtain⟨a,hae⟩:=qZ w.heap.size
 obtain⟨d0,d1,d2,d3,d4,d5⟩:=qC HB.out.blk
 rw[←hae] at d0 d1 d2 d3 d4 d5 ⊢
 have HAE:=qQ hae
 have HF:=qQ (show∀W,Chg (λ_=>False) w1 W→W.heap[a]? =some (.cells #[.int .i64 S,.int .i64 D,.int .i64 N,.int .i64 F,.slice lA m lc,.slice dA n dc] 42 (0,0)) from λW g=>by rw[hae];exact Chg.keep g HB.out.blk (λe=>e))
 clear hae
 go_cut [] (λwx=>∃v1 v2,PB2 w b S D N F v1 v2 wx∧wx.ownsRow w.heap.size 3 1 v1 P.length (P.map VI)∧wx.ownsRow w.heap.size 5 1 v2 T.length (T.map V8))
 case first=>
  go_region_with (first
   |(go_at_call 29;refine (HCI.out _ (HB.out.chg.trans (Chg.drew _ w1))).mono ?_;rintro en wp ⟨v1,rfl,O1,g1⟩
     obtain⟨A1,n1,c1,rfl⟩:∃A n c,v1= .slice A n c:=by rcases qD O1 with ⟨e,_⟩|⟨g,cap,e,_⟩ <;> exact⟨_,_,_,e⟩
     have O1:=qQ O1
     have HG3:=qQ ((Chg.drew (λ_=>False) w1).trans g1)
     have hbp:=HF.out _ HG3.out
     obtain⟨d0,d1,d2,d3,d4,d5⟩:=qC hbp
     have fp4:=qK hbp 4
     have fp5:=qK hbp 5)
   |(go_at_call 41;refine (HC8.out _ (HB.out.chg.trans HG3.out)).mono ?_;rintro en wq ⟨v2,rfl,O2,g2⟩
     obtain⟨A2,n2,c2,rfl⟩:∃A n c,v2= .slice A n c:=by rcases qD O2 with ⟨e,_⟩|⟨g,cap,e,_⟩ <;> exact⟨_,_,_,e⟩
     have O2:=qQ O2
     have HG4:=qQ (HG3.out.trans g2)
     have hbq:=HF.out _ HG4.out
     obtain⟨d0,d1,d2,d3,d4,d5⟩:=qC hbq
     have fq4:=qK hbq 4
     have fq5:=qK hbq 5))
  all_goals
   go_wp2_with fail
   go_meet
   refine⟨.slice A1 n1 c1,.slice A2 n2 c2,?_,?_,?_⟩
   ·exact (HB.out.kept HG4.out).setb (by rw[←HAE.out];exact set45 wq a (.slice A1 n1 c1) (.slice A2 n2 c2)) S D N F (.slice A1 n1 c1) (.slice A2 n2 c2) (by rw[←HAE.out];exact set45b hbq (.slice A1 n1 c1) (.slice A2 n2 c2))
   ·exact qY (qY (qk O1.out HB.out.chg.size) g2 (λ_ _ e=>e)) (set45 wq a (.slice A1 n1 c1) (.slice A2 n2 c2)) (λj h1 h2=>by
     have:=(qT O1.out h1).1
     have h3:=qX HB.out.blk
     have h4:w1.drew.heap.size=w1.heap.size:=rfl
     have h2:j=a:=h2
     have:=HAE.out
     omega)
   ·exact qY (qk O2.out (Nat.le_trans HB.out.chg.size HG3.out.size)) (set45 wq a (.slice A1 n1 c1) (.slice A2 n2 c2)) (λj h1 h2=>by
     have:=(qT O2.out h1).1
     have h3:=qX HB.out.blk
     have h4:=HG3.out.size
     have h2:j=a:=h2
     have:=HAE.out
     omega)
 case rest=>
  obtain⟨v1,v2,hP,h1,h2⟩:=hcut
  obtain⟨A1,n1,c1,rfl⟩:∃A n c,v1= .slice A n c:=by rcases qD h1 with ⟨e,_⟩|⟨g,cap,e,_⟩ <;> exact⟨_,_,_,e⟩
  obtain⟨A2,n2,c2,rfl⟩:∃A n c,v2= .slice A n c:=by rcases qD h2 with ⟨e,_⟩|⟨g,cap,e,_⟩ <;> exact⟨_,_,_,e⟩
  have HP:=qQ hP
  have H12:=qQ (And.intro h1 h2)
  obtain⟨e0,e1,e2,e3,e4,e5⟩:=qC hP.blk
  rw[←HAE.out] at e0 e1 e2 e3 e4 e5
  obtain⟨c0,c1',c2',c3,c4,c5⟩:=qC hP.res
  obtain⟨f0,f1,f2,f3,f4,f5⟩:=zg hP.res
  clear hP h1 h2 d0 d1 d2 d3 d4 d5 HB HCI HC8 HF
  go_wp2_with fail
  obtain⟨hbk,G,GS⟩:=HP.out.fin (.int .i64 S) (.int .i64 D) (.int .i64 N) (.int .i64 F) (.slice A1 n1 c1) (.slice A2 n2 c2) _ rfl
  obtain⟨k0,k1,k2,k3,k4,k5⟩:=qC hbk
  have hres:=HP.out.res
  have hrow:∀{e v len xs},wc.ownsRow w.heap.size e 1 v len xs→e≠42→∀j,v.ownBlock=some j→¬j=b:=λ{e v len xs} hr he j hj e2=>by
   rcases hr.2 with ⟨e3,_⟩|⟨g,cap,cur,e3,_,hg,_⟩
   ·rw[e3] at hj;cases hj
   ·rw[e3] at hj;cases hj
    subst e2
    rw[hres] at hg
    cases hg
    exact he rfl
  exact bodyPost_ret (v:=pkV ⟨S,D,N,F,P,T⟩ (.slice A1 n1 c1) (.slice A2 n2 c2)) (by simp[results,Tryz.results295,go_sem,pkV,k0,k1,k2,k3,k4,k5]) rfl
   ⟨_,_,rfl,⟨qY H12.out.1 GS (hrow H12.out.1 (by decide)),qY H12.out.2 GS (hrow H12.out.2 (by decide)),HDB.out⟩,G⟩
end Go.Proofs.YtnpihllannobgaaGreatDoor
