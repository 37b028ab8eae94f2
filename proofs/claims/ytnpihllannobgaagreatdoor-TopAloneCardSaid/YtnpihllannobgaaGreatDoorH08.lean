/- Steps of the proof, part H08. No condition. -/
import Derived.Test.YtnpihllannobgaaGreatDoorH07
import Derived.Lib.SliceRun
namespace Go.Proofs.YtnpihllannobgaaGreatDoor
set_option linter.unusedVariables false
set_option linter.unusedSimpArgs false
set_option maxRecDepth 100000
set_option maxHeartbeats 32000000
open Go.ChangeShapes Go.WideShapes Go.ChangeAt Go.RowKit
theorem vM(w:World)(r:Nat)(s:RS)(h:Rx w r s)(x:Int)(hx:qk s 1=x)(s':RS)(hs:qN s 1=s'):Calls Tryz.prog 112 #[.pointer (some ⟨r,0,none⟩)] w (PRx w r s' (.int .i64 x)):=by
 have ht:=jW h 1 8 rfl (by omega) x hx s' hs
 have hb:=zG h 1
 rw[hx] at hb
 have h0:0≤x:=hb.1
 have h1:x<256:=hb.2
 have HT:=qQ ht
 clear ht hb hx hs h
 go_enter Tryz.func112,Tryz.ntmps112
 go_wp2_with fail
 with_reducible refine HT.out.mono ?_
 rintro en w1 ⟨rfl,R,G⟩
 have HG:=qQ (And.intro R G)
 clear R G HT
 go_wp2_with fail
 go_ret
 exact⟨rfl,HG.out.1,HG.out.2⟩
theorem set6(w:World)(b:Nat)(v0 v1 v2 v3 v4 v5:Value):Chg (· =b) w ((((((w.setCell ⟨b,0,none⟩ v0).setCell ⟨b,1,none⟩ v1).setCell ⟨b,2,none⟩ v2).setCell ⟨b,3,none⟩ v3).setCell ⟨b,4,none⟩ v4).setCell ⟨b,5,none⟩ v5):=
 (set5 w b v0 v1 v2 v3 v4).trans (chg1 _ _ _ _)
theorem set6b{w:World}{b:Nat}{a0 a1 a2 a3 a4 a5:Value}{t:TypeId}(h:w.heap[b]? =some (.cells #[a0,a1,a2,a3,a4,a5] t (0,0))) (v0 v1 v2 v3 v4 v5:Value):
  ((((((w.setCell ⟨b,0,none⟩ v0).setCell ⟨b,1,none⟩ v1).setCell ⟨b,2,none⟩ v2).setCell ⟨b,3,none⟩ v3).setCell ⟨b,4,none⟩ v4).setCell ⟨b,5,none⟩ v5).heap[b]? =some (.cells #[v0,v1,v2,v3,v4,v5] t (0,0)):=by
 have h0:=qB h 0 v0
 have h1:=qB h0 1 v1
 have h2:=qB h1 2 v2
 have h3:=qB h2 3 v3
 have h4:=qB h3 4 v4
 have h5:=qB h4 5 v5
 simpa using h5
theorem zF{w:World}{b:Nat}{c:Array Value}{t:TypeId}(h:w.heap[b]? =some (.cells c t (0,0))):
  w.frozen? ⟨b,0,none⟩=false∧w.frozen? ⟨b,1,none⟩=false∧w.frozen? ⟨b,2,none⟩=false∧w.frozen? ⟨b,3,none⟩=false∧w.frozen? ⟨b,4,none⟩=false∧w.frozen? ⟨b,5,none⟩=false:=
 ⟨qK h 0,qK h 1,qK h 2,qK h 3,qK h 4,qK h 5⟩
def NewB(w w':World)(v:Value)(L:List Int):Prop:=∀own,Z w own→BO w' own v L
def PDecF(w:World)(x:Int×Fr)(en:Ending)(w':World):Prop:=
 ∃iv dv,en= .returned (.tuple #[frV x.2 iv dv,.int .i64 x.1])∧NewIO w w' iv x.2.ies∧NewB w w' dv x.2.data∧Chg (λ_=>False) w w'
theorem PDecF.err(w w':World)(e:Int)(g:Chg (λ_=>False) w w'):PDecF w (e,fr0) (.returned (.tuple #[frV fr0 (.slice none 0 0) (.slice none 0 0),.int .i64 e])) w':=
 ⟨_,_,rfl,λown _=>IeO.nil _ _,λown _=>BO.nil _ _,g⟩
structure BAt(w W:World):Prop where
 blk:W.heap[w.heap.size]? =some (.cells #[.int .i64 0,.int .i64 0,.int .i64 0,.int .i64 0,.slice none 0 0,.slice none 0 0] 71 (0,0))
 chg:Chg (λ_=>False) w W
theorem BAt.kept{w W W':World}(h:BAt w W)(g:Chg (λ_=>False) W W'):BAt w W':=⟨Chg.keep g h.blk (λe=>e),h.chg.trans g⟩
theorem BAt.other{w W W':World}{r:Nat}(h:BAt w W)(g:Chg (· =r) W W')(hr:w.heap.size<r):BAt w W':=
 ⟨Chg.keep g h.blk (λe=>by omega),(h.chg.none.trans (g.one (Nat.le_of_lt hr))).fresh⟩
theorem BAt.fin{w W W':World}(h:BAt w W)(v0 v1 v2 v3 v4 v5:Value)(hW:W'=(((((W.setCell ⟨w.heap.size,0,none⟩ v0).setCell ⟨w.heap.size,1,none⟩ v1).setCell ⟨w.heap.size,2,none⟩ v2).setCell ⟨w.heap.size,3,none⟩ v3).setCell ⟨w.heap.size,4,none⟩ v4).setCell ⟨w.heap.size,5,none⟩ v5):
  W'.heap[w.heap.size]? =some (.cells #[v0,v1,v2,v3,v4,v5] 71 (0,0))∧Chg (λ_=>False) w W'∧Chg (· =w.heap.size) W W':=by
 subst hW
 have gs:=set6 W w.heap.size v0 v1 v2 v3 v4 v5
 exact⟨set6b h.blk v0 v1 v2 v3 v4 v5,(h.chg.none.trans (gs.mono (λk _ h=>(by have h:k=w.heap.size:=h;show w.heap.size≤k;omega)))).fresh,gs⟩
theorem Ro.re{α:Type}{V:α→Value}{w:World}{o1 o2:Cls}{a:Option Addr}{len:Nat}{zs:List α}(h:Ro V w o1 a len zs)(e:∀k,o1 k=0→o2 k=0):Ro V w o2 a len zs:=
 ⟨h.1,λi hi=>by obtain⟨x,e1,hb,hc⟩:=h.2 i hi;exact⟨x,e1,e _ hb,hc⟩⟩
theorem RV.re{V:Int→Value}{w:World}{o1 o2:Cls}{v:Value}{L:List Int}(h:RV V w o1 v L)(e:∀k,o1 k=0→o2 k=0):RV V w o2 v L:=by
 obtain⟨A,c,h1,h2,h3⟩:=h
 exact⟨A,c,h1,h2.re e,h3⟩
theorem IeO.re{w:World}{o1 o2:Cls}{v:Value}{l:List El}(h:IeO w o1 v l)(e:∀k,o1 k=0→o2 k=0):IeO w o2 v l:=by
 rcases h with h|⟨g,c,h1,h2,h3,h4,h0,h5⟩
 ·exact .inl h
 ·exact .inr ⟨g,c,h1,e _ h2,h3,h4,h0,λi hi=>by
   obtain⟨lv,h6,h7⟩:=h5 i hi
   exact⟨lv,h6,h7.re e⟩⟩
theorem rText_len(s:RS)(n:Int)(hn:n≤16):(jY s n).length≤16:=by
 unfold jY;split
 ·rw[List.length_take];omega
 ·simp
theorem oneE_len(s:RS):(oneE s).2.1.list.length≤16:=by
 unfold oneE
 simp only[]
 split
 ·simp[el0]
 ·split
  ·simp[el0]
  ·rename_i hk
   split
   ·simp[el0]
   ·split
    ·simp[el0]
    ·rename_i hr
     split
     ·simp[el0]
     ·unfold kK
      split
      ·simp
      ·split
       ·simp
       ·rename_i k1 k2
        refine rText_len _ _ ?_
        simp only[jq,k1,k2,if_false] at hr
        simpa using hr
theorem loopE_len(n:Nat)(acc:List El)(s:RS)(h:∀e∈acc,e.list.length≤16):(loopE n acc s).2.1.length≤acc.length+n∧∀e∈(loopE n acc s).2.1,e.list.length≤16:=by
 induction n generalizing acc s with
 |zero=>exact⟨by simp[loopE],h⟩
 |succ n ih=>
  obtain⟨g,e,s',ho⟩:∃g e s',oneE s=(g,e,s'):=⟨_,_,_,rfl⟩
  have hl:=oneE_len s
  rw[ho] at hl
  by_cases hg:g=0
  ·subst hg
   rw[loopE_step n acc s e s' ho]
   have:=ih (acc++[e]) s' (λx hx=>by
    rcases List.mem_append.1 hx with hx|hx
    ·exact h x hx
    ·simp at hx;subst hx;exact hl)
   refine⟨?_,this.2⟩
   have h1:=this.1
   rw[List.length_append,List.length_singleton] at h1
   omega
  ·rw[loopE_err n acc s g e s' ho hg]
   exact⟨by simp,λx hx=>by cases hx⟩
theorem decI_len(L:List Int):(decI L).2.length≤100∧∀e∈(decI L).2,e.list.length≤16:=by
 unfold decI
 simp only[]
 split
 ·simp
 ·split
  ·simp
  ·rename_i h4
   obtain⟨g,es,s2,ho⟩:∃g es s2,loopE (qk ⟨L,0⟩ 1).toNat [] (qN ⟨L,0⟩ 1)=(g,es,s2):=⟨_,_,_,rfl⟩
   have hl:=loopE_len (qk ⟨L,0⟩ 1).toNat [] (qN ⟨L,0⟩ 1) (λe he=>by cases he)
   rw[ho] at hl ⊢
   simp only[]
   split
   ·simp
   ·split
    ·simp
    ·refine⟨?_,hl.2⟩
     have:=hl.1
     simp at this ⊢
     omega
theorem vT(w:World)(v:Value)(L:List Int)(h:BS w w.heap.size v L)(hL:L.length≤100000):
  Calls Tryz.prog 65 #[v] w (PDecF w (decF L)):=by
 obtain⟨R,hR⟩:=qZ (decF L)
 rw[←hR]
 have HL:=qQ hL
 have HB:=qQ h
 obtain⟨A,c,rfl,hrs,hA,hcl,hcm,hby⟩:=h
 obtain⟨n,hn⟩:=qZ L.length
 rw[←hn] at HB HL hrs hcl ⊢
 have hn3:(n:Int)≤100000:=by have:=HL.out;omega
 unfold maxLen at hcm
 have hcl2:(n:Int)≤c:=by omega
 have HN:=qQ hn
 have HRS:=qQ (And.intro hrs (And.intro hA hby))
 have HR:=qQ hR
 have hgood:∀W,Chg (λ_=>False) w W→Calls Tryz.prog 110 #[.slice A n c] W (λe w'=>e= .returned (.bool (jV L))∧Chg (λ_=>False) W w'):=λW g=>crcGood_any W _ L ((HB.out.kept g).more g.size) (by rw[←HN.out];exact HL.out)
 have HG:=qQ hgood
 clear hn hR hgood hrs hA hby
 by_cases h9:n<9
 ·have h9i:(n:Int)<9:=by omega
  have H9:=qQ h9
  clear h9
  go_enter Tryz.func65,Tryz.ntmps65
  go_wp2_with fail
  have hr:=HR.out
  unfold decF at hr
  rw[if_pos (by rw[←HN.out];exact H9.out)] at hr
  rw[hr]
  exact bodyPost_ret (v:= .tuple #[frV fr0 (.slice none 0 0) (.slice none 0 0),.int .i64 2]) (by simp[results,Tryz.results65,go_sem,frV,fr0]) rfl (PDecF.err _ _ _ (Chg.alloc _ _ _))
 ·have H9:=qQ (show 9≤n by omega)
  have h9:(9:Int)≤n:=Int.ofNat_le.2 H9.out
  by_cases hg:jV L=true
  ·have HGT:=qQ hg
   clear hg
   obtain⟨M,hM⟩:=qZ (L.take (n-2))
   obtain⟨N,hN⟩:=qZ (n-2)
   obtain⟨s0,hs0⟩:∃s0:RS,⟨M,0⟩=s0:=⟨_,rfl⟩
   obtain⟨x0,hx0⟩:∃x,qk s0 1=x:=⟨_,rfl⟩
   obtain⟨s1,hs1⟩:∃s,qN s0 1=s:=⟨_,rfl⟩
   obtain⟨x1,hx1⟩:∃x,qk s1 1=x:=⟨_,rfl⟩
   obtain⟨s2,hs2⟩:∃s,qN s1 1=s:=⟨_,rfl⟩
   obtain⟨x2,hx2⟩:∃x,qk s2 1=x:=⟨_,rfl⟩
   obtain⟨s3,hs3⟩:∃s,qN s2 1=s:=⟨_,rfl⟩
   obtain⟨x3,hx3⟩:∃x,qk s3 1=x:=⟨_,rfl⟩
   obtain⟨s4,hs4⟩:∃s,qN s3 1=s:=⟨_,rfl⟩
   obtain⟨x4,hx4⟩:∃x,qk s4 1=x:=⟨_,rfl⟩
   obtain⟨s5,hs5⟩:∃s,qN s4 1=s:=⟨_,rfl⟩
   obtain⟨x5,hx5⟩:∃x,qk s5 1=x:=⟨_,rfl⟩
   obtain⟨s6,hs6⟩:∃s,qN s5 1=s:=⟨_,rfl⟩
   obtain⟨E,hE⟩:∃x,jY s6 x5=x:=⟨_,rfl⟩
   obtain⟨s7,hs7⟩:∃s,zP s6 x5=s:=⟨_,rfl⟩
   obtain⟨x7,hx7⟩:∃x,qk s7 1=x:=⟨_,rfl⟩
   obtain⟨s8,hs8⟩:∃s,qN s7 1=s:=⟨_,rfl⟩
   obtain⟨T,hT⟩:∃x,jY s8 x7=x:=⟨_,rfl⟩
   obtain⟨s9,hs9⟩:∃s,zP s8 x7=s:=⟨_,rfl⟩
   obtain⟨q,hq⟩:∃q,rEnd s9=q:=⟨_,rfl⟩
   obtain⟨DI,hDI⟩:∃D,decI E=D:=⟨_,rfl⟩
   have hrd:readF s0=(x0,⟨x1,x2,x3,x4,[],T⟩,E,s9):=by
    unfold readF;simp only[hx0,hs1,hx1,hs2,hx2,hs3,hx3,hs4,hx4,hs5,hx5,hs6,hE,hs7,hx7,hs8,hT,hs9]
   have hr2:R=if x0≠197∨q≠0 then (3,fr0) else if DI.1≠0 then (DI.1,fr0) else if mayF ⟨x1,x2,x3,x4,DI.2,T⟩ then (0,⟨x1,x2,x3,x4,DI.2,T⟩) else (3,fr0):=by
    rw[HR.out];unfold decF
    rw[if_neg (by rw[←HN.out];have:=H9.out;omega),if_neg (by rw[HGT.out];simp),←HN.out,←hM,hs0,hrd]
    simp only[hq,hDI]
   have HR2:=qQ hr2
   have HX0:=qQ (And.intro hx0 hs1)
   have HX1:=qQ (And.intro hx1 hs2)
   have HX2:=qQ (And.intro hx2 hs3)
   have HX3:=qQ (And.intro hx3 hs4)
   have HX4:=qQ (And.intro hx4 hs5)
   have HX5:=qQ (And.intro hx5 hs6)
   have HE:=qQ (And.intro hE hs7)
   have HX7:=qQ (And.intro hx7 hs8)
   have HT:=qQ (And.intro hT hs9)
   have HQ:=qQ hq
   have HDI:=qQ hDI
   have HS0:=qQ hs0
   have hMl:M.length=N:=by rw[hM,hN,List.length_take,←HN.out];omega
   have hMr:Rs V8 w w.heap.size A N M:=by rw[hM,hN];exact HRS.out.1.take (n-2) (by omega)
   have hMb:∀x∈M,0≤x∧x<256:=λx hx=>HRS.out.2.2 x (by rw[hM] at hx;exact List.mem_of_mem_take hx)
   have hNc:N≤c:=by omega
   have hMS:BS w w.heap.size (.slice A N c) M:=⟨A,c,by rw[hMl],by rw[hMl];exact hMr,HRS.out.2.1,by omega,by unfold maxLen;omega,hMb⟩
   have HMS:=qQ hMS
   have HML:=qQ hMl
   have e1:IntKind.i64.wrap ((n:Int)-2)=(N:Int):=by rw[IntWalk.i64_in _ (by omega)];omega
   have e2:(n:Int)-2=(N:Int):=by omega
   have i1:(N:Int)≤c:=by omega
   have h9i:(9:Int)≤n:=by have:=H9.out;omega
   have HNN:=qQ hN
   clear hM hN hs0 hx0 hs1 hx1 hs2 hx2 hs3 hx3 hs4 hx4 hs5 hx5 hs6 hE hs7 hx7 hs8 hT hs9 hq hDI hrd hr2 hMl hMr hMb hMS HR
   go_enter Tryz.func65,Tryz.ntmps65
   have hB0:BAt w (w.alloc (.cells #[.int .i64 0,.int .i64 0,.int .i64 0,.int .i64 0,.slice none 0 0,.slice none 0 0] 71)):=⟨qV _ _,Chg.alloc _ _ _⟩
   have HB0:=qQ hB0
   clear hB0
   go_wp2_with fail
   (with_reducible refine (HG.out _ HB0.out.chg).mono ?_)
   rintro en w2 ⟨rfl,G2⟩
   rw[HGT.out]
   have HB2:=qQ (HB0.out.kept G2)
   clear G2 HB0
   go_wp2_with fail
   (with_reducible refine (rx_new _ (.slice A N c) M ((HMS.out.kept HB2.out.chg).more HB2.out.chg.size) (by rw[HML.out];have:=HL.out;omega)).mono ?_)
   rintro en w3 ⟨r,rfl,Rr,hrr,G3⟩
   rw[HS0.out] at Rr
   have HB3:=qQ (HB2.out.kept G3)
   have HRL:=qQ (show w.heap.size<r by have:=qX HB2.out.blk;omega)
   have HX:=qQ Rr
   clear G3 HB2 Rr hrr e1 e2 i1
   go_wp2_with fail
   (with_reducible refine (vM _ r _ HX.out _ HX0.out.1 _ HX0.out.2).mono ?_)
   rintro en w4 ⟨rfl,Rr,G4⟩
   have HB4:=qQ (HB3.out.other G4 HRL.out)
   clear HX
   have HX:=qQ Rr
   clear Rr G4 HB3 HX0
   go_wp2_with fail
   (with_reducible refine (vM _ r _ HX.out _ HX1.out.1 _ HX1.out.2).mono ?_)
   rintro en w5 ⟨rfl,Rr,G5⟩
   have HB5:=qQ (HB4.out.other G5 HRL.out)
   clear HX
   have HX:=qQ Rr
   clear Rr G5 HB4 HX1
   go_wp2_with fail
   (with_reducible refine (vM _ r _ HX.out _ HX2.out.1 _ HX2.out.2).mono ?_)
   rintro en w6 ⟨rfl,Rr,G6⟩
   have HB6:=qQ (HB5.out.other G6 HRL.out)
   clear HX
   have HX:=qQ Rr
   clear Rr G6 HB5 HX2
   go_wp2_with fail
   (with_reducible refine (vM _ r _ HX.out _ HX3.out.1 _ HX3.out.2).mono ?_)
   rintro en w7 ⟨rfl,Rr,G7⟩
   have HB7:=qQ (HB6.out.other G7 HRL.out)
   clear HX
   have HX:=qQ Rr
   clear Rr G7 HB6 HX3
   go_wp2_with fail
   (with_reducible refine (vM _ r _ HX.out _ HX4.out.1 _ HX4.out.2).mono ?_)
   rintro en w8 ⟨rfl,Rr,G8⟩
   have HB8:=qQ (HB7.out.other G8 HRL.out)
   clear HX
   have HX:=qQ Rr
   clear Rr G8 HB7 HX4
   go_wp2_with fail
   have ga:=Chg.alloc (λ_=>False) w8 (.cells #[.int .i64 x1,.int .i64 x2,.int .i64 x3,.int .i64 x4,.slice none 0 0,.slice none 0 0] 71)
   have hba:=qV w8 (.cells #[.int .i64 x1,.int .i64 x2,.int .i64 x3,.int .i64 x4,.slice none 0 0,.slice none 0 0] 71)
   have HB9:=qQ (HB8.out.kept ga)
   have HF9:=qQ (And.intro hba (And.intro (show r<w8.heap.size from HX.out.lt) (show w.heap.size<w8.heap.size from qX HB8.out.blk)))
   have HX9:=qQ (HX.out.kept ga)
   clear ga hba HB8 HX
   generalize w8.alloc (.cells #[.int .i64 x1,.int .i64 x2,.int .i64 x3,.int .i64 x4,.slice none 0 0,.slice none 0 0] 71)=w9 at *
   generalize w8.heap.size=b at *
   (with_reducible refine (vM _ r _ HX9.out _ HX5.out.1 _ HX5.out.2).mono ?_)
   rintro en w10 ⟨rfl,Rr,G10⟩
   have h5b:x5≤100000:=by
    have h:=zG HX9.out 1
    rw[HX5.out.1] at h
    have:x5<256:=h.2
    omega
   have HB10:=qQ (HB9.out.other G10 HRL.out)
   have HF10:=qQ (And.intro (Chg.keep G10 HF9.out.1 (λe=>by have:=HF9.out.2.1;omega)) HF9.out.2)
   have HX10:=qQ Rr
   clear G10 HB9 HF9 HX9 Rr HX5
   go_wp2_with fail
   (with_reducible refine (rx_text w10 r s6 x5 HX10.out h5b).mono ?_)
   rintro en w11 ⟨ev,rfl,hown,Rr,G11,heb,hel⟩
   rw[HE.out.1] at hown heb hel
   rw[HE.out.2] at Rr
   have HB11:=qQ (HB10.out.other G11 HRL.out)
   have HF11:=qQ (And.intro (Chg.keep G11 HF10.out.1 (λe=>by have:=HF10.out.2.1;omega)) HF10.out.2)
   have HX11:=qQ Rr
   have HOE:=qQ (And.intro hown (And.intro heb (And.intro hel (And.intro (show b<w10.heap.size from qX HF10.out.1) (show r<w10.heap.size from HX10.out.lt)))))
   obtain⟨AE,cE,rfl,_⟩:=BS.of_own hown heb
   clear G11 HB10 HF10 HX10 Rr hown heb hel HE h5b
   go_wp2_with fail
   (with_reducible refine (vM _ r _ HX11.out _ HX7.out.1 _ HX7.out.2).mono ?_)
   rintro en w12 ⟨rfl,Rr,G12⟩
   have h7b:x7≤100000:=by
    have h:=zG HX11.out 1
    rw[HX7.out.1] at h
    have:x7<256:=h.2
    omega
   have HB12:=qQ (HB11.out.other G12 HRL.out)
   have HF12:=qQ (And.intro (Chg.keep G12 HF11.out.1 (λe=>by have:=HF11.out.2.1;omega)) HF11.out.2)
   have HX12:=qQ Rr
   have HOE12:=qQ (qY HOE.out.1 G12 (λj h1 h2=>by have:=(qS HOE.out.1 h1).1;have h2:j=r:=h2;have:=HOE.out.2.2.2.2;omega))
   clear G12 HB11 HF11 HX11 Rr HX7
   go_wp2_with fail
   (with_reducible refine (rx_text w12 r s8 x7 HX12.out h7b).mono ?_)
   rintro en w13 ⟨dv,rfl,hown,Rr,G13,hdb,hdl⟩
   rw[HT.out.1] at hown hdb hdl
   rw[HT.out.2] at Rr
   have HB13:=qQ (HB12.out.other G13 HRL.out)
   have HF13:=qQ (And.intro (Chg.keep G13 HF12.out.1 (λe=>by have:=HF12.out.2.1;omega)) HF12.out.2)
   have HX13:=qQ Rr
   have HOE13:=qQ (qY HOE12.out G13 (λj h1 h2=>by have:=(qS HOE12.out h1).1;have h2:j=r:=h2;have:=HOE.out.2.2.2.2;omega))
   have HOD:=qQ (And.intro hown (And.intro hdb (And.intro hdl (show r<w12.heap.size from HX12.out.lt))))
   have HBW:=qQ (show b<w12.heap.size from qX HF12.out.1)
   have HBE:=qQ HOE.out.2.2.2.1
   obtain⟨AD,cD,rfl,_⟩:=BS.of_own hown hdb
   clear G13 HB12 HF12 HX12 Rr hown hdb hdl HT h7b HOE12
   obtain⟨d0,d1,d2,d3,d4,d5⟩:=qC HF13.out.1
   obtain⟨e0,e1,e2,e3,e4,e5⟩:=zF HF13.out.1
   have gS:=chg1 w13 b 5 (.slice AD T.length cD)
   have hF14:=qB HF13.out.1 5 (.slice AD T.length cD)
   have hB14:BAt w (w13.setCell ⟨b,5,none⟩ (.slice AD T.length cD)):=HB13.out.other gS HF13.out.2.2
   have hX14:Rx (w13.setCell ⟨b,5,none⟩ (.slice AD T.length cD)) r s9:=HX13.out.keep gS (λj h1 h2=>by have h2:j=b:=h2;have:=HF13.out.2.1;omega)
   have hOE14:=qY HOE13.out gS (λj h1 h2=>by have:=(qS HOE13.out h1).1;have h2:j=b:=h2;have:=HBE.out;omega)
   have hOD14:=qY HOD.out.1 gS (λj h1 h2=>by have:=(qS HOD.out.1 h1).1;have h2:j=b:=h2;have:=HBW.out;omega)
   have H14:=qQ (And.intro hF14 (And.intro hB14 (And.intro hX14 (And.intro hOE14 hOD14))))
   have HBR:=qQ HF13.out.2
   clear gS hF14 hB14 hX14 hOE14 hOD14 HF13 HX13 HOE13
   by_cases h197:x0=197
   ·have g197:(x0 != 197)=false:=by simpa using h197
    have H197:=qQ h197
    clear h197
    go_wp2_with fail
    clear d0 d1 d2 d3 d4 d5 e0 e1 e2 e3 e4 e5
    generalize w13.setCell ⟨b,5,none⟩ (.slice AD T.length cD)=w14 at *
    (with_reducible refine (rx_end w14 r s9 H14.out.2.2.1).mono ?_)
    rintro en w15 ⟨rfl,Rr,G15⟩
    rw[HQ.out]
    have HB15:=qQ (H14.out.2.1.other G15 HRL.out)
    have HF15:=qQ (Chg.keep G15 H14.out.1 (λe=>by have:=HBR.out.1;omega))
    have HOE15:=qQ (qY H14.out.2.2.2.1 G15 (λj h1 h2=>by have:=(qS H14.out.2.2.2.1 h1).1;have h2:j=r:=h2;have:=HOE.out.2.2.2.2;omega))
    have HOD15:=qQ (qY H14.out.2.2.2.2 G15 (λj h1 h2=>by have:=(qS H14.out.2.2.2.2 h1).1;have h2:j=r:=h2;have:=HOD.out.2.2.2;omega))
    clear G15 Rr H14 HQ
    by_cases hq:q=0
    ·have gq:(q != 0)=false:=by simpa using hq
     have HQ1:=qQ hq
     clear hq
     have hid:=idecode_any w15 (.slice AE E.length cE) E (BS.of_own HOE15.out HOE.out.2.1) HOE.out.2.2.1
     rw[HDI.out] at hid
     obtain⟨g,es,hge⟩:∃g es,DI=(g,es):=⟨_,_,rfl⟩
     rw[hge] at hid
     have HDD:=HDI
     have HGE:=qQ (show DI.1=g∧DI.2=es by rw[hge];exact⟨rfl,rfl⟩)
     have HID:=qQ hid
     clear hid hge HDI
     go_wp2_with fail
     with_reducible refine HID.out.mono ?_
     rintro en w16 ⟨iv,rfl,hio,G16⟩
     have HB16:=qQ (HB15.out.kept G16)
     have HF16:=qQ (Chg.keep G16 HF15.out (λe=>e))
     have HIO:=qQ hio
     have HOD16:=qQ (qY HOD15.out G16 (λ_ _ e=>e))
     have HBS:=qQ (show b<w15.heap.size from qX HF15.out)
     obtain⟨AI,cI,rfl⟩:=(hio (λ_=>0) (λ_ _=>rfl)).val
     obtain⟨d0,d1,d2,d3,d4,d5⟩:=qC HF16.out
     obtain⟨e0,e1,e2,e3,e4,e5⟩:=zF HF16.out
     have gS:=chg1 w16 b 4 (.slice AI es.length cI)
     have hF17:=qB HF16.out 4 (.slice AI es.length cI)
     have hB17:BAt w (w16.setCell ⟨b,4,none⟩ (.slice AI es.length cI)):=HB16.out.other gS HBR.out.2
     have H17:=qQ (And.intro hF17 hB17)
     have hOD17:=qY HOD16.out gS (λj h1 h2=>by have:=(qS HOD16.out h1).1;have h2:j=b:=h2;have:=HBW.out;omega)
     have HOD17:=qQ hOD17
     have HG17:=qQ gS
     clear hio G16 HB15 HF15 HOE15 HOD15 HID hF17 hB17 gS hOD17
     by_cases hg0:g=0
     ·have gq:(g != 0)=false:=by simpa using hg0
      have HG1:=qQ hg0
      clear hg0
      go_wp2_with fail
      clear d0 d1 d2 d3 d4 d5 e0 e1 e2 e3 e4 e5
      generalize w16.setCell ⟨b,4,none⟩ (.slice AI es.length cI)=w17 at *
      have hown:∃own:Cls,Z w15 own∧own b≠0∧own w.heap.size≠0∧∀k,own k=0→w15.heap.size≤k:=
       ⟨λk=>if k<w15.heap.size then 1 else 0,λk hk=>by simp;omega,by simp[HBS.out],by have:=HBR.out.2;have:=HBS.out;simp;omega,λk hk=>by simp at hk;exact hk⟩
      obtain⟨own,ho1,ho2,ho3,ho4⟩:=hown
      have hI17:IeO w17 own (.slice AI es.length cI) es:=(HIO.out own ho1).keep HG17.out (λj h1 h2=>by have h2:j=b:=h2;subst h2;exact ho2 h1)
      have hbd:w15.heap.size≤w15.heap.size:=Nat.le_refl _
      have hD17:BS w17 w17.heap.size (.slice AD T.length cD) T:=BS.of_own HOD17.out HOD.out.2.1
      have hOwnD:∃own2:Cls,IeO w17 own2 (.slice AI es.length cI) es∧BO w17 own2 (.slice AD T.length cD) T:=⟨λ_=>0,hI17.re (λ_ _=>rfl),BO.of_own HOD17.out HOD.out.2.1 (λ_ _=>rfl)⟩
      obtain⟨own2,ha1,ha2⟩:=hOwnD
      have hlen:=decI_len E
      rw[show decI E=(g,es) from by rw[HDD.out];exact Prod.ext HGE.out.1 HGE.out.2] at hlen
      have hmay:=fmay_any w17 own2 ⟨x1,x2,x3,x4,es,T⟩ (.slice AI es.length cI) (.slice AD T.length cD) ha1 ha2 (Nat.le_trans hlen.1 (by omega)) HOD.out.2.2.1 (λe he=>Nat.le_trans (hlen.2 e he) (by omega))
      unfold frV at hmay
      have HMAY:=qQ hmay
      have HI17:=qQ (And.intro hI17 (And.intro ho3 ho4))
      obtain⟨d0,d1,d2,d3,d4,d5⟩:=qC H17.out.1
      clear hmay hI17 ho1 ho2 ho3 ho4 ha1 ha2 hlen hbd hD17
      go_wp2_with fail
      with_reducible refine HMAY.out.mono ?_
      rintro en w18 ⟨rfl,G18⟩
      have HB18:=qQ (H17.out.2.kept G18)
      have HF18:=qQ (Chg.keep G18 H17.out.1 (λe=>e))
      have HI18:=qQ (HI17.out.1.keep G18 (λ_ _ e=>e))
      have HOD18:=qQ (qY HOD17.out G18 (λ_ _ e=>e))
      have HWS:=qQ (show w.heap.size<w12.heap.size by have:=HBR.out.2;have:=HBW.out;omega)
      clear G18 HMAY d0 d1 d2 d3 d4 d5
      by_cases hmf:mayF ⟨x1,x2,x3,x4,es,T⟩=true
      ·have HMF:=qQ hmf
       clear hmf
       rw[HMF.out]
       obtain⟨c0,c1,c2,c3,c4,c5⟩:=qC HB18.out.blk
       obtain⟨f0,f1,f2,f3,f4,f5⟩:=zF HB18.out.blk
       obtain⟨d0,d1,d2,d3,d4,d5⟩:=qC HF18.out
       go_wp2_with fail
       obtain⟨hbk,G,GS⟩:=HB18.out.fin (.int .i64 x1) (.int .i64 x2) (.int .i64 x3) (.int .i64 x4) (.slice AI es.length cI) (.slice AD T.length cD) rfl
       obtain⟨k0,k1,k2,k3,k4,k5⟩:=qC hbk
       have hr:=HR2.out
       rw[if_neg (λh=>h.elim (λh=>h H197.out) (λh=>h HQ1.out)),if_neg (λh=>h (HGE.out.1.trans HG1.out)),HGE.out.2,if_pos HMF.out] at hr
       rw[hr]
       exact bodyPost_ret (v:= .tuple #[frV ⟨x1,x2,x3,x4,es,T⟩ (.slice AI es.length cI) (.slice AD T.length cD),.int .i64 0]) (by simp[results,Tryz.results65,go_sem,frV,k0,k1,k2,k3,k4,k5]) rfl
        ⟨_,_,rfl,λown' hz=>(HI18.out.keep GS (λj h1 h2=>by have h2:j=w.heap.size:=h2;subst h2;exact HI17.out.2.1 h1)).re (λk hk=>hz k (by have:=HI17.out.2.2 k hk;have:=HBS.out;have:=HBR.out.2;omega)),λown' hz=>BO.of_own (qY HOD18.out GS (λj h1 h2=>by have:=(qS HOD18.out h1).1;have h2:j=w.heap.size:=h2;have:=HWS.out;omega)) HOD.out.2.1 (λk hk=>hz k (by have:=HWS.out;omega)),G⟩
      ·have hmf:mayF ⟨x1,x2,x3,x4,es,T⟩=false:=by simpa using hmf
       have HMF:=qQ hmf
       clear hmf
       rw[HMF.out]
       have HBX:=HB18
       obtain⟨c0,c1,c2,c3,c4,c5⟩:=qC HB18.out.blk
       obtain⟨f0,f1,f2,f3,f4,f5⟩:=zF HB18.out.blk
       go_wp2_with fail
       obtain⟨hbk,G,_⟩:=HBX.out.fin (.int .i64 0) (.int .i64 0) (.int .i64 0) (.int .i64 0) (.slice none 0 0) (.slice none 0 0) rfl
       obtain⟨k0,k1,k2,k3,k4,k5⟩:=qC hbk
       have hr:=HR2.out
       rw[if_neg (λh=>h.elim (λh=>h H197.out) (λh=>h HQ1.out)),if_neg (λh=>h (HGE.out.1.trans HG1.out)),HGE.out.2,if_neg (by rw[HMF.out];simp)] at hr
       rw[hr]
       exact bodyPost_ret (v:= .tuple #[frV fr0 (.slice none 0 0) (.slice none 0 0),.int .i64 3]) (by simp[results,Tryz.results65,go_sem,frV,fr0,k0,k1,k2,k3,k4,k5]) rfl (PDecF.err _ _ _ G)
     ·have gq:(g != 0)=true:=by simpa using hg0
      have gq2:(g==0)=false:=by simpa using hg0
      have HG1:=qQ hg0
      have HBX:=qQ H17.out.2
      clear hg0
      obtain⟨c0,c1,c2,c3,c4,c5⟩:=qC HB16.out.blk
      obtain⟨f0,f1,f2,f3,f4,f5⟩:=zF HB16.out.blk
      have hne1:¬(b=w.heap.size):=by have:=HBR.out.2;omega
      have hne2:¬(w.heap.size=b):=by have:=HBR.out.2;omega
      go_wp2_with fail
      obtain⟨hbk,G,_⟩:=HBX.out.fin (.int .i64 0) (.int .i64 0) (.int .i64 0) (.int .i64 0) (.slice none 0 0) (.slice none 0 0) rfl
      obtain⟨k0,k1,k2,k3,k4,k5⟩:=qC hbk
      have hr:=HR2.out
      rw[if_neg (λh=>h.elim (λh=>h H197.out) (λh=>h HQ1.out)),HGE.out.1,if_pos HG1.out] at hr
      rw[hr]
      exact bodyPost_ret (v:= .tuple #[frV fr0 (.slice none 0 0) (.slice none 0 0),.int .i64 g]) (by simp[results,Tryz.results65,go_sem,frV,fr0,k0,k1,k2,k3,k4,k5]) rfl (PDecF.err _ _ _ G)
    ·have gq:(q != 0)=true:=by simpa using hq
     have HQ1:=qQ hq
     have HBX:=HB15
     clear hq
     obtain⟨c0,c1,c2,c3,c4,c5⟩:=qC HB15.out.blk
     obtain⟨f0,f1,f2,f3,f4,f5⟩:=zF HB15.out.blk
     go_wp2_with fail
     obtain⟨hbk,G,_⟩:=HBX.out.fin (.int .i64 0) (.int .i64 0) (.int .i64 0) (.int .i64 0) (.slice none 0 0) (.slice none 0 0) rfl
     obtain⟨k0,k1,k2,k3,k4,k5⟩:=qC hbk
     have hr:=HR2.out
     rw[if_pos (.inr HQ1.out)] at hr
     rw[hr]
     exact bodyPost_ret (v:= .tuple #[frV fr0 (.slice none 0 0) (.slice none 0 0),.int .i64 3]) (by simp[results,Tryz.results65,go_sem,frV,fr0,k0,k1,k2,k3,k4,k5]) rfl (PDecF.err _ _ _ G)
   ·have g197:(x0 != 197)=true:=by simpa using h197
    have H197:=qQ h197
    have HBX:=qQ H14.out.2.1
    clear h197
    obtain⟨c0,c1,c2,c3,c4,c5⟩:=qC HB13.out.blk
    obtain⟨f0,f1,f2,f3,f4,f5⟩:=zF HB13.out.blk
    have hne1:¬(b=w.heap.size):=by have:=HBR.out.2;omega
    have hne2:¬(w.heap.size=b):=by have:=HBR.out.2;omega
    go_wp2_with fail
    obtain⟨hbk,G,_⟩:=HBX.out.fin (.int .i64 0) (.int .i64 0) (.int .i64 0) (.int .i64 0) (.slice none 0 0) (.slice none 0 0) rfl
    obtain⟨k0,k1,k2,k3,k4,k5⟩:=qC hbk
    have hr:=HR2.out
    rw[if_pos (.inl H197.out)] at hr
    rw[hr]
    exact bodyPost_ret (v:= .tuple #[frV fr0 (.slice none 0 0) (.slice none 0 0),.int .i64 3]) (by simp[results,Tryz.results65,go_sem,frV,fr0,k0,k1,k2,k3,k4,k5]) rfl (PDecF.err _ _ _ G)
  ·have hg:jV L=false:=by simpa using hg
   have HGF:=qQ hg
   clear hg
   go_enter Tryz.func65,Tryz.ntmps65
   have hB0:BAt w (w.alloc (.cells #[.int .i64 0,.int .i64 0,.int .i64 0,.int .i64 0,.slice none 0 0,.slice none 0 0] 71)):=⟨qV _ _,Chg.alloc _ _ _⟩
   have HB0:=qQ hB0
   clear hB0
   go_wp2_with fail
   (with_reducible refine (HG.out _ HB0.out.chg).mono ?_)
   rintro en w2 ⟨rfl,G2⟩
   rw[HGF.out]
   have HB2:=qQ (HB0.out.kept G2)
   clear G2 HB0
   obtain⟨c0,c1,c2,c3,c4,c5⟩:=qC HB2.out.blk
   obtain⟨f0,f1,f2,f3,f4,f5⟩:=zF HB2.out.blk
   go_wp2_with fail
   obtain⟨hbk,G,_⟩:=HB2.out.fin (.int .i64 0) (.int .i64 0) (.int .i64 0) (.int .i64 0) (.slice none 0 0) (.slice none 0 0) rfl
   obtain⟨k0,k1,k2,k3,k4,k5⟩:=qC hbk
   have hr:=HR.out
   unfold decF at hr
   rw[if_neg (by rw[←HN.out];have:=H9.out;omega),if_pos (by rw[HGF.out];rfl)] at hr
   rw[hr]
   exact bodyPost_ret (v:= .tuple #[frV fr0 (.slice none 0 0) (.slice none 0 0),.int .i64 4]) (by simp[results,Tryz.results65,go_sem,frV,fr0,k0,k1,k2,k3,k4,k5]) rfl (PDecF.err _ _ _ G)
def HopOk(L:List Int):Prop:=(∀c∈L,0≤c∧c≤31)∧L.Nodup∧1≤L.length∧L.length≤16
theorem nodup_at{L:List Int}(h:L.Nodup)(k:Nat)(z:Int)(hz:L[k]? =some z):(L.take k).contains z=false:=by
 rw[Bool.eq_false_iff]
 intro hc
 have hc:z∈L.take k:=by simpa using hc
 obtain⟨j,hj,he⟩:=List.getElem_of_mem hc
 have hlt:=(List.getElem?_eq_some_iff.1 hz).1
 have hj2:j<k:=by rw[List.length_take] at hj;omega
 have h1:L[j]'(by omega)=L[k]:=by
  rw[List.getElem_take] at he
  rw[he]
  exact (List.getElem?_eq_some_iff.1 hz).2.symm
 exact List.pairwise_iff_getElem.1 h j k (by omega) hlt hj2 h1
theorem hopmay_any(w:World)(A:Option Addr)(len c:Nat)(L:List Int)(h:Rs VI w w.heap.size A len L)(hc:len≤c)(hcm:c≤maxLen)(hL:HopOk L):
  Calls Tryz.prog 49 #[.slice A len c] w (PV (.bool true) w):=by
 have HR:=qQ h
 have HO:=qQ hL
 have hl:=h.1
 have h1:(1:Int)≤len:=by have:=hL.2.2.1;omega
 have h2:(len:Int)≤16:=by have:=hL.2.2.2;omega
 have hcc:(len:Int)≤c:=by omega
 have HL:=qQ hl
 clear h hL hl hcm
 go_enter Tryz.func49,Tryz.ntmps49
 go_wp2_with fail
 go_loopw [7] (λi wr=>∃(k:Nat),k≤len∧i= .int .i64 k∧Chg (λ_=>False) w wr) (λi _=>len-(intOf i).toNat)
 case atStart=>exact⟨0,by omega,rfl,Chg.refl _ _⟩
 case round=>
  obtain⟨k,hk,rfl,hG⟩:=hrel
  have HG:=qQ hG
  clear hG
  by_cases hlt:k<len
  ·obtain⟨x,z,rfl,_,hz,hcz⟩:=(HR.out.keep HG.out (λ_ _ e=>e)).at hlt
   obtain⟨z0,z1⟩:=HO.out.1 z (List.mem_of_getElem? hz)
   unfold VI at hcz
   have hcont:=jD wr (some x) k c (L.take k) z (((HR.out.keep HG.out (λ_ _ e=>e)).more HG.out.size).take k (by omega)) (by omega)
   rw[nodup_at HO.out.2.1 k z hz] at hcont
   have HC:=qQ hcont
   have hkc:(k:Int)≤c:=by omega
   have hkc2:k≤c:=by omega
   clear hz hcont
   go_wp2_with fail
   with_reducible refine HC.out.mono ?_
   rintro en w2 ⟨rfl,rfl⟩
   clear hcz
   go_wp2_with fail
   go_roundw
   case measure=>simp[intOf];omega
   case rel=>exact⟨k+1,by omega,by go_num,HG.out⟩
  ·obtain rfl:k=len:=by omega
   go_wp2_with fail
   go_ret
   exact⟨rfl,HG.out⟩
theorem delI_none(w:World)(A:Option Addr)(len c n:Nat)(caps:Array Value)(L:List Int)(h:Rs VI w w.heap.size A len L)(hL:len≤100000)(hf:FnI w n caps L (λ_=>false)):
  Calls Tryz.prog 143 #[.slice A len c,.func (.func n) #[] caps] w (PV (.slice A len c) w):=by
 have hi:=indexFI_any w A len c n caps L _ h hL hf
 rw[vx L (λ_=>false) (λ_ _ _=>rfl)] at hi
 clear h hf
 go_enter Tryz.func143,Tryz.ntmps143
 go_wp2_with fail
 with_reducible refine hi.mono ?_
 rintro e w1 ⟨rfl,G⟩
 have HG:=qQ G
 clear G hi
 go_wp2_with fail
 go_ret
 exact⟨rfl,HG.out⟩
theorem cf144(args:Array Value)(w':World):(callFunc 144 args).run Tryz.prog w'= .ok (.enter 144 args) w':=by kernel_rfl
theorem black0(z:Int)(h0:0≤z)(h1:z≤31)(b:Nat)(w:World)(hc:w.cell? ⟨b,0,none⟩=some (.int .u32 0)):Calls Tryz.prog 144 #[.int .i64 z,.pointer (some ⟨b,0,none⟩)] w (PV (.bool false) w):=by
 go_enter Tryz.func144,Tryz.ntmps144
 go_wp2_with fail
 go_ret
 exact⟨jr (by decide+kernel),Chg.refl _ _⟩
theorem open_any(w:World)(A:Option Addr)(len c:Nat)(L:List Int)(h:Rs VI w w.heap.size A len L)(hA:A=none→c=0)(hc:len≤c)(hcm:c≤maxLen)(hL:HopOk L):
  Calls Tryz.prog 94 #[.slice A len c,.int .u32 0] w (PNew VI 3 w L):=by
 have hl:=h.1
 have hl16:len≤16:=by have:=hL.2.2.2;omega
 have hl1:1≤len:=by have:=hL.2.2.1;omega
 have g0:=Chg.alloc (λ_=>False) w (.cells #[.int .u32 0] 128)
 have hb0:=qV w (.cells #[.int .u32 0] 128)
 have hm:=hopmay_any _ A len c L ((h.keep g0 (λ_ _ e=>e)).more g0.size) hc hcm hL
 have HM:=qQ hm
 have HB:=qQ (And.intro g0 hb0)
 have HR:=qQ h
 have HA:=qQ hA
 have HO:=qQ hL
 have HL:=qQ hl
 clear h hA hL hl g0 hb0 hm hcm
 go_enter Tryz.func94,Tryz.ntmps94
 go_wp2_with fail
 with_reducible refine HM.out.mono ?_
 rintro en w2 ⟨rfl,G2⟩
 have HG2:=qQ (HB.out.1.trans G2)
 have HB2:=qQ (Chg.keep G2 HB.out.2 (λe=>e))
 clear G2 HB HM
 go_wp2_with fail
 (with_reducible refine (jF w2 A len c L ((HR.out.keep HG2.out (λ_ _ e=>e)).more HG2.out.size) HA.out (by omega)).mono ?_)
 rintro en w3 ⟨v3,rfl,hown,G3⟩
 rw[HL.out] at hown
 obtain⟨A3,c3,rfl,hr3,_⟩:=Rs.of_own (V:=VI) (zs:=L) hown
 have HG3:=qQ (HG2.out.trans G3)
 have HB3:=qQ (Chg.keep G3 HB2.out (λe=>e))
 have HO3:=qQ (qj hown HG2.out.size)
 have hdel:=delI_none w3 A3 len c3 144 #[.pointer (some ⟨w.heap.size,0,none⟩)] L hr3 (by omega) ⟨cf144,λz W hz gW=>by
  have hzb:=HO.out.1 z hz
  exact black0 z hzb.1 hzb.2 w.heap.size W (by
   rw[qJ (Chg.keep gW HB3.out (λe=>e))];rfl)⟩
 have HD:=qQ hdel
 clear hown hr3 G3 HG2 HB2 hdel
 go_wp2_with fail
 with_reducible refine HD.out.mono ?_
 rintro en w4 ⟨rfl,G4⟩
 have HX:=qQ (And.intro (qY HO3.out G4 (λ_ _ e=>e)) (HG3.out.trans G4))
 have hz:(len==0)=false:=by simp;omega
 have hz2:((len:Int)==0)=false:=by simp;omega
 clear G4 HO3 HG3 HD HB3
 go_wp2_with fail
 go_ret
 refine⟨_,rfl,?_,HX.out.2⟩
 rw[HL.out];exact HX.out.1
def chanOf(L:List Int)(asn:Int):Int:=L.getD (asn % (L.length:Int)).toNat 0
theorem channel_any(w:World)(A:Option Addr)(len c:Nat)(L:List Int)(asn:Int)(h:Rs VI w w.heap.size A len L)(hA:A=none→c=0)(hc:len≤c)(hcm:c≤maxLen)(hL:HopOk L)(h0:0≤asn)(h1:asn<1099511627776):
  Calls Tryz.prog 57 #[.slice A len c,.int .u32 0,.int .i64 asn,.int .i64 0] w (PV (.int .i64 (chanOf L asn)) w):=by
 have hl:=h.1
 have hl16:len≤16:=by have:=hL.2.2.2;omega
 have hl1:1≤len:=by have:=hL.2.2.1;omega
 have hop:=open_any w A len c L h hA hc hcm hL
 have HO:=qQ hop
 have HL:=qQ hl
 clear h hA hL hop hcm hl
 go_enter Tryz.func57,Tryz.ntmps57
 go_wp2_with fail
 with_reducible refine HO.out.mono ?_
 rintro en w2 ⟨v2,rfl,hown,G2⟩
 rw[HL.out] at hown
 obtain⟨A2,c2,rfl,hr2,_⟩:=Rs.of_own (V:=VI) (zs:=L) hown
 obtain⟨q,hq⟩:∃q:Nat,q=(asn % (len:Int)).toNat:=⟨_,rfl⟩
 have hm:=Int.emod_lt_of_pos asn (show (0:Int)<len by omega)
 have hm0:=Int.emod_nonneg asn (show (len:Int)≠0 by omega)
 have hqi:(q:Int)=asn % (len:Int):=by rw[hq];omega
 have hql:q<len:=by omega
 obtain⟨x,z,rfl,_,hz,hcz⟩:=hr2.at hql
 unfold VI at hcz
 have hch:chanOf L asn=z:=by
  unfold chanOf
  rw[HL.out,←hq,List.getD_eq_getElem?_getD,hz];rfl
 have HCH:=qQ hch
 have HG2:=qQ G2
 have hz1:(len==0)=false:=by simp;omega
 have hz2:((len:Int)==0)=false:=by simp;omega
 have e1:asn.tmod (len:Int)=(q:Int):=by rw[Int.tmod_eq_emod_of_nonneg h0,hqi]
 have i1:(q:Int)<(len:Int):=by omega
 have e2:asn % (len:Int)=(q:Int):=hqi.symm
 clear hown hr2 hq hm hm0 hqi hz hch G2 HO
 go_wp2_with fail
 go_ret
 rw[HCH.out]
 exact⟨rfl,HG2.out⟩
structure Pa where
 rank:Int
 node:Int
 heard:Int
 deriving DecidableEq
def VPa(p:Pa):Value:= .agg #[.int .i64 p.rank,.int .i64 p.node,.int .i64 p.heard]
def jx(p:Pa):List Value:=[.int .i64 p.rank,.int .i64 p.node,.int .i64 p.heard]
theorem zg(p:Pa):(jx p).length=3:=rfl
def RowP(w:World)(base:Nat)(v:Value)(L:List Pa):Prop:=w.ownsRow base 104 3 v L.length (L.flatMap jx)
theorem RowP.at{w:World}{base g cap:Nat}{L:List Pa}{n:Nat}(h:RowP w base (.slice (some ⟨g,0,none⟩) n cap) L){k:Nat}{p:Pa}(hk:L[k]? =some p):
  w.cell? ⟨g,k*3,none⟩=some (.int .i64 p.rank)∧w.cell? ⟨g,k*3+1,none⟩=some (.int .i64 p.node)∧w.cell? ⟨g,k*3+2,none⟩=some (.int .i64 p.heard):=by
 have hn:n=L.length:=by
  rcases h.2 with ⟨h1,_⟩|⟨g',c',_,h1,_⟩
  ·cases h1
  ·cases h1;rfl
 subst hn
 refine⟨qM h _ _ ?_,qM h _ _ ?_,qM h _ _ ?_⟩
 ·exact jz zg L k 0 p hk (by omega)
 ·exact jz zg L k 1 p hk (by omega)
 ·exact jz zg L k 2 p hk (by omega)
structure FnP(S:Nat→Prop)(w:World)(n:Nat)(caps:Array Value)(L:List Pa)(p:Pa→Bool):Prop where
 cf:∀(args:Array Value) (w':World),(callFunc n args).run Tryz.prog w'= .ok (.enter n args) w'
 at':∀(z:Pa) (w':World),z∈L→Chg S w w'→Calls Tryz.prog n (#[VPa z]++caps) w' (PV (.bool (p z)) w')
theorem indexFP_any(S:Nat→Prop)(w:World)(base:Nat)(v:Value)(n:Nat)(caps:Array Value)(L:List Pa)(p:Pa→Bool)(h:RowP w base v L)(hL:L.length≤1000)(hf:FnP S w n caps L p):
  Calls Tryz.prog 228 #[v,.func (.func n) #[] caps] w (PV (.int .i64 (vy L p)) w):=by
 have HR:=qQ h
 have HF:=qQ hf
 obtain⟨A,c,len,rfl,hlen⟩:∃A c len,v= .slice A len c∧len=L.length:=by
  rcases qD h with ⟨e,h1,_⟩|⟨g,cap,e,_⟩
  ·exact⟨_,_,_,e,h1.symm⟩
  ·exact⟨_,_,_,e,rfl⟩
 rw[←hlen] at hL
 have hl:(len:Int)≤1000:=by omega
 have HL:=qQ hlen
 clear hf hlen h
 go_enter Tryz.func228,Tryz.ntmps228
 go_wp2_with fail
 go_loopw [8] (λi wr=>∃(k:Nat),k≤len∧i= .int .i64 k∧(∀j y,j<k→L[j]? =some y→p y=false)∧Chg (λ_=>False) w wr) (λi _=>len-(intOf i).toNat)
 case atStart=>exact⟨0,by omega,rfl,(λj y hj=>absurd hj (by omega)),Chg.refl _ _⟩
 case round=>
  obtain⟨k,hk,rfl,hno,hG⟩:=hrel
  have HN:=qQ hno
  have HG:=qQ hG
  clear hno hG
  by_cases hlt:k<len
  ·obtain⟨z,hz⟩:∃z,L[k]? =some z:=⟨_,List.getElem?_eq_getElem (by have:=HL.out;omega)⟩
   obtain⟨g,cap,hv⟩:∃g cap,A=some ⟨g,0,none⟩∧c=cap:=by
    rcases qD HR.out with ⟨e,h1,_⟩|⟨g,cap,e,_⟩
    ·have:=HL.out;omega
    ·cases e;exact⟨_,_,rfl,rfl⟩
   obtain⟨rfl,rfl⟩:=hv
   have hrow:RowP wr base _ L:=qY HR.out HG.out (λ_ _ e=>e)
   obtain⟨c0,c1,c2⟩:=hrow.at hz
   have hmem:=List.mem_of_getElem? hz
   have hcf:=HF.out.cf
   have hat:=HF.out.at' z wr hmem HG.out.none
   have i1:(k:Int)<(len:Int):=by omega
   unfold VPa at hat
   have HA:=qQ hat
   have HZ:=qQ hz
   clear hz hat hmem hrow
   go_wp2_with fail
   clear hcf c0 c1 c2
   with_reducible refine HA.out.mono ?_
   rintro e w1 ⟨rfl,G1⟩
   have HG1:=qQ (HG.out.trans G1)
   clear G1 HA HG
   by_cases hp:p z=true
   ·rw[hp]
    have hi:=indexP_at L p k z HZ.out hp HN.out
    have HI:=qQ hi
    clear hi hp
    go_wp2_with fail
    go_ret
    rw[HI.out];exact⟨rfl,HG1.out⟩
   ·have hp:p z=false:=by simpa using hp
    rw[hp]
    have hn:∀j y,j<k+1→L[j]? =some y→p y=false:=λj y hj hy=>by
     by_cases e:j=k
     ·subst e;rw[HZ.out] at hy;cases hy;exact hp
     ·exact HN.out j y (by omega) hy
    have HN1:=qQ hn
    clear hn hp
    go_wp2_with fail
    go_roundw
    case measure=>simp[intOf];omega
    case rel=>exact⟨k+1,by omega,by go_num,HN1.out,HG1.out⟩
  ·obtain rfl:k=len:=by omega
   have hi:=vx L p (λj y hj=>HN.out j y (by have:=(List.getElem?_eq_some_iff.1 hj).1;rw[←HL.out] at this;exact this) hj)
   have HI:=qQ hi
   clear hi
   go_wp2_with fail
   go_ret
   rw[HI.out];exact⟨rfl,HG.out⟩
theorem zero104(w:World):(zeroValue 104).run Tryz.prog w= .ok (.agg #[.int .i64 0,.int .i64 0,.int .i64 0]) w:=by kernel_rfl
theorem run_clearS{P:Program}(w:World)(t e ty:TypeId)(z:Value)(size:Nat)(ht:P.underlying t=some (.slice e))(hv:∀w,(zeroValue e).run P w= .ok z w)(hz:z.cells.size=size)(hs:0<size)(h1:∀u∈z.cells.toList,u.oneCell'=true)(b o n c:Nat)(hn:0<n)
  (hc:∀j,j<n*size→(w.cell? ⟨b,o+j,none⟩).isSome=true) (hf:∀j,j<n*size→w.frozen? ⟨b,o+j,none⟩=false):
  ∃zs:List Value,zs.length=n*size∧(Builtin.clear_ #[t] ty #[.slice (some ⟨b,o,none⟩) n c]).run P w= .ok (.tuple #[]) (w.setCells b o zs):=by
 obtain⟨zs,hzs⟩:=qZ ((Builtin.zeroCells z.cells n).toList)
 have hl:zs.length=n*size:=by rw[hzs];simp[size_zeroCells,hz]
 have h1':∀v∈zs,v.oneCell'=true:=by
  intro v hv'
  rw[hzs] at hv'
  simp only[Builtin.zeroCells,Array.toList_map,List.mem_map] at hv'
  obtain⟨i,_,rfl⟩:=hv'
  apply h1
  have hlt:i % z.cells.size<z.cells.size:=Nat.mod_lt _ (by omega)
  rw[getElem!_pos z.cells _ hlt]
  simp
 have hst:=run_storeCells_cells (P:=P) b o zs 0 w (by rw[hl];simpa using hc) (by rw[hl];simpa using hf) h1'
 simp only[Nat.add_zero] at hst
 obtain⟨m,rfl⟩:∃m,n=m+1:=⟨n-1,by omega⟩
 exact⟨zs,hl,by simp[Builtin.clear_,run_underlying ht,hv,←hzs,hst]⟩
theorem block_setCells(b:Nat)(t:TypeId):∀(vs:List Value) (o:Nat) (w:World) (cur:Array Value),w.heap[b]? =some (.cells cur t (0,0))→
  ∃cur',(w.setCells b o vs).heap[b]? =some (.cells cur' t (0,0))∧cur'.size=cur.size∧∀k,k<o→cur'[k]? =cur[k]?
 |[],o,w,cur,h=>⟨cur,h,rfl,λ_ _=>rfl⟩
 |v::r,o,w,cur,h=>by
  obtain⟨cur',h1,h2,h3⟩:=block_setCells b t r (o+1) (w.setCell ⟨b,o,none⟩ v) _ (qB h o v)
  exact⟨cur',h1,by simpa using h2,λk hk=>by rw[h3 k (by omega),Array.getElem?_setIfInBounds];simp;omega⟩
theorem jw(b:Nat):∀(vs:List Value) (o:Nat) (w:World),Chg (· =b) w (w.setCells b o vs)
 |[],_,_=>Chg.refl _ _
 |v::r,o,w=>(chg1 w b o v).trans (jw b r (o+1) _)
theorem own_cut{w:World}{base e size g cap n i:Nat}{xs:List Value}(h:w.ownsRow base e size (.slice (some ⟨g,0,none⟩) n cap) n xs)(hi:i≤n)(vs:List Value):
  (w.setCells g (i*size) vs).ownsRow base e size (.slice (some ⟨g,0,none⟩) i cap) i (xs.take (i*size)):=by
 obtain⟨h1,h2⟩:=h
 have hm:i*size≤n*size:=Nat.mul_le_mul_right _ hi
 refine⟨by rw[List.length_take,h1];omega,?_⟩
 rcases h2 with ⟨h2,_⟩|⟨g',cap',cur,he,hb,hg,hc,hmx,hs,ht⟩
 ·cases h2
 ·cases he
  obtain⟨cur',k1,k2,k3⟩:=block_setCells g e vs (i*size) w cur hg
  refine .inr ⟨g,cap,cur',rfl,hb,k1,by omega,hmx,by rw[k2,hs],?_⟩
  rw[←ht]
  apply List.ext_getElem?
  intro k
  rw[List.getElem?_take,List.getElem?_take,List.getElem?_take]
  by_cases hk:k<i*size
  ·rw[if_pos hk,if_pos hk,if_pos (by omega)]
   have:=k3 k hk
   simpa using this
  ·rw[if_neg hk,if_neg hk]
theorem own_less{w:World}{base e size g cap n i:Nat}{xs:List Value}(h:w.ownsRow base e size (.slice (some ⟨g,0,none⟩) n cap) n xs)(hi:i≤n):
  w.ownsRow base e size (.slice (some ⟨g,0,none⟩) i cap) i (xs.take (i*size)):=own_cut h hi []
theorem take_flat{α:Type}{f:α→List Value}{s:Nat}(hf:∀a,(f a).length=s)(ps:List α)(i:Nat)(hi:i≤ps.length):(ps.flatMap f).take (i*s)=(ps.take i).flatMap f:=by
 induction ps generalizing i with
 |nil=>simp
 |cons p ps ih=>
  cases i with
  |zero=>simp
  |succ i=>
   have hp:=hf p
   rw[List.flatMap_cons,List.take_succ_cons,List.flatMap_cons,List.take_append,hp,←ih i (by simpa using hi)]
   rw[show (i+1)*s-s=i*s from by rw[Nat.add_mul];omega,List.take_of_length_le (by rw[hp,Nat.add_mul];omega)]
theorem own_setP{w:World}{base g cap n:Nat}{L:List Pa}(h:RowP w base (.slice (some ⟨g,0,none⟩) n cap) L)(i:Nat)(p:Pa)(hi:i<L.length):
  RowP (((w.setCell ⟨g,i*3,none⟩ (.int .i64 p.rank)).setCell ⟨g,i*3+1,none⟩ (.int .i64 p.node)).setCell ⟨g,i*3+2,none⟩ (.int .i64 p.heard)) base (.slice (some ⟨g,0,none⟩) n cap) (L.set i p):=by
 unfold RowP at *
 obtain⟨h1,h2⟩:=h
 rw[List.length_set]
 have hfl:((L.set i p).flatMap jx).length=L.length*3:=by rw[flat_len zg,List.length_set]
 refine⟨hfl,?_⟩
 rcases h2 with ⟨h2,_⟩|⟨g',cap',cur,he,hb,hg,hc,hm,hs,ht⟩
 ·cases h2
 ·cases he
  have k1:=qB (qB (qB hg (i*3) (.int .i64 p.rank)) (i*3+1) (.int .i64 p.node)) (i*3+2) (.int .i64 p.heard)
  refine .inr ⟨g,cap,_,rfl,hb,k1,hc,hm,by simpa using hs,?_⟩
  apply List.ext_getElem?
  intro k
  rw[List.getElem?_take]
  by_cases hk:k<L.length*3
  ·rw[if_pos hk]
   have hk3:k=(k / 3)*3+k % 3:=by omega
   have hq:k / 3<L.length:=by omega
   have hr:((L.set i p).flatMap jx)[k]? =(jx ((L.set i p)[k / 3]'(by simpa using hq)))[k % 3]? :=by
    conv=>lhs;rw[hk3]
    exact jz zg _ _ _ _ (List.getElem?_eq_getElem (by simpa using hq)) (by omega)
   have hold:(L.flatMap jx)[k]? =(jx L[k / 3])[k % 3]? :=by
    conv=>lhs;rw[hk3]
    exact jz zg _ _ _ _ (List.getElem?_eq_getElem hq) (by omega)
   have hcur:cur.toList[k]? =(jx L[k / 3])[k % 3]? :=by
    rw[←hold,←ht,List.getElem?_take,if_pos hk]
   have hsz:k<cur.size:=by rw[hs];have:=Nat.mul_le_mul_right 3 hc;omega
   rw[hr]
   by_cases he:k / 3=i
   ·have e1:(L.set i p)[k / 3]'(by simpa using hq)=p:=by simp[he]
    rw[e1]
    rcases (by omega:k=i*3∨k=i*3+1∨k=i*3+2) with rfl|rfl|rfl
    ·have e2:i*3 % 3=0:=by omega
     rw[e2];simp[Array.getElem?_setIfInBounds,jx,hsz]
    ·have e2:(i*3+1) % 3=1:=by omega
     rw[e2];simp[Array.getElem?_setIfInBounds,jx,hsz]
    ·have e2:(i*3+2) % 3=2:=by omega
     rw[e2];simp[Array.getElem?_setIfInBounds,jx,hsz]
   ·have e1:(L.set i p)[k / 3]'(by simpa using hq)=L[k / 3]:=by rw[List.getElem_set_ne (by omega)]
    rw[e1,←hcur]
    have n0:¬i*3=k:=by omega
    have n1:¬i*3+1=k:=by omega
    have n2:¬i*3+2=k:=by omega
    simp[Array.getElem?_setIfInBounds,n0,n1,n2]
  ·rw[if_neg hk,List.getElem?_eq_none (by rw[hfl];omega)]
def PDel(w:World)(base:Nat)(v:Value)(M:List Pa)(en:Ending)(w':World):Prop:=
 ∃v',en= .returned v'∧RowP w' base v' M∧Chg (λk=>v.ownBlock=some k) w w'∧v'.ownBlock=v.ownBlock
theorem cell3{w:World}{b:Nat}{v0 v1 v2:Value}{t:TypeId}(h:w.heap[b]? =some (.cells #[v0,v1,v2] t (0,0))):
  w.cell? ⟨b,0,none⟩=some v0∧w.cell? ⟨b,1,none⟩=some v1∧w.cell? ⟨b,2,none⟩=some v2:=by
 refine⟨?_,?_,?_⟩ <;> (rw[qJ h];rfl)
theorem filter_none{α:Type}(L:List α)(p:α→Bool)(h:∀x∈L,p x=false):L.filter (λx=>!p x)=L:=by
 rw[List.filter_eq_self];intro x hx;rw[h x hx];rfl
theorem qw{w:World}{base e size n m g cap:Nat}{xs:List Value}(h:w.ownsRow base e size (.slice (some ⟨g,0,none⟩) n cap) m xs)(i:Nat):w.frozen? ⟨g,i,none⟩=false:=by
 rcases h.2 with ⟨h2,_⟩|⟨g',cap',cur,he,hb,hg,_⟩
 ·cases h2
 ·cases he;exact qK hg i
structure DlAt(w:World)(base:Nat)(v:Value)(L:List Pa)(p:Pa→Bool)(i j:Nat)(M:List Pa)(W:World):Prop where
 row:RowP W base v M
 len:M.length=L.length
 ij:i<j
 tk:M.take i=(L.take j).filter (λx=>!p x)
 dr:∀k,j≤k→M[k]? =L[k]?
 chg:Chg (λk=>v.ownBlock=some k) w W
theorem delP_any(w:World)(base:Nat)(v:Value)(n:Nat)(caps:Array Value)(L:List Pa)(p:Pa→Bool)(h:RowP w base v L)(hL:L.length≤1000)(hf:FnP (λk=>v.ownBlock=some k) w n caps L p):
  Calls Tryz.prog 173 #[v,.func (.func n) #[] caps] w (PDel w base v (L.filter (λx=>!p x))):=by
 have hi:=indexFP_any _ w base v n caps L p h hL hf
 by_cases hno:∀x∈L,p x=false
 ·rw[filter_none L p hno]
  rw[vx L p (λj y hy=>hno y (List.mem_of_getElem? hy))] at hi
  have HI:=qQ hi
  have H:=qQ h
  obtain⟨A,c,len,rfl⟩:∃A c len,v= .slice A len c:=by
   rcases qD h with ⟨e,h1,_⟩|⟨g,cap,e,_⟩
   ·exact⟨_,_,_,e⟩
   ·exact⟨_,_,_,e⟩
  clear hi h hf hno hL
  go_enter Tryz.func173,Tryz.ntmps173
  go_wp2_with fail
  with_reducible refine HI.out.mono ?_
  rintro en w1 ⟨rfl,G1⟩
  have HX:=qQ (And.intro (qY H.out G1 (λ_ _ e=>e)) G1)
  clear G1 HI
  go_wp2_with fail
  go_ret
  exact⟨_,rfl,HX.out.1,HX.out.2.none,rfl⟩
 ·obtain⟨k0,z0,hz0,hp0,hb0⟩:∃k z,L[k]? =some z∧p z=true∧∀j y,j<k→L[j]? =some y→p y=false:=by
   have hex:L.findIdx? p≠none:=by
    intro h0
    rw[List.findIdx?_eq_none_iff] at h0
    exact hno (λx hx=>by simpa using h0 x hx)
   obtain⟨k,hk⟩:=Option.ne_none_iff_exists'.1 hex
   rw[List.findIdx?_eq_some_iff_getElem] at hk
   obtain⟨hkl,hpk,hbk⟩:=hk
   exact⟨k,L[k],List.getElem?_eq_getElem hkl,hpk,λj y hj hy=>by
    have h1:=hbk j hj
    rw[List.getElem?_eq_getElem (by omega)] at hy
    cases hy;simpa using h1⟩
  rw[indexP_at L p k0 z0 hz0 hp0 hb0] at hi
  have hkl:k0<L.length:=(List.getElem?_eq_some_iff.1 hz0).1
  obtain⟨g,cap,rfl,hbg,hgs,hcap,hcm⟩:∃g cap,v= .slice (some ⟨g,0,none⟩) L.length cap∧base≤g∧g<w.heap.size∧L.length≤cap∧cap≤maxLen:=by
   rcases qD h with ⟨e,h1,_⟩|h1
   ·omega
   ·exact h1
  have hD0:DlAt w base (.slice (some ⟨g,0,none⟩) L.length cap) L p k0 (k0+1) L w:=by
   refine⟨h,rfl,by omega,?_,λ_ _=>rfl,Chg.refl _ _⟩
   rw[List.take_add_one,hz0,List.filter_append]
   have e1:(L.take k0).filter (λx=>!p x)=L.take k0:=filter_none _ _ (λx hx=>by
    obtain⟨j,hj,rfl⟩:=List.getElem_of_mem hx
    rw[List.length_take] at hj
    exact hb0 j _ (by omega) (by rw[List.getElem_take];exact List.getElem?_eq_getElem (by omega)))
   rw[e1];simp[hp0]
  have HD0:=qQ hD0
  have HI:=qQ hi
  have HF:=qQ hf
  obtain⟨R,hR⟩:=qZ (L.filter (λx=>!p x))
  rw[←hR]
  have HR:=qQ hR
  obtain⟨N,hN⟩:=qZ L.length
  rw[←hN] at hL hkl hcap HD0 HI HF ⊢
  have HN:=qQ hN
  have hnn:(N:Int)≤1000:=by omega
  have hkk:(k0:Int)<N:=by omega
  have hnc:(N:Int)≤cap:=by omega
  unfold maxLen at hcm
  have HCM:=qQ hcm
  have hNE:((k0:Int)== -1)=false:=by simp <;> omega
  clear hi h hf hno hz0 hp0 hb0 hD0 hR hN hcm
  go_enter Tryz.func173,Tryz.ntmps173
  go_wp2_with fail
  with_reducible refine HI.out.mono ?_
  rintro en w1 ⟨rfl,G1⟩
  have hD1:DlAt w base (.slice (some ⟨g,0,none⟩) N cap) L p k0 (k0+1) L w1:=⟨qY HD0.out.row G1 (λ_ _ e=>e),HD0.out.len,HD0.out.ij,HD0.out.tk,HD0.out.dr,HD0.out.chg.trans G1.none⟩
  have HD1:=qQ hD1
  clear G1 HI hD1 HD0
  go_wp2_with fail
  go_loopw [5,6] (λu5 u6 wr=>∃(i j:Nat) (M:List Pa),j≤N∧u5= .int .i64 i∧u6= .int .i64 j∧DlAt w base (.slice (some ⟨g,0,none⟩) N cap) L p i j M wr) (λ_ u6 _=>N-(intOf u6).toNat)
  case atStart=>exact⟨k0,k0+1,L,by omega,rfl,by go_num,HD1.out⟩
  case round=>
   obtain⟨i,j,M,hj,rfl,rfl,hD⟩:=hrel
   have HD:=qQ hD
   have hij:=hD.ij
   clear hD HD1
   by_cases hlt:j<N
   ·obtain⟨z,hz⟩:∃z,L[j]? =some z:=⟨_,List.getElem?_eq_getElem (by have:=HN.out;omega)⟩
    obtain⟨c0,c1,c2⟩:=HD.out.row.at (k:=j) (p:=z) (by rw[HD.out.dr j (Nat.le_refl _)];exact hz)
    have i1:(j:Int)<(N:Int):=by omega
    have hcf:=HF.out.cf
    have ga:=Chg.alloc (λ_=>False) wr (.cells #[.int .i64 z.rank,.int .i64 z.node,.int .i64 z.heard] 104)
    have hba:=qV wr (.cells #[.int .i64 z.rank,.int .i64 z.node,.int .i64 z.heard] 104)
    have hat:=HF.out.at' z _ (List.mem_of_getElem? hz) (HD.out.chg.trans ga.none)
    unfold VPa at hat
    have HA:=qQ hat
    have HGA:=qQ (And.intro ga hba)
    have HZ:=qQ hz
    clear hat ga hba hz
    go_wp2_with fail
    clear hcf c0 c1 c2
    with_reducible refine HA.out.mono ?_
    rintro en w2 ⟨rfl,G2⟩
    have hg2:=HGA.out.1.trans G2
    have hrow2:RowP w2 base (.slice (some ⟨g,0,none⟩) N cap) M:=qY HD.out.row hg2 (λ_ _ e=>e)
    have HX2:=qQ (And.intro hrow2 (And.intro (HD.out.chg.trans hg2.none) (Chg.keep G2 HGA.out.2 (λe=>e))))
    clear G2 HA HGA hg2 hrow2
    by_cases hp:p z=true
    ·rw[hp]
     have hD2:DlAt w base (.slice (some ⟨g,0,none⟩) N cap) L p i (j+1) M w2:=by
      refine⟨HX2.out.1,HD.out.len,by omega,?_,λk hk=>HD.out.dr k (by omega),HX2.out.2.1⟩
      rw[HD.out.tk,List.take_add_one,HZ.out,List.filter_append];simp[hp]
     have HD2:=qQ hD2
     clear hD2 hp HX2 HD
     go_wp2_with fail
     go_roundw
     case measure=>simp[intOf];omega
     case rel=>exact⟨i,j+1,M,by omega,rfl,by go_num,HD2.out⟩
    ·have hp:p z=false:=by simpa using hp
     rw[hp]
     have hiN:i<M.length:=by have:=HD.out.len;have:=HN.out;omega
     obtain⟨y,hy⟩:∃y,M[i]? =some y:=⟨_,List.getElem?_eq_getElem hiN⟩
     obtain⟨d0,d1,d2⟩:=HX2.out.1.at hy
     have f0:=qw HX2.out.1 (i*3)
     have f1:=qw HX2.out.1 (i*3+1)
     have f2:=qw HX2.out.1 (i*3+2)
     obtain⟨b0,b1,b2⟩:=cell3 HX2.out.2.2
     have hset:=own_setP HX2.out.1 i z hiN
     have gs:Chg (λk=>(Value.slice (some ⟨g,0,none⟩) N cap).ownBlock=some k) w2 (((w2.setCell ⟨g,i*3,none⟩ (.int .i64 z.rank)).setCell ⟨g,i*3+1,none⟩ (.int .i64 z.node)).setCell ⟨g,i*3+2,none⟩ (.int .i64 z.heard)):=
      (((chg1 _ _ _ _).trans (chg1 _ _ _ _)).trans (chg1 _ _ _ _)).mono (λk _ e=>by rw[show k=g from e];rfl)
     have hD2:DlAt w base (.slice (some ⟨g,0,none⟩) N cap) L p (i+1) (j+1) (M.set i z) (((w2.setCell ⟨g,i*3,none⟩ (.int .i64 z.rank)).setCell ⟨g,i*3+1,none⟩ (.int .i64 z.node)).setCell ⟨g,i*3+2,none⟩ (.int .i64 z.heard)):=by
      refine⟨hset,by rw[List.length_set];exact HD.out.len,by omega,?_,λk hk=>?_,HX2.out.2.1.trans gs⟩
      ·rw[List.take_add_one,List.take_set_of_le (Nat.le_refl _),HD.out.tk,List.take_add_one,HZ.out,List.filter_append]
       have e1:(M.set i z)[i]? =some z:=by rw[List.getElem?_set_self hiN]
       rw[e1];simp[hp]
      ·rw[List.getElem?_set_ne (by omega)];exact HD.out.dr k (by omega)
     have HD2:=qQ hD2
     have i2:(i:Int)<(N:Int):=by omega
     clear hD2 hp HX2 HD hset gs hy
     go_wp2_with fail
     go_roundw
     case measure=>simp[intOf];omega
     case rel=>exact⟨i+1,j+1,M.set i z,by omega,by go_num,by go_num,HD2.out⟩
   ·obtain rfl:j=N:=by omega
    have hML:=HD.out.len
    have hiM:i≤M.length:=by have:=HN.out;omega
    have hrow:=HD.out.row
    unfold RowP at hrow
    rw[hML,←HN.out] at hrow
    have hcl:∀o:Nat,o<(j-i)*3→(wr.cell? ⟨g,i*3+o,none⟩).isSome=true:=λo ho=>by
     have hk:i+o / 3<M.length:=by have:=HN.out;omega
     obtain⟨d0,d1,d2⟩:=HD.out.row.at (List.getElem?_eq_getElem hk)
     rcases (by omega:o % 3=0∨o % 3=1∨o % 3=2) with h3|h3|h3
     ·rw[show i*3+o=(i+o / 3)*3 from by omega,d0];rfl
     ·rw[show i*3+o=(i+o / 3)*3+1 from by omega,d1];rfl
     ·rw[show i*3+o=(i+o / 3)*3+2 from by omega,d2];rfl
    have hfr:∀o:Nat,o<(j-i)*3→wr.frozen? ⟨g,i*3+o,none⟩=false:=λo _=>qw hrow _
    obtain⟨zs,hzl,hrun⟩:=run_clearS (P:=Tryz.prog) wr 100 104 0 (.agg #[.int .i64 0,.int .i64 0,.int .i64 0]) 3 Tryz.underlying100 zero104 rfl (by omega) (by intro u hu;simp[Value.cells] at hu;rw[hu];rfl) g (i*3) (j-i) (cap-i) (by omega) hcl hfr
    have hcut:=own_cut hrow (show i≤j by omega) zs
    have hfin:(M.flatMap jx).take (i*3)=R.flatMap jx:=by
     rw[take_flat zg M i hiM,HD.out.tk,HR.out,List.take_of_length_le (by rw[←HN.out];exact Nat.le_refl _)]
    have hRl:R.length=i:=by
     rw[HR.out]
     have h1:=HD.out.tk
     rw[List.take_of_length_le (l:=L) (by rw[←HN.out];exact Nat.le_refl _)] at h1
     rw[←h1,List.length_take];omega
    have HX:=qQ (show RowP (wr.setCells g (i*3) zs) base (.slice (some ⟨g,0,none⟩) i cap) R from by unfold RowP;rw[hRl,←hfin];exact hcut)
    have HG:=qQ (HD.out.chg.trans ((jw g zs (i*3) wr).mono (λk _ e=>by rw[show k=g from e];rfl)))
    have i2:(i:Int)≤(j:Int):=by omega
    have i3:(i:Int)≤(cap:Int):=by omega
    have e1:(j:Int)-(i:Int)=((j-i:Nat):Int):=by omega
    clear hML hiM hrow hcl hfr hcut hfin hRl HD
    go_wp2_with fail
    go_ret
    exact⟨_,rfl,HX.out,HG.out,rfl⟩
def cmpI(a b:Int):Int:=if a<b then-1 else if b<a then 1 else 0
theorem jT(a:Int)(w:World):Calls Tryz.prog 261 #[.int .i64 a] w λe w'=>e= .returned (.bool false)∧w'=w:=by
 go_enter Tryz.func261,Tryz.ntmps261
 go_wp2_with fail
 go_ret
 exact⟨jr (by simp),rfl⟩
theorem compare_any(a b:Int)(w:World):Calls Tryz.prog 249 #[.int .i64 a,.int .i64 b] w λe w'=>e= .returned (.int .i64 (cmpI a b))∧w'=w:=by
 by_cases h1:a<b
 ·have e:cmpI a b= -1:=by unfold cmpI;rw[if_pos h1]
  rw[e]
  clear e
  go_enter Tryz.func249,Tryz.ntmps249
  go_wp2_with fail
  (with_reducible refine (jT _ _).mono ?_)
  rintro en w1 ⟨rfl,rfl⟩
  go_wp2_with fail
  (with_reducible refine (jT _ _).mono ?_)
  rintro en w1 ⟨rfl,rfl⟩
  go_wp2_with fail
  go_ret
  exact⟨rfl,rfl⟩
 ·by_cases h2:b<a
  ·have e:cmpI a b=1:=by unfold cmpI;rw[if_neg h1,if_pos h2]
   have h3:b≤a:=by omega
   rw[e]
   clear e h1
   go_enter Tryz.func249,Tryz.ntmps249
   go_wp2_with fail
   (with_reducible refine (jT _ _).mono ?_)
   rintro en w1 ⟨rfl,rfl⟩
   go_wp2_with fail
   (with_reducible refine (jT _ _).mono ?_)
   rintro en w1 ⟨rfl,rfl⟩
   go_wp2_with fail
   go_ret
   exact⟨rfl,rfl⟩
  ·obtain rfl:a=b:=by omega
   have e:cmpI a a=0:=by unfold cmpI;rw[if_neg h1,if_neg h2]
   rw[e]
   clear e h1 h2
   go_enter Tryz.func249,Tryz.ntmps249
   go_wp2_with fail
   (with_reducible refine (jT _ _).mono ?_)
   rintro en w1 ⟨rfl,rfl⟩
   go_wp2_with fail
   (with_reducible refine (jT _ _).mono ?_)
   rintro en w1 ⟨rfl,rfl⟩
   go_wp2_with fail
   go_ret
   exact⟨rfl,rfl⟩
def orI(x y:Int):Int:=if x=0 then y else x
theorem orI_0{x y:Int}(h:x=0):orI x y=y:=if_pos h
theorem orI_1{x y:Int}(h:¬x=0):orI x y=x:=if_neg h
theorem or2_any(x y:Int)(b:Nat)(w:World)(c0:w.cell? ⟨b,0,none⟩=some (.int .i64 x))(c1:w.cell? ⟨b,1,none⟩=some (.int .i64 y)):
  Calls Tryz.prog 248 #[.slice (some ⟨b,0,none⟩) 2 2] w λe w'=>e= .returned (.int .i64 (orI x y))∧w'=w:=by
 by_cases hx:x=0
 ·rw[orI_0 hx]
  have g1:(x != 0)=false:=by simpa using hx
  by_cases hy:y=0
  ·have g2:(y != 0)=false:=by simpa using hy
   have HY:=qQ hy
   clear hx hy
   go_enter Tryz.func248,Tryz.ntmps248
   go_wp2_with fail
   go_loop [8] (λi=>∃(k:Nat),k≤2∧i= .int .i64 k) (λi=>2-(intOf i).toNat)
   case atStart=>exact⟨0,by omega,rfl⟩
   case round=>
    obtain⟨k,hk,rfl⟩:=hrel
    rcases (by omega:k=0∨k=1∨k=2) with rfl|rfl|rfl
    ·go_wp2_with fail
     go_round
     case measure=>simp[intOf]
     case rel=>exact⟨1,by omega,rfl⟩
    ·go_wp2_with fail
     go_round
     case measure=>simp[intOf]
     case rel=>exact⟨2,by omega,rfl⟩
    ·go_wp2_with fail
     go_ret
     rw[HY.out]
     exact⟨rfl,rfl⟩
  ·have g2:(y != 0)=true:=by simpa using hy
   clear hx hy
   go_enter Tryz.func248,Tryz.ntmps248
   go_wp2_with fail
   go_loop [8] (λi=>∃(k:Nat),k≤1∧i= .int .i64 k) (λi=>2-(intOf i).toNat)
   case atStart=>exact⟨0,by omega,rfl⟩
   case round=>
    obtain⟨k,hk,rfl⟩:=hrel
    rcases (by omega:k=0∨k=1) with rfl|rfl
    ·go_wp2_with fail
     go_round
     case measure=>simp[intOf]
     case rel=>exact⟨1,by omega,rfl⟩
    ·go_wp2_with fail
     go_ret
     exact⟨rfl,rfl⟩
 ·rw[orI_1 hx]
  have g1:(x != 0)=true:=by simpa using hx
  clear hx
  go_enter Tryz.func248,Tryz.ntmps248
  go_wp2_with fail
  go_loop [8] (λi=>i= .int .i64 0) (λi=>2-(intOf i).toNat)
  case atStart=>rfl
  case round=>
   obtain rfl:=hrel
   go_wp2_with fail
   go_ret
   exact⟨rfl,rfl⟩
theorem or2_new(x y:Int)(w:World):Calls Tryz.prog 248 #[.slice (some ⟨w.heap.size,0,none⟩) 2 2] (w.alloc (.cells #[.int .i64 x,.int .i64 y] 3)).drew λe w'=>e= .returned (.int .i64 (orI x y))∧w'=(w.alloc (.cells #[.int .i64 x,.int .i64 y] 3)).drew:=
 or2_any x y w.heap.size _ (by simp) (by simp)
theorem qL{w:World}{p:Addr}{v:Value}(h:w.cell? p=some v)(o:Obj):(w.alloc o).cell? p=some v:=by
 rw[(Chg.alloc (λ_=>False) w o).cell (qG h) (λe=>e),h]
def cmpP(p q:Pa):Int:=orI (cmpI p.rank q.rank) (cmpI p.node q.node)
theorem by_any(p q:Pa)(w:World):Calls Tryz.prog 202 #[VPa p,VPa q] w (PV (.int .i64 (cmpP p q)) w):=by
 unfold VPa cmpP
 obtain⟨x,hx⟩:∃x,cmpI p.rank q.rank=x:=⟨_,rfl⟩
 obtain⟨y,hy⟩:∃y,cmpI p.node q.node=y:=⟨_,rfl⟩
 rw[hx,hy]
 have hc1:=λw=>compare_any p.rank q.rank w
 have hc2:=λw=>compare_any p.node q.node w
 rw[hx] at hc1
 rw[hy] at hc2
 have HC1:=qQ hc1
 have HC2:=qQ hc2
 have g:=(Chg.alloc (λ_=>False) w (.cells #[.int .i64 p.rank,.int .i64 p.node,.int .i64 p.heard] 104)).trans (Chg.alloc _ _ (.cells #[.int .i64 q.rank,.int .i64 q.node,.int .i64 q.heard] 104))
 have HG:=qQ g
 have HZ:=qQ (show w.heap.size≠w.heap.size+1 by omega)
 have hbp:=Chg.keep (Chg.alloc (λ_=>False) (w.alloc (.cells #[.int .i64 p.rank,.int .i64 p.node,.int .i64 p.heard] 104)) (.cells #[.int .i64 q.rank,.int .i64 q.node,.int .i64 q.heard] 104)) (qV w (.cells #[.int .i64 p.rank,.int .i64 p.node,.int .i64 p.heard] 104)) (λe=>e)
 have hbq:=qV (w.alloc (.cells #[.int .i64 p.rank,.int .i64 p.node,.int .i64 p.heard] 104)) (.cells #[.int .i64 q.rank,.int .i64 q.node,.int .i64 q.heard] 104)
 have hsz:(w.alloc (.cells #[.int .i64 p.rank,.int .i64 p.node,.int .i64 p.heard] 104)).heap.size=w.heap.size+1:=by simp
 rw[hsz] at hbq
 have HB:=qQ (And.intro hbp hbq)
 clear hc1 hc2 hx hy g hbp hbq hsz
 go_enter Tryz.func202,Tryz.ntmps202
 go_wp2_with fail
 generalize (w.alloc (.cells #[.int .i64 p.rank,.int .i64 p.node,.int .i64 p.heard] 104)).alloc (.cells #[.int .i64 q.rank,.int .i64 q.node,.int .i64 q.heard] 104)=w1 at *
 generalize w.heap.size=b at *
 obtain⟨p0,p1,p2⟩:=cell3 HB.out.1
 obtain⟨q0,q1,q2⟩:=cell3 HB.out.2
 clear p2 q2
 go_region_held3 (λW=>W.cell? ⟨b,0,none⟩=some (.int .i64 p.rank)∧W.cell? ⟨b,1,none⟩=some (.int .i64 p.node)∧W.cell? ⟨b+1,0,none⟩=some (.int .i64 q.rank)∧W.cell? ⟨b+1,1,none⟩=some (.int .i64 q.node)) (first|exact⟨p0,p1,q0,q1⟩|exact⟨qL p0 _,qL p1 _,qL q0 _,qL q1 _⟩)
  (first
   |(go_at_call_of 249 (Value.int IntKind.i64 p.rank);refine (HC1.out _).mono ?_;rintro e w' ⟨rfl,rfl⟩)
   |(go_at_call_of 249 (Value.int IntKind.i64 p.node);refine (HC2.out _).mono ?_;rintro e w' ⟨rfl,rfl⟩)
   |(go_at_call 248;refine (or2_new x y w1).mono ?_;rintro e w' ⟨rfl,rfl⟩))
 go_wp2_with fail
 go_ret
 exact⟨rfl,(HG.out.trans (Chg.alloc _ _ _)).trans (Chg.drew _ _)⟩
end Go.Proofs.YtnpihllannobgaaGreatDoor
