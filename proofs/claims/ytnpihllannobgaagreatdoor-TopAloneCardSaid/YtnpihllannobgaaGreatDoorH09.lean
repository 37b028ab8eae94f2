/- Steps of the proof, part H09. No condition. -/
import Derived.Test.YtnpihllannobgaaGreatDoorH07
namespace Go.Proofs.YtnpihllannobgaaGreatDoor
set_option linter.unusedVariables false
set_option linter.unusedSimpArgs false
set_option maxRecDepth 100000
set_option maxHeartbeats 32000000
open Go.ChangeShapes Go.WideShapes Go.ChangeAt Go.RowKit
theorem rin_any(n a b:Int)(w:World):Calls Tryz.prog 170 #[.int .i64 n,.int .i64 a,.int .i64 b] w λe w'=>e= .returned (.bool (inR n a b))∧w'=w:=by
 by_cases h0:a≤n
 ·by_cases h1:n≤b
  ·have e:inR n a b=true:=zT h0 h1
   rw[e];clear e
   go_enter Tryz.func170,Tryz.ntmps170
   go_wp2_with fail
   go_ret
   exact⟨rfl,rfl⟩
  ·have e:inR n a b=false:=jC (by omega)
   have b1:decide (n≤b)=false:=by simpa using h1
   rw[e];clear e
   go_enter Tryz.func170,Tryz.ntmps170
   go_wp2_with fail
   go_ret
   exact⟨rfl,rfl⟩
 ·have e:inR n a b=false:=vP (by omega)
  have b1:decide (a≤n)=false:=by simpa using h0
  rw[e];clear e
  go_enter Tryz.func170,Tryz.ntmps170
  go_wp2_with fail
  go_ret
  exact⟨rfl,rfl⟩
theorem rnode_any(n:Int)(w:World):Calls Tryz.prog 174 #[.int .i64 n] w λe w'=>e= .returned (.bool (zD n))∧w'=w:=by
 have H:=qQ (rin_any n 0 15 w)
 have e:inR n 0 15=zD n:=rfl
 rw[e] at H
 go_enter Tryz.func174,Tryz.ntmps174
 go_wp2_with fail
 with_reducible refine H.out.mono ?_
 rintro en w1 ⟨rfl,rfl⟩
 go_wp2_with fail
 go_ret
 exact⟨rfl,rfl⟩
theorem nodup_snoc{L:List Int}{k:Nat}{z:Int}(hz:L[k]? =some z) (hn:(L.take k).Nodup) (hc:(L.take k).contains z=false):(L.take (k+1)).Nodup:=by
 rw[List.take_add_one,hz]
 show (L.take k++[z]).Nodup
 rw[List.nodup_append]
 refine⟨hn,by simp,λa ha b hb e=>?_⟩
 simp at hb
 rw[e,hb] at ha
 have:(L.take k).contains z=true:=by simpa using ha
 rw[hc] at this;cases this
theorem nodup_not{L:List Int}{k:Nat}{z:Int}(hz:L[k]? =some z) (hc:(L.take k).contains z=true):¬L.Nodup:=by
 intro hn
 have h1:(L.take (k+1)).Nodup:=hn.sublist (List.take_sublist _ _)
 rw[List.take_add_one,hz] at h1
 have h1:(L.take k++[z]).Nodup:=h1
 rw[List.nodup_append] at h1
 exact h1.2.2 z (by simpa using hc) z (by simp) rfl
theorem path_any(w:World)(own:Cls)(lv:Value)(L:List Int)(h:RV VI w own lv L)(hL:L.length≤100000):Calls Tryz.prog 175 #[lv] w (λe w'=>e= .returned (.bool (jP L))∧w'=w):=by
 obtain⟨A,c,rfl,hR,_,hlc,hcm⟩:=h.rs
 obtain⟨n,hn⟩:=qZ L.length
 rw[←hn] at hR hlc ⊢
 have HR:=qQ hR
 have HN:=qQ hn
 have hl:(n:Int)≤100000:=by omega
 have hcm2:c≤9223372036854775807:=hcm
 clear h hR hn
 go_enter Tryz.func175,Tryz.ntmps175
 go_wp2_with fail
 go_loopw [7] (λi wr=>∃(k:Nat),k≤n∧i= .int .i64 k∧wr=w∧(L.take k).all zD=true∧(L.take k).Nodup) (λi _=>n-(intOf i).toNat)
 case atStart=>exact⟨0,by omega,rfl,rfl,by simp,by simp⟩
 case round=>
  obtain⟨k,hk,rfl,rfl,ha,hnd⟩:=hrel
  by_cases hlt:k<n
  ·obtain⟨x,z,rfl,_,hz,hc⟩:=HR.out.at hlt
   unfold VI at hc
   have i1:(k:Int)<(n:Int):=by omega
   have HA:=qQ (And.intro ha (And.intro hnd hz))
   have HC:=qQ (jD wr (some x) k c (L.take k) z (HR.out.take k hk) (by omega))
   have HNO:=qQ (rnode_any z wr)
   clear ha hnd hz
   go_wp2_with fail
   with_reducible refine HNO.out.mono ?_
   rintro en w1 ⟨rfl,rfl⟩
   by_cases hb:zD z=true
   ·have HB:=qQ hb
    rw[hb]
    clear hb
    go_wp2_with fail
    with_reducible refine HC.out.mono ?_
    rintro en w1 ⟨rfl,rfl⟩
    by_cases hcc:(L.take k).contains z=true
    ·have hf:jP L=false:=by
      unfold jP
      have:=nodup_not HA.out.2.2 hcc
      simp[this]
     have HF:=qQ hf
     rw[hcc]
     clear hcc hf
     go_wp2_with fail
     go_ret
     rw[HF.out]
     exact⟨rfl,rfl⟩
    ·have hcc:(L.take k).contains z=false:=by simpa using hcc
     have h1:(L.take (k+1)).all zD=true:=by
      rw[List.take_add_one,HA.out.2.2]
      show (L.take k++[z]).all zD=true
      rw[List.all_append,HA.out.1];simp[HB.out]
     have H1:=qQ (And.intro h1 (nodup_snoc HA.out.2.2 HA.out.2.1 hcc))
     rw[hcc]
     clear hcc h1
     go_wp2_with fail
     go_roundw
     case measure=>simp[intOf];omega
     case rel=>exact⟨k+1,by omega,by go_num,trivial,H1.out⟩
   ·have hb:zD z=false:=by simpa using hb
    have hf:jP L=false:=by
     unfold jP
     have:L.all zD=false:=by
      rw[Bool.eq_false_iff]
      intro e
      rw[List.all_eq_true] at e
      have:=e z (List.mem_of_getElem? HA.out.2.2)
      rw[hb] at this;cases this
     rw[this];rfl
    have HF:=qQ hf
    rw[hb]
    clear hb hf
    go_wp2_with fail
    go_ret
    rw[HF.out]
    exact⟨rfl,rfl⟩
  ·obtain rfl:k=n:=by omega
   have hv:jP L=decide ((k:Int)≤16):=by
    unfold jP
    rw[List.take_of_length_le (by have:=HN.out;omega)] at ha hnd
    rw[ha,decide_eq_true hnd,←HN.out]
    simp
    omega
   have HV:=qQ hv
   clear ha hnd hv
   go_wp2_with fail
   go_ret
   rw[HV.out]
   exact⟨rfl,rfl⟩
def pkV(p:Pk)(lv dv:Value):Value:= .agg #[.int .i64 p.src,.int .i64 p.dst,.int .i64 p.n,.int .i64 p.life,lv,dv]
def pkB(p:Pk)(lv dv:Value):Obj:= .cells #[.int .i64 p.src,.int .i64 p.dst,.int .i64 p.n,.int .i64 p.life,lv,dv] 42
def PO(w:World)(own:Cls)(lv dv:Value)(p:Pk):Prop:=RV VI w own lv p.path∧BO w own dv p.data
theorem PO.keep{S:Nat→Prop}{w w':World}{own:Cls}{lv dv:Value}{p:Pk}(h:PO w own lv dv p)(g:Chg S w w')(hS:∀j,own j=0→¬S j):PO w' own lv dv p:=⟨h.1.keep g hS,h.2.keep g hS⟩
theorem pmay_any(w:World)(own:Cls)(p:Pk)(lv dv:Value)(h:PO w own lv dv p)(hL:p.path.length≤100000)(hD:p.data.length≤100000):Calls Tryz.prog 123 #[pkV p lv dv] w (PV (.bool (mayP p)) w):=by
 obtain⟨S,D,N,F,P,T⟩:=p
 have ga:=Chg.alloc (λ_=>False) w (pkB ⟨S,D,N,F,P,T⟩ lv dv)
 have hb:=qV w (pkB ⟨S,D,N,F,P,T⟩ lv dv)
 dsimp only at hL hD
 have HPA:=qQ (path_any (w.alloc (pkB ⟨S,D,N,F,P,T⟩ lv dv)) own lv P (h.1.keep ga (λ_ _ e=>e)) hL)
 obtain⟨lA,lc,hlv,_⟩:=h.1
 obtain⟨⟨dA,dc,hdv,_⟩,_⟩:=h.2
 obtain⟨n,hn⟩:=qZ T.length
 obtain⟨m,hm⟩:=qZ P.length
 rw[←hn] at hdv
 rw[←hm] at hlv
 subst hlv hdv
 have HV:=qQ (show mayP ⟨S,D,N,F,P,T⟩=(zD S&&zD D&&S != D&&inR N 0 70368744177663&&inR F 0 15&&jP P&&inR (n:Int) 1 24) from by unfold mayP;rw[hn])
 unfold pkB at hb ga HPA
 unfold pkV
 obtain⟨b0,b1,b2,b3,b4,b5⟩:=qC hb
 have HG:=qQ ga
 clear h ga hb hn hm hL hD
 obtain⟨R,hR⟩:=qZ (mayP ⟨S,D,N,F,P,T⟩)
 rw[←hR] at HV ⊢
 clear hR
 go_enter Tryz.func123,Tryz.ntmps123
 go_wp2_with fail
 (with_reducible refine (rnode_any S _).mono ?_)
 rintro en w1 ⟨rfl,rfl⟩
 by_cases h0:(zD S)=true
 case neg=>
  have h0:(zD S)=false:=by simpa using h0
  have HV2:=qQ HV.out
  rw[h0] at HV2
  have HVF:=qQ (show R=false from by rw[HV2.out];simp)
  rw[h0]
  clear h0
  go_wp2_with fail
  go_ret
  rw[HVF.out]
  exact⟨rfl,HG.out⟩
 rw[h0]
 have H0:=qQ h0
 clear h0
 go_wp2_with fail
 (with_reducible refine (rnode_any D _).mono ?_)
 rintro en w1 ⟨rfl,rfl⟩
 by_cases h1:(zD D)=true
 case neg=>
  have h1:(zD D)=false:=by simpa using h1
  have HV2:=qQ HV.out
  rw[h1] at HV2
  have HVF:=qQ (show R=false from by rw[HV2.out];simp)
  rw[h1]
  clear h1
  go_wp2_with fail
  go_ret
  rw[HVF.out]
  exact⟨rfl,HG.out⟩
 rw[h1]
 have H1:=qQ h1
 clear h1
 by_cases h2:S=D
 case pos=>
  have HVF:=qQ (show R=false from by rw[HV.out];simp[h2])
  subst h2
  go_wp2_with fail
  go_ret
  rw[HVF.out]
  exact⟨rfl,HG.out⟩
 have q2:(S != D)=true:=by simp[h2]
 have H2:=qQ (show (S != D)=true by simp[h2])
 clear h2
 go_wp2_with fail
 clear q2
 (with_reducible refine (rin_any N 0 70368744177663 _).mono ?_)
 rintro en w1 ⟨rfl,rfl⟩
 by_cases h3:(inR N 0 70368744177663)=true
 case neg=>
  have h3:(inR N 0 70368744177663)=false:=by simpa using h3
  have HV2:=qQ HV.out
  rw[h3] at HV2
  have HVF:=qQ (show R=false from by rw[HV2.out];simp)
  rw[h3]
  clear h3
  go_wp2_with fail
  go_ret
  rw[HVF.out]
  exact⟨rfl,HG.out⟩
 rw[h3]
 have H3:=qQ h3
 clear h3
 go_wp2_with fail
 (with_reducible refine (rin_any F 0 15 _).mono ?_)
 rintro en w1 ⟨rfl,rfl⟩
 by_cases h4:(inR F 0 15)=true
 case neg=>
  have h4:(inR F 0 15)=false:=by simpa using h4
  have HV2:=qQ HV.out
  rw[h4] at HV2
  have HVF:=qQ (show R=false from by rw[HV2.out];simp)
  rw[h4]
  clear h4
  go_wp2_with fail
  go_ret
  rw[HVF.out]
  exact⟨rfl,HG.out⟩
 rw[h4]
 have H4:=qQ h4
 clear h4
 go_wp2_with fail
 with_reducible refine HPA.out.mono ?_
 rintro en w1 ⟨rfl,rfl⟩
 by_cases h5:(jP P)=true
 case neg=>
  have h5:(jP P)=false:=by simpa using h5
  have HV2:=qQ HV.out
  rw[h5] at HV2
  have HVF:=qQ (show R=false from by rw[HV2.out];simp)
  rw[h5]
  clear h5
  go_wp2_with fail
  go_ret
  rw[HVF.out]
  exact⟨rfl,HG.out⟩
 rw[h5]
 have H5:=qQ h5
 clear h5
 go_wp2_with fail
 (with_reducible refine (rin_any (n:Int) 1 24 _).mono ?_)
 rintro en w1 ⟨rfl,rfl⟩
 by_cases h6:(inR (n:Int) 1 24)=true
 case neg=>
  have h6:(inR (n:Int) 1 24)=false:=by simpa using h6
  have HV2:=qQ HV.out
  rw[h6] at HV2
  have HVF:=qQ (show R=false from by rw[HV2.out];simp)
  rw[h6]
  clear h6
  go_wp2_with fail
  go_ret
  rw[HVF.out]
  exact⟨rfl,HG.out⟩
 rw[h6]
 have H6:=qQ h6
 clear h6
 go_wp2_with fail
 go_ret
 rw[HV.out,H0.out,H1.out,H2.out,H3.out,H4.out,H5.out,H6.out]
 exact⟨rfl,HG.out⟩
theorem zm{p:Pk}(h:mayP p=true):(0≤p.src∧p.src<16)∧(0≤p.dst∧p.dst<16)∧p.src≠p.dst∧(0≤p.n∧p.n≤70368744177663)∧(0≤p.life∧p.life≤15)∧(p.path.length≤16∧(∀z∈p.path,0≤z∧z<16)∧p.path.Nodup)∧1≤p.data.length∧p.data.length≤24:=by
 simp only[mayP,jP,zD,inR,Bool.and_eq_true,decide_eq_true_eq,bne_iff_ne,ne_eq,List.all_eq_true] at h
 obtain⟨⟨⟨⟨⟨⟨h1,h2⟩,h3⟩,h4⟩,h5⟩,⟨⟨h6,h7⟩,h8⟩⟩,h9⟩:=h
 exact⟨by omega,by omega,h3,h4,h5,⟨h8,(λz hz=>by have:=h6 z hz;omega),h7⟩,by omega,by omega⟩
def PEncP(w:World)(p:Pk)(en:Ending)(w':World):Prop:=
 (mayP p=true∧PEnc w (encP p) en w')∨(mayP p=false∧en= .returned (.tuple #[.slice none 0 0,.int .i64 1])∧Chg (λ_=>False) w w')
theorem pencode_any(w:World)(own:Cls)(p:Pk)(lv dv:Value)(h:PO w own lv dv p)(hL:p.path.length≤100000)(hD:p.data.length≤100000):Calls Tryz.prog 79 #[pkV p lv dv] w (PEncP w p):=by
 have ga:=Chg.alloc (λ_=>False) w (pkB p lv dv)
 have hb:=qV w (pkB p lv dv)
 have HMAY:=qQ (pmay_any (w.alloc (pkB p lv dv)) own p lv dv (h.keep ga (λ_ _ e=>e)) hL hD)
 have H:=qQ h
 have HDB:Hid (∀x∈p.data,0≤x∧x<256):=qQ h.2.2
 obtain⟨lA,lc,hlv,_⟩:=h.1
 obtain⟨⟨dA,dc,hdv,_⟩,_⟩:=h.2
 obtain⟨m,hm⟩:=qZ p.path.length
 obtain⟨n,hn⟩:=qZ p.data.length
 rw[←hn] at hdv
 rw[←hm] at hlv
 subst hlv hdv
 have HMN:=qQ (And.intro hm hn)
 unfold pkB at hb ga HMAY
 unfold pkV at HMAY ⊢
 have HGA:=qQ ga
 have HBA:=qQ hb
 obtain⟨pb,hpb⟩:∃b,b=w.heap.size:=⟨_,rfl⟩
 clear ga hb h hm hn hL hD
 obtain⟨b0,b1,b2,b3,b4,b5⟩:=qC HBA.out
 rw[←hpb] at HBA
 by_cases hmp:mayP p=true
 ·have HM:=qQ hmp
  rw[hmp] at HMAY
  clear hmp
  go_enter Tryz.func79,Tryz.ntmps79
  go_wp2_with fail
  with_reducible refine HMAY.out.mono ?_
  rintro en w2 ⟨rfl,G2⟩
  rw[←hpb]
  clear hpb
  have HB2:=qQ (Chg.keep G2 HBA.out (λe=>e))
  have HG2:=qQ (HGA.out.trans G2)
  have HPL:=qQ (show pb<w2.heap.size from qX HB2.out)
  clear G2 HGA HBA HMAY b0 b1 b2 b3 b4 b5
  have hw4:Wr (w2.alloc (.cells #[.slice none 0 0,.int .i64 0] 180)) w2.heap.size (.slice none 0 0) []:=⟨qV _ _,World.ownsRow_nil _ _ _ _⟩
  have g4:=Chg.alloc (λ_=>False) w2 (.cells #[.slice none 0 0,.int .i64 0] 180)
  have HW:=qQ (WC.start hw4)
  have HB:=qQ (Chg.keep g4 HB2.out (λe=>e))
  have HG4:=qQ (HG2.out.trans g4)
  have hpo:=H.out.keep HG4.out (λ_ _ e=>e)
  have hsz4:(w2.alloc (.cells #[.slice none 0 0,.int .i64 0] 180)).heap.size=w2.heap.size+1:=by simp
  obtain⟨b,hbe⟩:=qZ w2.heap.size
  have HSB:=qQ (show pb<b∧w.heap.size≤b from ⟨by rw[hbe];exact HPL.out,by rw[hbe];exact HG2.out.size⟩)
  have HDS:=qQ (show Rs V8 (w2.alloc (.cells #[.slice none 0 0,.int .i64 0] 180)) w2.heap.size dA p.data.length p.data from by
   obtain⟨A',c',e1,h1,_⟩:=(H.out.2.keep HG2.out (λ_ _ e=>e)).bs
   cases e1;exact h1.keep g4 (λ_ _ e=>e))
  have HPS:=qQ (show Rs VI (w2.alloc (.cells #[.slice none 0 0,.int .i64 0] 180)) w2.heap.size lA p.path.length p.path from by
   obtain⟨A',c',e1,h1,_⟩:=(H.out.1.keep HG2.out (λ_ _ e=>e)).rs
   cases e1;exact h1.keep g4 (λ_ _ e=>e))
  rw[←hbe] at HW HDS HPS
  rw[←HMN.out.1] at HPS
  rw[←HMN.out.2] at HDS
  obtain⟨q1,q2,q3,q4,q5,q6,q7,q8⟩:=zm HM.out
  have u1:IntKind.u64.wrap p.src=p.src:=IntWalk.u64_in _ (by omega)
  have u2:IntKind.u64.wrap p.dst=p.dst:=IntWalk.u64_in _ (by omega)
  have u3:IntKind.u64.wrap p.n=p.n:=IntWalk.u64_in _ (by omega)
  have u4:IntKind.u64.wrap p.life=p.life:=IntWalk.u64_in _ (by omega)
  have u5:IntKind.u64.wrap (m:Int)=(m:Int):=IntWalk.u64_in _ (by have:=HMN.out.1;omega)
  have u6:IntKind.u64.wrap (n:Int)=(n:Int):=IntWalk.u64_in _ (by have:=HMN.out.2;omega)
  have hm16:m≤16:=by have:=HMN.out.1;omega
  have hn24:n≤24:=by have:=HMN.out.2;omega
  have HQ:=qQ (And.intro q1 (And.intro q2 (And.intro q4 (And.intro q5 q6.2.1))))
  clear q1 q2 q3 q4 q5 q6 q7 q8 hw4 g4 hpo
  obtain⟨c0,c1,c2,c3,c4,c5⟩:=qC HB.out
  have hne:¬pb=w2.heap.size:=by have:=HPL.out;omega
  go_wp2_with fail
  rw[←hbe]
  generalize w2.alloc (.cells #[.slice none 0 0,.int .i64 0] 180)=w3 at *
  clear hne hbe hsz4
  (with_reducible refine (zX HW.out 1 8 rfl (by omega) p.src HQ.out.1.1 (by have:=HQ.out;omega) (by simp[qq])).mono ?_)
  rintro en w4 ⟨rfl,W',C'⟩
  have HB':=qQ (C'.keep HB.out (by have:=HSB.out;omega) (.inl (by decide)))
  have HW':=qQ W'
  have HDS':=qQ (HDS.out.keep C'.chg (λj h1 h2=>by omega))
  have HPS':=qQ (HPS.out.keep C'.chg (λj h1 h2=>by omega))
  clear W' C' c0 c1 c2 c3 c4 c5 HW HB HDS HPS
  have HW:=HW'
  have HB:=HB'
  have HDS:=HDS'
  have HPS:=HPS'
  clear HW' HB' HDS' HPS'
  obtain⟨c0,c1,c2,c3,c4,c5⟩:=qC HB.out
  go_wp2_with fail
  (with_reducible refine (zX HW.out 1 8 rfl (by omega) p.dst HQ.out.2.1.1 (by have:=HQ.out;omega) (by simp[qq])).mono ?_)
  rintro en w5 ⟨rfl,W',C'⟩
  have HB':=qQ (C'.keep HB.out (by have:=HSB.out;omega) (.inl (by decide)))
  have HW':=qQ W'
  have HDS':=qQ (HDS.out.keep C'.chg (λj h1 h2=>by omega))
  have HPS':=qQ (HPS.out.keep C'.chg (λj h1 h2=>by omega))
  clear W' C' c0 c1 c2 c3 c4 c5 HW HB HDS HPS
  have HW:=HW'
  have HB:=HB'
  have HDS:=HDS'
  have HPS:=HPS'
  clear HW' HB' HDS' HPS'
  obtain⟨c0,c1,c2,c3,c4,c5⟩:=qC HB.out
  go_wp2_with fail
  (with_reducible refine (zX HW.out 6 48 rfl (by omega) p.n HQ.out.2.2.1.1 (by have:=HQ.out;omega) (by simp[qq])).mono ?_)
  rintro en w6 ⟨rfl,W',C'⟩
  have HB':=qQ (C'.keep HB.out (by have:=HSB.out;omega) (.inl (by decide)))
  have HW':=qQ W'
  have HDS':=qQ (HDS.out.keep C'.chg (λj h1 h2=>by omega))
  have HPS':=qQ (HPS.out.keep C'.chg (λj h1 h2=>by omega))
  clear W' C' c0 c1 c2 c3 c4 c5 HW HB HDS HPS
  have HW:=HW'
  have HB:=HB'
  have HDS:=HDS'
  have HPS:=HPS'
  clear HW' HB' HDS' HPS'
  obtain⟨c0,c1,c2,c3,c4,c5⟩:=qC HB.out
  go_wp2_with fail
  (with_reducible refine (zX HW.out 1 8 rfl (by omega) p.life HQ.out.2.2.2.1.1 (by have:=HQ.out;omega) (by simp[qq])).mono ?_)
  rintro en w7 ⟨rfl,W',C'⟩
  have HB':=qQ (C'.keep HB.out (by have:=HSB.out;omega) (.inl (by decide)))
  have HW':=qQ W'
  have HDS':=qQ (HDS.out.keep C'.chg (λj h1 h2=>by omega))
  have HPS':=qQ (HPS.out.keep C'.chg (λj h1 h2=>by omega))
  clear W' C' c0 c1 c2 c3 c4 c5 HW HB HDS HPS
  have HW:=HW'
  have HB:=HB'
  have HDS:=HDS'
  have HPS:=HPS'
  clear HW' HB' HDS' HPS'
  obtain⟨c0,c1,c2,c3,c4,c5⟩:=qC HB.out
  go_wp2_with fail
  (with_reducible refine (zX HW.out 1 8 rfl (by omega) (m:Int) (by omega) (by omega) (by simp[qq])).mono ?_)
  rintro en w8 ⟨rfl,W',C'⟩
  have HB':=qQ (C'.keep HB.out (by have:=HSB.out;omega) (.inl (by decide)))
  have HW':=qQ W'
  have HDS':=qQ (HDS.out.keep C'.chg (λj h1 h2=>by omega))
  have HPS':=qQ (HPS.out.keep C'.chg (λj h1 h2=>by omega))
  clear W' C' c0 c1 c2 c3 c4 c5 HW HB HDS HPS
  have HW:=HW'
  have HB:=HB'
  have HDS:=HDS'
  have HPS:=HPS'
  clear HW' HB' HDS' HPS'
  obtain⟨c0,c1,c2,c3,c4,c5⟩:=qC HB.out
  go_wp2_with fail
  obtain⟨M,hM⟩:=qZ (((((([]++be 1 p.src)++be 1 p.dst)++be 6 p.n)++be 1 p.life)++be 1 (m:Int)))
  rw[←hM] at HW
  have hMl:M.length=10:=by rw[hM];simp[qq]
  have HM2:=qQ (And.intro hM hMl)
  clear hM hMl c0 c1 c2 c3 c4 c5
  go_loopw [41] (λi wr=>∃(k:Nat),k≤m∧i= .int .i64 k∧WC w3 wr b (M++p.path.take k)∧Rs VI wr b lA m p.path∧Rs V8 wr b dA n p.data∧wr.heap[pb]? =some (.cells #[.int .i64 p.src,.int .i64 p.dst,.int .i64 p.n,.int .i64 p.life,.slice lA m lc,.slice dA n dc] 42 (0,0))) (λi _=>m-(intOf i).toNat)
  case atStart=>exact⟨0,by omega,rfl,by simpa using HW.out,HPS.out,HDS.out,HB.out⟩
  case round=>
   obtain⟨k,hk,rfl,hP,hS,hDd,hBb⟩:=hrel
   have HP:=qQ hP
   have HSR:=qQ hS
   have HDR:=qQ hDd
   have HBR:=qQ hBb
   clear hP hS hDd hBb HW HPS HDS HB
   by_cases hlt:k<m
   ·obtain⟨x,z,rfl,hxb,hz,hc⟩:=HSR.out.at hlt
    obtain⟨z0,z1⟩:=HQ.out.2.2.2.2 z (List.mem_of_getElem? hz)
    have HX:=qQ hz
    unfold VI at hc
    have u7:IntKind.u64.wrap z=z:=IntWalk.u64_in _ (by omega)
    clear hz
    go_wp2_with fail
    (with_reducible refine (zX HP.out 1 8 rfl (by omega) z z0 (by omega) (by have:=HM2.out.2;simp;omega)).mono ?_)
    rintro e w20 ⟨rfl,W2,C2⟩
    have hnx:M++p.path.take k++be 1 z=M++p.path.take (k+1):=by
     rw[List.take_add_one,HX.out,List.append_assoc,be_one z z0 (by omega)];rfl
    rw[hnx] at W2
    have HN:=qQ (And.intro W2 (And.intro (HSR.out.keep C2.chg (λj h1 h2=>by omega)) (And.intro (HDR.out.keep C2.chg (λj h1 h2=>by omega)) (C2.keep HBR.out (by have:=HSB.out;omega) (.inl (by decide))))))
    clear hnx W2 C2 hc HP HSR HDR HBR u7
    go_wp2_with fail
    go_roundw
    case measure=>simp[intOf];omega
    case rel=>exact⟨k+1,by omega,by go_num,HN.out⟩
   ·obtain rfl:m=k:=by omega
    obtain⟨c0,c1,c2,c3,c4,c5⟩:=qC HBR.out
    rw[List.take_of_length_le (by have:=HMN.out.1;omega)] at HP
    go_wp2_with fail
    (with_reducible refine (zX HP.out 1 8 rfl (by omega) (n:Int) (by omega) (by omega) (by have:=HM2.out.2;have:=HMN.out.1;simp;omega)).mono ?_)
    rintro en w21 ⟨rfl,W',C'⟩
    have HW5:=qQ W'
    have HB5:=qQ (C'.keep HBR.out (by have:=HSB.out;omega) (.inl (by decide)))
    have HD5:=qQ (HDR.out.keep C'.chg (λj h1 h2=>by omega))
    clear W' C' c0 c1 c2 c3 c4 c5 HP HSR HDR HBR
    obtain⟨c0,c1,c2,c3,c4,c5⟩:=qC HB5.out
    go_wp2_with fail
    (with_reducible refine (wc_text HW5.out dA n dc p.data HD5.out HDB.out (by have:=HM2.out.2;have:=HMN.out.1;simp[qq];omega)).mono ?_)
    rintro en w22 ⟨rfl,W',C'⟩
    have HW6:=qQ W'
    clear W' C' c0 c1 c2 c3 c4 c5 HW5 HB5 HD5
    go_wp2_with fail
    have hfin:M++p.path++be 1 (n:Int)++p.data=encP p:=by
     rw[HM2.out.1,HMN.out.1,HMN.out.2]
     unfold encP
     simp[List.append_assoc]
    rw[hfin] at HW6
    obtain⟨⟨v6,hw⟩,hc⟩:=HW6.out
    have HBY:=qQ (bytes_any w22 b v6 (encP p) hw (by rw[←hfin];have:=HM2.out.2;have:=HMN.out.1;have:=HMN.out.2;simp[qq];omega))
    have HC6:=qQ (((HG4.out.none (S:=λq=>w.heap.size≤q)).trans (hc.chg.mono (λj _ h2=>Nat.le_trans HSB.out.2 h2))).fresh)
    clear hw hc hfin HW6
    with_reducible refine HBY.out.mono ?_
    rintro en w23 ⟨v7,rfl,hown7,G7⟩
    have HX:=qQ (And.intro (qj hown7 HC6.out.size) (HC6.out.trans G7))
    obtain⟨A7,c7,rfl,_⟩:=Rs.of_own hown7
    clear hown7 G7 HBY
    go_wp2_with fail
    go_ret2
    exact .inl ⟨HM.out,_,rfl,HX.out.1,HX.out.2⟩
 ·have hmp:mayP p=false:=by simpa using hmp
  have HM:=qQ hmp
  rw[hmp] at HMAY
  clear hmp
  go_enter Tryz.func79,Tryz.ntmps79
  go_wp2_with fail
  with_reducible refine HMAY.out.mono ?_
  rintro en w2 ⟨rfl,G2⟩
  have HG2:=qQ (HGA.out.trans G2)
  clear G2 HGA HBA HMAY b0 b1 b2 b3 b4 b5
  go_wp2_with fail
  go_ret2
  exact .inr ⟨HM.out,rfl,HG2.out⟩
end Go.Proofs.YtnpihllannobgaaGreatDoor
