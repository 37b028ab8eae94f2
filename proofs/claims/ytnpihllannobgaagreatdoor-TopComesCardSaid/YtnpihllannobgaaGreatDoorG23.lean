/- Steps of the proof, part G23. No condition. -/
import Derived.Test.YtnpihllannobgaaGreatDoorG22
import Derived.Test.YtnpihllannobgaaGreatDoorG04
import Derived.Test.YtnpihllannobgaaGreatDoorG20
import Derived.Test.YtnpihllannobgaaGreatDoorG12
namespace Go.Proofs.YtnpihllannobgaaGreatDoor
set_option linter.unusedVariables false
set_option linter.unusedSimpArgs false
set_option maxRecDepth 100000
set_option maxHeartbeats 32000000
open Go.ChangeShapes Go.WideShapes Go.ChangeAt Go.RowKit
def vZ(c:Cfg)(i:Nat)(s:NSt)(p came:Pk):NSt:=
 if (downP p i).1=11 then evN s ⟨5,i,0,2,came⟩ else if (downP p i).1≠0 then evN s ⟨5,i,0,3,came⟩ else putN c i s (downP p i).2.2 (downP p i).2.1 came
theorem downP_len{p:Pk}{me E t:Int}{x:Pk}(h:downP p me=(E,t,x))(hp:p.path.length≤100000)(hd:p.data.length≤100000):x.path.length≤100000∧x.data.length≤100000:=by
 unfold downP at h
 obtain⟨y,hy⟩:∃y,stepP p me=y:=⟨_,rfl⟩
 have a:=stepP_len hy hp
 have b:=stepP_data hy hd
 rw[hy] at h
 dsimp only at h
 split at h
 ·cases h;exact⟨a,b⟩
 ·split at h
  ·cases h;simp[pk0]
  ·cases h;exact⟨a,b⟩
section
variable {w0 w w':World}{o0 o o':Cls}{c:Cfg}{i b:Nat}{s s':NSt}{r r':NR}
theorem nhands_any(h:NAt w0 o0 c i b s w o r)(p came:Pk)(lv dv lv2 dv2:Value)(hp:PO w o lv dv p)(hc:PO w o lv2 dv2 came)(hL:p.path.length≤100000)(hD:p.data.length≤100000)(hq:s.q.length≤900)(hn:s.ev.length≤1000):
  Calls Tryz.prog 210 #[.pointer (some ⟨b,0,none⟩),pkV p lv dv,pkV came lv2 dv2] w (PN w0 o0 c i b (vZ c i s p came) (λv _ _=>v= .tuple #[])):=by
 obtain⟨FS,hFS⟩:∃FS,vZ c i s p came=FS:=⟨_,rfl⟩
 rw[hFS]
 unfold vZ at hFS
 obtain⟨x,hx⟩:∃x,downP p i=x:=⟨_,rfl⟩
 rw[hx] at hFS
 obtain⟨E,tt,x⟩:=x
 dsimp only at hFS
 have hxl:x.path.length≤100000∧x.data.length≤100000:=downP_len hx hL hD
 obtain⟨lA,lc,hlv,_⟩:=hp.1
 obtain⟨⟨dA,dc,hdv,_⟩,hDB⟩:=hp.2
 obtain⟨lA2,lc2,hlv2,_⟩:=hc.1
 obtain⟨⟨dA2,dc2,hdv2,_⟩,_⟩:=hc.2
 obtain⟨m2,hm2⟩:∃m,m=came.path.length:=⟨_,rfl⟩
 obtain⟨n2,hn2⟩:∃n,n=came.data.length:=⟨_,rfl⟩
 rw[←hm2] at hlv2
 rw[←hn2] at hdv2
 obtain⟨m,hm⟩:=qZ p.path.length
 obtain⟨n,hnn⟩:=qZ p.data.length
 rw[←hm] at hlv
 rw[←hnn] at hdv
 subst hlv hdv hlv2 hdv2
 have HUP:=qQ (show∀W,Chg (λ_=>False) w W→Calls Tryz.prog 253 #[.agg #[.int .i64 p.src,.int .i64 p.dst,.int .i64 p.n,.int .i64 p.life,.slice lA m lc,.slice dA n dc],.int .i64 i] W (PDownP W (E,tt,x)) from λW g=>hx▸pdown_any W o p i _ _ (hp.keep g (λ_ _ e=>e)) hL hD)
 have HDROP:=qQ (show∀(W:World) (O:Cls) (R:NR) (s1:NSt) (why:Int),NAt w0 o0 c i b s1 W O R→PO W O (.slice lA2 m2 lc2) (.slice dA2 n2 dc2) came→s1.ev.length≤1000→Calls Tryz.prog 69 #[.pointer (some ⟨b,0,none⟩),.agg #[.int .i64 came.src,.int .i64 came.dst,.int .i64 came.n,.int .i64 came.life,.slice lA2 m2 lc2,.slice dA2 n2 dc2],.int .i64 why] W (PN w0 o0 c i b (evN s1 ⟨5,i,0,why,came⟩) (λv _ _=>v= .tuple #[])) from
  λW O R s1 why h1 h2 h3=>jZ h1 came _ _ why h2 h3)
 have HPUT:=qQ (show∀(W:World) (O:Cls) (R:NR) (s1:NSt) (v1 v2:Value),NAt w0 o0 c i b s1 W O R→PO W O v1 v2 x→PO W O (.slice lA2 m2 lc2) (.slice dA2 n2 dc2) came→s1.q.length≤900→s1.ev.length≤1000→Calls Tryz.prog 254 #[.pointer (some ⟨b,0,none⟩),.agg #[.int .i64 x.src,.int .i64 x.dst,.int .i64 x.n,.int .i64 x.life,v1,v2],.int .i64 tt,.agg #[.int .i64 came.src,.int .i64 came.dst,.int .i64 came.n,.int .i64 came.life,.slice lA2 m2 lc2,.slice dA2 n2 dc2]] W (PN w0 o0 c i b (putN c i s1 x tt came) (λv _ _=>v= .tuple #[])) from
  λW O R s1 v1 v2 h1 h2 h3 h4 h5=>nput_any h1 x came tt _ _ _ _ h2 h3 hxl.1 hxl.2 h4 h5)
 obtain⟨w1,hw1⟩:=qZ ((w.alloc (.cells #[.int .i64 p.src,.int .i64 p.dst,.int .i64 p.n,.int .i64 p.life,.slice lA m lc,.slice dA n dc] 42)).alloc (.cells #[.int .i64 came.src,.int .i64 came.dst,.int .i64 came.n,.int .i64 came.life,.slice lA2 m2 lc2,.slice dA2 n2 dc2] 42))
 have ga0:=Chg.alloc (λ_=>False) w (.cells #[.int .i64 p.src,.int .i64 p.dst,.int .i64 p.n,.int .i64 p.life,.slice lA m lc,.slice dA n dc] 42)
 have gb:=Chg.alloc (λ_=>False) (w.alloc (.cells #[.int .i64 p.src,.int .i64 p.dst,.int .i64 p.n,.int .i64 p.life,.slice lA m lc,.slice dA n dc] 42)) (.cells #[.int .i64 came.src,.int .i64 came.dst,.int .i64 came.n,.int .i64 came.life,.slice lA2 m2 lc2,.slice dA2 n2 dc2] 42)
 have ba:=Chg.keep gb (qV w (.cells #[.int .i64 p.src,.int .i64 p.dst,.int .i64 p.n,.int .i64 p.life,.slice lA m lc,.slice dA n dc] 42)) (λe=>e)
 have bb:=qV (w.alloc (.cells #[.int .i64 p.src,.int .i64 p.dst,.int .i64 p.n,.int .i64 p.life,.slice lA m lc,.slice dA n dc] 42)) (.cells #[.int .i64 came.src,.int .i64 came.dst,.int .i64 came.n,.int .i64 came.life,.slice lA2 m2 lc2,.slice dA2 n2 dc2] 42)
 have hsz:(w.alloc (.cells #[.int .i64 p.src,.int .i64 p.dst,.int .i64 p.n,.int .i64 p.life,.slice lA m lc,.slice dA n dc] 42)).heap.size=w.heap.size+1:=by simp
 rw[hsz] at bb
 rw[←hw1] at ba bb gb
 have ga:=ga0.trans gb
 have HG:=qQ ga
 have HW1:=qQ hw1
 have HBB:=qQ bb
 obtain⟨d0,d1,d2,d3,d4,d5⟩:=qC ba
 have hk:=h.kept ga
 have c9:w1.cell? ⟨b,9,none⟩=some (.int .i64 i):=hk.cell 9
 have H:=qQ h
 have HC:=qQ hc
 have HQ:=qQ (And.intro hq hn)
 have HFS:=qQ hFS
 clear ga ga0 gb ba bb hsz hw1 hp hc hm2 hn2 hL hD hq hn hFS h hm hnn hk hx hxl hDB
 unfold pkV
 go_enter Tryz.func210,Tryz.ntmps210
 go_upto_region 1 with fail
 rw[←HW1.out]
 obtain⟨a,hae⟩:=qZ w.heap.size
 have HAE:=qQ hae
 rw[←hae] at d0 d1 d2 d3 d4 d5 HBB ⊢
 clear HW1 hae
 go_cut [6,7,8] (λu6 u7 u8 wx=>∃a4 v1 v2,u6= .pointer (some ⟨a4,0,none⟩)∧u7= .int .i64 tt∧u8= .int .i64 E∧Made w a4 x v1 v2 wx∧Chg (λ_=>False) w1 wx)
 case first=>
  have za:=Chg.alloc (λ_=>False) w1 (.cells #[.int .i64 0,.int .i64 0,.int .i64 0,.int .i64 0,.slice none 0 0,.slice none 0 0] 42)
  have e0:=qN d0 (.cells #[.int .i64 0,.int .i64 0,.int .i64 0,.int .i64 0,.slice none 0 0,.slice none 0 0] 42)
  have e1:=qN d1 (.cells #[.int .i64 0,.int .i64 0,.int .i64 0,.int .i64 0,.slice none 0 0,.slice none 0 0] 42)
  have e2:=qN d2 (.cells #[.int .i64 0,.int .i64 0,.int .i64 0,.int .i64 0,.slice none 0 0,.slice none 0 0] 42)
  have e3:=qN d3 (.cells #[.int .i64 0,.int .i64 0,.int .i64 0,.int .i64 0,.slice none 0 0,.slice none 0 0] 42)
  have e4:=qN d4 (.cells #[.int .i64 0,.int .i64 0,.int .i64 0,.int .i64 0,.slice none 0 0,.slice none 0 0] 42)
  have e5:=qN d5 (.cells #[.int .i64 0,.int .i64 0,.int .i64 0,.int .i64 0,.slice none 0 0,.slice none 0 0] 42)
  have e9:=qN c9 (.cells #[.int .i64 0,.int .i64 0,.int .i64 0,.int .i64 0,.slice none 0 0,.slice none 0 0] 42)
  go_region_with (first
   |(go_at_call 253;refine (HUP.out (w1.alloc (.cells #[.int .i64 0,.int .i64 0,.int .i64 0,.int .i64 0,.slice none 0 0,.slice none 0 0] 42)).drew (HG.out.trans ((Chg.alloc _ _ _).trans (Chg.drew _ _)))).mono ?_;rintro en wp ⟨v1,v2,rfl,O1,g1⟩
     dsimp only at O1
     obtain⟨A1,n1,c1,rfl⟩:∃A n c,v1= .slice A n c:=by rcases qD O1.1 with ⟨e,_⟩|⟨g,cap,e,_⟩ <;> exact⟨_,_,_,e⟩
     obtain⟨A2,n2,c2,rfl⟩:∃A n c,v2= .slice A n c:=by rcases qD O1.2.1 with ⟨e,_⟩|⟨g,cap,e,_⟩ <;> exact⟨_,_,_,e⟩
     have O1:=qQ O1
     have G1:=qQ (show Chg (λ_=>False) w1 wp from ((Chg.alloc _ _ _).trans (Chg.drew _ _)).trans g1)
     have kb:=Chg.keep g1 (show (w1.alloc (.cells #[.int .i64 0,.int .i64 0,.int .i64 0,.int .i64 0,.slice none 0 0,.slice none 0 0] 42)).drew.heap[w1.heap.size]? =_ from qV w1 (.cells #[.int .i64 0,.int .i64 0,.int .i64 0,.int .i64 0,.slice none 0 0,.slice none 0 0] 42)) (λe=>e)
     have KBH:=qQ kb
     obtain⟨k0,k1,k2,k3,k4,k5⟩:=qC kb
     obtain⟨q0,q1,q2,q3,q4,q5⟩:=zg kb
     clear kb
     unfold pkV
     dsimp only)
   |(go_at_call 253;refine (HUP.out w1.drew (HG.out.trans (Chg.drew _ _))).mono ?_;rintro en wp ⟨v1,v2,rfl,O1,g1⟩
     dsimp only at O1
     obtain⟨A1,n1,c1,rfl⟩:∃A n c,v1= .slice A n c:=by rcases qD O1.1 with ⟨e,_⟩|⟨g,cap,e,_⟩ <;> exact⟨_,_,_,e⟩
     obtain⟨A2,n2,c2,rfl⟩:∃A n c,v2= .slice A n c:=by rcases qD O1.2.1 with ⟨e,_⟩|⟨g,cap,e,_⟩ <;> exact⟨_,_,_,e⟩
     have O1:=qQ O1
     have G1:=qQ (show Chg (λ_=>False) w1 wp from (Chg.drew _ _).trans g1)
     have kb:=qV wp (.cells #[.int .i64 0,.int .i64 0,.int .i64 0,.int .i64 0,.slice none 0 0,.slice none 0 0] 42)
     have KBH:=qQ kb
     obtain⟨k0,k1,k2,k3,k4,k5⟩:=qC kb
     obtain⟨q0,q1,q2,q3,q4,q5⟩:=zg kb
     clear kb
     unfold pkV
     dsimp only))
  all_goals
   go_wp2_with fail
   go_meet
   first
    |(refine⟨w1.heap.size,.slice A1 n1 c1,.slice A2 n2 c2,(by with_reducible rfl),(by with_reducible rfl),(by with_reducible rfl),?_⟩
      exact made_fin HG.out O1.out (Nat.le_trans HG.out.size (Chg.alloc (λ_=>False) w1 (.cells #[.int .i64 0,.int .i64 0,.int .i64 0,.int .i64 0,.slice none 0 0,.slice none 0 0] 42)).size) G1.out KBH.out (Nat.le_refl _))
    |(refine⟨wp.heap.size,.slice A1 n1 c1,.slice A2 n2 c2,(by with_reducible rfl),(by with_reducible rfl),(by with_reducible rfl),?_⟩
      exact made_new HG.out O1.out HG.out.size G1.out)
 case rest=>
  obtain⟨a4,v1,v2,rfl,rfl,rfl,hM,hG⟩:=hcut
  have hN:=H.out.kept hM.chg
  have hbb:=Chg.keep hG HBB.out (λe=>e)
  have HN:=qQ hN
  have HPC:=qQ (HC.out.keep hM.chg (λ_ _ e=>e))
  have HPX:=qQ (hM.own.po H.out.z |> λk=>k)
  obtain⟨A1,n1,c1,rfl⟩:∃A n c,v1= .slice A n c:=by rcases qD hM.own.1 with ⟨e,_⟩|⟨g,cap,e,_⟩ <;> exact⟨_,_,_,e⟩
  obtain⟨A2,n2,c2,rfl⟩:∃A n c,v2= .slice A n c:=by rcases qD hM.own.2.1 with ⟨e,_⟩|⟨g,cap,e,_⟩ <;> exact⟨_,_,_,e⟩
  clear d0 d1 d2 d3 d4 d5 c9 HUP hN
  obtain⟨d0,d1,d2,d3,d4,d5⟩:=qC hbb
  obtain⟨e0,e1,e2,e3,e4,e5⟩:=qC hM.blk
  clear hM hG hbb
  rcases (by by_cases h:E=11;exact .inl h;by_cases h2:E=0;exact .inr (.inr h2);exact .inr (.inl ⟨h,h2⟩):E=11∨(¬E=11∧¬E=0)∨E=0) with hE|hE|hE
  ·subst hE
   have HF:=qQ (show FS=evN s ⟨5,i,0,2,came⟩ from by rw[←HFS.out,if_pos rfl])
   go_wp2_with fail
   (with_reducible refine (HDROP.out _ _ _ _ 2 HN.out HPC.out HQ.out.2).mono ?_)
   rintro en w3 ⟨v3,o3,r3,rfl,hN,rfl⟩
   have HX:=qQ hN
   clear hN d0 d1 d2 d3 d4 d5 e0 e1 e2 e3 e4 e5
   go_wp2_with fail
   go_end0
   exact⟨_,_,_,rfl,by rw[HF.out];exact HX.out,rfl⟩
  ·have i1:(E != 0)=true:=by simpa using hE.2
   have i2:(E==11)=false:=by simpa using hE.1
   have i3:decide (E=11)=false:=by simpa using hE.1
   have HF:=qQ (show FS=evN s ⟨5,i,0,3,came⟩ from by rw[←HFS.out,if_neg hE.1,if_pos hE.2])
   clear hE
   go_wp2_with fail
   (with_reducible refine (HDROP.out _ _ _ _ 3 HN.out HPC.out HQ.out.2).mono ?_)
   rintro en w3 ⟨v3,o3,r3,rfl,hN,rfl⟩
   have HX:=qQ hN
   clear hN d0 d1 d2 d3 d4 d5 e0 e1 e2 e3 e4 e5
   go_wp2_with fail
   go_end0
   exact⟨_,_,_,rfl,by rw[HF.out];exact HX.out,rfl⟩
  ·subst hE
   have HF:=qQ (show FS=putN c i s x tt came from by rw[←HFS.out,if_neg (by decide),if_neg (by simp)])
   go_wp2_with fail
   (with_reducible refine (HPUT.out _ _ _ _ _ _ HN.out HPX.out HPC.out HQ.out.1 HQ.out.2).mono ?_)
   rintro en w3 ⟨v3,o3,r3,rfl,hN,rfl⟩
   have HX:=qQ hN
   clear hN d0 d1 d2 d3 d4 d5 e0 e1 e2 e3 e4 e5
   go_wp2_with fail
   go_end0
   exact⟨_,_,_,rfl,by rw[HF.out];exact HX.out,rfl⟩
end
def hasB(c:Cfg)(q:Int):Bool:=inR q 0 ((c.nodes:Int)-1)
def knownB(c:Cfg)(p:Pk):Bool:=hasB c p.src&&hasB c p.dst&& !(p.path.any (λz=>!hasB c z))
theorem cf251(args:Array Value)(w':World):(callFunc 251 args).run Tryz.prog w'= .ok (.enter 251 args) w':=by kernel_rfl
section
variable {w0 w w':World}{o0 o o':Cls}{c:Cfg}{i b:Nat}{s s':NSt}{r r':NR}
theorem nknown1_any(h:NAt w0 o0 c i b s w o r)(z:Int)(hc:c.nodes≤16)(k:Nat)(hk:w.cell? ⟨k,0,none⟩=some (.pointer (some ⟨b,0,none⟩))):
  Calls Tryz.prog 251 #[.int .i64 z,.pointer (some ⟨k,0,none⟩)] w (PV (.bool (!hasB c z)) w):=by
 have HH:=qQ (nhas_any h z hc)
 unfold hasB
 obtain⟨M,hM⟩:=qZ (inR z 0 ((c.nodes:Int)-1))
 rw[←hM] at HH ⊢
 clear h hc hM
 go_enter Tryz.func251,Tryz.ntmps251
 go_wp2_with fail
 with_reducible refine HH.out.mono ?_
 rintro en w1 ⟨rfl,rfl⟩
 go_wp2_with fail
 go_ret
 exact⟨rfl,Chg.refl _ _⟩
theorem nknown_any(h:NAt w0 o0 c i b s w o r)(p:Pk)(lv dv:Value)(hp:PO w o lv dv p)(hc:c.nodes≤16)(hL:p.path.length≤100000):
  Calls Tryz.prog 207 #[.pointer (some ⟨b,0,none⟩),pkV p lv dv] w (PV (.bool (knownB c p)) w):=by
 obtain⟨lA,lc,hlv,h1,h2,_⟩:=hp.1.rs
 obtain⟨⟨dA,dc,hdv,_⟩,_⟩:=hp.2
 obtain⟨m,hm⟩:=qZ p.path.length
 obtain⟨n,hnn⟩:=qZ p.data.length
 rw[←hm] at hlv
 rw[←hnn] at hdv
 subst hlv hdv
 obtain⟨w1,hw1⟩:=qZ ((w.alloc (.cells #[.pointer (some ⟨b,0,none⟩)] 36)).alloc (.cells #[.int .i64 p.src,.int .i64 p.dst,.int .i64 p.n,.int .i64 p.life,.slice lA m lc,.slice dA n dc] 42))
 have ga0:=Chg.alloc (λ_=>False) w (.cells #[.pointer (some ⟨b,0,none⟩)] 36)
 have gb:=Chg.alloc (λ_=>False) (w.alloc (.cells #[.pointer (some ⟨b,0,none⟩)] 36)) (.cells #[.int .i64 p.src,.int .i64 p.dst,.int .i64 p.n,.int .i64 p.life,.slice lA m lc,.slice dA n dc] 42)
 have ba:=Chg.keep gb (qV w (.cells #[.pointer (some ⟨b,0,none⟩)] 36)) (λe=>e)
 have bb:=qV (w.alloc (.cells #[.pointer (some ⟨b,0,none⟩)] 36)) (.cells #[.int .i64 p.src,.int .i64 p.dst,.int .i64 p.n,.int .i64 p.life,.slice lA m lc,.slice dA n dc] 42)
 have hsz:(w.alloc (.cells #[.pointer (some ⟨b,0,none⟩)] 36)).heap.size=w.heap.size+1:=by simp
 rw[hsz] at bb
 rw[←hw1] at ba bb gb
 have ga:=ga0.trans gb
 obtain⟨d0,d1,d2,d3,d4,d5⟩:=qC bb
 have k0:w1.cell? ⟨w.heap.size,0,none⟩=some (.pointer (some ⟨b,0,none⟩)):=qJ ba 0
 have H1:=qQ (h.kept ga)
 have HW1:=qQ hw1
 have HG:=qQ ga
 have hrv:=(hp.1.keep ga (λ_ _ e=>e)).rs
 obtain⟨Ax,cx,ex,hrs,_,_⟩:=hrv
 cases ex
 have HS:=qQ (nhas_any H1.out p.src hc)
 have HD:=qQ (nhas_any H1.out p.dst hc)
 have HC:=qQ (containsFI_any w1 lA p.path.length lc 251 #[.pointer (some ⟨w.heap.size,0,none⟩)] p.path (λz=>!hasB c z) hrs hL
  ⟨cf251,λz w' _ g=>nknown1_any (H1.out.kept g) z hc w.heap.size (by rw[g.cell (qP k0) (λe=>e)];exact k0)⟩)
 have hkb:knownB c p=(inR p.src 0 ((c.nodes:Int)-1)&&inR p.dst 0 ((c.nodes:Int)-1)&& !(p.path.any (λz=>!hasB c z))):=rfl
 rw[hkb]
 obtain⟨B1,hB1⟩:∃B,B=inR p.src 0 ((c.nodes:Int)-1):=⟨_,rfl⟩
 obtain⟨B2,hB2⟩:∃B,B=inR p.dst 0 ((c.nodes:Int)-1):=⟨_,rfl⟩
 obtain⟨B3,hB3⟩:∃B,B=p.path.any (λz=>!hasB c z):=⟨_,rfl⟩
 rw[←hB1] at HS ⊢
 rw[←hB2] at HD ⊢
 rw[←hB3] at HC ⊢
 obtain⟨a,hae⟩:=qZ w.heap.size
 rw[←hae] at d0 d1 d2 d3 d4 d5 k0 HC
 have HAE:=qQ hae
 clear ga ga0 gb ba bb hsz hw1 hp hL hc h hkb hB1 hB2 hB3 hrs hae hm hnn h1
 unfold pkV
 go_enter Tryz.func207,Tryz.ntmps207
 go_upto_region 1 with fail
 rw[←HW1.out,←HAE.out]
 clear HW1
 go_wp2_with fail
 with_reducible refine HS.out.mono ?_
 rintro en w2 ⟨rfl,hw2⟩
 subst w2
 cases B1
 ·go_wp2_with fail
  go_ret
  exact⟨rfl,HG.out⟩
 go_wp2_with fail
 with_reducible refine HD.out.mono ?_
 rintro en w2 ⟨rfl,hw2⟩
 subst w2
 cases B2
 ·go_wp2_with fail
  go_ret
  exact⟨rfl,HG.out⟩
 go_wp2_with fail
 with_reducible refine HC.out.mono ?_
 rintro en w3 ⟨rfl,G⟩
 have HX:=qQ (HG.out.trans G)
 clear G d0 d1 d2 d3 d4 d5 k0
 go_wp2_with fail
 go_ret
 exact⟨rfl,HX.out⟩
end
section
variable {w0 w w':World}{o0 o o':Cls}{c:Cfg}{i b:Nat}{s s':NSt}{r r':NR}
theorem NAt.high(h:NAt w0 o0 c i b s w o r){a:Nat}(h0:w0.heap.size≤a)(hi:i<16)(ha:o a=300)(g:Chg (λj=>j=a) w w'):NAt w0 o0 c i b s w' o r:=
 ⟨h.nd.step (Ext.refl _ _) g (λk hk e=>by rw[show k=a from e,ha] at hk;cases hk) (λk hk e=>by
   obtain⟨m,h1,h2⟩:=hk
   rw[show k=a from e,ha] at h2
   unfold cl at h2;omega),h.z.more g.size,h.ext,
  ⟨g.os.trans h.chg.os,g.tape.trans h.chg.tape,g.output.trans h.chg.output,Nat.le_trans h.chg.size g.size,
   λq hi hn=>(g.block q (Nat.lt_of_lt_of_le hi h.chg.size) (λe=>by have e:q=a:=e;omega)).trans (h.chg.block q hi hn)⟩⟩
theorem NAt.junk(h:NAt w0 o0 c i b s w o r)(ob:Obj)(hs:(w.alloc ob).heap.size=w.heap.size+1):NAt w0 o0 c i b s (w.alloc ob) (cls o w.heap.size 300) r:=
 h.next (h.nd.step (Ext.cls o _ _ (Nat.le_refl _)) (Chg.alloc (λ_=>False) w ob) (λ_ _ e=>e) (λ_ _ e=>e)) ((h.z.more (Chg.alloc (λ_=>False) w ob).size).cls _ (by omega)) (Ext.cls o _ _ (Nat.le_refl _)) (Chg.alloc _ w ob)
def PLeave(x:Int×Pk)(v:Value)(w:World)(o:Cls):Prop:=∃lv dv,v= .tuple #[pkV x.2 lv dv,.bool (x.1==0)]∧PO w o lv dv x.2
theorem nleaves_any(h:NAt w0 o0 c i b s w o r)(tt:Int)(L:List Int)(rest:List (Int×List Int))(hq:s.q=(tt,L)::rest)(hi:i<16)(hn:rest.length≤800)(hL:L.length≤100000):
  Calls Tryz.prog 68 #[.pointer (some ⟨b,0,none⟩)] w (PN w0 o0 c i b {s with q:=rest,tries:=0} (PLeave (decP L))):=by
 obtain⟨_,_,_,p4,_⟩:=h.nd.np
 obtain⟨v,lost,ps,q1,q2,q3,q4,q5,q6,q7,q8⟩:=p4
 obtain⟨q,ps,rfl⟩:∃q r,ps=q::r:=by
  cases ps with
  |nil=>rw[hq] at q8;cases q8
  |cons q r=>exact⟨q,r,rfl⟩
 rw[hq] at q8
 simp only[List.map_cons,List.cons.injEq,Prod.mk.injEq] at q8
 obtain⟨⟨e1,e2⟩,e3⟩:=q8
 have hpl:ps.length≤800:=by rw[e3,List.length_map] at hn;exact hn
 obtain⟨x,hx⟩:∃x,decP L=x:=⟨_,rfl⟩
 rw[hx]
 have HX:=qQ hx
 have H:=qQ h
 have HE:=qQ (And.intro e2 e3)
 have ga:=Chg.alloc (λ_=>False) w (.cells #[.int .i64 0,.int .i64 0,.int .i64 0,.int .i64 0,.slice none 0 0,.slice none 0 0] 42)
 have hba:=qV w (.cells #[.int .i64 0,.int .i64 0,.int .i64 0,.int .i64 0,.slice none 0 0,.slice none 0 0] 42)
 have hQ:Qb w r.q c.queue v lost (q::ps):=⟨q1,q5⟩
 have hEx:Ext w o (cls o w.heap.size 300):=Ext.cls o _ _ (Nat.le_refl _)
 have H1:=qQ (h.junk (.cells #[.int .i64 0,.int .i64 0,.int .i64 0,.int .i64 0,.slice none 0 0,.slice none 0 0] 42) (by simp))
 have HQ1:=qQ (hQ.kept ga)
 have HB1:=qQ (show∀p∈q::ps,BO (w.alloc (.cells #[.int .i64 0,.int .i64 0,.int .i64 0,.int .i64 0,.slice none 0 0,.slice none 0 0] 42)) (cls o w.heap.size 300) p.2.1 p.2.2 from λp hp=>(q7 p hp).step hEx ga (λ_ _ e=>e))
 have HV:=qQ (And.intro q3 (And.intro q4 (show∀k,v.ownBlock=some k→cls o w.heap.size 300 k=cl i 2 from λk hk=>by rw[hEx k (qg q5 hk).2];exact q6 k hk)))
 have hlq:=qX q1
 have hlv:=λk (hk:v.ownBlock=some k)=>(qg q5 hk).2
 have HLT:=qQ (And.intro hlq hlv)
 have HLL:=qQ hL
 have HPL:=qQ hpl
 clear ga hQ q1 q2 q3 q4 q5 q6 q7 e1 e2 e3 hx h hq hn hL hpl hlq hlv
 have HBA:=qQ hba
 clear hba
 go_enter Tryz.func68,Tryz.ntmps68
 go_upto_region 1 with fail
 obtain⟨a,hae⟩:=qZ w.heap.size
 rw[←hae] at HBA H1 HB1 HV ⊢
 have HAE:=qQ hae
 clear hae
 generalize w.alloc (.cells #[.int .i64 0,.int .i64 0,.int .i64 0,.int .i64 0,.slice none 0 0,.slice none 0 0] 42)=w1 at *
 have c11:w1.cell? ⟨b,11,none⟩=some (.pointer (some ⟨r.q,0,none⟩)):=H1.out.cell 11
 have HT:=qQ (qtake_any w1 r.q c.queue lost v q ps HQ1.out (by have:=HPL.out;omega) (λp hp=>(HB1.out p hp).bs) (by rw[←HE.out.1];exact HLL.out))
 go_wp2_with fail
 with_reducible refine HT.out.mono ?_
 rintro en w2 ⟨xv,v',rfl,hO,hQ2,hvb,G2⟩
 obtain⟨A1,n1,c1,rfl⟩:∃A n c,xv= .slice A n c:=by rcases qD hO with ⟨e,_⟩|⟨g,cap,e,_⟩ <;> exact⟨_,_,_,e⟩
 obtain⟨o2,hE2,hN2,_⟩:=H1.out.qset HQ1.out HV.out.2.2 HB1.out hQ2 ⟨HV.out.1,HV.out.2.1⟩ (.inl hvb) G2 (λp hp=> .inl (List.mem_cons_of_mem _ hp))
 rw[←HE.out.2] at hN2
 have hra:=Chg.keep G2 HBA.out (λe=>by
  have h1:=HLT.out.1
  have h2:=HAE.out
  rcases e with e|e
  ·omega
  ·have:=HLT.out.2 a e;omega)
 have c17:w2.cell? ⟨b,17,none⟩=some (.int .i64 s.tries):=hN2.cell 17
 have f17:w2.frozen? ⟨b,17,none⟩=false:=hN2.f 17
 have HN2:=qQ hN2
 have HO2:=qQ hO
 have HRA:=qQ hra
 have HG2:=qQ G2
 have HA2:=qQ (show o2 a=300 from by rw[hE2 a (qX HBA.out)];exact jp _ _ _)
 clear hO hQ2 hvb G2 hE2 hN2 hra HT c11
 go_upto_region 3 with fail
 have hN3:NAt w0 o0 c i b {s with q:=rest,tries:=0} (w2.setCell ⟨b,17,none⟩ (.int .i64 0)) o2 r:=HN2.out.set 17 (.int .i64 0) rfl HN2.out.nd.np
 have gs:=chg1 w2 b 17 (.int .i64 0)
 have hbo:=HB1.out q (List.mem_cons_self ..)
 have hlb:=qX H.out.nd.blk
 have hrow:=qY HO2.out gs (λj hj e=>by
  have h1:=(qT HO2.out hj).1
  have h2:=qX HBA.out
  have h3:=HAE.out
  have e:j=b:=e
  omega)
 have hra:=Chg.keep gs HRA.out (λe=>by have h3:=HAE.out;have e:a=b:=e;omega)
 generalize w2.setCell ⟨b,17,none⟩ (.int .i64 0)=w3 at *
 rw[←HE.out.1] at hrow hbo
 have HDEC:=qQ (pdecode_any w3 (.slice A1 n1 c1) L (BS.of_own hrow hbo.2) HLL.out)
 rw[HX.out] at HDEC
 have HN3:=qQ hN3
 have HRA3:=qQ hra
 clear hN3 gs hbo hlb hrow hra c17 f17
 go_wp2_with fail
 with_reducible refine HDEC.out.mono ?_
 rintro en w4 ⟨lv,dv,rfl,hl,hd,G4⟩
 have HN4:=qQ (HN3.out.kept G4)
 have HRA4:=qQ (Chg.keep G4 HRA3.out (λe=>e))
 have hz:Z w3 (cls o2 a 1):=HN3.out.z.cls _ (qX HRA3.out)
 have hl2:=hl _ hz
 have hd2:=hd _ hz
 have HPO:=qQ (show PO w4 (cls o2 a 1) lv dv x.2 from ⟨hl2,hd2⟩)
 obtain⟨A3,c3,rfl,_⟩:=hl2
 obtain⟨A4,c4,rfl,_⟩:=hd2.1
 have HS4:=qQ (show a<w4.heap.size from qX HRA4.out)
 clear hl hd hz G4 HDEC
 obtain⟨E,S,D,N,Lf,P,T⟩:=x
 unfold pkV
 dsimp only at *
 generalize P.length=pn at *
 generalize T.length=tn at *
 go_upto_region 4 with fail
 have HN5:=qQ (HN4.out.kept (Chg.alloc _ w4 (.cells #[.int .i64 S,.int .i64 D,.int .i64 N,.int .i64 Lf,.slice A3 pn c3,.slice A4 tn c4] 42)))
 have HPO5:=qQ (HPO.out.keep (Chg.alloc (λ_=>False) w4 (.cells #[.int .i64 S,.int .i64 D,.int .i64 N,.int .i64 Lf,.slice A3 pn c3,.slice A4 tn c4] 42)) (λ_ _ e=>e))
 have hb6:=qV w4 (.cells #[.int .i64 S,.int .i64 D,.int .i64 N,.int .i64 Lf,.slice A3 pn c3,.slice A4 tn c4] 42)
 have hr5:=Chg.keep (Chg.alloc (λ_=>False) w4 (.cells #[.int .i64 S,.int .i64 D,.int .i64 N,.int .i64 Lf,.slice A3 pn c3,.slice A4 tn c4] 42)) HRA4.out (λe=>e)
 have HR5:=qQ hr5
 generalize w4.alloc (.cells #[.int .i64 S,.int .i64 D,.int .i64 N,.int .i64 Lf,.slice A3 pn c3,.slice A4 tn c4] 42)=w5 at *
 obtain⟨d0,d1,d2,d3,d4,d5⟩:=qC hb6
 obtain⟨e0,e1,e2,e3,e4,e5⟩:=qC hr5
 obtain⟨f0,f1,f2,f3,f4,f5⟩:=zg hr5
 clear hb6 hr5
 go_wp2_with fail
 have gs:=set6 w5 a (.int .i64 S) (.int .i64 D) (.int .i64 N) (.int .i64 Lf) (.slice A3 pn c3) (.slice A4 tn c4)
 have hbk:=set6b HR5.out (.int .i64 S) (.int .i64 D) (.int .i64 N) (.int .i64 Lf) (.slice A3 pn c3) (.slice A4 tn c4)
 obtain⟨k0,k1,k2,k3,k4,k5⟩:=qC hbk
 have hP:PO _ (cls o2 a 1) _ _ _:=HPO5.out.keep gs (λj hj e=>by rw[show j=a from e,jp] at hj;cases hj)
 have hre:∀k,cls o2 a 1 k=0→o2 k=0:=λk hk=>by
  by_cases e:k=a
  ·rw[e,jp] at hk;cases hk
  ·rw[cls_ne _ _ _ e] at hk;exact hk
 exact bodyPost_ret (v:= .tuple #[pkV ⟨S,D,N,Lf,P,T⟩ (.slice A3 pn c3) (.slice A4 tn c4),.bool (E==0)]) (by simp[results,Tryz.results68,go_sem,pkV,k0,k1,k2,k3,k4,k5]) rfl
  ⟨_,o2,r,rfl,HN5.out.high (by have:=H.out.chg.size;have:=HAE.out;omega) hi HA2.out gs,_,_,rfl,⟨hP.1.re hre,hP.2.1.re hre,hP.2.2⟩⟩
end
def RevAt(L M:List Int)(k:Nat):Prop:=M.length=L.length∧∀p,p<L.length→M[p]? =if p<k∨L.length≤p+k then L[L.length-1-p]? else L[p]?
theorem RevAt.start(L:List Int):RevAt L L 0:=⟨rfl,λp hp=>by rw[if_neg (by omega)]⟩
theorem RevAt.next{L M:List Int}{k:Nat}(h:RevAt L M k)(hk:2*k+1<L.length){a b:Int}(ha:M[k]? =some a) (hb:M[L.length-1-k]? =some b):RevAt L ((M.set k b).set (L.length-1-k) a) (k+1):=by
 obtain⟨h1,h2⟩:=h
 refine⟨by simp[h1],λp hp=>?_⟩
 have ha':=h2 k (by omega)
 have hb':=h2 (L.length-1-k) (by omega)
 rw[if_neg (by omega)] at ha' hb'
 by_cases e1:p=L.length-1-k
 ·subst e1
  rw[List.getElem?_set_self (by simp;omega),if_pos (by omega),show L.length-1-(L.length-1-k)=k by omega,←ha',ha]
 ·rw[List.getElem?_set_ne (λe=>e1 e.symm)]
  by_cases e2:p=k
  ·subst e2
   rw[List.getElem?_set_self (by omega),if_pos (by omega),←hb',hb]
  ·rw[List.getElem?_set_ne (λe=>e2 e.symm),h2 p hp]
   by_cases e3:p<k∨L.length≤p+k
   ·rw[if_pos e3,if_pos (by omega)]
   ·rw[if_neg e3,if_neg (by omega)]
theorem RevAt.fin{L M:List Int}{k:Nat}(h:RevAt L M k)(hk:L.length≤2*k+1):M=L.reverse:=by
 obtain⟨h1,h2⟩:=h
 refine List.ext_getElem? (λp=>?_)
 by_cases hp:p<L.length
 ·rw[h2 p hp,List.getElem?_reverse hp]
  by_cases e:p<k∨L.length≤p+k
  ·rw[if_pos e]
  ·rw[if_neg e,show L.length-1-p=p by omega]
 ·rw[List.getElem?_eq_none (by omega),List.getElem?_eq_none (by simp;omega)]
structure RvAt(w:World)(base:Nat)(v:Value)(L:List Int)(k:Nat)(W:World):Prop where
 row:∃M,RevAt L M k∧W.ownsRow base 3 1 v L.length (M.map VI)
 chg:Chg (λj=>v.ownBlock=some j) w W
theorem reverse_any(w:World)(base:Nat)(v:Value)(L:List Int)(h:w.ownsRow base 3 1 v L.length (L.map VI))(hL:L.length≤100000):
  Calls Tryz.prog 284 #[v] w (λe w'=>e= .returned (.tuple #[])∧w'.ownsRow base 3 1 v L.length (L.reverse.map VI)∧Chg (λj=>v.ownBlock=some j) w w'):=by
 obtain⟨A,cap,rfl⟩:∃A cap,v= .slice A L.length cap:=by
  rcases qD h with ⟨e,h1,_⟩|⟨g,cap,e,_⟩
  ·rw[h1];exact⟨_,_,e⟩
  ·exact⟨_,_,e⟩
 have HA:=qQ (show RvAt w base (.slice A L.length cap) L 0 w from ⟨⟨L,RevAt.start L,h⟩,Chg.refl _ _⟩)
 obtain⟨n,hn⟩:=qZ L.length
 have HN:=qQ hn
 rw[←hn] at hL HA ⊢
 have hn2:(n:Int)≤100000:=by omega
 clear h hn
 go_enter Tryz.func284,Tryz.ntmps284
 have hn3:IntKind.i64.wrap ((n:Int)-1)=(n:Int)-1:=by rw[IntWalk.i64_in _ (by omega)]
 go_wp2_with fail
 clear hn3
 go_loopw [2,3] (λu2 u3 wr=>∃(k:Nat),2*k≤n+1∧u2= .int .i64 k∧u3= .int .i64 ((n:Int)-1-k)∧RvAt w base (.slice A n cap) L k wr) (λu2 _ _=>n+1-(intOf u2).toNat)
 case atStart=>exact⟨0,by omega,rfl,by go_num,HA.out⟩
 case round=>
  obtain⟨k,hk,rfl,rfl,hD⟩:=hrel
  have HD:=qQ hD
  clear hD HA
  by_cases hlt:2*k+1<n
  ·obtain⟨M,hM,hrow⟩:=HD.out.row
   rw[←HN.out] at hrow
   have hMl:=hM.1
   obtain⟨a,ha⟩:∃a,M[k]? =some a:=⟨_,List.getElem?_eq_getElem (by have:=HN.out;omega)⟩
   obtain⟨b,hb⟩:∃b,M[n-1-k]? =some b:=⟨_,List.getElem?_eq_getElem (by have:=HN.out;omega)⟩
   obtain⟨g,rfl⟩:∃g,A=some ⟨g,0,none⟩:=by
    rcases qD hrow with ⟨e,h1,_⟩|⟨g,cap',e,_⟩
    ·omega
    ·cases e;exact⟨g,rfl⟩
   have a0:=qr hrow k (VI a) (by rw[List.getElem?_map,ha];rfl)
   have b0:=qr hrow (n-1-k) (VI b) (by rw[List.getElem?_map,hb];rfl)
   unfold VI at a0 b0
   have fk:=jB hrow k
   have fj:=jB hrow (n-1-k)
   have HR:=qQ (And.intro hM (And.intro hrow (And.intro ha hb)))
   have e1:(n:Int)-1-(k:Int)=((n-1-k:Nat):Int):=by omega
   have i4:k<n:=by omega
   have i5:n-1-k<n:=by omega
   have HL:=qQ hlt
   have HK:=qQ hk
   rw[e1]
   obtain⟨j,hj⟩:∃j,n-1-k=j:=⟨_,rfl⟩
   rw[hj] at b0 fj i5 HR ⊢
   have e2:IntKind.i64.wrap ((j:Int)-1)=(n:Int)-1-((k+1:Nat):Int):=by rw[IntWalk.i64_in _ (by omega)];omega
   have i1:(k:Int)<(j:Int):=by omega
   have i2:(k:Int)<(n:Int):=by omega
   have i3:(j:Int)<(n:Int):=by omega
   have HJ:=qQ hj
   clear hM hrow ha hb hMl hlt hk e1 hj
   go_wp2_with fail
   go_region
   all_goals go_wp2_with fail
   have r1:=own_set HR.out.2.1 k (.int .i64 b) i4
   have r2:=own_set r1 j (.int .i64 a) i5
   have e3:((M.map VI).set k (.int .i64 b)).set j (.int .i64 a)=((M.set k b).set j a).map VI:=by rw[List.map_set,List.map_set];rfl
   rw[e3] at r2
   have hN:=HN.out
   have hJ:=HJ.out
   have hnx:=RevAt.next HR.out.1 (by have:=HL.out;omega) HR.out.2.2.1 (b:=b) (by rw[←hN,hJ];exact HR.out.2.2.2)
   rw[←hN,hJ] at hnx
   have g3:=HD.out.chg.trans ((((chg1 wr g k (.int .i64 b)).trans (chg1 _ g j (.int .i64 a))).trans (Chg.drew _ _)).mono (λq _ e=>by rw[show q=g from e];rfl))
   have hL2:=HL.out
   exact⟨⟨k+1,by omega,by go_num,by go_num,⟨_,hnx,by rw[←hN];exact qY r2 (Chg.drew (λ_=>False) _) (λ_ _ e=>e)⟩,g3⟩,by simp[intOf];omega⟩
  ·have i1:¬(k:Int)<(n:Int)-1-(k:Int):=by omega
   obtain⟨M,hM,hrow⟩:=HD.out.row
   have hfin:=RevAt.fin hM (by have:=HN.out;omega)
   have HX:=qQ (show wr.ownsRow base 3 1 (.slice A n cap) n (L.reverse.map VI) from by rw[←hfin,HN.out];rw[←HN.out] at hrow ⊢;exact hrow)
   clear hM hrow hfin
   go_wp2_with fail
   go_end0
   exact⟨rfl,by rw[←List.map_reverse];exact HX.out,HD.out.chg⟩
theorem pback_any(w:World)(own:Cls)(lv:Value)(L:List Int)(h:RV VI w own lv L)(hL:L.length≤100000):Calls Tryz.prog 252 #[lv] w (PNew VI 3 w (if jQ L then L.reverse else [])):=by
 have HP:=qQ (path_any w own lv L h hL)
 obtain⟨A,c,rfl,h1,h2,_⟩:=h.rs
 have HC:=qQ (jz w A L.length c L h1 h2 hL)
 obtain⟨n,hn⟩:∃n,L.length=n:=⟨_,rfl⟩
 rw[hn] at HC HP ⊢
 have HN:=qQ hn
 have HL:=qQ hL
 clear h h1 h2 hL hn
 cases hp:jQ L
 ·rw[hp] at HP
  go_enter Tryz.func252,Tryz.ntmps252
  go_wp2_with fail
  with_reducible refine HP.out.mono ?_
  rintro en w1 ⟨rfl,rfl⟩
  go_wp2_with fail
  go_ret
  exact⟨_,rfl,World.ownsRow_nil _ _ _ _,Chg.refl _ _⟩
 ·rw[hp] at HP
  go_enter Tryz.func252,Tryz.ntmps252
  go_wp2_with fail
  with_reducible refine HP.out.mono ?_
  rintro en w1 ⟨rfl,hw1⟩
  subst w1
  go_wp2_with fail
  with_reducible refine HC.out.mono ?_
  rintro en w2 ⟨v,rfl,hO,G⟩
  have HR:=qQ (reverse_any w2 w.heap.size v L hO HL.out)
  have HG:=qQ G
  have hin:=λj (hj:v.ownBlock=some j)=>(qT hO hj).1
  obtain⟨A1,n1,c1,rfl⟩:∃A n c,v= .slice A n c:=by rcases qD hO with ⟨e,_⟩|⟨g,cap,e,_⟩ <;> exact⟨_,_,_,e⟩
  have HI:=qQ hin
  clear hO G HC HP hin
  go_wp2_with fail
  with_reducible refine HR.out.mono ?_
  rintro en w3 ⟨rfl,hO,G⟩
  have HX:=qQ (And.intro hO G)
  clear hO G HR
  go_wp2_with fail
  go_ret
  refine⟨_,rfl,?_,((HG.out.none (S:=λq=>w.heap.size≤q)).trans (HX.out.2.mono (λj _ e=>HI.out j e))).fresh⟩
  have:=HX.out.1
  rw[List.length_reverse]
  exact this
end Go.Proofs.YtnpihllannobgaaGreatDoor
