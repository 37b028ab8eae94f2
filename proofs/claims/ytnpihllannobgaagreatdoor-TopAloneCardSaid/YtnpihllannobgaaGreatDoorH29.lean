/- Steps of the proof, part H29. No condition. -/
import Derived.Test.YtnpihllannobgaaGreatDoorH25
import Derived.Test.YtnpihllannobgaaGreatDoorH04
import Derived.Test.YtnpihllannobgaaGreatDoorH11
import Derived.Test.YtnpihllannobgaaGreatDoorH24
namespace Go.Proofs.YtnpihllannobgaaGreatDoor
set_option linter.unusedVariables false
set_option linter.unusedSimpArgs false
set_option maxRecDepth 100000
set_option maxHeartbeats 32000000
open Go.ChangeShapes Go.WideShapes Go.ChangeAt Go.RowKit
def js(c:Cfg)(i:Nat)(s:NSt)(p came:Pk):NSt:=
 if (downP p i).1=11 then evN s ⟨5,i,0,2,came⟩ else if (downP p i).1≠0 then evN s ⟨5,i,0,3,came⟩ else putN c i s (downP p i).2.2 (downP p i).2.1 came
theorem downP_len{p:Pk}{me E t:Int}{x:Pk}(h:downP p me=(E,t,x))(hp:p.path.length≤100000)(hd:p.data.length≤100000):x.path.length≤100000∧x.data.length≤100000:=by
 unfold downP at h
 obtain⟨y,hy⟩:∃y,stepP p me=y:=⟨_,rfl⟩
 have a:=stepP_len hy hp
 have b:=stepP_data hy hd
 rw[hy] at h
 dsimp only at h
 split at h
 ·cases h;exact⟨a,b⟩
 ·split at h
  ·cases h;simp[pk0]
  ·cases h;exact⟨a,b⟩
section
variable {w0 w w':World}{o0 o o':Cls}{c:Cfg}{i b:Nat}{s s':NSt}{r r':NR}
theorem nhands_any(h:NAt w0 o0 c i b s w o r)(p came:Pk)(lv dv lv2 dv2:Value)(hp:PO w o lv dv p)(hc:PO w o lv2 dv2 came)(hL:p.path.length≤100000)(hD:p.data.length≤100000)(hq:s.q.length≤900)(hn:s.ev.length≤1000):
  Calls Tryz.prog 210 #[.pointer (some ⟨b,0,none⟩),pkV p lv dv,pkV came lv2 dv2] w (PN w0 o0 c i b (js c i s p came) (λv _ _=>v= .tuple #[])):=by
 obtain⟨FS,hFS⟩:∃FS,js c i s p came=FS:=⟨_,rfl⟩
 rw[hFS]
 unfold js at hFS
 obtain⟨x,hx⟩:∃x,downP p i=x:=⟨_,rfl⟩
 rw[hx] at hFS
 obtain⟨E,tt,x⟩:=x
 dsimp only at hFS
 have hxl:x.path.length≤100000∧x.data.length≤100000:=downP_len hx hL hD
 obtain⟨lA,lc,hlv,_⟩:=hp.1
 obtain⟨⟨dA,dc,hdv,_⟩,hDB⟩:=hp.2
 obtain⟨lA2,lc2,hlv2,_⟩:=hc.1
 obtain⟨⟨dA2,dc2,hdv2,_⟩,_⟩:=hc.2
 obtain⟨m2,hm2⟩:∃m,m=came.path.length:=⟨_,rfl⟩
 obtain⟨n2,hn2⟩:∃n,n=came.data.length:=⟨_,rfl⟩
 rw[←hm2] at hlv2
 rw[←hn2] at hdv2
 obtain⟨m,hm⟩:=qZ p.path.length
 obtain⟨n,hnn⟩:=qZ p.data.length
 rw[←hm] at hlv
 rw[←hnn] at hdv
 subst hlv hdv hlv2 hdv2
 have HUP:=qQ (show∀W,Chg (λ_=>False) w W→Calls Tryz.prog 253 #[.agg #[.int .i64 p.src,.int .i64 p.dst,.int .i64 p.n,.int .i64 p.life,.slice lA m lc,.slice dA n dc],.int .i64 i] W (PDownP W (E,tt,x)) from λW g=>hx▸pdown_any W o p i _ _ (hp.keep g (λ_ _ e=>e)) hL hD)
 have HDROP:=qQ (show∀(W:World) (O:Cls) (R:NR) (s1:NSt) (why:Int),NAt w0 o0 c i b s1 W O R→PO W O (.slice lA2 m2 lc2) (.slice dA2 n2 dc2) came→s1.ev.length≤1000→Calls Tryz.prog 69 #[.pointer (some ⟨b,0,none⟩),.agg #[.int .i64 came.src,.int .i64 came.dst,.int .i64 came.n,.int .i64 came.life,.slice lA2 m2 lc2,.slice dA2 n2 dc2],.int .i64 why] W (PN w0 o0 c i b (evN s1 ⟨5,i,0,why,came⟩) (λv _ _=>v= .tuple #[])) from
  λW O R s1 why h1 h2 h3=>zj h1 came _ _ why h2 h3)
 have HPUT:=qQ (show∀(W:World) (O:Cls) (R:NR) (s1:NSt) (v1 v2:Value),NAt w0 o0 c i b s1 W O R→PO W O v1 v2 x→PO W O (.slice lA2 m2 lc2) (.slice dA2 n2 dc2) came→s1.q.length≤900→s1.ev.length≤1000→Calls Tryz.prog 254 #[.pointer (some ⟨b,0,none⟩),.agg #[.int .i64 x.src,.int .i64 x.dst,.int .i64 x.n,.int .i64 x.life,v1,v2],.int .i64 tt,.agg #[.int .i64 came.src,.int .i64 came.dst,.int .i64 came.n,.int .i64 came.life,.slice lA2 m2 lc2,.slice dA2 n2 dc2]] W (PN w0 o0 c i b (putN c i s1 x tt came) (λv _ _=>v= .tuple #[])) from
  λW O R s1 v1 v2 h1 h2 h3 h4 h5=>nput_any h1 x came tt _ _ _ _ h2 h3 hxl.1 hxl.2 h4 h5)
 obtain⟨w1,hw1⟩:=qZ ((w.alloc (.cells #[.int .i64 p.src,.int .i64 p.dst,.int .i64 p.n,.int .i64 p.life,.slice lA m lc,.slice dA n dc] 42)).alloc (.cells #[.int .i64 came.src,.int .i64 came.dst,.int .i64 came.n,.int .i64 came.life,.slice lA2 m2 lc2,.slice dA2 n2 dc2] 42))
 have ga0:=Chg.alloc (λ_=>False) w (.cells #[.int .i64 p.src,.int .i64 p.dst,.int .i64 p.n,.int .i64 p.life,.slice lA m lc,.slice dA n dc] 42)
 have gb:=Chg.alloc (λ_=>False) (w.alloc (.cells #[.int .i64 p.src,.int .i64 p.dst,.int .i64 p.n,.int .i64 p.life,.slice lA m lc,.slice dA n dc] 42)) (.cells #[.int .i64 came.src,.int .i64 came.dst,.int .i64 came.n,.int .i64 came.life,.slice lA2 m2 lc2,.slice dA2 n2 dc2] 42)
 have ba:=Chg.keep gb (qV w (.cells #[.int .i64 p.src,.int .i64 p.dst,.int .i64 p.n,.int .i64 p.life,.slice lA m lc,.slice dA n dc] 42)) (λe=>e)
 have bb:=qV (w.alloc (.cells #[.int .i64 p.src,.int .i64 p.dst,.int .i64 p.n,.int .i64 p.life,.slice lA m lc,.slice dA n dc] 42)) (.cells #[.int .i64 came.src,.int .i64 came.dst,.int .i64 came.n,.int .i64 came.life,.slice lA2 m2 lc2,.slice dA2 n2 dc2] 42)
 have hsz:(w.alloc (.cells #[.int .i64 p.src,.int .i64 p.dst,.int .i64 p.n,.int .i64 p.life,.slice lA m lc,.slice dA n dc] 42)).heap.size=w.heap.size+1:=by simp
 rw[hsz] at bb
 rw[←hw1] at ba bb gb
 have ga:=ga0.trans gb
 have HG:=qQ ga
 have HW1:=qQ hw1
 have HBB:=qQ bb
 obtain⟨d0,d1,d2,d3,d4,d5⟩:=qC ba
 have hk:=h.kept ga
 have c9:w1.cell? ⟨b,9,none⟩=some (.int .i64 i):=hk.cell 9
 have H:=qQ h
 have HC:=qQ hc
 have HQ:=qQ (And.intro hq hn)
 have HFS:=qQ hFS
 clear ga ga0 gb ba bb hsz hw1 hp hc hm2 hn2 hL hD hq hn hFS h hm hnn hk hx hxl hDB
 unfold pkV
 go_enter Tryz.func210,Tryz.ntmps210
 go_upto_region 1 with fail
 rw[←HW1.out]
 obtain⟨a,hae⟩:=qZ w.heap.size
 have HAE:=qQ hae
 rw[←hae] at d0 d1 d2 d3 d4 d5 HBB ⊢
 clear HW1 hae
 go_cut [6,7,8] (λu6 u7 u8 wx=>∃a4 v1 v2,u6= .pointer (some ⟨a4,0,none⟩)∧u7= .int .i64 tt∧u8= .int .i64 E∧Made w a4 x v1 v2 wx∧Chg (λ_=>False) w1 wx)
 case first=>
  have za:=Chg.alloc (λ_=>False) w1 (.cells #[.int .i64 0,.int .i64 0,.int .i64 0,.int .i64 0,.slice none 0 0,.slice none 0 0] 42)
  have e0:=qL d0 (.cells #[.int .i64 0,.int .i64 0,.int .i64 0,.int .i64 0,.slice none 0 0,.slice none 0 0] 42)
  have e1:=qL d1 (.cells #[.int .i64 0,.int .i64 0,.int .i64 0,.int .i64 0,.slice none 0 0,.slice none 0 0] 42)
  have e2:=qL d2 (.cells #[.int .i64 0,.int .i64 0,.int .i64 0,.int .i64 0,.slice none 0 0,.slice none 0 0] 42)
  have e3:=qL d3 (.cells #[.int .i64 0,.int .i64 0,.int .i64 0,.int .i64 0,.slice none 0 0,.slice none 0 0] 42)
  have e4:=qL d4 (.cells #[.int .i64 0,.int .i64 0,.int .i64 0,.int .i64 0,.slice none 0 0,.slice none 0 0] 42)
  have e5:=qL d5 (.cells #[.int .i64 0,.int .i64 0,.int .i64 0,.int .i64 0,.slice none 0 0,.slice none 0 0] 42)
  have e9:=qL c9 (.cells #[.int .i64 0,.int .i64 0,.int .i64 0,.int .i64 0,.slice none 0 0,.slice none 0 0] 42)
  go_region_with (first
   |(go_at_call 253;refine (HUP.out (w1.alloc (.cells #[.int .i64 0,.int .i64 0,.int .i64 0,.int .i64 0,.slice none 0 0,.slice none 0 0] 42)).drew (HG.out.trans ((Chg.alloc _ _ _).trans (Chg.drew _ _)))).mono ?_;rintro en wp ⟨v1,v2,rfl,O1,g1⟩
     dsimp only at O1
     obtain⟨A1,n1,c1,rfl⟩:∃A n c,v1= .slice A n c:=by rcases qD O1.1 with ⟨e,_⟩|⟨g,cap,e,_⟩ <;> exact⟨_,_,_,e⟩
     obtain⟨A2,n2,c2,rfl⟩:∃A n c,v2= .slice A n c:=by rcases qD O1.2.1 with ⟨e,_⟩|⟨g,cap,e,_⟩ <;> exact⟨_,_,_,e⟩
     have O1:=qQ O1
     have G1:=qQ (show Chg (λ_=>False) w1 wp from ((Chg.alloc _ _ _).trans (Chg.drew _ _)).trans g1)
     have kb:=Chg.keep g1 (show (w1.alloc (.cells #[.int .i64 0,.int .i64 0,.int .i64 0,.int .i64 0,.slice none 0 0,.slice none 0 0] 42)).drew.heap[w1.heap.size]? =_ from qV w1 (.cells #[.int .i64 0,.int .i64 0,.int .i64 0,.int .i64 0,.slice none 0 0,.slice none 0 0] 42)) (λe=>e)
     have KBH:=qQ kb
     obtain⟨k0,k1,k2,k3,k4,k5⟩:=qC kb
     obtain⟨q0,q1,q2,q3,q4,q5⟩:=zF kb
     clear kb
     unfold pkV
     dsimp only)
   |(go_at_call 253;refine (HUP.out w1.drew (HG.out.trans (Chg.drew _ _))).mono ?_;rintro en wp ⟨v1,v2,rfl,O1,g1⟩
     dsimp only at O1
     obtain⟨A1,n1,c1,rfl⟩:∃A n c,v1= .slice A n c:=by rcases qD O1.1 with ⟨e,_⟩|⟨g,cap,e,_⟩ <;> exact⟨_,_,_,e⟩
     obtain⟨A2,n2,c2,rfl⟩:∃A n c,v2= .slice A n c:=by rcases qD O1.2.1 with ⟨e,_⟩|⟨g,cap,e,_⟩ <;> exact⟨_,_,_,e⟩
     have O1:=qQ O1
     have G1:=qQ (show Chg (λ_=>False) w1 wp from (Chg.drew _ _).trans g1)
     have kb:=qV wp (.cells #[.int .i64 0,.int .i64 0,.int .i64 0,.int .i64 0,.slice none 0 0,.slice none 0 0] 42)
     have KBH:=qQ kb
     obtain⟨k0,k1,k2,k3,k4,k5⟩:=qC kb
     obtain⟨q0,q1,q2,q3,q4,q5⟩:=zF kb
     clear kb
     unfold pkV
     dsimp only))
  all_goals
   go_wp2_with fail
   go_meet
   first
    |(refine⟨w1.heap.size,.slice A1 n1 c1,.slice A2 n2 c2,(by with_reducible rfl),(by with_reducible rfl),(by with_reducible rfl),?_⟩
      exact made_fin HG.out O1.out (Nat.le_trans HG.out.size (Chg.alloc (λ_=>False) w1 (.cells #[.int .i64 0,.int .i64 0,.int .i64 0,.int .i64 0,.slice none 0 0,.slice none 0 0] 42)).size) G1.out KBH.out (Nat.le_refl _))
    |(refine⟨wp.heap.size,.slice A1 n1 c1,.slice A2 n2 c2,(by with_reducible rfl),(by with_reducible rfl),(by with_reducible rfl),?_⟩
      exact made_new HG.out O1.out HG.out.size G1.out)
 case rest=>
  obtain⟨a4,v1,v2,rfl,rfl,rfl,hM,hG⟩:=hcut
  have hN:=H.out.kept hM.chg
  have hbb:=Chg.keep hG HBB.out (λe=>e)
  have HN:=qQ hN
  have HPC:=qQ (HC.out.keep hM.chg (λ_ _ e=>e))
  have HPX:=qQ (hM.own.po H.out.z |> λk=>k)
  obtain⟨A1,n1,c1,rfl⟩:∃A n c,v1= .slice A n c:=by rcases qD hM.own.1 with ⟨e,_⟩|⟨g,cap,e,_⟩ <;> exact⟨_,_,_,e⟩
  obtain⟨A2,n2,c2,rfl⟩:∃A n c,v2= .slice A n c:=by rcases qD hM.own.2.1 with ⟨e,_⟩|⟨g,cap,e,_⟩ <;> exact⟨_,_,_,e⟩
  clear d0 d1 d2 d3 d4 d5 c9 HUP hN
  obtain⟨d0,d1,d2,d3,d4,d5⟩:=qC hbb
  obtain⟨e0,e1,e2,e3,e4,e5⟩:=qC hM.blk
  clear hM hG hbb
  rcases (by by_cases h:E=11;exact .inl h;by_cases h2:E=0;exact .inr (.inr h2);exact .inr (.inl ⟨h,h2⟩):E=11∨(¬E=11∧¬E=0)∨E=0) with hE|hE|hE
  ·subst hE
   have HF:=qQ (show FS=evN s ⟨5,i,0,2,came⟩ from by rw[←HFS.out,if_pos rfl])
   go_wp2_with fail
   (with_reducible refine (HDROP.out _ _ _ _ 2 HN.out HPC.out HQ.out.2).mono ?_)
   rintro en w3 ⟨v3,o3,r3,rfl,hN,rfl⟩
   have HX:=qQ hN
   clear hN d0 d1 d2 d3 d4 d5 e0 e1 e2 e3 e4 e5
   go_wp2_with fail
   go_end0
   exact⟨_,_,_,rfl,by rw[HF.out];exact HX.out,rfl⟩
  ·have i1:(E != 0)=true:=by simpa using hE.2
   have i2:(E==11)=false:=by simpa using hE.1
   have i3:decide (E=11)=false:=by simpa using hE.1
   have HF:=qQ (show FS=evN s ⟨5,i,0,3,came⟩ from by rw[←HFS.out,if_neg hE.1,if_pos hE.2])
   clear hE
   go_wp2_with fail
   (with_reducible refine (HDROP.out _ _ _ _ 3 HN.out HPC.out HQ.out.2).mono ?_)
   rintro en w3 ⟨v3,o3,r3,rfl,hN,rfl⟩
   have HX:=qQ hN
   clear hN d0 d1 d2 d3 d4 d5 e0 e1 e2 e3 e4 e5
   go_wp2_with fail
   go_end0
   exact⟨_,_,_,rfl,by rw[HF.out];exact HX.out,rfl⟩
  ·subst hE
   have HF:=qQ (show FS=putN c i s x tt came from by rw[←HFS.out,if_neg (by decide),if_neg (by simp)])
   go_wp2_with fail
   (with_reducible refine (HPUT.out _ _ _ _ _ _ HN.out HPX.out HPC.out HQ.out.1 HQ.out.2).mono ?_)
   rintro en w3 ⟨v3,o3,r3,rfl,hN,rfl⟩
   have HX:=qQ hN
   clear hN d0 d1 d2 d3 d4 d5 e0 e1 e2 e3 e4 e5
   go_wp2_with fail
   go_end0
   exact⟨_,_,_,rfl,by rw[HF.out];exact HX.out,rfl⟩
end
def hasB(c:Cfg)(q:Int):Bool:=inR q 0 ((c.nodes:Int)-1)
def knownB(c:Cfg)(p:Pk):Bool:=hasB c p.src&&hasB c p.dst&& !(p.path.any (λz=>!hasB c z))
theorem cf251(args:Array Value)(w':World):(callFunc 251 args).run Tryz.prog w'= .ok (.enter 251 args) w':=by kernel_rfl
section
variable {w0 w w':World}{o0 o o':Cls}{c:Cfg}{i b:Nat}{s s':NSt}{r r':NR}
theorem nknown1_any(h:NAt w0 o0 c i b s w o r)(z:Int)(hc:c.nodes≤16)(k:Nat)(hk:w.cell? ⟨k,0,none⟩=some (.pointer (some ⟨b,0,none⟩))):
  Calls Tryz.prog 251 #[.int .i64 z,.pointer (some ⟨k,0,none⟩)] w (PV (.bool (!hasB c z)) w):=by
 have HH:=qQ (nhas_any h z hc)
 unfold hasB
 obtain⟨M,hM⟩:=qZ (inR z 0 ((c.nodes:Int)-1))
 rw[←hM] at HH ⊢
 clear h hc hM
 go_enter Tryz.func251,Tryz.ntmps251
 go_wp2_with fail
 with_reducible refine HH.out.mono ?_
 rintro en w1 ⟨rfl,rfl⟩
 go_wp2_with fail
 go_ret
 exact⟨rfl,Chg.refl _ _⟩
theorem nknown_any(h:NAt w0 o0 c i b s w o r)(p:Pk)(lv dv:Value)(hp:PO w o lv dv p)(hc:c.nodes≤16)(hL:p.path.length≤100000):
  Calls Tryz.prog 207 #[.pointer (some ⟨b,0,none⟩),pkV p lv dv] w (PV (.bool (knownB c p)) w):=by
 obtain⟨lA,lc,hlv,h1,h2,_⟩:=hp.1.rs
 obtain⟨⟨dA,dc,hdv,_⟩,_⟩:=hp.2
 obtain⟨m,hm⟩:=qZ p.path.length
 obtain⟨n,hnn⟩:=qZ p.data.length
 rw[←hm] at hlv
 rw[←hnn] at hdv
 subst hlv hdv
 obtain⟨w1,hw1⟩:=qZ ((w.alloc (.cells #[.pointer (some ⟨b,0,none⟩)] 36)).alloc (.cells #[.int .i64 p.src,.int .i64 p.dst,.int .i64 p.n,.int .i64 p.life,.slice lA m lc,.slice dA n dc] 42))
 have ga0:=Chg.alloc (λ_=>False) w (.cells #[.pointer (some ⟨b,0,none⟩)] 36)
 have gb:=Chg.alloc (λ_=>False) (w.alloc (.cells #[.pointer (some ⟨b,0,none⟩)] 36)) (.cells #[.int .i64 p.src,.int .i64 p.dst,.int .i64 p.n,.int .i64 p.life,.slice lA m lc,.slice dA n dc] 42)
 have ba:=Chg.keep gb (qV w (.cells #[.pointer (some ⟨b,0,none⟩)] 36)) (λe=>e)
 have bb:=qV (w.alloc (.cells #[.pointer (some ⟨b,0,none⟩)] 36)) (.cells #[.int .i64 p.src,.int .i64 p.dst,.int .i64 p.n,.int .i64 p.life,.slice lA m lc,.slice dA n dc] 42)
 have hsz:(w.alloc (.cells #[.pointer (some ⟨b,0,none⟩)] 36)).heap.size=w.heap.size+1:=by simp
 rw[hsz] at bb
 rw[←hw1] at ba bb gb
 have ga:=ga0.trans gb
 obtain⟨d0,d1,d2,d3,d4,d5⟩:=qC bb
 have k0:w1.cell? ⟨w.heap.size,0,none⟩=some (.pointer (some ⟨b,0,none⟩)):=qJ ba 0
 have H1:=qQ (h.kept ga)
 have HW1:=qQ hw1
 have HG:=qQ ga
 have hrv:=(hp.1.keep ga (λ_ _ e=>e)).rs
 obtain⟨Ax,cx,ex,hrs,_,_⟩:=hrv
 cases ex
 have HS:=qQ (nhas_any H1.out p.src hc)
 have HD:=qQ (nhas_any H1.out p.dst hc)
 have HC:=qQ (containsFI_any w1 lA p.path.length lc 251 #[.pointer (some ⟨w.heap.size,0,none⟩)] p.path (λz=>!hasB c z) hrs hL
  ⟨cf251,λz w' _ g=>nknown1_any (H1.out.kept g) z hc w.heap.size (by rw[g.cell (qG k0) (λe=>e)];exact k0)⟩)
 have hkb:knownB c p=(inR p.src 0 ((c.nodes:Int)-1)&&inR p.dst 0 ((c.nodes:Int)-1)&& !(p.path.any (λz=>!hasB c z))):=rfl
 rw[hkb]
 obtain⟨B1,hB1⟩:∃B,B=inR p.src 0 ((c.nodes:Int)-1):=⟨_,rfl⟩
 obtain⟨B2,hB2⟩:∃B,B=inR p.dst 0 ((c.nodes:Int)-1):=⟨_,rfl⟩
 obtain⟨B3,hB3⟩:∃B,B=p.path.any (λz=>!hasB c z):=⟨_,rfl⟩
 rw[←hB1] at HS ⊢
 rw[←hB2] at HD ⊢
 rw[←hB3] at HC ⊢
 obtain⟨a,hae⟩:=qZ w.heap.size
 rw[←hae] at d0 d1 d2 d3 d4 d5 k0 HC
 have HAE:=qQ hae
 clear ga ga0 gb ba bb hsz hw1 hp hL hc h hkb hB1 hB2 hB3 hrs hae hm hnn h1
 unfold pkV
 go_enter Tryz.func207,Tryz.ntmps207
 go_upto_region 1 with fail
 rw[←HW1.out,←HAE.out]
 clear HW1
 go_wp2_with fail
 with_reducible refine HS.out.mono ?_
 rintro en w2 ⟨rfl,hw2⟩
 subst w2
 cases B1
 ·go_wp2_with fail
  go_ret
  exact⟨rfl,HG.out⟩
 go_wp2_with fail
 with_reducible refine HD.out.mono ?_
 rintro en w2 ⟨rfl,hw2⟩
 subst w2
 cases B2
 ·go_wp2_with fail
  go_ret
  exact⟨rfl,HG.out⟩
 go_wp2_with fail
 with_reducible refine HC.out.mono ?_
 rintro en w3 ⟨rfl,G⟩
 have HX:=qQ (HG.out.trans G)
 clear G d0 d1 d2 d3 d4 d5 k0
 go_wp2_with fail
 go_ret
 exact⟨rfl,HX.out⟩
end
section
variable {w0 w w':World}{o0 o o':Cls}{c:Cfg}{i b:Nat}{s s':NSt}{r r':NR}
theorem NAt.high(h:NAt w0 o0 c i b s w o r){a:Nat}(h0:w0.heap.size≤a)(hi:i<16)(ha:o a=300)(g:Chg (λj=>j=a) w w'):NAt w0 o0 c i b s w' o r:=
 ⟨h.nd.step (Ext.refl _ _) g (λk hk e=>by rw[show k=a from e,ha] at hk;cases hk) (λk hk e=>by
   obtain⟨m,h1,h2⟩:=hk
   rw[show k=a from e,ha] at h2
   unfold cl at h2;omega),h.z.more g.size,h.ext,
  ⟨g.os.trans h.chg.os,g.tape.trans h.chg.tape,g.output.trans h.chg.output,Nat.le_trans h.chg.size g.size,
   λq hi hn=>(g.block q (Nat.lt_of_lt_of_le hi h.chg.size) (λe=>by have e:q=a:=e;omega)).trans (h.chg.block q hi hn)⟩⟩
theorem NAt.junk(h:NAt w0 o0 c i b s w o r)(ob:Obj)(hs:(w.alloc ob).heap.size=w.heap.size+1):NAt w0 o0 c i b s (w.alloc ob) (cls o w.heap.size 300) r:=
 h.next (h.nd.step (Ext.cls o _ _ (Nat.le_refl _)) (Chg.alloc (λ_=>False) w ob) (λ_ _ e=>e) (λ_ _ e=>e)) ((h.z.more (Chg.alloc (λ_=>False) w ob).size).cls _ (by omega)) (Ext.cls o _ _ (Nat.le_refl _)) (Chg.alloc _ w ob)
def PLeave(x:Int×Pk)(v:Value)(w:World)(o:Cls):Prop:=∃lv dv,v= .tuple #[pkV x.2 lv dv,.bool (x.1==0)]∧PO w o lv dv x.2
theorem nleaves_any(h:NAt w0 o0 c i b s w o r)(tt:Int)(L:List Int)(rest:List (Int×List Int))(hq:s.q=(tt,L)::rest)(hi:i<16)(hn:rest.length≤800)(hL:L.length≤100000):
  Calls Tryz.prog 68 #[.pointer (some ⟨b,0,none⟩)] w (PN w0 o0 c i b {s with q:=rest,tries:=0} (PLeave (decP L))):=by
 obtain⟨_,_,_,p4,_⟩:=h.nd.np
 obtain⟨v,lost,ps,q1,q2,q3,q4,q5,q6,q7,q8⟩:=p4
 obtain⟨q,ps,rfl⟩:∃q r,ps=q::r:=by
  cases ps with
  |nil=>rw[hq] at q8;cases q8
  |cons q r=>exact⟨q,r,rfl⟩
 rw[hq] at q8
 simp only[List.map_cons,List.cons.injEq,Prod.mk.injEq] at q8
 obtain⟨⟨e1,e2⟩,e3⟩:=q8
 have hpl:ps.length≤800:=by rw[e3,List.length_map] at hn;exact hn
 obtain⟨x,hx⟩:∃x,decP L=x:=⟨_,rfl⟩
 rw[hx]
 have HX:=qQ hx
 have H:=qQ h
 have HE:=qQ (And.intro e2 e3)
 have ga:=Chg.alloc (λ_=>False) w (.cells #[.int .i64 0,.int .i64 0,.int .i64 0,.int .i64 0,.slice none 0 0,.slice none 0 0] 42)
 have hba:=qV w (.cells #[.int .i64 0,.int .i64 0,.int .i64 0,.int .i64 0,.slice none 0 0,.slice none 0 0] 42)
 have hQ:Qb w r.q c.queue v lost (q::ps):=⟨q1,q5⟩
 have hEx:Ext w o (cls o w.heap.size 300):=Ext.cls o _ _ (Nat.le_refl _)
 have H1:=qQ (h.junk (.cells #[.int .i64 0,.int .i64 0,.int .i64 0,.int .i64 0,.slice none 0 0,.slice none 0 0] 42) (by simp))
 have HQ1:=qQ (hQ.kept ga)
 have HB1:=qQ (show∀p∈q::ps,BO (w.alloc (.cells #[.int .i64 0,.int .i64 0,.int .i64 0,.int .i64 0,.slice none 0 0,.slice none 0 0] 42)) (cls o w.heap.size 300) p.2.1 p.2.2 from λp hp=>(q7 p hp).step hEx ga (λ_ _ e=>e))
 have HV:=qQ (And.intro q3 (And.intro q4 (show∀k,v.ownBlock=some k→cls o w.heap.size 300 k=cl i 2 from λk hk=>by rw[hEx k (qg q5 hk).2];exact q6 k hk)))
 have hlq:=qX q1
 have hlv:=λk (hk:v.ownBlock=some k)=>(qg q5 hk).2
 have HLT:=qQ (And.intro hlq hlv)
 have HLL:=qQ hL
 have HPL:=qQ hpl
 clear ga hQ q1 q2 q3 q4 q5 q6 q7 e1 e2 e3 hx h hq hn hL hpl hlq hlv
 have HBA:=qQ hba
 clear hba
 go_enter Tryz.func68,Tryz.ntmps68
 go_upto_region 1 with fail
 obtain⟨a,hae⟩:=qZ w.heap.size
 rw[←hae] at HBA H1 HB1 HV ⊢
 have HAE:=qQ hae
 clear hae
 generalize w.alloc (.cells #[.int .i64 0,.int .i64 0,.int .i64 0,.int .i64 0,.slice none 0 0,.slice none 0 0] 42)=w1 at *
 have c11:w1.cell? ⟨b,11,none⟩=some (.pointer (some ⟨r.q,0,none⟩)):=H1.out.cell 11
 have HT:=qQ (qtake_any w1 r.q c.queue lost v q ps HQ1.out (by have:=HPL.out;omega) (λp hp=>(HB1.out p hp).bs) (by rw[←HE.out.1];exact HLL.out))
 go_wp2_with fail
 with_reducible refine HT.out.mono ?_
 rintro en w2 ⟨xv,v',rfl,hO,hQ2,hvb,G2⟩
 obtain⟨A1,n1,c1,rfl⟩:∃A n c,xv= .slice A n c:=by rcases qD hO with ⟨e,_⟩|⟨g,cap,e,_⟩ <;> exact⟨_,_,_,e⟩
 obtain⟨o2,hE2,hN2,_⟩:=H1.out.qset HQ1.out HV.out.2.2 HB1.out hQ2 ⟨HV.out.1,HV.out.2.1⟩ (.inl hvb) G2 (λp hp=> .inl (List.mem_cons_of_mem _ hp))
 rw[←HE.out.2] at hN2
 have hra:=Chg.keep G2 HBA.out (λe=>by
  have h1:=HLT.out.1
  have h2:=HAE.out
  rcases e with e|e
  ·omega
  ·have:=HLT.out.2 a e;omega)
 have c17:w2.cell? ⟨b,17,none⟩=some (.int .i64 s.tries):=hN2.cell 17
 have f17:w2.frozen? ⟨b,17,none⟩=false:=hN2.f 17
 have HN2:=qQ hN2
 have HO2:=qQ hO
 have HRA:=qQ hra
 have HG2:=qQ G2
 have HA2:=qQ (show o2 a=300 from by rw[hE2 a (qX HBA.out)];exact jX _ _ _)
 clear hO hQ2 hvb G2 hE2 hN2 hra HT c11
 go_upto_region 3 with fail
 have hN3:NAt w0 o0 c i b {s with q:=rest,tries:=0} (w2.setCell ⟨b,17,none⟩ (.int .i64 0)) o2 r:=HN2.out.set 17 (.int .i64 0) rfl HN2.out.nd.np
 have gs:=chg1 w2 b 17 (.int .i64 0)
 have hbo:=HB1.out q (List.mem_cons_self ..)
 have hlb:=qX H.out.nd.blk
 have hrow:=qY HO2.out gs (λj hj e=>by
  have h1:=(qS HO2.out hj).1
  have h2:=qX HBA.out
  have h3:=HAE.out
  have e:j=b:=e
  omega)
 have hra:=Chg.keep gs HRA.out (λe=>by have h3:=HAE.out;have e:a=b:=e;omega)
 generalize w2.setCell ⟨b,17,none⟩ (.int .i64 0)=w3 at *
 rw[←HE.out.1] at hrow hbo
 have HDEC:=qQ (pdecode_any w3 (.slice A1 n1 c1) L (BS.of_own hrow hbo.2) HLL.out)
 rw[HX.out] at HDEC
 have HN3:=qQ hN3
 have HRA3:=qQ hra
 clear hN3 gs hbo hlb hrow hra c17 f17
 go_wp2_with fail
 with_reducible refine HDEC.out.mono ?_
 rintro en w4 ⟨lv,dv,rfl,hl,hd,G4⟩
 have HN4:=qQ (HN3.out.kept G4)
 have HRA4:=qQ (Chg.keep G4 HRA3.out (λe=>e))
 have hz:Z w3 (cls o2 a 1):=HN3.out.z.cls _ (qX HRA3.out)
 have hl2:=hl _ hz
 have hd2:=hd _ hz
 have HPO:=qQ (show PO w4 (cls o2 a 1) lv dv x.2 from ⟨hl2,hd2⟩)
 obtain⟨A3,c3,rfl,_⟩:=hl2
 obtain⟨A4,c4,rfl,_⟩:=hd2.1
 have HS4:=qQ (show a<w4.heap.size from qX HRA4.out)
 clear hl hd hz G4 HDEC
 obtain⟨E,S,D,N,Lf,P,T⟩:=x
 unfold pkV
 dsimp only at *
 generalize P.length=pn at *
 generalize T.length=tn at *
 go_upto_region 4 with fail
 have HN5:=qQ (HN4.out.kept (Chg.alloc _ w4 (.cells #[.int .i64 S,.int .i64 D,.int .i64 N,.int .i64 Lf,.slice A3 pn c3,.slice A4 tn c4] 42)))
 have HPO5:=qQ (HPO.out.keep (Chg.alloc (λ_=>False) w4 (.cells #[.int .i64 S,.int .i64 D,.int .i64 N,.int .i64 Lf,.slice A3 pn c3,.slice A4 tn c4] 42)) (λ_ _ e=>e))
 have hb6:=qV w4 (.cells #[.int .i64 S,.int .i64 D,.int .i64 N,.int .i64 Lf,.slice A3 pn c3,.slice A4 tn c4] 42)
 have hr5:=Chg.keep (Chg.alloc (λ_=>False) w4 (.cells #[.int .i64 S,.int .i64 D,.int .i64 N,.int .i64 Lf,.slice A3 pn c3,.slice A4 tn c4] 42)) HRA4.out (λe=>e)
 have HR5:=qQ hr5
 generalize w4.alloc (.cells #[.int .i64 S,.int .i64 D,.int .i64 N,.int .i64 Lf,.slice A3 pn c3,.slice A4 tn c4] 42)=w5 at *
 obtain⟨d0,d1,d2,d3,d4,d5⟩:=qC hb6
 obtain⟨e0,e1,e2,e3,e4,e5⟩:=qC hr5
 obtain⟨f0,f1,f2,f3,f4,f5⟩:=zF hr5
 clear hb6 hr5
 go_wp2_with fail
 have gs:=set6 w5 a (.int .i64 S) (.int .i64 D) (.int .i64 N) (.int .i64 Lf) (.slice A3 pn c3) (.slice A4 tn c4)
 have hbk:=set6b HR5.out (.int .i64 S) (.int .i64 D) (.int .i64 N) (.int .i64 Lf) (.slice A3 pn c3) (.slice A4 tn c4)
 obtain⟨k0,k1,k2,k3,k4,k5⟩:=qC hbk
 have hP:PO _ (cls o2 a 1) _ _ _:=HPO5.out.keep gs (λj hj e=>by rw[show j=a from e,jX] at hj;cases hj)
 have hre:∀k,cls o2 a 1 k=0→o2 k=0:=λk hk=>by
  by_cases e:k=a
  ·rw[e,jX] at hk;cases hk
  ·rw[cls_ne _ _ _ e] at hk;exact hk
 exact bodyPost_ret (v:= .tuple #[pkV ⟨S,D,N,Lf,P,T⟩ (.slice A3 pn c3) (.slice A4 tn c4),.bool (E==0)]) (by simp[results,Tryz.results68,go_sem,pkV,k0,k1,k2,k3,k4,k5]) rfl
  ⟨_,o2,r,rfl,HN5.out.high (by have:=H.out.chg.size;have:=HAE.out;omega) hi HA2.out gs,_,_,rfl,⟨hP.1.re hre,hP.2.1.re hre,hP.2.2⟩⟩
end
def qT(s:NSt):NSt:={s with q:=s.q.tail,tries:=0}
section
variable {w0 w w':World}{o0 o o':Cls}{c:Cfg}{i b:Nat}{s s':NSt}{r r':NR}
theorem nleaves2_any(h:NAt w0 o0 c i b s w o r)(hq:s.q≠[])(hi:i<16)(hn:s.q.length≤800)(hL:∀p∈s.q,p.2.length≤100000):
  Calls Tryz.prog 68 #[.pointer (some ⟨b,0,none⟩)] w (PN w0 o0 c i b (qT s) (PLeave (decP (s.q.headD (0,[])).2))):=by
 obtain⟨⟨t,L⟩,rest,e⟩:∃p rest,s.q=p::rest:=by
  cases h:s.q with
  |nil=>exact absurd h hq
  |cons p rest=>exact⟨p,rest,rfl⟩
 have:=nleaves_any h t L rest e hi (by rw[e] at hn;simp at hn;omega) (hL (t,L) (by rw[e];simp))
 have e1:qT s= {s with q:=rest,tries:=0}:=by unfold qT;rw[e];rfl
 have e2:(s.q.headD (0,[])).2=L:=by rw[e];rfl
 rw[e1,e2]
 exact this
theorem ndoned_any(h:NAt w0 o0 c i b s w o r)(f:Fr)(iA:Option Addr)(il ic:Nat)(dA:Option Addr)(dl dc:Nat)(tt rk now:Int)(hI:IeO w o (.slice iA il ic) f.ies)(hE:f.ies.length≤100000)(hll:∀e∈f.ies,e.list.length≤100000)
  (hsk:s.skind=1) (hq:s.q≠[]) (hi16:i<16) (hqn:s.q.length≤800) (hqL:∀p∈s.q,p.2.length≤100000) (hn:s.ev.length≤900) (hb: -1000000000000000≤s.base∧s.base≤1000000000000000) (hk:s.p≠none→s.k≠none) (hs:0≤tt∧tt≤15) (hm:tt≠i) (hr:0≤rk∧rk≤255) (ht:0≤now):
  Calls Tryz.prog 67 #[.pointer (some ⟨b,0,none⟩),frV f (.slice iA il ic) (.slice dA dl dc),.int .i64 tt,.int .i64 rk,.int .i64 now] w (PN w0 o0 c i b (j7 i (qT s) f tt rk now) (λv _ _=>v= .tuple #[])):=by
 have hba:=qV w (.cells #[.int .i64 f.kind,.int .i64 f.src,.int .i64 f.dst,.int .i64 f.seq,.slice iA il ic,.slice dA dl dc] 71)
 have ga:=Chg.alloc (λ_=>False) w (.cells #[.int .i64 f.kind,.int .i64 f.src,.int .i64 f.dst,.int .i64 f.seq,.slice iA il ic,.slice dA dl dc] 71)
 obtain⟨w1,hw1⟩:=qZ (w.alloc (.cells #[.int .i64 f.kind,.int .i64 f.src,.int .i64 f.dst,.int .i64 f.seq,.slice iA il ic,.slice dA dl dc] 71))
 obtain⟨fb,hfb⟩:=qZ w.heap.size
 rw[←hw1] at ga hba
 rw[←hfb] at hba
 have h1:=h.kept ga
 have hof:o fb=0:=h.z _ (by omega)
 have HLV:=qQ (nleaves2_any (NAt.start h1.nd h1.z) hq hi16 hqn hqL)
 have e24:w1.cell? ⟨b,24,none⟩=some (.int .i64 1):=by rw[←hsk];exact h1.cell 24
 obtain⟨d0,d1,d2,d3,d4,d5⟩:=qC hba
 have H1:=qQ h1
 have HB1:=qQ hba
 have HW:=qQ hw1
 have HFBE:=qQ hfb
 have HI1:=qQ (hI.keep ga (λ_ _ e=>e))
 have hn2:(qT s).ev.length≤900:=hn
 have hb2: -1000000000000000≤(qT s).base∧(qT s).base≤1000000000000000:=hb
 have hk2:(qT s).p≠none→(qT s).k≠none:=hk
 obtain⟨s2,hs2⟩:=qZ (qT s)
 rw[←hs2] at HLV hn2 hb2 hk2 ⊢
 obtain⟨F,hF⟩:=qZ (j7 i s2 f tt rk now)
 rw[←hF]
 have HF:=qQ hF
 clear hn hb hk hs2 hF h h1 hba ga hw1 hfb hI hsk hq hqn hqL hi16
 unfold frV
 go_enter Tryz.func67,Tryz.ntmps67
 go_upto_region 1 with fail
 rw[←HW.out,←HFBE.out]
 clear HW HFBE
 go_wp2_with fail
 with_reducible refine HLV.out.mono ?_
 rintro en w2 ⟨v2,o2,r2,rfl,hN2,lv2,dv2,rfl,hPO2⟩
 have H:=qQ (H1.out.trans hN2)
 have HB:=qQ (Chg.keep hN2.chg HB1.out (λe=>by obtain⟨j,_,e⟩:=e;rw[hof] at e;exact qP i j e.symm))
 have HI:=qQ (hN2.io H1.out.z HI1.out)
 have HFD:=qQ (λW (g:Chg (λ_=>False) w2 W)=>qr W o2 (.slice iA il ic) f.ies 2 (HI.out.keep g (λ_ _ e=>e)) hE hll)
 obtain⟨lA2,lc2,e,_⟩:=hPO2.1
 obtain⟨⟨dA2,dc2,e',_⟩,_⟩:=hPO2.2
 subst e e'
 clear hN2 hPO2 HLV H1 HB1 HI1 hE hll d0 d1 d2 d3 d4 d5 e24 hof
 generalize (decP (s.q.headD (0,[])).2).2=pq at *
 generalize ((decP (s.q.headD (0,[])).2).1==0)=be at *
 obtain⟨pS,pD,pN,pL,pP,pT⟩:=pq
 unfold pkV
 dsimp only
 generalize pP.length=ppn at *
 generalize pT.length=ptn at *
 obtain⟨d0,d1,d2,d3,d4,d5⟩:=qC HB.out
 have c9:w2.cell? ⟨b,9,none⟩=some (.int .i64 i):=H.out.cell 9
 have HN:=qQ (qt H.out)
 by_cases hi:i=0
 ·have i0:((i:Int) != 0)=false:=by simp[hi]
  have hF:=HF.out
  unfold j7 at hF
  rw[if_neg (by simp[hi])] at hF
  have HFF:=qQ hF
  clear hF hi
  go_wp2_with fail
  go_end0
  rw[HFF.out]
  exact⟨_,o2,r2,rfl,H.out,rfl⟩
 ·have i0:((i:Int) != 0)=true:=by simp[hi]
  obtain⟨t,ht2⟩:=qZ (qR s2)
  rw[←ht2] at HN
  have HT:=qQ ht2
  clear ht2
  have HI0:=qQ hi
  clear hi
  go_wp2_with fail
  with_reducible refine HN.out.mono ?_
  rintro en w3 ⟨rfl,g2⟩
  have HG2:=qQ g2
  have H2:=qQ (H.out.kept g2)
  have HB2:=qQ (Chg.keep g2 HB.out (λe=>e))
  clear d0 d1 d2 d3 d4 d5 c9 HN g2 HB H
  obtain⟨d0,d1,d2,d3,d4,d5⟩:=qC HB2.out
  by_cases hto:t=tt
  ·have t2:(t==tt)=true:=by simp[hto]
   have hF:=HF.out
   unfold j7 at hF
   rw[if_pos ⟨HI0.out,by rw[←HT.out,hto]⟩] at hF
   have HFF:=qQ hF
   have HP:=qQ (show s2.p≠none from λe=>by
    have h1:=HT.out
    unfold qR at h1
    rw[e] at h1
    have h2:t=64:=h1
    omega)
   have HFD2:=qQ (HFD.out w3 HG2.out)
   obtain⟨X,hX⟩:=qZ ((zM f.ies 2).getD el0)
   have htk:ticksF f=X.ticks:=by
    rw[hX];unfold ticksF
    cases zM f.ies 2 <;> rfl
   obtain⟨Y,hY⟩:=qZ ((zM f.ies 2).isSome)
   unfold PFind at HFD2
   rw[←hX,←hY] at HFD2
   rw[htk] at HFF
   clear hto hF hX hY htk HFD
   go_wp2_with fail
   with_reducible refine HFD2.out.mono ?_
   rintro en w4 ⟨lv,rfl,hO,hG⟩
   have H3:=qQ (H2.out.kept hG)
   obtain⟨lA,ln,lc,rfl⟩:∃A n c,lv= .slice A n c:=by
    rcases qD hO with ⟨e,_⟩|⟨g,cap,e,_⟩
    ·exact⟨_,_,_,e⟩
    ·exact⟨_,_,_,e⟩
   clear hO hG d0 d1 d2 d3 d4 d5 HB2 H2 HG2 HFD2
   unfold elV
   go_wp2_with fail
   have hgb:=Chg.alloc (λ_=>False) w4 (.cells #[.int .i64 X.kind,.int .i64 X.asn,.int .i64 X.rank,.int .i64 X.ticks,.slice lA ln lc] 172)
   have HHE:=qQ (nhears_any (H3.out.kept hgb) tt rk now X.ticks hn2 hb2 (hk2 HP.out) HP.out hs hm hr ht)
   obtain⟨e0,e1,e2,e3,e4⟩:=zB (qV w4 (.cells #[.int .i64 X.kind,.int .i64 X.asn,.int .i64 X.rank,.int .i64 X.ticks,.slice lA ln lc] 172))
   generalize w4.alloc (.cells #[.int .i64 X.kind,.int .i64 X.asn,.int .i64 X.rank,.int .i64 X.ticks,.slice lA ln lc] 172)=w5 at *
   clear hgb
   go_wp2_with fail
   with_reducible refine HHE.out.mono ?_
   rintro en w6 ⟨v6,o6,r6,rfl,h6,rfl⟩
   have H5:=qQ h6
   clear h6 HHE e0 e1 e2 e3 e4
   go_wp2_with fail
   go_end0
   rw[HFF.out]
   exact⟨_,o6,r6,rfl,H5.out,rfl⟩
  ·have t2:(t==tt)=false:=by simpa using hto
   have hF:=HF.out
   unfold j7 at hF
   rw[if_neg (by rw[←HT.out];exact λh=>hto h.2)] at hF
   have HFF:=qQ hF
   clear hF hto
   go_wp2_with fail
   go_end0
   rw[HFF.out]
   exact⟨_,o2,r2,rfl,H2.out,rfl⟩
end
end Go.Proofs.YtnpihllannobgaaGreatDoor
