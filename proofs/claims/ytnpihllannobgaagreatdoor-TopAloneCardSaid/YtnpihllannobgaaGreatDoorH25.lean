/- Steps of the proof, part H25. No condition. -/
import Derived.Test.YtnpihllannobgaaGreatDoorH21
import Derived.Test.YtnpihllannobgaaGreatDoorH11
import Derived.Test.YtnpihllannobgaaGreatDoorH22
import Derived.Test.YtnpihllannobgaaGreatDoorH23
import Derived.Test.YtnpihllannobgaaGreatDoorH20
import Derived.Deep.DeepCutAuto
import Derived.RegionTactic
namespace Go.Proofs.YtnpihllannobgaaGreatDoor
set_option linter.unusedVariables false
set_option linter.unusedSimpArgs false
set_option maxRecDepth 100000
set_option maxHeartbeats 32000000
open Go.ChangeShapes Go.WideShapes Go.ChangeAt Go.RowKit
def vm(c:Cfg)(i:Nat)(s:NSt)(p:Pk):NSt:=if (upP p i).1≠0 then evN s ⟨5,i,0,2,p⟩ else putN c i s (upP p i).2 64 p
theorem stepP_data{p:Pk}{me:Int}{x:Int×Pk}(h:stepP p me=x)(hp:p.data.length≤100000):x.2.data.length≤100000:=by
 subst h
 unfold stepP
 split
 ·simp[pk0]
 ·split
  ·simp[pk0]
  ·exact hp
theorem upP_len{p:Pk}{me E:Int}{x:Pk}(h:upP p me=(E,x))(hp:p.path.length≤100000)(hd:p.data.length≤100000):x.path.length≤100000∧x.data.length≤100000:=by
 unfold upP at h
 obtain⟨y,hy⟩:∃y,stepP p me=y:=⟨_,rfl⟩
 have a:=stepP_len hy hp
 have b:=stepP_data hy hd
 rw[hy] at h
 dsimp only at h
 split at h
 ·cases h;exact⟨a,b⟩
 ·split at h
  ·cases h;exact⟨a,b⟩
  ·split at h
   ·cases h;simp[pk0]
   ·rename_i h16
    cases h
    exact⟨by simp only[List.length_append,List.length_singleton];omega,b⟩
structure Made(w:World)(a:Nat)(x:Pk)(v1 v2:Value)(W:World):Prop where
 blk:W.heap[a]? =some (.cells #[.int .i64 x.src,.int .i64 x.dst,.int .i64 x.n,.int .i64 x.life,v1,v2] 42 (0,0))
 own:OwnP w W v1 v2 x
 chg:Chg (λ_=>False) w W
theorem OwnP.po{w W:World}{o:Cls}{v1 v2:Value}{x:Pk}(h:OwnP w W v1 v2 x)(z:Z w o):PO W o v1 v2 x:=
 ⟨RV.of_own h.1 (λk hk=>z k hk),BO.of_own h.2.1 h.2.2 (λk hk=>z k hk)⟩
theorem OwnP.down{w w' W:World}{v1 v2:Value}{x:Pk}(h:OwnP w' W v1 v2 x)(hs:w.heap.size≤w'.heap.size):OwnP w W v1 v2 x:=⟨qj h.1 hs,qj h.2.1 hs,h.2.2⟩
theorem OwnP.keep{w W W':World}{v1 v2:Value}{x:Pk}{S:Nat→Prop}(h:OwnP w W v1 v2 x)(g:Chg S W W')(h1:∀k,v1.ownBlock=some k→¬S k)(h2:∀k,v2.ownBlock=some k→¬S k):OwnP w W' v1 v2 x:=⟨qY h.1 g h1,qY h.2.1 g h2,h.2.2⟩
theorem made_fin{w w1 wv W:World}{a4:Nat}{x:Pk}{v1 v2:Value}(g0:Chg (λ_=>False) w w1)(h:OwnP wv W v1 v2 x)(hs:w.heap.size≤wv.heap.size)(g:Chg (λ_=>False) w1 W)
  (kb:W.heap[a4]? =some (.cells #[.int .i64 0,.int .i64 0,.int .i64 0,.int .i64 0,.slice none 0 0,.slice none 0 0] 42 (0,0))) (ha:w1.heap.size≤a4):
  Made w a4 x v1 v2 ((((((W.setCell ⟨a4,0,none⟩ (.int .i64 x.src)).setCell ⟨a4,1,none⟩ (.int .i64 x.dst)).setCell ⟨a4,2,none⟩ (.int .i64 x.n)).setCell ⟨a4,3,none⟩ (.int .i64 x.life)).setCell ⟨a4,4,none⟩ v1).setCell ⟨a4,5,none⟩ v2)∧
  Chg (λ_=>False) w1 ((((((W.setCell ⟨a4,0,none⟩ (.int .i64 x.src)).setCell ⟨a4,1,none⟩ (.int .i64 x.dst)).setCell ⟨a4,2,none⟩ (.int .i64 x.n)).setCell ⟨a4,3,none⟩ (.int .i64 x.life)).setCell ⟨a4,4,none⟩ v1).setCell ⟨a4,5,none⟩ v2):=by
 have gs:=set6 W a4 (.int .i64 x.src) (.int .i64 x.dst) (.int .i64 x.n) (.int .i64 x.life) v1 v2
 have hrow:∀{e v len xs},W.ownsRow wv.heap.size e 1 v len xs→e≠42→∀j,v.ownBlock=some j→¬j=a4:=λ{e v len xs} hr he j hj e2=>by
  rcases hr.2 with ⟨e3,_⟩|⟨g,cap,cur,e3,_,hg,_⟩
  ·rw[e3] at hj;cases hj
  ·rw[e3] at hj;cases hj
   subst e2
   rw[kb] at hg
   cases hg
   exact he rfl
 have G:Chg (λ_=>False) w1 _:=(g.none.trans (gs.mono (λk _ e=>(by have e:k=a4:=e;omega:w1.heap.size≤k)))).fresh
 exact⟨⟨set6b kb _ _ _ _ _ _,(h.keep gs (hrow h.1 (by decide)) (hrow h.2.1 (by decide))).down hs,g0.trans G⟩,G⟩
theorem made_new{w w1 wv W:World}{x:Pk}{v1 v2:Value}(g0:Chg (λ_=>False) w w1)(h:OwnP wv W v1 v2 x)(hs:w.heap.size≤wv.heap.size)(g:Chg (λ_=>False) w1 W):
  Made w W.heap.size x v1 v2 (W.alloc (.cells #[.int .i64 x.src,.int .i64 x.dst,.int .i64 x.n,.int .i64 x.life,v1,v2] 42))∧Chg (λ_=>False) w1 (W.alloc (.cells #[.int .i64 x.src,.int .i64 x.dst,.int .i64 x.n,.int .i64 x.life,v1,v2] 42)):=by
 have ga:=Chg.alloc (λ_=>False) W (.cells #[.int .i64 x.src,.int .i64 x.dst,.int .i64 x.n,.int .i64 x.life,v1,v2] 42)
 exact⟨⟨qV _ _,(h.keep ga (λ_ _ e=>e) (λ_ _ e=>e)).down hs,(g0.trans g).trans ga⟩,g.trans ga⟩
section
variable {w0 w w':World}{o0 o o':Cls}{c:Cfg}{i b:Nat}{s s':NSt}{r r':NR}
theorem nrises_any(h:NAt w0 o0 c i b s w o r)(p:Pk)(lv dv:Value)(hp:PO w o lv dv p)(hL:p.path.length≤100000)(hD:p.data.length≤100000)(hq:s.q.length≤900)(hn:s.ev.length≤1000):
  Calls Tryz.prog 212 #[.pointer (some ⟨b,0,none⟩),pkV p lv dv] w (PN w0 o0 c i b (vm c i s p) (λv _ _=>v= .tuple #[])):=by
 obtain⟨FS,hFS⟩:∃FS,vm c i s p=FS:=⟨_,rfl⟩
 rw[hFS]
 unfold vm at hFS
 obtain⟨x,hx⟩:∃x,upP p i=x:=⟨_,rfl⟩
 rw[hx] at hFS
 obtain⟨E,x⟩:=x
 dsimp only at hFS
 have hxl:x.path.length≤100000∧x.data.length≤100000:=upP_len hx hL hD
 obtain⟨lA,lc,hlv,_⟩:=hp.1
 obtain⟨⟨dA,dc,hdv,_⟩,hDB⟩:=hp.2
 obtain⟨m,hm⟩:=qZ p.path.length
 obtain⟨n,hnn⟩:=qZ p.data.length
 rw[←hm] at hlv
 rw[←hnn] at hdv
 subst hlv hdv
 have HUP:=qQ (show∀W,Chg (λ_=>False) w W→Calls Tryz.prog 255 #[.agg #[.int .i64 p.src,.int .i64 p.dst,.int .i64 p.n,.int .i64 p.life,.slice lA m lc,.slice dA n dc],.int .i64 i] W (PStepP W (E,x)) from λW g=>hx▸pup_any W o p i _ _ (hp.keep g (λ_ _ e=>e)) hL hD)
 have HDROP:=qQ (show∀(W:World) (O:Cls) (R:NR) (s1:NSt),NAt w0 o0 c i b s1 W O R→PO W O (.slice lA m lc) (.slice dA n dc) p→s1.ev.length≤1000→Calls Tryz.prog 69 #[.pointer (some ⟨b,0,none⟩),.agg #[.int .i64 p.src,.int .i64 p.dst,.int .i64 p.n,.int .i64 p.life,.slice lA m lc,.slice dA n dc],.int .i64 2] W (PN w0 o0 c i b (evN s1 ⟨5,i,0,2,p⟩) (λv _ _=>v= .tuple #[])) from
  λW O R s1 h1 h2 h3=>zj h1 p _ _ 2 h2 h3)
 have HPUT:=qQ (show∀(W:World) (O:Cls) (R:NR) (s1:NSt) (v1 v2:Value),NAt w0 o0 c i b s1 W O R→PO W O v1 v2 x→PO W O (.slice lA m lc) (.slice dA n dc) p→s1.q.length≤900→s1.ev.length≤1000→Calls Tryz.prog 254 #[.pointer (some ⟨b,0,none⟩),.agg #[.int .i64 x.src,.int .i64 x.dst,.int .i64 x.n,.int .i64 x.life,v1,v2],.int .i64 64,.agg #[.int .i64 p.src,.int .i64 p.dst,.int .i64 p.n,.int .i64 p.life,.slice lA m lc,.slice dA n dc]] W (PN w0 o0 c i b (putN c i s1 x 64 p) (λv _ _=>v= .tuple #[])) from
  λW O R s1 v1 v2 h1 h2 h3 h4 h5=>nput_any h1 x p 64 _ _ _ _ h2 h3 hxl.1 hxl.2 h4 h5)
 obtain⟨w1,hw1⟩:=qZ (w.alloc (.cells #[.int .i64 p.src,.int .i64 p.dst,.int .i64 p.n,.int .i64 p.life,.slice lA m lc,.slice dA n dc] 42))
 have ga:=Chg.alloc (λ_=>False) w (.cells #[.int .i64 p.src,.int .i64 p.dst,.int .i64 p.n,.int .i64 p.life,.slice lA m lc,.slice dA n dc] 42)
 have ba:=qV w (.cells #[.int .i64 p.src,.int .i64 p.dst,.int .i64 p.n,.int .i64 p.life,.slice lA m lc,.slice dA n dc] 42)
 rw[←hw1] at ba ga
 have HG:=qQ ga
 have HW1:=qQ hw1
 have HBB:=qQ ba
 obtain⟨d0,d1,d2,d3,d4,d5⟩:=qC ba
 have hk:=h.kept ga
 have c9:w1.cell? ⟨b,9,none⟩=some (.int .i64 i):=hk.cell 9
 have H:=qQ h
 have HC:=qQ hp
 have HQ:=qQ (And.intro hq hn)
 have HFS:=qQ hFS
 clear ga ba hw1 hp hL hD hq hn hFS h hm hnn hk hx hxl hDB
 unfold pkV
 go_enter Tryz.func212,Tryz.ntmps212
 go_upto_region 1 with fail
 rw[←HW1.out]
 obtain⟨a,hae⟩:=qZ w.heap.size
 have HAE:=qQ hae
 rw[←hae] at d0 d1 d2 d3 d4 d5 HBB ⊢
 clear HW1 hae
 go_cut [4,5] (λu4 u5 wx=>∃a4 v1 v2,u4= .pointer (some ⟨a4,0,none⟩)∧u5= .int .i64 E∧Made w a4 x v1 v2 wx∧Chg (λ_=>False) w1 wx)
 case first=>
  have za:=Chg.alloc (λ_=>False) w1 (.cells #[.int .i64 0,.int .i64 0,.int .i64 0,.int .i64 0,.slice none 0 0,.slice none 0 0] 42)
  have e0:=qL d0 (.cells #[.int .i64 0,.int .i64 0,.int .i64 0,.int .i64 0,.slice none 0 0,.slice none 0 0] 42)
  have e1:=qL d1 (.cells #[.int .i64 0,.int .i64 0,.int .i64 0,.int .i64 0,.slice none 0 0,.slice none 0 0] 42)
  have e2:=qL d2 (.cells #[.int .i64 0,.int .i64 0,.int .i64 0,.int .i64 0,.slice none 0 0,.slice none 0 0] 42)
  have e3:=qL d3 (.cells #[.int .i64 0,.int .i64 0,.int .i64 0,.int .i64 0,.slice none 0 0,.slice none 0 0] 42)
  have e4:=qL d4 (.cells #[.int .i64 0,.int .i64 0,.int .i64 0,.int .i64 0,.slice none 0 0,.slice none 0 0] 42)
  have e5:=qL d5 (.cells #[.int .i64 0,.int .i64 0,.int .i64 0,.int .i64 0,.slice none 0 0,.slice none 0 0] 42)
  have e9:=qL c9 (.cells #[.int .i64 0,.int .i64 0,.int .i64 0,.int .i64 0,.slice none 0 0,.slice none 0 0] 42)
  go_region_with (first
   |(go_at_call 255;refine (HUP.out (w1.alloc (.cells #[.int .i64 0,.int .i64 0,.int .i64 0,.int .i64 0,.slice none 0 0,.slice none 0 0] 42)).drew (HG.out.trans ((Chg.alloc _ _ _).trans (Chg.drew _ _)))).mono ?_;rintro en wp ⟨v1,v2,rfl,O1,g1⟩
     dsimp only at O1
     obtain⟨A1,n1,c1,rfl⟩:∃A n c,v1= .slice A n c:=by rcases qD O1.1 with ⟨e,_⟩|⟨g,cap,e,_⟩ <;> exact⟨_,_,_,e⟩
     obtain⟨A2,n2,c2,rfl⟩:∃A n c,v2= .slice A n c:=by rcases qD O1.2.1 with ⟨e,_⟩|⟨g,cap,e,_⟩ <;> exact⟨_,_,_,e⟩
     have O1:=qQ O1
     have G1:=qQ (show Chg (λ_=>False) w1 wp from ((Chg.alloc _ _ _).trans (Chg.drew _ _)).trans g1)
     have kb:=Chg.keep g1 (show (w1.alloc (.cells #[.int .i64 0,.int .i64 0,.int .i64 0,.int .i64 0,.slice none 0 0,.slice none 0 0] 42)).drew.heap[w1.heap.size]? =_ from qV w1 (.cells #[.int .i64 0,.int .i64 0,.int .i64 0,.int .i64 0,.slice none 0 0,.slice none 0 0] 42)) (λe=>e)
     have KBH:=qQ kb
     obtain⟨k0,k1,k2,k3,k4,k5⟩:=qC kb
     obtain⟨q0,q1,q2,q3,q4,q5⟩:=zF kb
     clear kb
     unfold pkV
     dsimp only)
   |(go_at_call 255;refine (HUP.out w1.drew (HG.out.trans (Chg.drew _ _))).mono ?_;rintro en wp ⟨v1,v2,rfl,O1,g1⟩
     dsimp only at O1
     obtain⟨A1,n1,c1,rfl⟩:∃A n c,v1= .slice A n c:=by rcases qD O1.1 with ⟨e,_⟩|⟨g,cap,e,_⟩ <;> exact⟨_,_,_,e⟩
     obtain⟨A2,n2,c2,rfl⟩:∃A n c,v2= .slice A n c:=by rcases qD O1.2.1 with ⟨e,_⟩|⟨g,cap,e,_⟩ <;> exact⟨_,_,_,e⟩
     have O1:=qQ O1
     have G1:=qQ (show Chg (λ_=>False) w1 wp from (Chg.drew _ _).trans g1)
     have kb:=qV wp (.cells #[.int .i64 0,.int .i64 0,.int .i64 0,.int .i64 0,.slice none 0 0,.slice none 0 0] 42)
     have KBH:=qQ kb
     obtain⟨k0,k1,k2,k3,k4,k5⟩:=qC kb
     obtain⟨q0,q1,q2,q3,q4,q5⟩:=zF kb
     clear kb
     unfold pkV
     dsimp only))
  all_goals
   go_wp2_with fail
   go_meet
   first
    |(refine⟨w1.heap.size,.slice A1 n1 c1,.slice A2 n2 c2,(by with_reducible rfl),(by with_reducible rfl),?_⟩
      exact made_fin HG.out O1.out (Nat.le_trans HG.out.size (Chg.alloc (λ_=>False) w1 (.cells #[.int .i64 0,.int .i64 0,.int .i64 0,.int .i64 0,.slice none 0 0,.slice none 0 0] 42)).size) G1.out KBH.out (Nat.le_refl _))
    |(refine⟨wp.heap.size,.slice A1 n1 c1,.slice A2 n2 c2,(by with_reducible rfl),(by with_reducible rfl),?_⟩
      exact made_new HG.out O1.out HG.out.size G1.out)
 case rest=>
  obtain⟨a4,v1,v2,rfl,rfl,hM,hG⟩:=hcut
  have hN:=H.out.kept hM.chg
  have hbb:=Chg.keep hG HBB.out (λe=>e)
  have HN:=qQ hN
  have HPC:=qQ (HC.out.keep hM.chg (λ_ _ e=>e))
  have HPX:=qQ (hM.own.po H.out.z |> λk=>k)
  obtain⟨A1,n1,c1,rfl⟩:∃A n c,v1= .slice A n c:=by rcases qD hM.own.1 with ⟨e,_⟩|⟨g,cap,e,_⟩ <;> exact⟨_,_,_,e⟩
  obtain⟨A2,n2,c2,rfl⟩:∃A n c,v2= .slice A n c:=by rcases qD hM.own.2.1 with ⟨e,_⟩|⟨g,cap,e,_⟩ <;> exact⟨_,_,_,e⟩
  clear d0 d1 d2 d3 d4 d5 c9 HUP hN
  obtain⟨d0,d1,d2,d3,d4,d5⟩:=qC hbb
  obtain⟨e0,e1,e2,e3,e4,e5⟩:=qC hM.blk
  clear hM hG hbb
  by_cases hE:E≠0
  ·have i1:(E != 0)=true:=by simpa using hE
   have HF:=qQ (show FS=evN s ⟨5,i,0,2,p⟩ from by rw[←HFS.out,if_pos hE])
   clear hE
   go_wp2_with fail
   (with_reducible refine (HDROP.out _ _ _ _ HN.out HPC.out HQ.out.2).mono ?_)
   rintro en w3 ⟨v3,o3,r3,rfl,hN,rfl⟩
   have HX:=qQ hN
   clear hN d0 d1 d2 d3 d4 d5 e0 e1 e2 e3 e4 e5
   go_wp2_with fail
   go_end0
   exact⟨_,_,_,rfl,by rw[HF.out];exact HX.out,rfl⟩
  ·obtain rfl:E=0:=by simpa using hE
   have HF:=qQ (show FS=putN c i s x 64 p from by rw[←HFS.out,if_neg (by simp)])
   clear hE
   go_wp2_with fail
   (with_reducible refine (HPUT.out _ _ _ _ _ _ HN.out HPX.out HPC.out HQ.out.1 HQ.out.2).mono ?_)
   rintro en w3 ⟨v3,o3,r3,rfl,hN,rfl⟩
   have HX:=qQ hN
   clear hN d0 d1 d2 d3 d4 d5 e0 e1 e2 e3 e4 e5
   go_wp2_with fail
   go_end0
   exact⟨_,_,_,rfl,by rw[HF.out];exact HX.out,rfl⟩
end
section
variable {w0 w w':World}{o0 o o':Cls}{c:Cfg}{i b:Nat}{s s':NSt}{r r':NR}
theorem next_lens(c:Cfg)(i:Nat)(s:NSt)(now:Int)(hh:c.hops.length≤16)(hl:∀p∈s.q,p.2.length≤1000):(vJ c i s now).ies.length≤100000∧(vJ c i s now).data.length≤100000∧∀e∈(vJ c i s now).ies,e.list.length≤100000:=by
 have hE:(syncE i s now).list=[]:=rfl
 have hp:(pktN s).1.length≤1000:=by
  unfold pktN
  cases hq:s.q with
  |nil=>simp
  |cons p t=>
   obtain⟨d,L⟩:=p
   exact hl (d,L) (by rw[hq];simp)
 unfold vJ
 split
 ·refine⟨by simp,by simp only[];omega,λe he=>?_⟩
  simp at he;subst he;rw[hE];simp
 ·split
  ·refine⟨by simp,by simp,λe he=>?_⟩
   simp at he;subst he;rw[hE];simp
  ·refine⟨by simp,by simp,λe he=>?_⟩
   simp at he
   rcases he with rfl|rfl
   ·rw[hE];simp
   ·simp only[];omega
theorem sendAt(h:NAt w0 o0 c i b s w o r)(sq now:Int)(f:Fr)(iA:Option Addr)(il ic:Nat)(dA:Option Addr)(dl dc:Nat):
  NAt w0 o0 c i b {s with seq:=sq,sasn:=now,skind:=f.kind,ssrc:=f.src,sdst:=f.dst,sseq:=f.seq,sopen:=f.kind != 3}
   (((((((((w.setCell ⟨b,15,none⟩ (.int .i64 sq)).setCell ⟨b,23,none⟩ (.int .i64 now)).setCell ⟨b,24,none⟩ (.int .i64 f.kind)).setCell ⟨b,25,none⟩ (.int .i64 f.src)).setCell ⟨b,26,none⟩ (.int .i64 f.dst)).setCell ⟨b,27,none⟩ (.int .i64 f.seq)).setCell ⟨b,28,none⟩ (.slice iA il ic)).setCell ⟨b,29,none⟩ (.slice dA dl dc)).setCell ⟨b,30,none⟩ (.bool (f.kind != 3)))
   o {r with ia:=iA,il:=il,ic:=ic,da:=dA,dl:=dl,dc:=dc}:=by
 have h1:=h.set (s':={s with seq:=sq}) (r':=r) 15 (.int .i64 sq) rfl h.nd.np
 have h2:=h1.set (s':={s with seq:=sq,sasn:=now}) (r':=r) 23 (.int .i64 now) rfl h1.nd.np
 have h3:=h2.set (s':={s with seq:=sq,sasn:=now,skind:=f.kind}) (r':=r) 24 (.int .i64 f.kind) rfl h2.nd.np
 have h4:=h3.set (s':={s with seq:=sq,sasn:=now,skind:=f.kind,ssrc:=f.src}) (r':=r) 25 (.int .i64 f.src) rfl h3.nd.np
 have h5:=h4.set (s':={s with seq:=sq,sasn:=now,skind:=f.kind,ssrc:=f.src,sdst:=f.dst}) (r':=r) 26 (.int .i64 f.dst) rfl h4.nd.np
 have h6:=h5.set (s':={s with seq:=sq,sasn:=now,skind:=f.kind,ssrc:=f.src,sdst:=f.dst,sseq:=f.seq}) (r':=r) 27 (.int .i64 f.seq) rfl h5.nd.np
 have h7:=h6.set (s':={s with seq:=sq,sasn:=now,skind:=f.kind,ssrc:=f.src,sdst:=f.dst,sseq:=f.seq}) (r':={r with ia:=iA,il:=il,ic:=ic}) 28 (.slice iA il ic) rfl h6.nd.np
 have h8:=h7.set (s':={s with seq:=sq,sasn:=now,skind:=f.kind,ssrc:=f.src,sdst:=f.dst,sseq:=f.seq}) (r':={r with ia:=iA,il:=il,ic:=ic,da:=dA,dl:=dl,dc:=dc}) 29 (.slice dA dl dc) rfl h7.nd.np
 exact h8.set (s':={s with seq:=sq,sasn:=now,skind:=f.kind,ssrc:=f.src,sdst:=f.dst,sseq:=f.seq,sopen:=f.kind != 3}) 30 (.bool (f.kind != 3)) rfl h8.nd.np
theorem chg9(W:World)(b:Nat)(v15 v0 v1 v2 v3 v4 v5 v6 v7:Value):
  Chg (· =b) W (((((((((W.setCell ⟨b,15,none⟩ v15).setCell ⟨b,23,none⟩ v0).setCell ⟨b,24,none⟩ v1).setCell ⟨b,25,none⟩ v2).setCell ⟨b,26,none⟩ v3).setCell ⟨b,27,none⟩ v4).setCell ⟨b,28,none⟩ v5).setCell ⟨b,29,none⟩ v6).setCell ⟨b,30,none⟩ v7):=
 ((((((((chg1 _ _ _ _).trans (chg1 _ _ _ _)).trans (chg1 _ _ _ _)).trans (chg1 _ _ _ _)).trans (chg1 _ _ _ _)).trans (chg1 _ _ _ _)).trans (chg1 _ _ _ _)).trans (chg1 _ _ _ _)).trans (chg1 _ _ _ _)
theorem nplan_send(hc:CfgOk c)(h:NAt w0 o0 c i b s w o r)(now:Int)(h0:0≤now)(h1:now<1099511627776)(hs:s.synced=true)(heq:now % (c.nodes:Int)=i)(hp:i≠0→s.p≠none)(hk:qR s≠64→s.k≠none)
  (hq:s.q.length≤1000) (hl:∀p∈s.q,p.2.length≤1000) (hsq:0≤s.seq∧s.seq≤255):
  Calls Tryz.prog 32 #[.pointer (some ⟨b,0,none⟩),.int .i64 now] w (PPlan w0 o0 c i b (zS c i s now)):=by
 have HA:=qQ (λw=>jB now h0 h1 w)
 have c18:w.cell? ⟨b,18,none⟩=some (.bool true):=by rw[←hs];exact h.cell 18
 have c2:w.cell? ⟨b,2,none⟩=some r.hv:=h.cell 2
 have HC:=qQ (show∀W,Chg (λ_=>False) w W→W.cell? ⟨b,0,none⟩=some (.int .i64 c.nodes)∧W.cell? ⟨b,9,none⟩=some (.int .i64 i) from λW g=>⟨(h.kept g).cell 0,(h.kept g).cell 9⟩)
 have H:=qQ h
 obtain⟨A,cap,hv,hro,hA,hcap,hmx⟩:=h.nd.np.2.1
 have hn0:=hc.n0
 have hn1:=hc.n1
 have HN:=qQ (λW (g:Chg (λ_=>False) w W)=>nnext_any (h.kept g) now (λ_=>hp) hk hq hl)
 obtain⟨m,hm⟩:∃m:Int,m=now % (c.nodes:Int):=⟨_,rfl⟩
 have e1:now.tmod (c.nodes:Int)=m:=by rw[hm];exact Int.tmod_eq_emod_of_nonneg h0
 have e2:IntKind.i64.wrap m=m:=IntWalk.i64_in _ (by rw[hm];have:=Int.emod_nonneg now (show (c.nodes:Int)≠0 by omega);have:=Int.emod_lt_of_pos now (show (0:Int)<c.nodes by omega);omega)
 have e4:¬c.nodes=0:=by omega
 have e5:(m != (i:Int))=false:=by rw[hm,heq];simp
 obtain⟨sq,hsqe⟩:∃x,x=(s.seq+1) % 256:=⟨_,rfl⟩
 have e6:IntKind.i64.wrap (s.seq+1)=s.seq+1:=IntWalk.i64_in _ (by omega)
 have e7:(s.seq+1).tmod 256=sq:=by rw[hsqe];exact Int.tmod_eq_emod_of_nonneg (by omega)
 have e8:IntKind.i64.wrap sq=sq:=IntWalk.i64_in _ (by omega)
 obtain⟨f,hf⟩:=qZ (vJ c i s now)
 have hlen:=next_lens c i s now hc.hops.2.2.2 hl
 rw[←hf] at HN hlen
 have HL:=qQ hlen
 obtain⟨P,hP⟩:=qZ (zS c i s now)
 have hP2:P=(sendN s f now,chanOf c.hops now,encO f):=by
  rw[hP];unfold zS chanN;rw[hs,decide_eq_true heq,hf];rfl
 rw[←hP]
 have HP:=qQ hP2
 have HCH:=qQ (channel_any w A c.hops.length cap c.hops now (show Ro VI w o A _ c.hops from hro).rs hA hcap hmx hc.hops h0 h1)
 obtain⟨hl,hhl⟩:∃n,n=c.hops.length:=⟨_,rfl⟩
 rw[hv] at c2
 rw[←hhl] at c2 HCH
 obtain⟨ca,hca⟩:∃x,x=chanOf c.hops now:=⟨_,rfl⟩
 rw[←hca] at HCH HP
 have HSQ:=qQ hsqe
 clear h hro hP hP2 hm hhl hca heq hlen hf hsqe
 go_enter Tryz.func32,Tryz.ntmps32
 go_wp2_with fail
 (with_reducible refine (HA.out _).mono ?_)
 rintro en w1 ⟨rfl,rfl⟩
 go_wp2_with fail
 with_reducible refine HCH.out.mono ?_
 rintro en w2 ⟨rfl,hG⟩
 obtain⟨c0,c9⟩:=HC.out _ hG
 have HG2:=qQ hG
 clear hG c2 c18 HC HCH
 go_wp2_with fail
 obtain⟨I,F1,hI,hF1,hFA⟩:=clsF w2
 have k1:=qF hF1 c0
 have k2:=qF hF1 c9
 have HFF:=qQ hF1
 have HFA:=qQ (hFA _ (Chg.drew _ _))
 clear hF1 hFA c0 c9
 with_reducible refine qW F1 (by kernel_rfl) (by kernel_rfl) HFA.out ?_
 repeat ((with_reducible refine wpQuiet_step (λK hK=>?_));go_simp;(try (rw[if_neg];rotate_left;(intro h;cases h)));(with_reducible refine hK _ ?_);clear hK K)
 with_reducible refine wpQuiet_nil ?_
 intro _ hw'
 obtain⟨nq,rfl⟩:=hw'
 have HG3:=qQ (HG2.out.trans (HFF.out nq))
 have HN3:=qQ (HN.out _ HG3.out)
 clear k1 k2 HFF HFA hI HN HG2
 generalize F1 nq=w3 at *
 go_wp2_with fail
 with_reducible refine HN3.out.mono ?_
 rintro en w4 ⟨iv,dv,rfl,hI4,hD4,hG4⟩
 obtain⟨iA,ic,hiv⟩:=hI4.val
 obtain⟨⟨dA,dc,hdv,_⟩,_⟩:=id hD4
 obtain⟨il,hil⟩:∃n,n=f.ies.length:=⟨_,rfl⟩
 obtain⟨dl,hdl⟩:∃n,n=f.data.length:=⟨_,rfl⟩
 rw[←hil] at hiv
 rw[←hdl] at hdv
 subst hiv hdv
 have ga:=Chg.alloc (λ_=>False) w4 (.cells #[.int .i64 f.kind,.int .i64 f.src,.int .i64 f.dst,.int .i64 f.seq,.slice iA il ic,.slice dA dl dc] 71)
 have HB5:=qQ (qV w4 (.cells #[.int .i64 f.kind,.int .i64 f.src,.int .i64 f.dst,.int .i64 f.seq,.slice iA il ic,.slice dA dl dc] 71))
 have HG5:=qQ ((HG3.out.trans hG4).trans ga)
 have HZ:=qQ H.out.z
 have hfs:w1.heap.size≤w4.heap.size:=(HG3.out.trans hG4).size
 have HE:=qQ (fencode_any _ o (HZ.out.more HG5.out.size) f (.slice iA il ic) (.slice dA dl dc) (hI4.keep ga (λ_ _ e=>e)) (hD4.keep ga (λ_ _ e=>e)) HL.out.1 HL.out.2.1 HL.out.2.2)
 unfold frV at HE
 have HDB:=qQ hD4.2
 clear hil hdl hI4 hD4 hG4 HN3 ga HG3
 unfold frV
 go_wp2_with fail
 generalize w4.alloc (.cells #[.int .i64 f.kind,.int .i64 f.src,.int .i64 f.dst,.int .i64 f.seq,.slice iA il ic,.slice dA dl dc] 71)=w5 at *
 obtain⟨fb,hfb⟩:∃x,x=w4.heap.size:=⟨_,rfl⟩
 rw[←hfb] at HB5 hfs ⊢
 have HFS:=qQ hfs
 clear hfb hfs
 have HE2:=qQ (HE.out.mono (R':=λen w'=>∃y er,en= .returned (.tuple #[y,.int .i64 er])∧BO w' o y (encO f)∧Chg (λ_=>False) w5 w') (λen w' hpe=>by
  rcases hpe with ⟨hm1,y,he,hown,gq⟩|⟨hm1,he,gq⟩
  ·refine⟨y,0,he,?_,gq⟩
   unfold encO
   rw[if_pos hm1]
   exact BO.of_own hown (encF_byte f hm1 HDB.out) (λk hk=>HZ.out k (Nat.le_trans HG5.out.size hk))
  ·refine⟨_,1,he,?_,gq⟩
   unfold encO
   rw[if_neg (by simp[hm1])]
   exact BO.nil _ _))
 clear HE
 with_reducible refine HE2.out.mono ?_
 rintro en w6 ⟨y,er,rfl,hy,hG6⟩
 have H6:=qQ (H.out.kept (HG5.out.trans hG6))
 have hb6:=Chg.keep hG6 HB5.out (λe=>e)
 obtain⟨d0,d1,d2,d3,d4,d5⟩:=qC hb6
 have c15:w6.cell? ⟨b,15,none⟩=some (.int .i64 s.seq):=H6.out.cell 15
 have f15:=H6.out.f 15
 have c23:w6.cell? ⟨b,23,none⟩=some (.int .i64 s.sasn):=H6.out.cell 23
 have f23:=H6.out.f 23
 have c24:w6.cell? ⟨b,24,none⟩=some (.int .i64 s.skind):=H6.out.cell 24
 have f24:=H6.out.f 24
 have c25:w6.cell? ⟨b,25,none⟩=some (.int .i64 s.ssrc):=H6.out.cell 25
 have f25:=H6.out.f 25
 have c26:w6.cell? ⟨b,26,none⟩=some (.int .i64 s.sdst):=H6.out.cell 26
 have f26:=H6.out.f 26
 have c27:w6.cell? ⟨b,27,none⟩=some (.int .i64 s.sseq):=H6.out.cell 27
 have f27:=H6.out.f 27
 have c28:w6.cell? ⟨b,28,none⟩=some (.slice r.ia r.il r.ic):=H6.out.cell 28
 have f28:=H6.out.f 28
 have c29:w6.cell? ⟨b,29,none⟩=some (.slice r.da r.dl r.dc):=H6.out.cell 29
 have f29:=H6.out.f 29
 have c30:w6.cell? ⟨b,30,none⟩=some (.bool s.sopen):=H6.out.cell 30
 have f30:=H6.out.f 30
 have hne:¬fb=b:=by have:=qX H.out.nd.blk;have:=HFS.out;omega
 have hne2:¬b=fb:=λe=>hne e.symm
 have HY:=qQ hy
 clear hb6 hG6 hy HE2
 go_wp2_with fail
 have h7:=sendAt H6.out sq now f iA il ic dA dl dc
 have hch:=chg9 w6 b (.int .i64 sq) (.int .i64 now) (.int .i64 f.kind) (.int .i64 f.src) (.int .i64 f.dst) (.int .i64 f.seq) (.slice iA il ic) (.slice dA dl dc) (.bool (f.kind != 3))
 have H7:=qQ (And.intro h7 (HY.out.keep hch (λj hj e=>by have e:j=b:=e;subst e;rw[H6.out.nd.ob] at hj;exact qP i 0 hj)))
 clear hch h7
 go_ret2
 have he:sendN s f now= {s with seq:=sq,sasn:=now,skind:=f.kind,ssrc:=f.src,sdst:=f.dst,sseq:=f.seq,sopen:=f.kind != 3}:=by rw[HSQ.out];rfl
 rw[HP.out,he]
 exact⟨_,o,{r with ia:=iA,il:=il,ic:=ic,da:=dA,dl:=dl,dc:=dc},rfl,H7.out.1,y,rfl,H7.out.2⟩
end
end Go.Proofs.YtnpihllannobgaaGreatDoor
