/- Steps of the proof, part H22. No condition. -/
import Derived.Test.YtnpihllannobgaaGreatDoorH19
import Derived.Deep.RegionHeld3
namespace Go.Proofs.YtnpihllannobgaaGreatDoor
set_option linter.unusedVariables false
set_option linter.unusedSimpArgs false
set_option maxRecDepth 100000
set_option maxHeartbeats 32000000
open Go.ChangeShapes Go.WideShapes Go.ChangeAt Go.RowKit
def PFr(w:World)(o:Cls)(f:Fr)(en:Ending)(w':World):Prop:=
 ∃iv dv,en= .returned (frV f iv dv)∧IeO w' o iv f.ies∧BO w' o dv f.data∧Chg (λ_=>False) w w'
theorem getc(x0 x1 x2 x3 x4:Value)(t:TypeId)(w:World)(g:Nat)(h:w.heap[g]? =some (.cells #[x0,x1,x2,x3,x4] t (0,0))):
  w.ownsRow 0 t 5 (.slice (some ⟨g,0,none⟩) 1 1) 1 [x0,x1,x2,x3,x4]:=
 ⟨rfl,.inr ⟨g,1,_,rfl,Nat.zero_le _,h,Nat.le_refl _,by decide,rfl,rfl⟩⟩
theorem IeO.one{w:World}{o:Cls}{g:Nat}{e:El}{lv:Value}(h:w.ownsRow 0 172 5 (.slice (some ⟨g,0,none⟩) 1 1) 1 [.int .i64 e.kind,.int .i64 e.asn,.int .i64 e.rank,.int .i64 e.ticks,lv])(ho:o g=0)(hl:RV VI w o lv e.list):
  IeO w o (.slice (some ⟨g,0,none⟩) 1 1) [e]:=by
 refine .inr ⟨g,1,rfl,ho,Nat.le_refl _,by decide,(qg h (j:=g) rfl).2,λi hi=>?_⟩
 have:i=0:=by simp at hi;omega
 subst this
 exact⟨lv,⟨qM h 0 _ rfl,qM h 1 _ rfl,qM h 2 _ rfl,qM h 3 _ rfl,qM h 4 _ rfl⟩,hl⟩
theorem IeO.two{w:World}{o:Cls}{g cap base:Nat}{e f:El}{lv mv:Value}
  (h:w.ownsRow base 172 5 (.slice (some ⟨g,0,none⟩) 2 cap) 2 [.int .i64 e.kind,.int .i64 e.asn,.int .i64 e.rank,.int .i64 e.ticks,lv,.int .i64 f.kind,.int .i64 f.asn,.int .i64 f.rank,.int .i64 f.ticks,mv])
  (ho:o g=0) (hl:RV VI w o lv e.list) (hm:RV VI w o mv f.list):IeO w o (.slice (some ⟨g,0,none⟩) 2 cap) [e,f]:=by
 rcases qD h with ⟨e1,_⟩|⟨g2,c2,e1,hb,hg,hc,hmx⟩
 ·cases e1
 ·cases e1
  refine .inr ⟨g,cap,rfl,ho,hc,hmx,hg,λi hi=>?_⟩
  have:i=0∨i=1:=by simp at hi;omega
  rcases this with rfl|rfl
  ·exact⟨lv,⟨qM h 0 _ rfl,qM h 1 _ rfl,qM h 2 _ rfl,qM h 3 _ rfl,qM h 4 _ rfl⟩,hl⟩
  ·exact⟨mv,⟨qM h 5 _ rfl,qM h 6 _ rfl,qM h 7 _ rfl,qM h 8 _ rfl,qM h 9 _ rfl⟩,hm⟩
section
variable {w0 w w':World}{o0 o o':Cls}{c:Cfg}{i b:Nat}{s s':NSt}{r r':NR}
theorem RV.weak{V:Int→Value}{v:Value}{L:List Int}(h:RV V w o' v L)(e:∀j,o' j=0→o j=0):RV V w o v L:=by
 obtain⟨A,cp,h1,h2,h3⟩:=h
 exact⟨A,cp,h1,⟨h2.1,λi hi=>by obtain⟨x,k1,k2,k3⟩:=h2.2 i hi;exact⟨x,k1,e _ k2,k3⟩⟩,h3⟩
theorem BO.weak{v:Value}{L:List Int}(h:BO w o' v L)(e:∀j,o' j=0→o j=0):BO w o v L:=⟨h.1.weak e,h.2⟩
theorem block6{W:World}{b:Nat}{t:TypeId}{z0 z1 z2 z3 z4 z5:Value}(h:W.heap[b]? =some (.cells #[z0,z1,z2,z3,z4,z5] t (0,0))) (v0 v1 v2 v3 v4 v5:Value):
  ((((((W.setCell ⟨b,0,none⟩ v0).setCell ⟨b,1,none⟩ v1).setCell ⟨b,2,none⟩ v2).setCell ⟨b,3,none⟩ v3).setCell ⟨b,4,none⟩ v4).setCell ⟨b,5,none⟩ v5).heap[b]? =some (.cells #[v0,v1,v2,v3,v4,v5] t (0,0)):=
 qB (qB (qB (qB (qB (qB h 0 v0) 1 v1) 2 v2) 3 v3) 4 v4) 5 v5
theorem PFr.fin{f:Fr}{iv dv:Value}(hC:Chg (λk=>w.heap.size≤k) w w')(hi:IeO w' o iv f.ies)(hd:BO w' o dv f.data):PFr w o f (.returned (frV f iv dv)) w':=⟨iv,dv,rfl,hi,hd,hC.fresh⟩
def apart(o:Cls)(x y:Nat):Cls:=cls (cls o x 100000) y 100000
theorem apart_0{o:Cls}{x y j:Nat}(h:apart o x y j=0):o j=0∧j≠x∧j≠y:=by
 unfold apart cls at h
 by_cases h1:j=y
 ·simp[h1] at h
 ·by_cases h2:j=x
  ·rw[if_neg h1,if_pos h2] at h;omega
  ·simp[h1,h2] at h;exact⟨h,h2,h1⟩
theorem NAt.apart(h:NAt w0 o0 c i b s w o r)(g:Chg (λ_=>False) w w'){x y:Nat}(hx:w.heap.size≤x)(hy:w.heap.size≤y)(hx2:x<w'.heap.size)(hy2:y<w'.heap.size):NAt w0 o0 c i b s w' (apart o x y) r:=by
 have e:Ext w o (Go.Proofs.YtnpihllannobgaaGreatDoor.apart o x y):=λk hk=>by
  unfold Go.Proofs.YtnpihllannobgaaGreatDoor.apart cls
  rw[if_neg (by omega),if_neg (by omega)]
 refine h.next (h.nd.step e g (λ_ _ e=>e) (λ_ _ e=>e)) (λk hk=>?_) e g.none
 unfold Go.Proofs.YtnpihllannobgaaGreatDoor.apart cls
 rw[if_neg (by omega),if_neg (by omega)]
 exact h.z k (by have:=g.size;omega)
def NMid(w wx:World)(rb i:Nat)(q:Int)(E:El)(t5:Value):Prop:=
 ∃fb g,t5= .pointer (some ⟨fb,0,none⟩)∧rb<fb∧rb<g∧g≠fb∧wx.heap[fb]? =some (.cells #[.int .i64 0,.int .i64 i,.int .i64 0,.int .i64 q,.slice (some ⟨g,0,none⟩) 1 1,.slice none 0 0] 71 (0,0))∧
  wx.heap[g]? =some (.cells #[.int .i64 E.kind,.int .i64 E.asn,.int .i64 E.rank,.int .i64 E.ticks,.slice none 0 0] 172 (0,0))∧wx.heap[rb]? =some (.cells #[.int .i64 0,.int .i64 0,.int .i64 0,.int .i64 0,.slice none 0 0,.slice none 0 0] 71 (0,0))∧Chg (λk=>rb≤k) w wx
section
variable {w wp w1:World}{rb i:Nat}{q:Int}{E:El}
theorem NMid.oa(hz:wp.heap[rb]? =some (.cells #[.int .i64 0,.int .i64 0,.int .i64 0,.int .i64 0,.slice none 0 0,.slice none 0 0] 71 (0,0))) (hC:Chg (λk=>rb≤k) w wp):
  NMid w ((wp.alloc (.cells #[.int .i64 E.kind,.int .i64 E.asn,.int .i64 E.rank,.int .i64 E.ticks,.slice none 0 0] 172)).alloc (.cells #[.int .i64 0,.int .i64 i,.int .i64 0,.int .i64 q,.slice (some ⟨wp.heap.size,0,none⟩) 1 1,.slice none 0 0] 71)) rb i q E (.pointer (some ⟨wp.heap.size+1,0,none⟩)):=by
 have hl:=qX hz
 have e:(wp.alloc (.cells #[.int .i64 E.kind,.int .i64 E.asn,.int .i64 E.rank,.int .i64 E.ticks,.slice none 0 0] 172)).heap.size=wp.heap.size+1:=by simp
 have h1:=qV (wp.alloc (.cells #[.int .i64 E.kind,.int .i64 E.asn,.int .i64 E.rank,.int .i64 E.ticks,.slice none 0 0] 172)) (.cells #[.int .i64 0,.int .i64 i,.int .i64 0,.int .i64 q,.slice (some ⟨wp.heap.size,0,none⟩) 1 1,.slice none 0 0] 71)
 rw[e] at h1
 have ga:=Chg.alloc (λ_=>False) wp (.cells #[.int .i64 E.kind,.int .i64 E.asn,.int .i64 E.rank,.int .i64 E.ticks,.slice none 0 0] 172)
 have gb:=Chg.alloc (λ_=>False) (wp.alloc (.cells #[.int .i64 E.kind,.int .i64 E.asn,.int .i64 E.rank,.int .i64 E.ticks,.slice none 0 0] 172)) (.cells #[.int .i64 0,.int .i64 i,.int .i64 0,.int .i64 q,.slice (some ⟨wp.heap.size,0,none⟩) 1 1,.slice none 0 0] 71)
 exact⟨_,wp.heap.size,rfl,by omega,by omega,by omega,h1,Chg.keep gb (qV wp (.cells #[.int .i64 E.kind,.int .i64 E.asn,.int .i64 E.rank,.int .i64 E.ticks,.slice none 0 0] 172)) (λe=>e),Chg.keep (ga.trans gb) hz (λe=>e),hC.trans (ga.trans gb).none⟩
theorem NMid.ob(hz:wp.heap[rb]? =some (.cells #[.int .i64 0,.int .i64 0,.int .i64 0,.int .i64 0,.slice none 0 0,.slice none 0 0] 71 (0,0))) (hC:Chg (λk=>rb≤k) w wp):
  NMid w ((wp.alloc (.cells #[.int .i64 0,.int .i64 i,.int .i64 0,.int .i64 q,.slice (some ⟨wp.heap.size+1,0,none⟩) 1 1,.slice none 0 0] 71)).alloc (.cells #[.int .i64 E.kind,.int .i64 E.asn,.int .i64 E.rank,.int .i64 E.ticks,.slice none 0 0] 172)) rb i q E (.pointer (some ⟨wp.heap.size,0,none⟩)):=by
 have hl:=qX hz
 have e:(wp.alloc (.cells #[.int .i64 0,.int .i64 i,.int .i64 0,.int .i64 q,.slice (some ⟨wp.heap.size+1,0,none⟩) 1 1,.slice none 0 0] 71)).heap.size=wp.heap.size+1:=by simp
 have h1:=qV (wp.alloc (.cells #[.int .i64 0,.int .i64 i,.int .i64 0,.int .i64 q,.slice (some ⟨wp.heap.size+1,0,none⟩) 1 1,.slice none 0 0] 71)) (.cells #[.int .i64 E.kind,.int .i64 E.asn,.int .i64 E.rank,.int .i64 E.ticks,.slice none 0 0] 172)
 rw[e] at h1
 have ga:=Chg.alloc (λ_=>False) wp (.cells #[.int .i64 0,.int .i64 i,.int .i64 0,.int .i64 q,.slice (some ⟨wp.heap.size+1,0,none⟩) 1 1,.slice none 0 0] 71)
 have gb:=Chg.alloc (λ_=>False) (wp.alloc (.cells #[.int .i64 0,.int .i64 i,.int .i64 0,.int .i64 q,.slice (some ⟨wp.heap.size+1,0,none⟩) 1 1,.slice none 0 0] 71)) (.cells #[.int .i64 E.kind,.int .i64 E.asn,.int .i64 E.rank,.int .i64 E.ticks,.slice none 0 0] 172)
 exact⟨_,wp.heap.size+1,rfl,by omega,by omega,by omega,Chg.keep gb (qV wp (.cells #[.int .i64 0,.int .i64 i,.int .i64 0,.int .i64 q,.slice (some ⟨wp.heap.size+1,0,none⟩) 1 1,.slice none 0 0] 71)) (λe=>e),h1,Chg.keep (ga.trans gb) hz (λe=>e),hC.trans (ga.trans gb).none⟩
theorem NMid.oc{fb:Nat}(hz:wp.heap[rb]? =some (.cells #[.int .i64 0,.int .i64 0,.int .i64 0,.int .i64 0,.slice none 0 0,.slice none 0 0] 71 (0,0))) (hC:Chg (λk=>rb≤k) w wp) (hf:wp.heap[fb]? =some (.cells #[.int .i64 0,.int .i64 0,.int .i64 0,.int .i64 0,.slice none 0 0,.slice none 0 0] 71 (0,0))) (hl:rb<fb):
  NMid w (((((((wp.alloc (.cells #[.int .i64 E.kind,.int .i64 E.asn,.int .i64 E.rank,.int .i64 E.ticks,.slice none 0 0] 172)).setCell ⟨fb,0,none⟩ (.int .i64 0)).setCell ⟨fb,1,none⟩ (.int .i64 i)).setCell ⟨fb,2,none⟩ (.int .i64 0)).setCell ⟨fb,3,none⟩ (.int .i64 q)).setCell ⟨fb,4,none⟩ (.slice (some ⟨wp.heap.size,0,none⟩) 1 1)).setCell ⟨fb,5,none⟩ (.slice none 0 0)) rb i q E (.pointer (some ⟨fb,0,none⟩)):=by
 have hlf:=qX hf
 have ga:=Chg.alloc (λ_=>False) wp (.cells #[.int .i64 E.kind,.int .i64 E.asn,.int .i64 E.rank,.int .i64 E.ticks,.slice none 0 0] 172)
 have gb:=set6 (wp.alloc (.cells #[.int .i64 E.kind,.int .i64 E.asn,.int .i64 E.rank,.int .i64 E.ticks,.slice none 0 0] 172)) fb (.int .i64 0) (.int .i64 i) (.int .i64 0) (.int .i64 q) (.slice (some ⟨wp.heap.size,0,none⟩) 1 1) (.slice none 0 0)
 have h1:=block6 (Chg.keep ga hf (λe=>e)) (.int .i64 0) (.int .i64 i) (.int .i64 0) (.int .i64 q) (.slice (some ⟨wp.heap.size,0,none⟩) 1 1) (.slice none 0 0)
 exact⟨_,wp.heap.size,rfl,hl,by omega,by omega,h1,Chg.keep gb (qV wp (.cells #[.int .i64 E.kind,.int .i64 E.asn,.int .i64 E.rank,.int .i64 E.ticks,.slice none 0 0] 172)) (by omega),Chg.keep gb (Chg.keep ga hz (λe=>e)) (by omega),(hC.trans ga.none).trans (gb.mono (λk _ e=>by omega))⟩
end
theorem nnext_any(h:NAt w0 o0 c i b s w o r)(now:Int)(hp:s.synced=true→i≠0→s.p≠none)(hk:qR s≠64→s.k≠none)(hq:s.q.length≤1000)(hl:∀p∈s.q,p.2.length≤1000):
  Calls Tryz.prog 59 #[.pointer (some ⟨b,0,none⟩),.int .i64 now] w (PFr w o (vJ c i s now)):=by
 have HS:=qQ (λW (g:Chg (λk=>w.heap.size≤k) w W)=>nsync_any (h.kept g.fresh) now hp)
 have HP:=qQ (λW (g:Chg (λk=>w.heap.size≤k) w W) x y hx hy hx2 hy2=>npacket_any (h.apart (x:=x) (y:=y) g.fresh hx hy hx2 hy2) hq hl)
 have HF:=qQ (λW (g:Chg (λk=>w.heap.size≤k) w W)=>qt (h.kept g.fresh))
 have HC:=qQ (show∀W,Chg (λk=>w.heap.size≤k) w W→W.cell? ⟨b,9,none⟩=some (.int .i64 i)∧W.cell? ⟨b,15,none⟩=some (.int .i64 s.seq)∧W.cell? ⟨b,20,none⟩=some r.kv∧W.cell? ⟨b,2,none⟩=some r.hv from
  λW g=>⟨(h.kept g.fresh).cell 9,(h.kept g.fresh).cell 15,(h.kept g.fresh).cell 20,(h.kept g.fresh).cell 2⟩)
 have HZ:=qQ h.z
 have HK:=qQ h.nd.np.2.2.2.2.2.2.2.2.1
 have HH:=qQ h.nd.np.2.1
 obtain⟨E,hE⟩:=qZ (syncE i s now)
 obtain⟨R,hR⟩:=qZ (vJ c i s now)
 rw[←hE] at HS
 unfold elV at HS
 rw[←hR]
 unfold vJ at hR
 rw[←hE] at hR
 have HR:=qQ hR
 have HEL:=qQ (show E.list=[] by rw[hE];rfl)
 clear h hE hR
 go_enter Tryz.func59,Tryz.ntmps59
 go_wp2_with fail
 have hga:=Chg.alloc (λk=>w.heap.size≤k) w (.cells #[.int .i64 0,.int .i64 0,.int .i64 0,.int .i64 0,.slice none 0 0,.slice none 0 0] 71)
 have hb0:=qV w (.cells #[.int .i64 0,.int .i64 0,.int .i64 0,.int .i64 0,.slice none 0 0,.slice none 0 0] 71)
 generalize hW1:w.alloc (.cells #[.int .i64 0,.int .i64 0,.int .i64 0,.int .i64 0,.slice none 0 0,.slice none 0 0] 71)=w1 at *
 obtain⟨rb,hrb⟩:=qZ w.heap.size
 rw[←hrb] at hb0 hga HS HP HF HC ⊢
 have hlt1:rb<w1.heap.size:=by rw[hrb,←hW1];simp
 have HB0:=qQ (And.intro hb0 hlt1)
 have HG:=qQ hga
 have HRB:=qQ hrb
 obtain⟨c9,c15,c20,c2⟩:=HC.out _ hga
 clear hga hb0 hW1 hrb hlt1
 go_cut [5] (λt5 wx=>NMid w wx rb i s.seq E t5)
 case first=>
  have hz1:=Chg.alloc (λk=>rb≤k) w1 (.cells #[.int .i64 0,.int .i64 0,.int .i64 0,.int .i64 0,.slice none 0 0,.slice none 0 0] 71)
  have HGA:=qQ ((HG.out.trans hz1).trans (Chg.drew _ _))
  have hz2:=qV w1 (.cells #[.int .i64 0,.int .i64 0,.int .i64 0,.int .i64 0,.slice none 0 0,.slice none 0 0] 71)
  have HZ2:=qQ (show∀W,Chg (λ_=>False) (w1.alloc (.cells #[.int .i64 0,.int .i64 0,.int .i64 0,.int .i64 0,.slice none 0 0,.slice none 0 0] 71)).drew W→W.heap[w1.heap.size]? =some (.cells #[.int .i64 0,.int .i64 0,.int .i64 0,.int .i64 0,.slice none 0 0,.slice none 0 0] 71 (0,0)) from
   λW g=>Chg.keep (S:=λ_=>False) g (show (w1.alloc (.cells #[.int .i64 0,.int .i64 0,.int .i64 0,.int .i64 0,.slice none 0 0,.slice none 0 0] 71)).drew.heap[w1.heap.size]? =_ from hz2) (λe=>e))
  have nn1:=World.new_ne w1 _ c9
  have nn2:=World.new_ne w1 _ c15
  have HZA:=qQ (show∀W,Chg (λ_=>False) w1.drew W→W.heap[rb]? =some (Obj.cells #[.int .i64 0,.int .i64 0,.int .i64 0,.int .i64 0,.slice none 0 0,.slice none 0 0] 71 (0,0)) from λW g=>Chg.keep (S:=λ_=>False) g (show w1.drew.heap[rb]? =some (Obj.cells #[.int .i64 0,.int .i64 0,.int .i64 0,.int .i64 0,.slice none 0 0,.slice none 0 0] 71 (0,0)) from HB0.out.1) (λe=>e))
  have HZB:=qQ (show∀W,Chg (λ_=>False) (w1.alloc (.cells #[.int .i64 0,.int .i64 0,.int .i64 0,.int .i64 0,.slice none 0 0,.slice none 0 0] 71)).drew W→W.heap[rb]? =some (Obj.cells #[.int .i64 0,.int .i64 0,.int .i64 0,.int .i64 0,.slice none 0 0,.slice none 0 0] 71 (0,0)) from
   λW g=>Chg.keep (S:=λ_=>False) g (show (w1.alloc (.cells #[.int .i64 0,.int .i64 0,.int .i64 0,.int .i64 0,.slice none 0 0,.slice none 0 0] 71)).drew.heap[rb]? =some (Obj.cells #[.int .i64 0,.int .i64 0,.int .i64 0,.int .i64 0,.slice none 0 0,.slice none 0 0] 71 (0,0)) from Chg.keep (S:=λ_=>False) ((Chg.alloc (λ_=>False) w1 (.cells #[.int .i64 0,.int .i64 0,.int .i64 0,.int .i64 0,.slice none 0 0,.slice none 0 0] 71)).trans (Chg.drew _ _)) HB0.out.1 (λe=>e)) (λe=>e))
  clear hz1 hz2
  have ⟨c9z,c15z,_,_⟩:=HC.out _ (HG.out.trans (Chg.alloc _ w1 (.cells #[.int .i64 0,.int .i64 0,.int .i64 0,.int .i64 0,.slice none 0 0,.slice none 0 0] 71)))
  go_region_with
   (first
   |(go_at_call 95;refine (HS.out _ (HG.out.trans (Chg.drew _ w1))).mono ?_;rintro en wp ⟨rfl,gp⟩
     have HGW:=qQ ((HG.out.trans (Chg.drew _ w1)).trans gp.none)
     have HZR:=qQ (HZA.out _ gp)
     have ⟨c9a,c15a,_,_⟩:=HC.out _ (HGW.out)
     have ⟨c9b,c15b,_,_⟩:=HC.out _ (HGW.out.trans (Chg.alloc _ wp (.cells #[.int .i64 E.kind,.int .i64 E.asn,.int .i64 E.rank,.int .i64 E.ticks,.slice none 0 0] 172)))
     have ⟨c9c,c15c,_,_⟩:=HC.out _ (HGW.out.trans (Chg.alloc _ wp (.cells #[.int .i64 0,.int .i64 0,.int .i64 0,.int .i64 0,.slice none 0 0,.slice none 0 0] 71)))
     have ⟨c9d,c15d,_,_⟩:=HC.out _ ((HGW.out.trans (Chg.alloc _ wp (.cells #[.int .i64 E.kind,.int .i64 E.asn,.int .i64 E.rank,.int .i64 E.ticks,.slice none 0 0] 172))).trans (Chg.alloc _ _ (.cells #[.int .i64 0,.int .i64 0,.int .i64 0,.int .i64 0,.slice none 0 0,.slice none 0 0] 71)))
     have ⟨c9e,c15e,_,_⟩:=HC.out _ ((HGW.out.trans (Chg.alloc _ wp (.cells #[.int .i64 0,.int .i64 0,.int .i64 0,.int .i64 0,.slice none 0 0,.slice none 0 0] 71))).trans (Chg.alloc _ _ (.cells #[.int .i64 E.kind,.int .i64 E.asn,.int .i64 E.rank,.int .i64 E.ticks,.slice none 0 0] 172)))
     have zb:=Chg.keep (Chg.alloc (λ_=>False) (wp.alloc (.cells #[.int .i64 0,.int .i64 0,.int .i64 0,.int .i64 0,.slice none 0 0,.slice none 0 0] 71)) (.cells #[.int .i64 E.kind,.int .i64 E.asn,.int .i64 E.rank,.int .i64 E.ticks,.slice none 0 0] 172)) (qV wp (.cells #[.int .i64 0,.int .i64 0,.int .i64 0,.int .i64 0,.slice none 0 0,.slice none 0 0] 71)) (λe=>e)
     obtain⟨z0,z1,z2,z3,z4,z5⟩:=qC zb
     have zf0:=qK zb 0
     have zf1:=qK zb 1
     have zf2:=qK zb 2
     have zf3:=qK zb 3
     have zf4:=qK zb 4
     have zf5:=qK zb 5)
   |(go_at_call 95;refine (HS.out _ HGA.out).mono ?_;rintro en wp ⟨rfl,gp⟩
     have HGW:=qQ (HGA.out.trans gp.none)
     have HZR:=qQ (HZB.out _ gp)
     have HZF:=qQ (HZ2.out _ gp)
     have ⟨c9a,c15a,_,_⟩:=HC.out _ (HGW.out)
     have ⟨c9b,c15b,_,_⟩:=HC.out _ (HGW.out.trans (Chg.alloc _ wp (.cells #[.int .i64 E.kind,.int .i64 E.asn,.int .i64 E.rank,.int .i64 E.ticks,.slice none 0 0] 172)))
     have zb:=Chg.keep (Chg.alloc (λ_=>False) wp (.cells #[.int .i64 E.kind,.int .i64 E.asn,.int .i64 E.rank,.int .i64 E.ticks,.slice none 0 0] 172)) (HZ2.out _ gp) (λe=>e)
     obtain⟨z0,z1,z2,z3,z4,z5⟩:=qC zb
     have zf0:=qK zb 0
     have zf1:=qK zb 1
     have zf2:=qK zb 2
     have zf3:=qK zb 3
     have zf4:=qK zb 4
     have zf5:=qK zb 5))
  all_goals
   go_wp2_with fail
   go_meet
   first
    |with_reducible exact NMid.oa HZR.out HGW.out
    |with_reducible exact NMid.ob HZR.out HGW.out
    |with_reducible exact NMid.oc HZR.out HGW.out HZF.out HB0.out.2
 case rest=>
  obtain⟨fb,g,rfl,hfb,hg,hgf,hF1,hG1,hR1,hC1⟩:=hcut
  have HPK:=qQ (HP.out _ hC1 fb rb (Nat.le_of_lt hfb) (Nat.le_refl _) (qX hF1) (qX hR1))
  have HBK:=qQ (show∀W,Chg (λ_=>False) wc W→W.heap[fb]? =some (.cells #[.int .i64 0,.int .i64 i,.int .i64 0,.int .i64 s.seq,.slice (some ⟨g,0,none⟩) 1 1,.slice none 0 0] 71 (0,0))∧
    W.heap[g]? =some (.cells #[.int .i64 E.kind,.int .i64 E.asn,.int .i64 E.rank,.int .i64 E.ticks,.slice none 0 0] 172 (0,0))∧W.heap[rb]? =some (.cells #[.int .i64 0,.int .i64 0,.int .i64 0,.int .i64 0,.slice none 0 0,.slice none 0 0] 71 (0,0))∧Chg (λk=>rb≤k) w W from
   λW g=>⟨Chg.keep g hF1 (λe=>e),Chg.keep g hG1 (λe=>e),Chg.keep g hR1 (λe=>e),hC1.trans g.none⟩)
  clear hF1 hG1 hR1 hC1 HS HP HG HB0 c9 c15 c20 c2
  have hrf:¬rb=fb:=by omega
  have hfr:¬fb=rb:=by omega
  obtain⟨⟨pL,pt,pb⟩,hpk⟩:∃p,p=pktN s:=⟨_,rfl⟩
  rw[←hpk] at HPK HR
  unfold PPkt at HPK
  dsimp only at HPK HR
  have HPQ:=qQ hpk
  clear hpk
  go_wp2_with fail
  with_reducible refine HPK.out.mono ?_
  rintro en w2 ⟨v,rfl,hBO,hG2⟩
  obtain⟨hF2,hg2,hR2,hC2⟩:=HBK.out _ hG2
  have HX2:=qQ (And.intro hBO (And.intro hG2 (And.intro hg2 hC2)))
  have HKF:=qQ (And.intro hF2 hR2)
  obtain⟨k0,k1,k2,k3,k4,k5⟩:=qC hF2
  obtain⟨r0,r1,r2,r3,r4,r5⟩:=qC hR2
  have kf:=qK hF2
  have rf:=qK hR2
  clear hBO hG2 hg2 hC2 HPK hF2 hR2
  cases pb with
  |true=>
   have hv:=HX2.out.1
   obtain⟨⟨vA,vc,rfl,_⟩,_⟩:=hv
   obtain⟨vn,hvn⟩:∃n,n=pL.length:=⟨_,rfl⟩
   rw[←hvn] at HX2 ⊢
   have HVN:=qQ hvn
   clear hvn
   go_wp2_with fail
   have hWA:Chg (λk=>k=fb) w2 (((w2.setCell ⟨fb,0,none⟩ (.int .i64 1)).setCell ⟨fb,2,none⟩ (.int .i64 pt)).setCell ⟨fb,5,none⟩ (.slice vA vn vc)):=((chg1 _ _ _ _).trans (chg1 _ _ _ _)).trans (chg1 _ _ _ _)
   have hR:=HR.out
   rw[if_pos trivial] at hR
   generalize (((w2.setCell ⟨fb,0,none⟩ (.int .i64 1)).setCell ⟨fb,2,none⟩ (.int .i64 pt)).setCell ⟨fb,5,none⟩ (.slice vA vn vc))=wA at *
   have hB6:=block6 (Chg.keep hWA HKF.out.2 hrf) (.int .i64 1) (.int .i64 i) (.int .i64 pt) (.int .i64 s.seq) (.slice (some ⟨g,0,none⟩) 1 1) (.slice vA vn vc)
   have hG6:=set6 wA rb (.int .i64 1) (.int .i64 i) (.int .i64 pt) (.int .i64 s.seq) (.slice (some ⟨g,0,none⟩) 1 1) (.slice vA vn vc)
   generalize ((((((wA.setCell ⟨rb,0,none⟩ (.int .i64 1)).setCell ⟨rb,1,none⟩ (.int .i64 i)).setCell ⟨rb,2,none⟩ (.int .i64 pt)).setCell ⟨rb,3,none⟩ (.int .i64 s.seq)).setCell ⟨rb,4,none⟩ (.slice (some ⟨g,0,none⟩) 1 1)).setCell ⟨rb,5,none⟩ (.slice vA vn vc))=wF at *
   obtain⟨q0,q1,q2,q3,q4,q5⟩:=qC hB6
   have hG:Chg (λk=>k=fb∨k=rb) w2 wF:=(hWA.mono (λk _ e=>(.inl e:k=fb∨k=rb))).trans (hG6.mono (λk _ e=> .inr e))
   obtain⟨x1,x2,x3,x4⟩:=HX2.out
   refine bodyPost_ret (v:=frV R (.slice (some ⟨g,0,none⟩) 1 1) (.slice vA vn vc)) (by rw[hR];simp[results,Tryz.results59,go_sem,q0,q1,q2,q3,q4,q5];rfl) rfl ?_
   refine PFr.fin ?_ ?_ ?_
   ·rw[←HRB.out]
    exact x4.trans (hG.mono (λk _ e=>by omega))
   ·rw[hR]
    exact IeO.one (getc _ _ _ _ _ _ _ _ (Chg.keep hG x3 (by omega))) (HZ.out _ (by rw[←HRB.out];omega)) (by rw[HEL.out];exact RV.nil _ _ _)
   ·rw[hR]
    exact (x1.keep hG (λj hj hs=>by have:=apart_0 hj;omega)).weak (λj hj=>(apart_0 hj).1)
  |false=>
   clear k0 k1 k2 k3 k4 k5 r0 r1 r2 r3 r4 r5 kf rf
   obtain⟨x1,x2,x3,x4⟩:=HX2.out
   have HFS:=qQ (HF.out w2 x4)
   obtain⟨t,ht⟩:=qZ (qR s)
   rw[←ht] at HFS HR hk
   have HX2:=qQ x2
   clear x1 x2 x3 x4 ht HF
   go_wp2_with fail
   with_reducible refine HFS.out.mono ?_
   rintro en w3 ⟨rfl,hG3⟩
   have HG3:=qQ (HX2.out.trans hG3)
   clear hG3 HFS HX2 HKF
   by_cases hbe:t≠64∧dueN c s=true
   ·obtain⟨ht,hdu⟩:=hbe
    have t1:(t != 64)=true:=by simpa using ht
    obtain⟨x,hx⟩:=Option.ne_none_iff_exists'.1 (hk ht)
    have hko:=HK.out
    rw[hx] at hko
    obtain⟨kb,hkv,hkp,hko⟩:=hko
    obtain⟨hF3,hg3,hR3,hC3⟩:=HBK.out _ HG3.out
    obtain⟨_,_,c20,_⟩:=HC.out _ hC3
    rw[hkv] at c20
    have hdu2:decide (c.keep≤x)=true:=by unfold dueN at hdu;rw[hx] at hdu;exact hdu
    have HD:=qQ (kpdue_any w3 kb c.keep x true (hkp.kept (by rw[HRB.out] at hC3;exact hC3.fresh)) hdu2)
    have hR:=HR.out
    rw[if_neg (by simp),if_pos ⟨ht,hdu⟩] at hR
    have HRR:=qQ hR
    clear hF3 hg3 hR3 hC3 hkp hko hR HR hdu
    go_wp2_with fail
    with_reducible refine HD.out.mono ?_
    rintro en w4 ⟨rfl,hG4⟩
    obtain⟨hF4,hg4,hR4,hC4⟩:=HBK.out _ (HG3.out.trans hG4)
    have HX4:=qQ (And.intro hg4 (And.intro hC4 hR4))
    obtain⟨k0,k1,k2,k3,k4,k5⟩:=qC hF4
    obtain⟨r0,r1,r2,r3,r4,r5⟩:=qC hR4
    have kf:=qK hF4
    have rf:=qK hR4
    have HKF:=qQ hF4
    clear hF4 hg4 hR4 hC4 hG4
    go_wp2_with fail
    have hWA:Chg (λk=>k=fb) w4 ((w4.setCell ⟨fb,0,none⟩ (.int .i64 4)).setCell ⟨fb,2,none⟩ (.int .i64 t)):=(chg1 _ _ _ _).trans (chg1 _ _ _ _)
    have hR:=HRR.out
    generalize ((w4.setCell ⟨fb,0,none⟩ (.int .i64 4)).setCell ⟨fb,2,none⟩ (.int .i64 t))=wA at *
    have hB6:=block6 (Chg.keep hWA HX4.out.2.2 hrf) (.int .i64 4) (.int .i64 i) (.int .i64 t) (.int .i64 s.seq) (.slice (some ⟨g,0,none⟩) 1 1) (.slice none 0 0)
    have hG6:=set6 wA rb (.int .i64 4) (.int .i64 i) (.int .i64 t) (.int .i64 s.seq) (.slice (some ⟨g,0,none⟩) 1 1) (.slice none 0 0)
    generalize ((((((wA.setCell ⟨rb,0,none⟩ (.int .i64 4)).setCell ⟨rb,1,none⟩ (.int .i64 i)).setCell ⟨rb,2,none⟩ (.int .i64 t)).setCell ⟨rb,3,none⟩ (.int .i64 s.seq)).setCell ⟨rb,4,none⟩ (.slice (some ⟨g,0,none⟩) 1 1)).setCell ⟨rb,5,none⟩ (.slice none 0 0))=wF at *
    obtain⟨q0,q1,q2,q3,q4,q5⟩:=qC hB6
    have hG:Chg (λk=>k=fb∨k=rb) w4 wF:=(hWA.mono (λk _ e=>(.inl e:k=fb∨k=rb))).trans (hG6.mono (λk _ e=> .inr e))
    obtain⟨x3,x4,x5⟩:=HX4.out
    refine bodyPost_ret (v:=frV R (.slice (some ⟨g,0,none⟩) 1 1) (.slice none 0 0)) (by rw[hR];simp[results,Tryz.results59,go_sem,q0,q1,q2,q3,q4,q5];rfl) rfl ?_
    refine PFr.fin ?_ ?_ ?_
    ·rw[←HRB.out]
     exact x4.trans (hG.mono (λk _ e=>by omega))
    ·rw[hR]
     exact IeO.one (getc _ _ _ _ _ _ _ _ (Chg.keep hG x3 (by omega))) (HZ.out _ (by rw[←HRB.out];omega)) (by rw[HEL.out];exact RV.nil _ _ _)
    ·rw[hR]
     exact BO.nil _ _
   ·have hR:=HR.out
    rw[if_neg (by simp),if_neg hbe] at hR
    have HRR:=qQ hR
    obtain⟨hA,hcap,hhv⟩:=HH.out
    obtain⟨hhv,_⟩:=hhv
    obtain⟨hn,hhn⟩:∃n,n=c.hops.length:=⟨_,rfl⟩
    rw[←hhn] at hhv
    have HHV:=qQ (And.intro hhv hhn)
    have HCB:=qQ (show∀W,Chg (λk=>rb≤k) w W→W.cell? ⟨b,2,none⟩=some (.slice hA hn hcap) from λW g=>by rw[←hhv];exact (HC.out W g).2.2.2)
    clear hR HR hhv hhn
    by_cases ht:t=64
    ·have t1:(t != 64)=false:=by simpa using ht
     have HX5:=qQ HG3.out
     clear ht hbe HG3 HC
     obtain⟨hF4,hg4,hR4,hC4⟩:=HBK.out _ HX5.out
     obtain⟨k0,k1,k2,k3,k4,k5⟩:=qC hF4
     have kf:=qK hF4
     clear hF4 hg4 hR4 hC4
     go_wp2_with fail
     generalize w3=w5 at *
     obtain⟨hF5,hg5,hR5,hC5⟩:=HBK.out _ HX5.out
     have hWA:Chg (λk=>k=fb) w5 ((w5.setCell ⟨fb,0,none⟩ (.int .i64 3)).setCell ⟨fb,2,none⟩ (.int .i64 64)):=(chg1 _ _ _ _).trans (chg1 _ _ _ _)
     have hF6:((w5.setCell ⟨fb,0,none⟩ (.int .i64 3)).setCell ⟨fb,2,none⟩ (.int .i64 64)).heap[fb]? =some (.cells #[.int .i64 3,.int .i64 i,.int .i64 64,.int .i64 s.seq,.slice (some ⟨g,0,none⟩) 1 1,.slice none 0 0] 71 (0,0)):=qB (qB hF5 0 _) 2 _
     have hg6:=Chg.keep hWA hg5 hgf
     have hR6:=Chg.keep hWA hR5 hrf
     have hC6:Chg (λk=>rb≤k) w ((w5.setCell ⟨fb,0,none⟩ (.int .i64 3)).setCell ⟨fb,2,none⟩ (.int .i64 64)):=hC5.trans (hWA.mono (λk _ e=>by omega))
     clear k0 k1 k2 k3 k4 k5 kf hF5 hg5 hR5 hC5 hWA HX5
     generalize ((w5.setCell ⟨fb,0,none⟩ (.int .i64 3)).setCell ⟨fb,2,none⟩ (.int .i64 64))=w6 at *
     have c2:=HCB.out _ hC6
     have k4:w6.cell? ⟨fb,4,none⟩=some (.slice (some ⟨g,0,none⟩) 1 1):=by rw[qJ hF6];rfl
     have c2a:=qL c2 ((.cells #[.int .i64 3,.int .i64 0,.int .i64 0,.int .i64 0,.slice hA hn hcap] 172))
     have k4a:=qL k4 ((.cells #[.int .i64 3,.int .i64 0,.int .i64 0,.int .i64 0,.slice hA hn hcap] 172))
     have HF6:=qQ (And.intro hF6 (And.intro hg6 (And.intro hR6 hC6)))
     obtain⟨ei,z,i1,i2,i3,i4,i5,i6⟩:=ElE.2
     have HEI:=qQ (And.intro i1 (And.intro i2 (And.intro i3 (And.intro i4 (And.intro i5 i6)))))
     have HROW:=qQ (qY (getc _ _ _ _ _ _ _ _ hg6) ((Chg.alloc (λ_=>False) w6 (.cells #[.int .i64 3,.int .i64 0,.int .i64 0,.int .i64 0,.slice hA hn hcap] 172)).trans (Chg.drew _ _)) (λ_ _ e=>e))
     have HONE:=qQ (show∀u∈[Value.int .i64 3,.int .i64 0,.int .i64 0,.int .i64 0,.slice hA hn hcap],u.oneCell'=true by intro u hu;simp at hu;rcases hu with rfl|rfl|rfl <;> rfl)
     clear i1 i2 i3 i4 i5 i6 hF6 hg6 hR6 hC6
     go_region_law
      ((
       refine step_append_lies (P:=Tryz.prog) _ (by rfl) (.tmp 54) (.tmp 61) 69 (by rfl) 0 172 ei z 5 56 ElE.1 HEI.out.1 HEI.out.2.1 HEI.out.2.2.1 HEI.out.2.2.2.1 HEI.out.2.2.2.2.1 HEI.out.2.2.2.2.2 (.slice (some ⟨g,0,none⟩) 1 1) 1 [.int .i64 E.kind,.int .i64 E.asn,.int .i64 E.rank,.int .i64 E.ticks,.slice none 0 0] rfl HROW.out ⟨w6.heap.size,0,none⟩ 1 1 [.int .i64 3,.int .i64 0,.int .i64 0,.int .i64 0,.slice hA hn hcap] rfl rfl (World.news_of_block (w:=(w6.alloc (.cells #[.int .i64 3,.int .i64 0,.int .i64 0,.int .i64 0,.slice hA hn hcap] 172)).drew) (qV w6 (.cells #[.int .i64 3,.int .i64 0,.int .i64 0,.int .i64 0,.slice hA hn hcap] 172))) HONE.out (by omega) (by decide) (by decide) (Nat.zero_le _) (w6.heap.size+1) (by simp) ?_
       intro g5 cap5 w7 hown5 hgr5 hat5 hlt5
       have G7:Chg (λk=>k=g) w6 w7:=((Chg.alloc _ w6 (.cells #[.int .i64 3,.int .i64 0,.int .i64 0,.int .i64 0,.slice hA hn hcap] 172)).trans (Chg.drew _ _)).trans (qH hgr5 (λj e=>by cases e;rfl))
       have hF7:=Chg.keep G7 HF6.out.1 (Ne.symm hgf)
       have hR7:=Chg.keep G7 HF6.out.2.2.1 (by omega)
       obtain⟨k0,k1,k2,k3,k4,k5⟩:=qC hF7
       obtain⟨r0,r1,r2,r3,r4,r5⟩:=qC hR7
       have kf:=qK hF7
       have rf:=qK hR7
       have HF7:=qQ (And.intro hF7 (And.intro hR7 (And.intro G7 (And.intro hown5 (And.intro hat5 hlt5)))))
       clear hF7 hR7 G7 hown5 hgr5 hat5 hlt5))
     all_goals
      go_wp2_with fail
      have hWA:Chg (λk=>k=fb) w7 (w7.setCell ⟨fb,4,none⟩ (.slice (some ⟨g5,0,none⟩) 2 cap5)):=chg1 _ _ _ _
      have hR:=HRR.out
      obtain⟨y1,y2,y3,y4,y5,y6⟩:=HF7.out
      obtain⟨z1,z2,z3,z4⟩:=HF6.out
      generalize (w7.setCell ⟨fb,4,none⟩ (.slice (some ⟨g5,0,none⟩) 2 cap5))=wA at *
      have hB6:=block6 (Chg.keep hWA y2 hrf) (.int .i64 3) (.int .i64 i) (.int .i64 64) (.int .i64 s.seq) (.slice (some ⟨g5,0,none⟩) 2 cap5) (.slice none 0 0)
      have hG6:=set6 wA rb (.int .i64 3) (.int .i64 i) (.int .i64 64) (.int .i64 s.seq) (.slice (some ⟨g5,0,none⟩) 2 cap5) (.slice none 0 0)
      generalize ((((((wA.setCell ⟨rb,0,none⟩ (.int .i64 3)).setCell ⟨rb,1,none⟩ (.int .i64 i)).setCell ⟨rb,2,none⟩ (.int .i64 64)).setCell ⟨rb,3,none⟩ (.int .i64 s.seq)).setCell ⟨rb,4,none⟩ (.slice (some ⟨g5,0,none⟩) 2 cap5)).setCell ⟨rb,5,none⟩ (.slice none 0 0))=wF at *
      obtain⟨q0,q1,q2,q3,q4,q5⟩:=qC hB6
      have hG:Chg (λk=>k=fb∨k=rb) w7 wF:=(hWA.mono (λk _ e=>(.inl e:k=fb∨k=rb))).trans (hG6.mono (λk _ e=> .inr e))
      have hCF:Chg (λk=>rb≤k) w wF:=(z4.trans (y3.mono (λk _ e=>by omega))).trans (hG.mono (λk _ e=>by omega))
      have l1:=qX z1
      have l2:=qX z3
      have g5a:rb<g5∧g5≠fb:=by
       rcases y5 with e|e
       ·cases e;exact⟨hg,hgf⟩
       ·omega
      refine bodyPost_ret (v:=frV R (.slice (some ⟨g5,0,none⟩) 2 cap5) (.slice none 0 0)) (by rw[hR];simp[results,Tryz.results59,go_sem,q0,q1,q2,q3,q4,q5];rfl) rfl ?_
      have hhv:RV VI w o (.slice hA hn hcap) c.hops:=by rw[←HHV.out.1];exact HH.out
      rw[HRB.out] at hCF
      refine PFr.fin hCF ?_ ?_
      ·rw[hR]
       exact IeO.two (f:=⟨3,0,0,0,c.hops⟩) (qY y4 hG (λk hk e=>by cases hk;exact (show¬(g5=fb∨g5=rb) by omega) e)) (HZ.out _ (by rw[←HRB.out];omega)) (by rw[HEL.out];exact RV.nil _ _ _) (hhv.keep hCF.fresh (λ_ _ e=>e))
      ·rw[hR]
       exact BO.nil _ _
    ·have t1:(t != 64)=true:=by simpa using ht
     have hdu:dueN c s=false:=by
      cases hh:dueN c s with
      |false=>rfl
      |true=>exact absurd ⟨ht,hh⟩ hbe
     obtain⟨x,hx⟩:=Option.ne_none_iff_exists'.1 (hk ht)
     have hko:=HK.out
     rw[hx] at hko
     obtain⟨kb,hkv,hkp,hko⟩:=hko
     obtain⟨hF3,hg3,hR3,hC3⟩:=HBK.out _ HG3.out
     obtain⟨_,_,c20,_⟩:=HC.out _ hC3
     rw[hkv] at c20
     have hdu2:decide (c.keep≤x)=false:=by unfold dueN at hdu;rw[hx] at hdu;exact hdu
     have HD:=qQ (kpdue_any w3 kb c.keep x false (hkp.kept (by rw[HRB.out] at hC3;exact hC3.fresh)) hdu2)
     clear hF3 hg3 hR3 hC3 hkp hko hdu hbe HC
     go_wp2_with fail
     with_reducible refine HD.out.mono ?_
     rintro en w5 ⟨rfl,hG4⟩
     have HX5:=qQ (HG3.out.trans hG4)
     obtain⟨hF4,hg4,hR4,hC4⟩:=HBK.out _ HX5.out
     obtain⟨k0,k1,k2,k3,k4,k5⟩:=qC hF4
     have kf:=qK hF4
     clear hF4 hg4 hR4 hC4 hG4 HG3 ht
     go_wp2_with fail
     obtain⟨hF5,hg5,hR5,hC5⟩:=HBK.out _ HX5.out
     have hWA:Chg (λk=>k=fb) w5 ((w5.setCell ⟨fb,0,none⟩ (.int .i64 3)).setCell ⟨fb,2,none⟩ (.int .i64 64)):=(chg1 _ _ _ _).trans (chg1 _ _ _ _)
     have hF6:((w5.setCell ⟨fb,0,none⟩ (.int .i64 3)).setCell ⟨fb,2,none⟩ (.int .i64 64)).heap[fb]? =some (.cells #[.int .i64 3,.int .i64 i,.int .i64 64,.int .i64 s.seq,.slice (some ⟨g,0,none⟩) 1 1,.slice none 0 0] 71 (0,0)):=qB (qB hF5 0 _) 2 _
     have hg6:=Chg.keep hWA hg5 hgf
     have hR6:=Chg.keep hWA hR5 hrf
     have hC6:Chg (λk=>rb≤k) w ((w5.setCell ⟨fb,0,none⟩ (.int .i64 3)).setCell ⟨fb,2,none⟩ (.int .i64 64)):=hC5.trans (hWA.mono (λk _ e=>by omega))
     clear k0 k1 k2 k3 k4 k5 kf hF5 hg5 hR5 hC5 hWA HX5
     generalize ((w5.setCell ⟨fb,0,none⟩ (.int .i64 3)).setCell ⟨fb,2,none⟩ (.int .i64 64))=w6 at *
     have c2:=HCB.out _ hC6
     have k4:w6.cell? ⟨fb,4,none⟩=some (.slice (some ⟨g,0,none⟩) 1 1):=by rw[qJ hF6];rfl
     have c2a:=qL c2 ((.cells #[.int .i64 3,.int .i64 0,.int .i64 0,.int .i64 0,.slice hA hn hcap] 172))
     have k4a:=qL k4 ((.cells #[.int .i64 3,.int .i64 0,.int .i64 0,.int .i64 0,.slice hA hn hcap] 172))
     have HF6:=qQ (And.intro hF6 (And.intro hg6 (And.intro hR6 hC6)))
     obtain⟨ei,z,i1,i2,i3,i4,i5,i6⟩:=ElE.2
     have HEI:=qQ (And.intro i1 (And.intro i2 (And.intro i3 (And.intro i4 (And.intro i5 i6)))))
     have HROW:=qQ (qY (getc _ _ _ _ _ _ _ _ hg6) ((Chg.alloc (λ_=>False) w6 (.cells #[.int .i64 3,.int .i64 0,.int .i64 0,.int .i64 0,.slice hA hn hcap] 172)).trans (Chg.drew _ _)) (λ_ _ e=>e))
     have HONE:=qQ (show∀u∈[Value.int .i64 3,.int .i64 0,.int .i64 0,.int .i64 0,.slice hA hn hcap],u.oneCell'=true by intro u hu;simp at hu;rcases hu with rfl|rfl|rfl <;> rfl)
     clear i1 i2 i3 i4 i5 i6 hF6 hg6 hR6 hC6
     go_region_law
      ((
       refine step_append_lies (P:=Tryz.prog) _ (by rfl) (.tmp 54) (.tmp 61) 69 (by rfl) 0 172 ei z 5 56 ElE.1 HEI.out.1 HEI.out.2.1 HEI.out.2.2.1 HEI.out.2.2.2.1 HEI.out.2.2.2.2.1 HEI.out.2.2.2.2.2 (.slice (some ⟨g,0,none⟩) 1 1) 1 [.int .i64 E.kind,.int .i64 E.asn,.int .i64 E.rank,.int .i64 E.ticks,.slice none 0 0] rfl HROW.out ⟨w6.heap.size,0,none⟩ 1 1 [.int .i64 3,.int .i64 0,.int .i64 0,.int .i64 0,.slice hA hn hcap] rfl rfl (World.news_of_block (w:=(w6.alloc (.cells #[.int .i64 3,.int .i64 0,.int .i64 0,.int .i64 0,.slice hA hn hcap] 172)).drew) (qV w6 (.cells #[.int .i64 3,.int .i64 0,.int .i64 0,.int .i64 0,.slice hA hn hcap] 172))) HONE.out (by omega) (by decide) (by decide) (Nat.zero_le _) (w6.heap.size+1) (by simp) ?_
       intro g5 cap5 w7 hown5 hgr5 hat5 hlt5
       have G7:Chg (λk=>k=g) w6 w7:=((Chg.alloc _ w6 (.cells #[.int .i64 3,.int .i64 0,.int .i64 0,.int .i64 0,.slice hA hn hcap] 172)).trans (Chg.drew _ _)).trans (qH hgr5 (λj e=>by cases e;rfl))
       have hF7:=Chg.keep G7 HF6.out.1 (Ne.symm hgf)
       have hR7:=Chg.keep G7 HF6.out.2.2.1 (by omega)
       obtain⟨k0,k1,k2,k3,k4,k5⟩:=qC hF7
       obtain⟨r0,r1,r2,r3,r4,r5⟩:=qC hR7
       have kf:=qK hF7
       have rf:=qK hR7
       have HF7:=qQ (And.intro hF7 (And.intro hR7 (And.intro G7 (And.intro hown5 (And.intro hat5 hlt5)))))
       clear hF7 hR7 G7 hown5 hgr5 hat5 hlt5))
     all_goals
      go_wp2_with fail
      have hWA:Chg (λk=>k=fb) w7 (w7.setCell ⟨fb,4,none⟩ (.slice (some ⟨g5,0,none⟩) 2 cap5)):=chg1 _ _ _ _
      have hR:=HRR.out
      obtain⟨y1,y2,y3,y4,y5,y6⟩:=HF7.out
      obtain⟨z1,z2,z3,z4⟩:=HF6.out
      generalize (w7.setCell ⟨fb,4,none⟩ (.slice (some ⟨g5,0,none⟩) 2 cap5))=wA at *
      have hB6:=block6 (Chg.keep hWA y2 hrf) (.int .i64 3) (.int .i64 i) (.int .i64 64) (.int .i64 s.seq) (.slice (some ⟨g5,0,none⟩) 2 cap5) (.slice none 0 0)
      have hG6:=set6 wA rb (.int .i64 3) (.int .i64 i) (.int .i64 64) (.int .i64 s.seq) (.slice (some ⟨g5,0,none⟩) 2 cap5) (.slice none 0 0)
      generalize ((((((wA.setCell ⟨rb,0,none⟩ (.int .i64 3)).setCell ⟨rb,1,none⟩ (.int .i64 i)).setCell ⟨rb,2,none⟩ (.int .i64 64)).setCell ⟨rb,3,none⟩ (.int .i64 s.seq)).setCell ⟨rb,4,none⟩ (.slice (some ⟨g5,0,none⟩) 2 cap5)).setCell ⟨rb,5,none⟩ (.slice none 0 0))=wF at *
      obtain⟨q0,q1,q2,q3,q4,q5⟩:=qC hB6
      have hG:Chg (λk=>k=fb∨k=rb) w7 wF:=(hWA.mono (λk _ e=>(.inl e:k=fb∨k=rb))).trans (hG6.mono (λk _ e=> .inr e))
      have hCF:Chg (λk=>rb≤k) w wF:=(z4.trans (y3.mono (λk _ e=>by omega))).trans (hG.mono (λk _ e=>by omega))
      have l1:=qX z1
      have l2:=qX z3
      have g5a:rb<g5∧g5≠fb:=by
       rcases y5 with e|e
       ·cases e;exact⟨hg,hgf⟩
       ·omega
      refine bodyPost_ret (v:=frV R (.slice (some ⟨g5,0,none⟩) 2 cap5) (.slice none 0 0)) (by rw[hR];simp[results,Tryz.results59,go_sem,q0,q1,q2,q3,q4,q5];rfl) rfl ?_
      have hhv:RV VI w o (.slice hA hn hcap) c.hops:=by rw[←HHV.out.1];exact HH.out
      rw[HRB.out] at hCF
      refine PFr.fin hCF ?_ ?_
      ·rw[hR]
       exact IeO.two (f:=⟨3,0,0,0,c.hops⟩) (qY y4 hG (λk hk e=>by cases hk;exact (show¬(g5=fb∨g5=rb) by omega) e)) (HZ.out _ (by rw[←HRB.out];omega)) (by rw[HEL.out];exact RV.nil _ _ _) (hhv.keep hCF.fresh (λ_ _ e=>e))
      ·rw[hR]
       exact BO.nil _ _
end
end Go.Proofs.YtnpihllannobgaaGreatDoor
