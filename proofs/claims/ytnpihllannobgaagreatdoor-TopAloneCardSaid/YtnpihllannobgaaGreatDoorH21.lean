/- Steps of the proof, part H21. No condition. -/
import Derived.Test.YtnpihllannobgaaGreatDoorH19
import Derived.Test.YtnpihllannobgaaGreatDoorH17
import Derived.Test.YtnpihllannobgaaGreatDoorH11
import Derived.Test.YtnpihllannobgaaGreatDoorH09
import Derived.Deep.DeepCutAuto
import Derived.RegionTactic
namespace Go.Proofs.YtnpihllannobgaaGreatDoor
set_option linter.unusedVariables false
set_option linter.unusedSimpArgs false
set_option maxRecDepth 100000
set_option maxHeartbeats 32000000
open Go.ChangeShapes Go.WideShapes Go.ChangeAt Go.RowKit
theorem ElQ:ElS 164 213 2 32:=ElS.of (z:= .agg #[.int .i64 0,.slice none 0 0]) (by kernel_rfl) (by kernel_rfl) (by decide+kernel) (by decide)
def PQFull(w:World)(b:Nat)(most:Int)(v:Value)(ps:List QE)(en:Ending)(w':World):Prop:=
 en= .returned (.bool false)∧∃lost',0≤lost'∧lost'≤1000000∧Qb w' b most v lost' ps∧Chg (λk=>k=b) w w'
def PQPut(w:World)(b:Nat)(most lost:Int)(v:Value)(ps:List QE)(tt:Int)(L:List Int)(en:Ending)(w':World):Prop:=
 en= .returned (.bool true)∧∃x' v',w'.ownsRow w.heap.size 5 1 x' L.length (L.map V8)∧Qb w' b most v' lost (ps++[(tt,x',L)])∧(v'.ownBlock=v.ownBlock∨∃k,v'.ownBlock=some k∧w.heap.size≤k)∧Chg (λk=>k=b∨v.ownBlock=some k) w w'
theorem qput_full(w:World)(b:Nat)(most lost:Int)(v xv:Value)(ps:List QE)(tt:Int)(h:Qb w b most v lost ps)(hf:most≤ps.length)(hl:0≤lost∧lost≤1000000)(hn:ps.length≤1000):
  Calls Tryz.prog 80 #[.pointer (some ⟨b,0,none⟩),.int .i64 tt,xv] w (PQFull w b most v ps):=by
 have c0:=h.c0
 have c1:=h.c1
 have c2:=h.c2
 have f2:=h.f 2
 have H:=qQ h
 obtain⟨A,cap,hv⟩:=h.val
 rw[hv] at c1
 obtain⟨n,hnn⟩:∃n,ps.length=n:=⟨_,rfl⟩
 rw[hnn] at c1 hf hn hv
 have i1:decide ((n:Int)≥most)=true:=by simpa using hf
 have i2:IntKind.i64.wrap (lost+1)=lost+1:=by rw[IntWalk.i64_in _ (by omega)]
 have HL:=qQ hl
 clear h hv hnn hn
 go_enter Tryz.func80,Tryz.ntmps80
 go_wp2_with fail
 with_reducible refine wp_region_still_lit (by kernel_rfl) (by kernel_rfl) ?_
 repeat (with_reducible refine wpStill_step (λK hK=>?_);go_simp;with_reducible refine hK _ ?_;clear hK K)
 with_reducible refine wpStill_nil ?_
 change Exit.then _ _ _ _ w.drew
 have H2:=qQ (H.out.kept (Chg.drew _ w))
 clear c0 c1 c2 f2
 have c2:=H2.out.c2
 have f2:=H2.out.f 2
 clear hl
 rcases (by have:=HL.out;omega:lost+1<1000000∨lost+1=1000000∨lost+1=1000001) with h1|h1|h1
 all_goals
  go_wp2_with fail
  go_ret
 ·exact⟨rfl,lost+1,by have:=HL.out;omega,by omega,⟨qB H2.out.blk 2 _,qY H2.out.row (chg1 _ b 2 _) (λj hj e=>H.out.ne hj e)⟩,(Chg.drew _ _).trans (chg1 _ b 2 _)⟩
 ·exact⟨rfl,1000000,by omega,by omega,⟨qB H2.out.blk 2 _,qY H2.out.row (chg1 _ b 2 _) (λj hj e=>H.out.ne hj e)⟩,(Chg.drew _ _).trans (chg1 _ b 2 _)⟩
 ·exact⟨rfl,1000000,by omega,by omega,⟨qB H2.out.blk 2 _,qY H2.out.row (chg1 _ b 2 _) (λj hj e=>H.out.ne hj e)⟩,(Chg.drew _ _).trans (chg1 _ b 2 _)⟩
theorem qput_fin{w wp w5:World}{b n cap g5 cap5 B:Nat}{most lost tt:Int}{v x:Value}{ps:List QE}{L:List Int}{A:Option Addr}(h:Qb w b most v lost ps)(hv:v= .slice A n cap)(hn:ps.length=n)
  (g1:Chg (λ_=>False) w wp) (o1:wp.ownsRow w.heap.size 5 1 x L.length (L.map V8)) (g5':Chg (λk=>(Value.slice A n cap).ownBlock=some k) wp w5)
  (o5:w5.ownsRow 0 213 2 (.slice (some ⟨g5,0,none⟩) (n+1) cap5) (n+1) (ps.flatMap vY++[.int .i64 tt,x])) (hat:(Value.slice A n cap).ownBlock=some g5∨g5=B) (hB:w.heap.size≤B):
  ∃x' v',(w5.setCell ⟨b,1,none⟩ (.slice (some ⟨g5,0,none⟩) (n+1) cap5)).ownsRow w.heap.size 5 1 x' L.length (L.map V8)∧Qb (w5.setCell ⟨b,1,none⟩ (.slice (some ⟨g5,0,none⟩) (n+1) cap5)) b most v' lost (ps++[(tt,x',L)])∧
   (v'.ownBlock=v.ownBlock∨∃k,v'.ownBlock=some k∧w.heap.size≤k)∧Chg (λk=>k=b∨v.ownBlock=some k) w (w5.setCell ⟨b,1,none⟩ (.slice (some ⟨g5,0,none⟩) (n+1) cap5)):=by
 subst hv
 have gs:=chg1 w5 b 1 (.slice (some ⟨g5,0,none⟩) (n+1) cap5)
 have hlb:=qX h.blk
 have hgb:g5≠b:=by
  rcases hat with e|e
  ·exact h.ne e
  ·omega
 have hb5:=Chg.keep g5' (Chg.keep g1 h.blk (λe=>e)) (λe=>h.ne e rfl)
 refine⟨x,_,qY (qY o1 g5' (λj hj e=>?_)) gs (λj hj e=>?_),⟨qB hb5 1 _,?_⟩,?_,(g1.none.trans (g5'.mono (λk _ e=> .inr e))).trans (gs.mono (λk _ e=> .inl e))⟩
 ·have h1:=(qS o1 hj).1
  have h2:=(qg h.row e).2
  omega
 ·have h1:=(qS o1 hj).1
  have e:j=b:=e
  omega
 ·rw[List.flatMap_append,List.length_append,hn]
  exact qY o5 gs (λj hj e=>by cases hj;exact hgb e)
 ·rcases hat with e|e
  ·exact .inl e.symm
  ·exact .inr ⟨g5,rfl,by omega⟩
theorem qput_any(w:World)(b:Nat)(most lost:Int)(v xv:Value)(ps:List QE)(tt:Int)(L:List Int)(h:Qb w b most v lost ps)(hf:ps.length<most)(hb:BS w w.heap.size xv L)(hL:L.length≤100000)(hn:ps.length≤1000):
  Calls Tryz.prog 80 #[.pointer (some ⟨b,0,none⟩),.int .i64 tt,xv] w (PQPut w b most lost v ps tt L):=by
 have c0:=h.c0
 have c1:=h.c1
 have H:=qQ h
 have HBB:=qQ hb
 have HC:=qQ (show∀W,Chg (λ_=>False) w W→Calls Tryz.prog 41 #[xv] W (PNew V8 5 W L) from λW g=>by
  obtain⟨A,c,e,h1,h2,_⟩:=(hb.kept g).more g.size
  rw[e];exact vX W A L.length c L h1 h2 hL)
 obtain⟨A,cap,hv⟩:=h.val
 obtain⟨xA,xc,hxv,_⟩:=hb
 obtain⟨xn,hxn⟩:∃n,n=L.length:=⟨_,rfl⟩
 rw[←hxn] at hxv
 obtain⟨n,hnn⟩:∃n,ps.length=n:=⟨_,rfl⟩
 rw[hnn] at hf hn hv
 have HV:=qQ (And.intro hv hnn)
 rw[hv] at c1
 subst hxv
 have i1:decide ((n:Int)≥most)=false:=by simp;omega
 have i2:¬most≤(n:Int):=by omega
 have HN:=qQ hn
 clear h hv hnn hn hL hxn hf
 go_enter Tryz.func80,Tryz.ntmps80
 go_wp2_with fail
 with_reducible refine wp_region_still_lit (by kernel_rfl) (by kernel_rfl) ?_
 repeat (with_reducible refine wpStill_step (λK hK=>?_);go_simp;with_reducible refine hK _ ?_;clear hK K)
 with_reducible refine wpStill_nil ?_
 change Exit.then _ _ _ _ w.drew
 have H2:=qQ (H.out.kept (Chg.drew _ w))
 clear c0 c1
 have c1:=H2.out.c1
 have f1:=H2.out.f 1
 rw[HV.out.1] at c1
 go_upto_region 6 with fail
 go_cut [] (λwx=>∃x' v',wx.ownsRow w.heap.size 5 1 x' L.length (L.map V8)∧Qb wx b most v' lost (ps++[(tt,x',L)])∧(v'.ownBlock=v.ownBlock∨∃k,v'.ownBlock=some k∧w.heap.size≤k)∧Chg (λk=>k=b∨v.ownBlock=some k) w wx)
 case first=>
  have HROW:=qQ (show w.ownsRow 0 213 2 (.slice A n cap) n (ps.flatMap vY) from by
   have:=H.out.row
   rw[HV.out.1,HV.out.2] at this
   exact this)
  have HLN:=qQ (show n+1≤maxLen∧(n+1)*32≤140737488355328 by have:=HN.out;unfold maxLen;omega)
  have HNE:=qQ (show∀k,(Value.slice A n cap).ownBlock=some k→k≠b from λk hk=>H.out.ne (by rw[HV.out.1];exact hk))
  obtain⟨ei,z,i1',i2',i3',i4',i5',i6'⟩:=ElQ.2
  have HEI:=qQ (And.intro i1' (And.intro i2' (And.intro i3' (And.intro i4' (And.intro i5' i6')))))
  clear i1' i2' i3' i4' i5' i6' i1 i2
  go_region_law (first
   |(go_loud (refine step_append_lies (P:=Tryz.prog) _ (by rfl) (.tmp 32) (.tmp 37) 164 (by rfl) 0 213 ei z 2 32 Tryz.underlying164 HEI.out.1 HEI.out.2.1 HEI.out.2.2.1 HEI.out.2.2.2.1 HEI.out.2.2.2.2.1 HEI.out.2.2.2.2.2 (.slice A n cap) n (ps.flatMap vY) rfl (qY HROW.out (HG1.out.trans (Chg.alloc (λ_=>False) wp (.cells #[.int .i64 tt,.slice A1 n1 c1'] 213))) (λ_ _ e=>e)) ⟨wp.heap.size,0,none⟩ 1 1 [.int .i64 tt,.slice A1 n1 c1'] rfl rfl (World.news_of_block (w:=wp.alloc (.cells #[.int .i64 tt,.slice A1 n1 c1'] 213)) (qV wp (.cells #[.int .i64 tt,.slice A1 n1 c1'] 213))) HONE.out (by omega) HLN.out.1 HLN.out.2 (Nat.zero_le _) (wp.heap.size+1) (by simp) ?_)
     intro g5 cap5 w5 hown5 hgr5 hat5 hlt5
     have G5:Chg (λk=>(Value.slice A n cap).ownBlock=some k) wp w5:=(Chg.alloc _ wp (.cells #[.int .i64 tt,.slice A1 n1 c1'] 213)).trans (qH hgr5 (λj e=>e.symm▸rfl))
     have kb:=Chg.keep G5 HB1.out (λe=>HNE.out b e rfl)
     have k2:w5.cell? ⟨b,1,none⟩=some (.slice A n cap):=by rw[←HV.out.1];exact qJ kb 1
     have kf:w5.frozen? ⟨b,1,none⟩=false:=qK kb 1
     have HKB:=qQ kb
     have HG5:=qQ G5
     have HO5:=qQ (And.intro hown5 (And.intro hat5 hlt5))
     clear kb G5 hown5 hgr5 hat5 hlt5)
   |(go_simp;go_at_call 41;refine (HC.out _ (by first|exact Chg.drew _ _|exact (Chg.drew _ _).trans (Chg.drew _ _))).mono ?_;rintro en wp ⟨x1,rfl,O1,g1⟩
     obtain⟨A1,n1,c1',rfl⟩:∃A n c,x1= .slice A n c:=by rcases qD O1 with ⟨e,_⟩|⟨g,cap,e,_⟩ <;> exact⟨_,_,_,e⟩
     have HONE:=qQ (show∀u∈[Value.int .i64 tt,.slice A1 n1 c1'],u.oneCell'=true by intro u hu;simp at hu;rcases hu with rfl|rfl <;> rfl)
     have HG1:=qQ (show Chg (λ_=>False) w wp from (by first|exact (Chg.drew _ _).trans g1|exact ((Chg.drew _ _).trans (Chg.drew _ _)).trans g1))
     have HB1:=qQ (Chg.keep HG1.out H.out.blk (λe=>e))
     have c1p:wp.cell? ⟨b,1,none⟩=some (.slice A n cap):=by rw[←HV.out.1];exact qJ HB1.out 1
     have c1a:=qL c1p (.cells #[.int .i64 tt,.slice A1 n1 c1'] 213)
     have HO1:=qQ O1))
  all_goals
   go_wp2_with fail
   go_meet
   exact qput_fin H.out HV.out.1 HV.out.2 HG1.out HO1.out HG5.out HO5.out.1 HO5.out.2.1 (by have:=HG1.out.size;omega)
 case rest=>
  obtain⟨x',v',h1,h2,h3,h4⟩:=hcut
  have HX:=qQ (And.intro h1 (And.intro h2 (And.intro h3 h4)))
  clear h1 h2 h3 h4 c1 f1
  go_wp2_with fail
  go_ret
  exact⟨rfl,x',v',HX.out⟩
theorem RV.of_own1{V:Int→Value}{w:World}{own:Cls}{v:Value}{L:List Int}{base e:Nat}(h:w.ownsRow base e 1 v L.length (L.map V))(hz:∀k,v.ownBlock=some k→own k=0):RV V w own v L:=by
 obtain⟨A,c,rfl,⟨h2,h3⟩,h4⟩:=RV.of_own (own:=λ_=>0) h (λ_ _=>rfl)
 refine⟨A,c,rfl,⟨h2,λi hi=>?_⟩,h4⟩
 obtain⟨x,e1,_,e3⟩:=h3 i hi
 exact⟨x,e1,hz _ (by rw[e1];rfl),e3⟩
section
variable {w0 w w':World}{o0 o o':Cls}{c:Cfg}{i b:Nat}{s s':NSt}{r r':NR}
theorem NAt.qset(h:NAt w0 o0 c i b s w o r){v v':Value}{lost lost':Int}{ps ps':List QE}(hq:Qb w r.q c.queue v lost ps)(hv:∀k,v.ownBlock=some k→o k=cl i 2)(hps:∀p∈ps,BO w o p.2.1 p.2.2)
  (hq':Qb w' r.q c.queue v' lost' ps') (hl:0≤lost'∧lost'≤1000000) (hv':v'.ownBlock=v.ownBlock∨∃k,v'.ownBlock=some k∧w.heap.size≤k) (g:Chg (λk=>k=r.q∨v.ownBlock=some k) w w')
  (hel:∀p∈ps',p∈ps∨(w'.ownsRow w.heap.size 5 1 p.2.1 p.2.2.length (p.2.2.map V8)∧∀x∈p.2.2,0≤x∧x<256)):
  ∃o',Ext w o o'∧NAt w0 o0 c i b {s with q:=ps'.map (λp=>(p.1,p.2.2))} w' o' r∧(∀k,v'.ownBlock=some k→o' k=cl i 2)∧(∀p∈ps',BO w' o' p.2.1 p.2.2):=by
 obtain⟨p1,p2,p3,p4,p5,p6,p7,p8,p9,pa,pb⟩:=h.nd.np
 obtain⟨_,_,_,_,hob,_⟩:=p4
 have G:Chg (Of o (cl i 2)) w w':=g.mono (λk _ e=>by
  rcases e with e|e
  ·rw[e];exact hob
  ·exact hv k e)
 have key:∀o',Ext w o o'→Z w' o'→(∀k,v'.ownBlock=some k→o' k=cl i 2)→(∀k,v'.ownBlock≠some k→w.heap.size≤k→o' k=0)→
   Ext w o o'∧NAt w0 o0 c i b {s with q:=ps'.map (λp=>(p.1,p.2.2))} w' o' r∧(∀k,v'.ownBlock=some k→o' k=cl i 2)∧(∀p∈ps',BO w' o' p.2.1 p.2.2):=by
  intro o' hE hZ hk hn
  have h0:∀k,o k=0→¬Of o (cl i 2) k:=λk h1 h2=>by unfold Of at h2;rw[h1] at h2;exact qP i 2 h2.symm
  have hbo:∀p∈ps',BO w' o' p.2.1 p.2.2:=λp hp=>by
   rcases hel p hp with h1|⟨h1,h2⟩
   ·exact (hps p h1).step hE G h0
   ·exact⟨RV.of_own1 h1 (λk hk1=>hn k (λe=>own_neT h1 hq'.row (by decide) hk1 e) (qS h1 hk1).1),h2⟩
  refine⟨hE,h.part 2 (by omega) hE hZ G rfl (λa0 a=>?_),hk,hbo⟩
  exact⟨p1.step hE G a0,p2.step hE G a0,p3.step hE G (a 1 (by omega) (by omega)),Qo.of hq' (by rw[hE r.q (qX hq.blk)];exact hob) hl.1 hl.2 hk hbo,p5.step hE G (a 3 (by omega) (by omega)),
   p6.step hE G (a 4 (by omega) (by omega)),p7.step hE G (a 5 (by omega) (by omega)),p8.step hE G (a 6 (by omega) (by omega)),
   p9.step hE G (a 7 (by omega) (by omega)),pa.step hE G (a 8 (by omega) (by omega)),pb.step hE G (a 9 (by omega) (by omega))⟩
 rcases hv' with h1|⟨k,h1,h2⟩
 ·exact⟨o,key o (Ext.refl _ _) (h.z.more g.size) (λk hk=>hv k (h1▸hk)) (λk _ hk=>h.z k hk)⟩
 ·refine⟨cls o k (cl i 2),key _ (Ext.cls o k _ h2) ((h.z.more g.size).cls _ (qg hq'.row h1).2) (λj hj=>?_) (λj hj hk=>?_)⟩
  ·rw[h1] at hj;cases hj;exact jX _ _ _
  ·rw[cls_ne o k _ (λe=>hj (by rw[h1,e]))];exact h.z j hk
end
theorem vV{p:Pk}(h:mayP p=true)(hd:∀x∈p.data,0≤x∧x<256):∀x∈encP p,0≤x∧x<256:=by
 obtain⟨_,_,_,_,_,⟨_,h1,_⟩,_⟩:=zm h
 intro x hx
 unfold encP at hx
 simp only[List.mem_append] at hx
 rcases hx with ((((((hx|hx)|hx)|hx)|hx)|hx)|hx)|hx
 ·exact zK _ _ x hx
 ·exact zK _ _ x hx
 ·exact zK _ _ x hx
 ·exact zK _ _ x hx
 ·exact zK _ _ x hx
 ·have:=h1 x hx;omega
 ·exact zK _ _ x hx
 ·exact hd x hx
theorem encP_len{p:Pk}(h:mayP p=true):(encP p).length≤51:=by
 obtain⟨_,_,_,_,_,⟨h0,_,_⟩,_,h2⟩:=zm h
 simp[encP,qq];omega
def putN(c:Cfg)(i:Nat)(s:NSt)(p:Pk)(tt:Int)(came:Pk):NSt:=
 if mayP p=true∧(s.q.length:Int)<c.queue then {s with q:=s.q++[(tt,encP p)]} else evN s ⟨5,i,0,1,came⟩
theorem PO.step{w w':World}{own own':Cls}{lv dv:Value}{p:Pk}{S:Nat→Prop}(h:PO w own lv dv p)(e:Ext w own own')(g:Chg S w w')(hS:∀j,own j=0→¬S j):PO w' own' lv dv p:=⟨h.1.step e g hS,h.2.step e g hS⟩
section
variable {w0 w w':World}{o0 o o':Cls}{c:Cfg}{i b:Nat}{s s':NSt}{r r':NR}
theorem NAt.old{w1:World}{o1:Cls}{r1:NR}{s1:NSt}(h:NAt w0 o0 c i b s w o r)(k:NAt w0 o0 c i b s1 w1 o1 r1)(e:Ext w o o1)(g:Chg (NdS o i) w w1){lv dv:Value}{p:Pk}(hp:PO w o lv dv p):PO w1 o1 lv dv p:=
 hp.step e g (λj hj hs=>by obtain⟨m,_,hm⟩:=hs;rw[hj] at hm;exact qP i m hm.symm)
theorem nput_any(h:NAt w0 o0 c i b s w o r)(p came:Pk)(tt:Int)(lv dv lv2 dv2:Value)(hp:PO w o lv dv p)(hc:PO w o lv2 dv2 came)(hL:p.path.length≤100000)(hD:p.data.length≤100000)(hq:s.q.length≤900)(hn:s.ev.length≤1000):
  Calls Tryz.prog 254 #[.pointer (some ⟨b,0,none⟩),pkV p lv dv,.int .i64 tt,pkV came lv2 dv2] w (PN w0 o0 c i b (putN c i s p tt came) (λv _ _=>v= .tuple #[])):=by
 obtain⟨FS,hFS⟩:∃FS,putN c i s p tt came=FS:=⟨_,rfl⟩
 rw[hFS]
 unfold putN at hFS
 obtain⟨lA,lc,hlv,_⟩:=hp.1
 obtain⟨⟨dA,dc,hdv,_⟩,hDB⟩:=hp.2
 obtain⟨lA2,lc2,hlv2,_⟩:=hc.1
 obtain⟨⟨dA2,dc2,hdv2,_⟩,_⟩:=hc.2
 obtain⟨m,hm⟩:=qZ p.path.length
 obtain⟨n,hnn⟩:=qZ p.data.length
 obtain⟨m2,hm2⟩:∃m,m=came.path.length:=⟨_,rfl⟩
 obtain⟨n2,hn2⟩:∃n,n=came.data.length:=⟨_,rfl⟩
 rw[←hm] at hlv
 rw[←hnn] at hdv
 rw[←hm2] at hlv2
 rw[←hn2] at hdv2
 subst hlv hdv hlv2 hdv2
 have HENC:=qQ (show∀W,Chg (λ_=>False) w W→Calls Tryz.prog 79 #[.agg #[.int .i64 p.src,.int .i64 p.dst,.int .i64 p.n,.int .i64 p.life,.slice lA m lc,.slice dA n dc]] W (PEncP W p) from λW g=>pencode_any W o p _ _ (hp.keep g (λ_ _ e=>e)) hL hD)
 have HDROP:=qQ (show∀(W:World) (O:Cls) (R:NR) (s1:NSt),NAt w0 o0 c i b s1 W O R→PO W O (.slice lA2 m2 lc2) (.slice dA2 n2 dc2) came→s1.ev.length≤1000→Calls Tryz.prog 69 #[.pointer (some ⟨b,0,none⟩),.agg #[.int .i64 came.src,.int .i64 came.dst,.int .i64 came.n,.int .i64 came.life,.slice lA2 m2 lc2,.slice dA2 n2 dc2],.int .i64 1] W (PN w0 o0 c i b (evN s1 ⟨5,i,0,1,came⟩) (λv _ _=>v= .tuple #[])) from
  λW O R s1 h1 h2 h3=>zj h1 came _ _ 1 h2 h3)
 obtain⟨w1,hw1⟩:=qZ ((w.alloc (.cells #[.int .i64 p.src,.int .i64 p.dst,.int .i64 p.n,.int .i64 p.life,.slice lA m lc,.slice dA n dc] 42)).alloc (.cells #[.int .i64 came.src,.int .i64 came.dst,.int .i64 came.n,.int .i64 came.life,.slice lA2 m2 lc2,.slice dA2 n2 dc2] 42))
 have ga:=Chg.alloc (λ_=>False) w (.cells #[.int .i64 p.src,.int .i64 p.dst,.int .i64 p.n,.int .i64 p.life,.slice lA m lc,.slice dA n dc] 42)
 have gb:=Chg.alloc (λ_=>False) (w.alloc (.cells #[.int .i64 p.src,.int .i64 p.dst,.int .i64 p.n,.int .i64 p.life,.slice lA m lc,.slice dA n dc] 42)) (.cells #[.int .i64 came.src,.int .i64 came.dst,.int .i64 came.n,.int .i64 came.life,.slice lA2 m2 lc2,.slice dA2 n2 dc2] 42)
 have ba:=Chg.keep gb (qV w (.cells #[.int .i64 p.src,.int .i64 p.dst,.int .i64 p.n,.int .i64 p.life,.slice lA m lc,.slice dA n dc] 42)) (λe=>e)
 have bb:=qV (w.alloc (.cells #[.int .i64 p.src,.int .i64 p.dst,.int .i64 p.n,.int .i64 p.life,.slice lA m lc,.slice dA n dc] 42)) (.cells #[.int .i64 came.src,.int .i64 came.dst,.int .i64 came.n,.int .i64 came.life,.slice lA2 m2 lc2,.slice dA2 n2 dc2] 42)
 have hsz:(w.alloc (.cells #[.int .i64 p.src,.int .i64 p.dst,.int .i64 p.n,.int .i64 p.life,.slice lA m lc,.slice dA n dc] 42)).heap.size=w.heap.size+1:=by simp
 rw[hsz] at bb
 rw[←hw1] at ba bb gb
 have HG:=qQ (ga.trans gb)
 have HW1:=qQ hw1
 have HBB:=qQ bb
 obtain⟨d0,d1,d2,d3,d4,d5⟩:=qC ba
 have H:=qQ h
 have HC:=qQ hc
 have HQ:=qQ (And.intro hq hn)
 have HDB:=qQ hDB
 have HFS:=qQ hFS
 obtain⟨_,_,_,p4,_⟩:=h.nd.np
 obtain⟨v,lost,ps,q1,q2,q3,q4,q5,q6,q7,q8⟩:=p4
 have HQO:=qQ (And.intro (Qb.mk q1 q5) (And.intro q3 (And.intro q4 (And.intro q6 (And.intro q7 q8)))))
 clear ga gb ba bb hsz hw1 hp hc hL hD hq hn hDB hFS h q1 q2 q3 q4 q5 q6 q7 q8 hm hnn hm2 hn2
 unfold pkV
 go_enter Tryz.func254,Tryz.ntmps254
 go_upto_region 1 with fail
 rw[←HW1.out]
 clear HW1
 go_wp2_with fail
 (with_reducible refine (HENC.out w1 HG.out).mono ?_)
 rintro en w2 hE
 clear HENC d0 d1 d2 d3 d4 d5
 rcases hE with ⟨hmay,x,rfl,hO,G⟩|⟨hmay,rfl,G⟩
 ·obtain⟨A1,n1,c1,rfl⟩:∃A n c,x= .slice A n c:=by rcases qD hO with ⟨e,_⟩|⟨g,cap,e,_⟩ <;> exact⟨_,_,_,e⟩
  have hN2:=H.out.kept (HG.out.trans G)
  have c11:w2.cell? ⟨b,11,none⟩=some (.pointer (some ⟨r.q,0,none⟩)):=hN2.cell 11
  have HN2:=qQ hN2
  have HPC:=qQ (HC.out.keep (HG.out.trans G) (λ_ _ e=>e))
  have HB2:=qQ (Chg.keep G HBB.out (λe=>e))
  have HQ2:=qQ (HQO.out.1.kept (HG.out.trans G))
  have HBS:=qQ (show BS w2 w2.heap.size (.slice A1 n1 c1) (encP p) from BS.of_own hO (vV hmay HDB.out))
  have HLEN:=qQ (encP_len hmay)
  have HPS:=qQ (show∀q∈ps,BO w2 o q.2.1 q.2.2 from λq hq=>(HQO.out.2.2.2.2.1 q hq).keep (HG.out.trans G) (λ_ _ e=>e))
  have hsq:s.q.length=ps.length:=by rw[HQO.out.2.2.2.2.2,List.length_map]
  have HSQ:=qQ hsq
  have HMAY:=qQ hmay
  clear hN2 hsq hmay hO G
  by_cases hlt:(ps.length:Int)<c.queue
  ·have HP:=qQ (qput_any w2 r.q c.queue lost v (.slice A1 n1 c1) ps tt (encP p) HQ2.out hlt HBS.out (by have:=HLEN.out;omega) (by have:=HQ.out.1;have:=HSQ.out;omega))
   have HF:=qQ (show FS= {s with q:=s.q++[(tt,encP p)]} from by rw[←HFS.out,if_pos ⟨HMAY.out,by rw[HSQ.out];exact hlt⟩])
   clear hlt
   go_wp2_with fail
   with_reducible refine HP.out.mono ?_
   rintro en w3 ⟨rfl,x',v',h1,h2,h3,h4⟩
   obtain⟨o3,_,hN3,_⟩:=HN2.out.qset HQ2.out HQO.out.2.2.2.1 HPS.out h2 ⟨HQO.out.2.1,HQO.out.2.2.1⟩ h3 h4 (λq hq=>by
    rcases List.mem_append.1 hq with hq|hq
    ·exact .inl hq
    ·simp at hq;subst hq;exact .inr ⟨h1,vV HMAY.out HDB.out⟩)
   have HX:=qQ hN3
   clear h1 h2 h3 h4 hN3 HP c11
   go_wp2_with fail
   go_end0
   refine⟨_,o3,r,rfl,?_,rfl⟩
   have:=HX.out
   rw[HF.out]
   rw[List.map_append,←HQO.out.2.2.2.2.2] at this
   exact this
  ·have HP:=qQ (qput_full w2 r.q c.queue lost v (.slice A1 n1 c1) ps tt HQ2.out (by omega) ⟨HQO.out.2.1,HQO.out.2.2.1⟩ (by have:=HQ.out.1;have:=HSQ.out;omega))
   have HF:=qQ (show FS=evN s ⟨5,i,0,1,came⟩ from by rw[←HFS.out,if_neg (by rw[HSQ.out];exact λe=>hlt e.2)])
   clear hlt
   go_wp2_with fail
   with_reducible refine HP.out.mono ?_
   rintro en w3 ⟨rfl,lost',l1,l2,h2,h4⟩
   have g4:Chg (λk=>k=r.q∨v.ownBlock=some k) w2 w3:=h4.mono (λk _ e=> .inl e)
   obtain⟨o3,hE,hN3,_⟩:=HN2.out.qset HQ2.out HQO.out.2.2.2.1 HPS.out h2 ⟨l1,l2⟩ (.inl rfl) g4 (λq hq=> .inl hq)
   rw[←HQO.out.2.2.2.2.2] at hN3
   have hob:=HN2.out.nd.ob
   have hoq:=HN2.out.nd.np.2.2.2.1
   obtain⟨_,_,_,_,hoq,_⟩:=hoq
   have HPC3:=qQ (HPC.out.step hE g4 (λj hj e=>by
    rcases e with e|e
    ·rw[e,hoq] at hj;exact qP i 2 hj
    ·rw[HQO.out.2.2.2.1 j e] at hj;exact qP i 2 hj))
   have hb3:=Chg.keep h4 HB2.out (λe=>by
    have h1:=qX HQO.out.1.blk
    have e:w.heap.size+1=r.q:=e
    omega)
   obtain⟨d0,d1,d2,d3,d4,d5⟩:=qC hb3
   have HX3:=qQ hN3
   clear h2 h4 g4 hE hN3 hob hoq hb3 HP c11 l1 l2
   go_wp2_with fail
   (with_reducible refine (HDROP.out _ _ _ _ HX3.out HPC3.out HQ.out.2).mono ?_)
   rintro en w4 ⟨v3,o4,r3,rfl,hN,rfl⟩
   have HX:=qQ hN
   clear hN d0 d1 d2 d3 d4 d5
   go_wp2_with fail
   go_end0
   exact⟨_,_,_,rfl,by rw[HF.out];exact HX.out,rfl⟩
 ·have HN2:=qQ (H.out.kept (HG.out.trans G))
  have HPC:=qQ (HC.out.keep (HG.out.trans G) (λ_ _ e=>e))
  have hbb:=Chg.keep G HBB.out (λe=>e)
  obtain⟨d0,d1,d2,d3,d4,d5⟩:=qC hbb
  have HF:=qQ (show FS=evN s ⟨5,i,0,1,came⟩ from by rw[←HFS.out,if_neg (by rw[hmay];simp)])
  clear hbb
  go_wp2_with fail
  (with_reducible refine (HDROP.out _ _ _ _ HN2.out HPC.out HQ.out.2).mono ?_)
  rintro en w3 ⟨v3,o3,r3,rfl,hN,rfl⟩
  have HX:=qQ hN
  clear hN d0 d1 d2 d3 d4 d5
  go_wp2_with fail
  go_end0
  exact⟨_,_,_,rfl,by rw[HF.out];exact HX.out,rfl⟩
end
def zc:Cls:=λ_=>0
theorem z_zc(w:World):Z w zc:=λ_ _=>rfl
theorem RV.blk{w:World}{o:Cls}{b:Nat}{cs:Array Value}{e:TypeId}{V:Int→Value}(hb:w.heap[b]? =some (.cells cs e (0,0))) (ho:o b=0) (L:List Int) (hl:cs=(L.map V).toArray) (hc:L.length≤maxLen):
  RV V w o (.slice (some ⟨b,0,none⟩) L.length L.length) L:=by
 refine⟨some ⟨b,0,none⟩,L.length,rfl,⟨rfl,λi hi=>⟨_,rfl,ho,?_⟩⟩,(λe=>by cases e),Nat.le_refl _,hc⟩
 rw[add_mk,qJ hb,hl]
 simp[List.getElem?_eq_getElem hi]
end Go.Proofs.YtnpihllannobgaaGreatDoor
