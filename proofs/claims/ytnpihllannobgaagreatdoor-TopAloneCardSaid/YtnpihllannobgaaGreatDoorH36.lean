/- Steps of the proof, part H36. No condition. -/
import Derived.Test.YtnpihllannobgaaGreatDoorH33
namespace Go.Proofs.YtnpihllannobgaaGreatDoor
set_option linter.unusedVariables false
set_option linter.unusedSimpArgs false
set_option maxRecDepth 100000
set_option maxHeartbeats 32000000
open Go.ChangeShapes Go.WideShapes Go.ChangeAt Go.RowKit
def turnedP(c:Cfg)(p:Pk)(L:List Int):Pk:={p with path:=L,life:=c.life}
def vk(c:Cfg)(i:Nat)(s:NSt)(p:Pk):NSt:=match s.paths p.dst with|none=>evN s ⟨5,i,0,3,p⟩|some L=>js c i s (turnedP c p L) p
section
variable {w0 w w':World}{o0 o o':Cls}{c:Cfg}{i b:Nat}{s s':NSt}{r r':NR}
theorem Mo.look{m:Nat}{cc:Nat}{f:Int→Option (List Int)}(h:Mo w o cc m f)(n:Int):
  ∃v,RV VI w o v ((f n).getD [])∧∀W,Chg (λ_=>False) w W→(Instr.lookup 68 (.map (some m)) (.int .i64 n) true).run Tryz.prog W= .ok (.tuple #[v,.bool (f n).isSome]) W:=by
 obtain⟨g,h1,h2,h3⟩:=h
 have h4:=h3 n
 have hl:=λW (G:Chg (λ_=>False) w W)=>(h1.keep G (λe=>e)).lookup ty68 ty3 (zero22 W) n
 cases hf:f n with
 |none=>
  rw[hf] at h4
  simp only[h4] at hl
  exact⟨_,RV.nil _ _ _,hl⟩
 |some L=>
  rw[hf] at h4
  obtain⟨v,h5,h6⟩:=h4
  simp only[h5] at hl
  exact⟨v,h6,hl⟩
theorem set43(w:World)(a:Nat)(v4 v3:Value):Chg (λj=>j=a) w ((w.setCell ⟨a,4,none⟩ v4).setCell ⟨a,3,none⟩ v3):=(chg1 w a 4 v4).trans (chg1 _ a 3 v3)
theorem set43b{w:World}{a:Nat}{a0 a1 a2 a3 a4 a5:Value}{t:TypeId}(h:w.heap[a]? =some (.cells #[a0,a1,a2,a3,a4,a5] t (0,0))) (v4 v3:Value):((w.setCell ⟨a,4,none⟩ v4).setCell ⟨a,3,none⟩ v3).heap[a]? =some (.cells #[a0,a1,a2,v3,v4,a5] t (0,0)):=by
 have h5:=qB (qB h 4 v4) 3 v3
 simpa using h5
theorem nturns_any(h:NAt w0 o0 c i b s w o r)(p:Pk)(lv dv:Value)(hp:PO w o lv dv p)(hpl:∀n L,s.paths n=some L→L.length≤100000)(hL:p.path.length≤100000)(hD:p.data.length≤100000)(hq:s.q.length≤900)(hn:s.ev.length≤1000):
  Calls Tryz.prog 211 #[.pointer (some ⟨b,0,none⟩),pkV p lv dv] w (PN w0 o0 c i b (vk c i s p) (λv _ _=>v= .tuple #[])):=by
 obtain⟨FS,hFS⟩:∃FS,vk c i s p=FS:=⟨_,rfl⟩
 rw[hFS]
 unfold vk at hFS
 obtain⟨v,hv,hlk⟩:=h.nd.np.2.2.2.2.2.2.2.2.2.1.look p.dst
 obtain⟨y,hy⟩:∃y,s.paths p.dst=y:=⟨_,rfl⟩
 rw[hy] at hFS hlk hv
 have hyl:(y.getD []).length≤100000:=by
  cases y with
  |none=>simp
  |some L=>exact hpl _ L hy
 obtain⟨S,D,N,Lf,P,T⟩:=p
 dsimp only at hlk hy hL hD
 obtain⟨lA,lc,hlv,_⟩:=hp.1
 obtain⟨⟨dA,dc,hdv,_⟩,_⟩:=hp.2
 have hv2:=hv
 obtain⟨vA,vc,hvv,_⟩:=hv2
 obtain⟨m,hm⟩:=qZ P.length
 obtain⟨n,hnn⟩:=qZ T.length
 obtain⟨k,hkk⟩:∃n,n=(y.getD []).length:=⟨_,rfl⟩
 dsimp only at hlv hdv
 rw[←hm] at hlv
 rw[←hnn] at hdv
 rw[←hkk] at hvv
 subst hlv hdv
 have HDROP:=qQ (show∀(W:World) (O:Cls) (R:NR) (s1:NSt),NAt w0 o0 c i b s1 W O R→PO W O (.slice lA m lc) (.slice dA n dc) ⟨S,D,N,Lf,P,T⟩→s1.ev.length≤1000→Calls Tryz.prog 69 #[.pointer (some ⟨b,0,none⟩),.agg #[.int .i64 S,.int .i64 D,.int .i64 N,.int .i64 Lf,.slice lA m lc,.slice dA n dc],.int .i64 3] W (PN w0 o0 c i b (evN s1 ⟨5,i,0,3,⟨S,D,N,Lf,P,T⟩⟩) (λv _ _=>v= .tuple #[])) from
  λW O R s1 h1 h2 h3=>zj h1 ⟨S,D,N,Lf,P,T⟩ _ _ 3 h2 h3)
 have HHANDS:=qQ (show∀(W:World) (v1:Value),Chg (λ_=>False) w W→RV VI W o v1 (y.getD [])→Calls Tryz.prog 210 #[.pointer (some ⟨b,0,none⟩),.agg #[.int .i64 S,.int .i64 D,.int .i64 N,.int .i64 c.life,v1,.slice dA n dc],.agg #[.int .i64 S,.int .i64 D,.int .i64 N,.int .i64 Lf,.slice lA m lc,.slice dA n dc]] W (PN w0 o0 c i b (js c i s (turnedP c ⟨S,D,N,Lf,P,T⟩ (y.getD [])) ⟨S,D,N,Lf,P,T⟩) (λv _ _=>v= .tuple #[])) from
  λW v1 g h2=>nhands_any (h.kept g) (turnedP c ⟨S,D,N,Lf,P,T⟩ (y.getD [])) ⟨S,D,N,Lf,P,T⟩ _ _ _ _ ⟨h2,(hp.keep g (λ_ _ e=>e)).2⟩ (hp.keep g (λ_ _ e=>e)) hyl hD hq hn)
 have ga:=Chg.alloc (λ_=>False) w (.cells #[.int .i64 S,.int .i64 D,.int .i64 N,.int .i64 Lf,.slice lA m lc,.slice dA n dc] 42)
 have hba:=qV w (.cells #[.int .i64 S,.int .i64 D,.int .i64 N,.int .i64 Lf,.slice lA m lc,.slice dA n dc] 42)
 obtain⟨w1,hw1⟩:=qZ (w.alloc (.cells #[.int .i64 S,.int .i64 D,.int .i64 N,.int .i64 Lf,.slice lA m lc,.slice dA n dc] 42))
 obtain⟨a,hae⟩:=qZ w.heap.size
 rw[←hw1] at ga hba
 rw[←hae] at hba
 have HB:=qQ hba
 have HW1:=qQ hw1
 have HAE:=qQ hae
 have HFS:=qQ hFS
 have HG:=qQ ga
 have H:=qQ h
 have HP:=qQ hp
 have HQ:=qQ (And.intro hq hn)
 have HV:=qQ hv
 have HYL:=qQ hkk
 have HLK:=qQ (show∀W,Chg (λ_=>False) w W→(Instr.lookup 68 (.map (some r.paths)) (.int .i64 D) true).run Tryz.prog W= .ok (.tuple #[v,.bool y.isSome]) W from hlk)
 clear hm hnn hkk hyl hlk hv hp h ga hba hw1 hae hFS hL hD hq hn hy hpl
 unfold pkV
 go_enter Tryz.func211,Tryz.ntmps211
 go_upto_region 1 with fail
 rw[←HW1.out,←HAE.out]
 clear HW1
 have c22:w1.cell? ⟨b,22,none⟩=some (.map (some r.paths)):=(H.out.kept HG.out).cell 22
 obtain⟨d0,d1,d2,d3,d4,d5⟩:=qC HB.out
 obtain⟨I,F1,hI,hF1,hFA⟩:=clsF w1
 have e1:=qF hF1 d1
 have e2:=qF hF1 c22
 have hlk:∀n,(Instr.lookup 68 (.map (some r.paths)) (.int .i64 D) true).run Tryz.prog (F1 n)= .ok (.tuple #[v,.bool y.isSome]) (F1 n):=λn=>HLK.out _ (HG.out.trans (hF1 n))
 have HFF:=qQ hF1
 have HFA:=qQ (hFA _ (Chg.drew _ _))
 subst hvv
 clear hF1 hFA d0 d1 d2 d3 d4 d5 c22
 with_reducible refine qW F1 (by kernel_rfl) (by kernel_rfl) HFA.out ?_
 repeat ((with_reducible refine wpQuiet_step (λK hK=>?_));go_simp;(try (rw[if_neg];rotate_left;(intro h;cases h)));(with_reducible refine hK _ ?_);clear hK K)
 with_reducible refine wpQuiet_nil ?_
 intro _ hw'
 obtain⟨nq,rfl⟩:=hw'
 have HX:=qQ (HFF.out nq)
 clear e1 e2 hlk HFF HFA hI
 generalize F1 nq=w2 at *
 have hbb:=Chg.keep HX.out HB.out (λe=>e)
 obtain⟨d0,d1,d2,d3,d4,d5⟩:=qC hbb
 have HG2:=qQ (HG.out.trans HX.out)
 cases y with
 |none=>
  have HF:=qQ (show FS=evN s ⟨5,i,0,3,⟨S,D,N,Lf,P,T⟩⟩ from HFS.out.symm)
  clear hbb
  go_wp2_with fail
  (with_reducible refine (HDROP.out _ _ _ _ (H.out.kept HG2.out) (HP.out.keep HG2.out (λ_ _ e=>e)) HQ.out.2).mono ?_)
  rintro en w3 ⟨v3,o3,r3,rfl,hN,rfl⟩
  have HN:=qQ hN
  clear hN d0 d1 d2 d3 d4 d5
  go_wp2_with fail
  go_end0
  exact⟨_,_,_,rfl,by rw[HF.out];exact HN.out,rfl⟩
 |some L=>
  have HF:=qQ (show FS=js c i s (turnedP c ⟨S,D,N,Lf,P,T⟩ L) ⟨S,D,N,Lf,P,T⟩ from HFS.out.symm)
  go_upto_region 5 with fail
  have c8:w2.cell? ⟨b,8,none⟩=some (.int .i64 c.life):=(H.out.kept HG2.out).cell 8
  have gb:=Chg.alloc (λ_=>False) w2 (.cells #[.int .i64 S,.int .i64 D,.int .i64 N,.int .i64 Lf,.slice lA m lc,.slice dA n dc] 42)
  have hb6:=qV w2 (.cells #[.int .i64 S,.int .i64 D,.int .i64 N,.int .i64 Lf,.slice lA m lc,.slice dA n dc] 42)
  have c8a:=qL c8 (.cells #[.int .i64 S,.int .i64 D,.int .i64 N,.int .i64 Lf,.slice lA m lc,.slice dA n dc] 42)
  have hbb6:=Chg.keep gb hbb (λe=>e)
  have hbl:=qX (H.out.kept HG2.out).nd.blk
  obtain⟨a6,ha6⟩:=qZ w2.heap.size
  rw[←ha6] at hb6 ⊢
  have HA6:=qQ ha6
  have hab:¬b=a6:=by omega
  have hab2:¬a6=b:=by omega
  have HGB:=qQ gb
  have HAA:=qQ (show¬a=a6 from by have:=qX hbb;omega)
  clear d0 d1 d2 d3 d4 d5 hbb c8 gb hbl ha6
  generalize w2.alloc (.cells #[.int .i64 S,.int .i64 D,.int .i64 N,.int .i64 Lf,.slice lA m lc,.slice dA n dc] 42)=w3 at *
  have HB6:=qQ hb6
  have HBB6:=qQ hbb6
  obtain⟨d0,d1,d2,d3,d4,d5⟩:=qC hb6
  obtain⟨f0,f1,f2,f3,f4,f5⟩:=zF hb6
  clear hb6 hbb6
  go_cut [] (λwx=>wx.heap[a6]? =some (.cells #[.int .i64 S,.int .i64 D,.int .i64 N,.int .i64 c.life,.slice vA k vc,.slice dA n dc] 42 (0,0))∧wx.heap[a]? =some (.cells #[.int .i64 S,.int .i64 D,.int .i64 N,.int .i64 Lf,.slice lA m lc,.slice dA n dc] 42 (0,0))∧Chg (λ_=>False) w2 wx)
  case first=>
   go_region_with fail
   all_goals
    go_wp2_with fail
    go_meet
    exact⟨Chg.keep (Chg.drew (λ_=>False) _) (set43b HB6.out _ _) (λe=>e),Chg.keep ((set43 w3 a6 _ _).trans (Chg.drew _ _)) HBB6.out (λe=>HAA.out e),
     (HGB.out.none.trans (((set43 w3 a6 _ _).trans (Chg.drew _ _)).mono (λj _ e=>by rw[show j=a6 from e,HA6.out];exact Nat.le_refl _))).fresh⟩
  case rest=>
   obtain⟨hx6,hxa,hX⟩:=hcut
   obtain⟨k0,k1,k2,k3,k4,k5⟩:=qC hx6
   obtain⟨e0,e1,e2,e3,e4,e5⟩:=qC hxa
   have hg:=HG2.out.trans hX
   have HHH:=qQ (HHANDS.out _ _ hg (HV.out.keep hg (λ_ _ e=>e)))
   clear hx6 hxa hX hg d0 d1 d2 d3 d4 d5 f0 f1 f2 f3 f4 f5 c8a
   go_wp2_with fail
   with_reducible refine HHH.out.mono ?_
   rintro en w5 ⟨v5,o5,r5,rfl,hN5,rfl⟩
   have HN5:=qQ hN5
   clear hN5 HHH e0 e1 e2 e3 e4 e5 k0 k1 k2 k3 k4 k5
   go_wp2_with fail
   go_end0
   exact⟨_,_,_,rfl,by rw[HF.out];exact HN5.out,rfl⟩
end
def downB(i:Nat)(p:Pk):Bool:=decide (i≠0)&&(match p.path with|[]=>false|x::_=>x==0)
def gotS(s:NSt)(f:Seen):NSt:={s with got:=f}
def downS(s:NSt)(f:Seen):NSt:={s with down:=f}
def upS(s:NSt)(f:Seen):NSt:={s with up:=f}
def wayS(i:Nat)(s:NSt)(p:Pk):Seen:=if p.dst=i then s.got else if downB i p then s.down else s.up
def jH(i:Nat)(s:NSt)(p:Pk)(f:Seen):NSt:=if p.dst=i then gotS s f else if downB i p then downS s f else upS s f
def vQ(c:Cfg)(i:Nat)(s:NSt)(p:Pk):NSt:=
 if p.dst=i then evN (jS i s p) ⟨4,i,0,0,p⟩ else if downB i p then js c i s p p else if i=0 then vk c i s p else vm c i s p
def take2N(c:Cfg)(i:Nat)(s:NSt)(p:Pk):NSt:=
 if isnew (wayS i s p) p.src p.n then vQ c i (jH i s p (nextf (wayS i s p) p.src p.n)) p else evN (jH i s p (nextf (wayS i s p) p.src p.n)) ⟨5,i,0,5,p⟩
def vl(c:Cfg)(i:Nat)(s:NSt)(L:List Int):NSt:=if (decP L).1≠0 then s else if knownB c (decP L).2 then take2N c i s (decP L).2 else s
theorem decP_cases(L:List Int):((decP L).1=0∧mayP (decP L).2=true)∨((decP L).1≠0∧(decP L).2=pk0):=by
 unfold decP
 dsimp only
 split
 ·right;simp
 ·split
  ·right;simp
  ·split
   ·right;simp
   ·split
    ·rename_i h;right;exact⟨h,rfl⟩
    ·split
     ·rename_i h;left;exact⟨rfl,h⟩
     ·right;simp
section
variable {w0 w w':World}{o0 o o':Cls}{c:Cfg}{i b:Nat}{s s':NSt}{r r':NR}
theorem NAt.gset(h:NAt w0 o0 c i b s w o r){m:Nat}{f':Seen}(hm:o m=cl i 5)(k:Wk w' r.got m f')(hf:Fine f')(g:Chg (· =m) w w'):NAt w0 o0 c i b (gotS s f') w' o r:=by
 obtain⟨p1,p2,p3,p4,p5,p6,p7,p8,p9,pa,pb⟩:=h.nd.np
 obtain⟨_,_,hb,_,_⟩:=p7
 have G:Chg (Of o (cl i 5)) w w':=g.mono (λk _ e=>by rw[show k=m from e];exact hm)
 refine h.part 5 (by omega) (Ext.refl _ _) (h.z.more g.size) G rfl (λa0 a=>?_)
 exact⟨p1.step (Ext.refl _ _) G a0,p2.step (Ext.refl _ _) G a0,p3.step (Ext.refl _ _) G (a 1 (by omega) (by omega)),p4.step (Ext.refl _ _) G (a 2 (by omega) (by omega)),p5.step (Ext.refl _ _) G (a 3 (by omega) (by omega)),
  p6.step (Ext.refl _ _) G (a 4 (by omega) (by omega)),⟨m,k,hb,hm,hf⟩,p8.step (Ext.refl _ _) G (a 6 (by omega) (by omega)),
  p9.step (Ext.refl _ _) G (a 7 (by omega) (by omega)),pa.step (Ext.refl _ _) G (a 8 (by omega) (by omega)),pb.step (Ext.refl _ _) G (a 9 (by omega) (by omega))⟩
theorem NAt.dset(h:NAt w0 o0 c i b s w o r){m:Nat}{f':Seen}(hm:o m=cl i 4)(k:Wk w' r.down m f')(hf:Fine f')(g:Chg (· =m) w w'):NAt w0 o0 c i b (downS s f') w' o r:=by
 obtain⟨p1,p2,p3,p4,p5,p6,p7,p8,p9,pa,pb⟩:=h.nd.np
 obtain⟨_,_,hb,_,_⟩:=p6
 have G:Chg (Of o (cl i 4)) w w':=g.mono (λk _ e=>by rw[show k=m from e];exact hm)
 refine h.part 4 (by omega) (Ext.refl _ _) (h.z.more g.size) G rfl (λa0 a=>?_)
 exact⟨p1.step (Ext.refl _ _) G a0,p2.step (Ext.refl _ _) G a0,p3.step (Ext.refl _ _) G (a 1 (by omega) (by omega)),p4.step (Ext.refl _ _) G (a 2 (by omega) (by omega)),p5.step (Ext.refl _ _) G (a 3 (by omega) (by omega)),
  ⟨m,k,hb,hm,hf⟩,p7.step (Ext.refl _ _) G (a 5 (by omega) (by omega)),p8.step (Ext.refl _ _) G (a 6 (by omega) (by omega)),
  p9.step (Ext.refl _ _) G (a 7 (by omega) (by omega)),pa.step (Ext.refl _ _) G (a 8 (by omega) (by omega)),pb.step (Ext.refl _ _) G (a 9 (by omega) (by omega))⟩
theorem NAt.uset(h:NAt w0 o0 c i b s w o r){m:Nat}{f':Seen}(hm:o m=cl i 3)(k:Wk w' r.up m f')(hf:Fine f')(g:Chg (· =m) w w'):NAt w0 o0 c i b (upS s f') w' o r:=by
 obtain⟨p1,p2,p3,p4,p5,p6,p7,p8,p9,pa,pb⟩:=h.nd.np
 obtain⟨_,_,hb,_,_⟩:=p5
 have G:Chg (Of o (cl i 3)) w w':=g.mono (λk _ e=>by rw[show k=m from e];exact hm)
 refine h.part 3 (by omega) (Ext.refl _ _) (h.z.more g.size) G rfl (λa0 a=>?_)
 exact⟨p1.step (Ext.refl _ _) G a0,p2.step (Ext.refl _ _) G a0,p3.step (Ext.refl _ _) G (a 1 (by omega) (by omega)),p4.step (Ext.refl _ _) G (a 2 (by omega) (by omega)),⟨m,k,hb,hm,hf⟩,
  p6.step (Ext.refl _ _) G (a 4 (by omega) (by omega)),p7.step (Ext.refl _ _) G (a 5 (by omega) (by omega)),p8.step (Ext.refl _ _) G (a 6 (by omega) (by omega)),
  p9.step (Ext.refl _ _) G (a 7 (by omega) (by omega)),pa.step (Ext.refl _ _) G (a 8 (by omega) (by omega)),pb.step (Ext.refl _ _) G (a 9 (by omega) (by omega))⟩
structure WayR(w0:World)(o0:Cls)(c:Cfg)(i b:Nat)(s:NSt)(p:Pk)(w:World)(o:Cls)(r:NR)(wb m:Nat):Prop where
 wk:Wk w wb m (wayS i s p)
 fine:Fine (wayS i s p)
 set:∀(f':Seen) w',Wk w' wb m f'→Fine f'→Chg (· =m) w w'→NAt w0 o0 c i b (jH i s p f') w' o r
 om:o m≠0
theorem NAt.way(h:NAt w0 o0 c i b s w o r)(p:Pk):∃m,WayR w0 o0 c i b s p w o r (if p.dst=i then r.got else if downB i p then r.down else r.up) m:=by
 obtain⟨p1,p2,p3,p4,p5,p6,p7,p8,p9,pa,pb⟩:=h.nd.np
 obtain⟨m3,k3,b3,n3,f3⟩:=p5
 obtain⟨m4,k4,b4,n4,f4⟩:=p6
 obtain⟨m5,k5,b5,n5,f5⟩:=p7
 by_cases h1:p.dst=i
 ·simp only[if_pos h1]
  exact⟨m5,by simpa [wayS,h1] using k5,by simpa [wayS,h1] using f5,λf' w' k hf g=>by simpa [jH,h1] using h.gset n5 k hf g,by rw[n5];exact qP _ _⟩
 ·simp only[if_neg h1]
  by_cases h2:downB i p=true
  ·simp only[if_pos h2]
   exact⟨m4,by simpa [wayS,h1,h2] using k4,by simpa [wayS,h1,h2] using f4,λf' w' k hf g=>by simpa [jH,h1,h2] using h.dset n4 k hf g,by rw[n4];exact qP _ _⟩
  ·simp only[if_neg h2]
   exact⟨m3,by simpa [wayS,h1,h2] using k3,by simpa [wayS,h1,h2] using f3,λf' w' k hf g=>by simpa [jH,h1,h2] using h.uset n3 k hf g,by rw[n3];exact qP _ _⟩
end
end Go.Proofs.YtnpihllannobgaaGreatDoor
