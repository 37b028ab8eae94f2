/- Steps of the proof, part G22. No condition. -/
import Derived.Test.YtnpihllannobgaaGreatDoorG21
import Derived.Test.YtnpihllannobgaaGreatDoorG20
import Derived.Deep.DeepCutAuto
import Derived.RegionTactic
namespace Go.Proofs.YtnpihllannobgaaGreatDoor
set_option linter.unusedVariables false
set_option linter.unusedSimpArgs false
set_option maxRecDepth 100000
set_option maxHeartbeats 32000000
open Go.ChangeShapes Go.WideShapes Go.ChangeAt Go.RowKit
theorem RV.of_own1{V:Int→Value}{w:World}{own:Cls}{v:Value}{L:List Int}{base e:Nat}(h:w.ownsRow base e 1 v L.length (L.map V))(hz:∀k,v.ownBlock=some k→own k=0):RV V w own v L:=by
 obtain⟨A,c,rfl,⟨h2,h3⟩,h4⟩:=RV.of_own (own:=λ_=>0) h (λ_ _=>rfl)
 refine⟨A,c,rfl,⟨h2,λi hi=>?_⟩,h4⟩
 obtain⟨x,e1,_,e3⟩:=h3 i hi
 exact⟨x,e1,hz _ (by rw[e1];rfl),e3⟩
section
variable {w0 w w':World}{o0 o o':Cls}{c:Cfg}{i b:Nat}{s s':NSt}{r r':NR}
theorem NAt.qset(h:NAt w0 o0 c i b s w o r){v v':Value}{lost lost':Int}{ps ps':List QE}(hq:Qb w r.q c.queue v lost ps)(hv:∀k,v.ownBlock=some k→o k=cl i 2)(hps:∀p∈ps,BO w o p.2.1 p.2.2)
  (hq':Qb w' r.q c.queue v' lost' ps') (hl:0≤lost'∧lost'≤1000000) (hv':v'.ownBlock=v.ownBlock∨∃k,v'.ownBlock=some k∧w.heap.size≤k) (g:Chg (λk=>k=r.q∨v.ownBlock=some k) w w')
  (hel:∀p∈ps',p∈ps∨(w'.ownsRow w.heap.size 5 1 p.2.1 p.2.2.length (p.2.2.map V8)∧∀x∈p.2.2,0≤x∧x<256)):
  ∃o',Ext w o o'∧NAt w0 o0 c i b {s with q:=ps'.map (λp=>(p.1,p.2.2))} w' o' r∧(∀k,v'.ownBlock=some k→o' k=cl i 2)∧(∀p∈ps',BO w' o' p.2.1 p.2.2):=by
 obtain⟨p1,p2,p3,p4,p5,p6,p7,p8,p9,pa,pb⟩:=h.nd.np
 obtain⟨_,_,_,_,hob,_⟩:=p4
 have G:Chg (Of o (cl i 2)) w w':=g.mono (λk _ e=>by
  rcases e with e|e
  ·rw[e];exact hob
  ·exact hv k e)
 have key:∀o',Ext w o o'→Z w' o'→(∀k,v'.ownBlock=some k→o' k=cl i 2)→(∀k,v'.ownBlock≠some k→w.heap.size≤k→o' k=0)→
   Ext w o o'∧NAt w0 o0 c i b {s with q:=ps'.map (λp=>(p.1,p.2.2))} w' o' r∧(∀k,v'.ownBlock=some k→o' k=cl i 2)∧(∀p∈ps',BO w' o' p.2.1 p.2.2):=by
  intro o' hE hZ hk hn
  have h0:∀k,o k=0→¬Of o (cl i 2) k:=λk h1 h2=>by unfold Of at h2;rw[h1] at h2;exact qf i 2 h2.symm
  have hbo:∀p∈ps',BO w' o' p.2.1 p.2.2:=λp hp=>by
   rcases hel p hp with h1|⟨h1,h2⟩
   ·exact (hps p h1).step hE G h0
   ·exact⟨RV.of_own1 h1 (λk hk1=>hn k (λe=>own_neT h1 hq'.row (by decide) hk1 e) (qT h1 hk1).1),h2⟩
  refine⟨hE,h.part 2 (by omega) hE hZ G rfl (λa0 a=>?_),hk,hbo⟩
  exact⟨p1.step hE G a0,p2.step hE G a0,p3.step hE G (a 1 (by omega) (by omega)),Qo.of hq' (by rw[hE r.q (qX hq.blk)];exact hob) hl.1 hl.2 hk hbo,p5.step hE G (a 3 (by omega) (by omega)),
   p6.step hE G (a 4 (by omega) (by omega)),p7.step hE G (a 5 (by omega) (by omega)),p8.step hE G (a 6 (by omega) (by omega)),
   p9.step hE G (a 7 (by omega) (by omega)),pa.step hE G (a 8 (by omega) (by omega)),pb.step hE G (a 9 (by omega) (by omega))⟩
 rcases hv' with h1|⟨k,h1,h2⟩
 ·exact⟨o,key o (Ext.refl _ _) (h.z.more g.size) (λk hk=>hv k (h1▸hk)) (λk _ hk=>h.z k hk)⟩
 ·refine⟨cls o k (cl i 2),key _ (Ext.cls o k _ h2) ((h.z.more g.size).cls _ (qg hq'.row h1).2) (λj hj=>?_) (λj hj hk=>?_)⟩
  ·rw[h1] at hj;cases hj;exact jp _ _ _
  ·rw[cls_ne o k _ (λe=>hj (by rw[h1,e]))];exact h.z j hk
end
theorem vk{p:Pk}(h:mayP p=true)(hd:∀x∈p.data,0≤x∧x<256):∀x∈encP p,0≤x∧x<256:=by
 obtain⟨_,_,_,_,_,⟨_,h1,_⟩,_⟩:=jD h
 intro x hx
 unfold encP at hx
 simp only[List.mem_append] at hx
 rcases hx with ((((((hx|hx)|hx)|hx)|hx)|hx)|hx)|hx
 ·exact zD _ _ x hx
 ·exact zD _ _ x hx
 ·exact zD _ _ x hx
 ·exact zD _ _ x hx
 ·exact zD _ _ x hx
 ·have:=h1 x hx;omega
 ·exact zD _ _ x hx
 ·exact hd x hx
theorem encP_len{p:Pk}(h:mayP p=true):(encP p).length≤51:=by
 obtain⟨_,_,_,_,_,⟨h0,_,_⟩,_,h2⟩:=jD h
 simp[encP,qw];omega
def putN(c:Cfg)(i:Nat)(s:NSt)(p:Pk)(tt:Int)(came:Pk):NSt:=
 if mayP p=true∧(s.q.length:Int)<c.queue then {s with q:=s.q++[(tt,encP p)]} else evN s ⟨5,i,0,1,came⟩
theorem PO.step{w w':World}{own own':Cls}{lv dv:Value}{p:Pk}{S:Nat→Prop}(h:PO w own lv dv p)(e:Ext w own own')(g:Chg S w w')(hS:∀j,own j=0→¬S j):PO w' own' lv dv p:=⟨h.1.step e g hS,h.2.step e g hS⟩
section
variable {w0 w w':World}{o0 o o':Cls}{c:Cfg}{i b:Nat}{s s':NSt}{r r':NR}
theorem NAt.old{w1:World}{o1:Cls}{r1:NR}{s1:NSt}(h:NAt w0 o0 c i b s w o r)(k:NAt w0 o0 c i b s1 w1 o1 r1)(e:Ext w o o1)(g:Chg (NdS o i) w w1){lv dv:Value}{p:Pk}(hp:PO w o lv dv p):PO w1 o1 lv dv p:=
 hp.step e g (λj hj hs=>by obtain⟨m,_,hm⟩:=hs;rw[hj] at hm;exact qf i m hm.symm)
theorem nput_any(h:NAt w0 o0 c i b s w o r)(p came:Pk)(tt:Int)(lv dv lv2 dv2:Value)(hp:PO w o lv dv p)(hc:PO w o lv2 dv2 came)(hL:p.path.length≤100000)(hD:p.data.length≤100000)(hq:s.q.length≤900)(hn:s.ev.length≤1000):
  Calls Tryz.prog 254 #[.pointer (some ⟨b,0,none⟩),pkV p lv dv,.int .i64 tt,pkV came lv2 dv2] w (PN w0 o0 c i b (putN c i s p tt came) (λv _ _=>v= .tuple #[])):=by
 obtain⟨FS,hFS⟩:∃FS,putN c i s p tt came=FS:=⟨_,rfl⟩
 rw[hFS]
 unfold putN at hFS
 obtain⟨lA,lc,hlv,_⟩:=hp.1
 obtain⟨⟨dA,dc,hdv,_⟩,hDB⟩:=hp.2
 obtain⟨lA2,lc2,hlv2,_⟩:=hc.1
 obtain⟨⟨dA2,dc2,hdv2,_⟩,_⟩:=hc.2
 obtain⟨m,hm⟩:=qZ p.path.length
 obtain⟨n,hnn⟩:=qZ p.data.length
 obtain⟨m2,hm2⟩:∃m,m=came.path.length:=⟨_,rfl⟩
 obtain⟨n2,hn2⟩:∃n,n=came.data.length:=⟨_,rfl⟩
 rw[←hm] at hlv
 rw[←hnn] at hdv
 rw[←hm2] at hlv2
 rw[←hn2] at hdv2
 subst hlv hdv hlv2 hdv2
 have HENC:=qQ (show∀W,Chg (λ_=>False) w W→Calls Tryz.prog 79 #[.agg #[.int .i64 p.src,.int .i64 p.dst,.int .i64 p.n,.int .i64 p.life,.slice lA m lc,.slice dA n dc]] W (PEncP W p) from λW g=>pencode_any W o p _ _ (hp.keep g (λ_ _ e=>e)) hL hD)
 have HDROP:=qQ (show∀(W:World) (O:Cls) (R:NR) (s1:NSt),NAt w0 o0 c i b s1 W O R→PO W O (.slice lA2 m2 lc2) (.slice dA2 n2 dc2) came→s1.ev.length≤1000→Calls Tryz.prog 69 #[.pointer (some ⟨b,0,none⟩),.agg #[.int .i64 came.src,.int .i64 came.dst,.int .i64 came.n,.int .i64 came.life,.slice lA2 m2 lc2,.slice dA2 n2 dc2],.int .i64 1] W (PN w0 o0 c i b (evN s1 ⟨5,i,0,1,came⟩) (λv _ _=>v= .tuple #[])) from
  λW O R s1 h1 h2 h3=>jZ h1 came _ _ 1 h2 h3)
 obtain⟨w1,hw1⟩:=qZ ((w.alloc (.cells #[.int .i64 p.src,.int .i64 p.dst,.int .i64 p.n,.int .i64 p.life,.slice lA m lc,.slice dA n dc] 42)).alloc (.cells #[.int .i64 came.src,.int .i64 came.dst,.int .i64 came.n,.int .i64 came.life,.slice lA2 m2 lc2,.slice dA2 n2 dc2] 42))
 have ga:=Chg.alloc (λ_=>False) w (.cells #[.int .i64 p.src,.int .i64 p.dst,.int .i64 p.n,.int .i64 p.life,.slice lA m lc,.slice dA n dc] 42)
 have gb:=Chg.alloc (λ_=>False) (w.alloc (.cells #[.int .i64 p.src,.int .i64 p.dst,.int .i64 p.n,.int .i64 p.life,.slice lA m lc,.slice dA n dc] 42)) (.cells #[.int .i64 came.src,.int .i64 came.dst,.int .i64 came.n,.int .i64 came.life,.slice lA2 m2 lc2,.slice dA2 n2 dc2] 42)
 have ba:=Chg.keep gb (qV w (.cells #[.int .i64 p.src,.int .i64 p.dst,.int .i64 p.n,.int .i64 p.life,.slice lA m lc,.slice dA n dc] 42)) (λe=>e)
 have bb:=qV (w.alloc (.cells #[.int .i64 p.src,.int .i64 p.dst,.int .i64 p.n,.int .i64 p.life,.slice lA m lc,.slice dA n dc] 42)) (.cells #[.int .i64 came.src,.int .i64 came.dst,.int .i64 came.n,.int .i64 came.life,.slice lA2 m2 lc2,.slice dA2 n2 dc2] 42)
 have hsz:(w.alloc (.cells #[.int .i64 p.src,.int .i64 p.dst,.int .i64 p.n,.int .i64 p.life,.slice lA m lc,.slice dA n dc] 42)).heap.size=w.heap.size+1:=by simp
 rw[hsz] at bb
 rw[←hw1] at ba bb gb
 have HG:=qQ (ga.trans gb)
 have HW1:=qQ hw1
 have HBB:=qQ bb
 obtain⟨d0,d1,d2,d3,d4,d5⟩:=qC ba
 have H:=qQ h
 have HC:=qQ hc
 have HQ:=qQ (And.intro hq hn)
 have HDB:=qQ hDB
 have HFS:=qQ hFS
 obtain⟨_,_,_,p4,_⟩:=h.nd.np
 obtain⟨v,lost,ps,q1,q2,q3,q4,q5,q6,q7,q8⟩:=p4
 have HQO:=qQ (And.intro (Qb.mk q1 q5) (And.intro q3 (And.intro q4 (And.intro q6 (And.intro q7 q8)))))
 clear ga gb ba bb hsz hw1 hp hc hL hD hq hn hDB hFS h q1 q2 q3 q4 q5 q6 q7 q8 hm hnn hm2 hn2
 unfold pkV
 go_enter Tryz.func254,Tryz.ntmps254
 go_upto_region 1 with fail
 rw[←HW1.out]
 clear HW1
 go_wp2_with fail
 (with_reducible refine (HENC.out w1 HG.out).mono ?_)
 rintro en w2 hE
 clear HENC d0 d1 d2 d3 d4 d5
 rcases hE with ⟨hmay,x,rfl,hO,G⟩|⟨hmay,rfl,G⟩
 ·obtain⟨A1,n1,c1,rfl⟩:∃A n c,x= .slice A n c:=by rcases qD hO with ⟨e,_⟩|⟨g,cap,e,_⟩ <;> exact⟨_,_,_,e⟩
  have hN2:=H.out.kept (HG.out.trans G)
  have c11:w2.cell? ⟨b,11,none⟩=some (.pointer (some ⟨r.q,0,none⟩)):=hN2.cell 11
  have HN2:=qQ hN2
  have HPC:=qQ (HC.out.keep (HG.out.trans G) (λ_ _ e=>e))
  have HB2:=qQ (Chg.keep G HBB.out (λe=>e))
  have HQ2:=qQ (HQO.out.1.kept (HG.out.trans G))
  have HBS:=qQ (show BS w2 w2.heap.size (.slice A1 n1 c1) (encP p) from BS.of_own hO (vk hmay HDB.out))
  have HLEN:=qQ (encP_len hmay)
  have HPS:=qQ (show∀q∈ps,BO w2 o q.2.1 q.2.2 from λq hq=>(HQO.out.2.2.2.2.1 q hq).keep (HG.out.trans G) (λ_ _ e=>e))
  have hsq:s.q.length=ps.length:=by rw[HQO.out.2.2.2.2.2,List.length_map]
  have HSQ:=qQ hsq
  have HMAY:=qQ hmay
  clear hN2 hsq hmay hO G
  by_cases hlt:(ps.length:Int)<c.queue
  ·have HP:=qQ (qput_any w2 r.q c.queue lost v (.slice A1 n1 c1) ps tt (encP p) HQ2.out hlt HBS.out (by have:=HLEN.out;omega) (by have:=HQ.out.1;have:=HSQ.out;omega))
   have HF:=qQ (show FS= {s with q:=s.q++[(tt,encP p)]} from by rw[←HFS.out,if_pos ⟨HMAY.out,by rw[HSQ.out];exact hlt⟩])
   clear hlt
   go_wp2_with fail
   with_reducible refine HP.out.mono ?_
   rintro en w3 ⟨rfl,x',v',h1,h2,h3,h4⟩
   obtain⟨o3,_,hN3,_⟩:=HN2.out.qset HQ2.out HQO.out.2.2.2.1 HPS.out h2 ⟨HQO.out.2.1,HQO.out.2.2.1⟩ h3 h4 (λq hq=>by
    rcases List.mem_append.1 hq with hq|hq
    ·exact .inl hq
    ·simp at hq;subst hq;exact .inr ⟨h1,vk HMAY.out HDB.out⟩)
   have HX:=qQ hN3
   clear h1 h2 h3 h4 hN3 HP c11
   go_wp2_with fail
   go_end0
   refine⟨_,o3,r,rfl,?_,rfl⟩
   have:=HX.out
   rw[HF.out]
   rw[List.map_append,←HQO.out.2.2.2.2.2] at this
   exact this
  ·have HP:=qQ (qput_full w2 r.q c.queue lost v (.slice A1 n1 c1) ps tt HQ2.out (by omega) ⟨HQO.out.2.1,HQO.out.2.2.1⟩ (by have:=HQ.out.1;have:=HSQ.out;omega))
   have HF:=qQ (show FS=evN s ⟨5,i,0,1,came⟩ from by rw[←HFS.out,if_neg (by rw[HSQ.out];exact λe=>hlt e.2)])
   clear hlt
   go_wp2_with fail
   with_reducible refine HP.out.mono ?_
   rintro en w3 ⟨rfl,lost',l1,l2,h2,h4⟩
   have g4:Chg (λk=>k=r.q∨v.ownBlock=some k) w2 w3:=h4.mono (λk _ e=> .inl e)
   obtain⟨o3,hE,hN3,_⟩:=HN2.out.qset HQ2.out HQO.out.2.2.2.1 HPS.out h2 ⟨l1,l2⟩ (.inl rfl) g4 (λq hq=> .inl hq)
   rw[←HQO.out.2.2.2.2.2] at hN3
   have hob:=HN2.out.nd.ob
   have hoq:=HN2.out.nd.np.2.2.2.1
   obtain⟨_,_,_,_,hoq,_⟩:=hoq
   have HPC3:=qQ (HPC.out.step hE g4 (λj hj e=>by
    rcases e with e|e
    ·rw[e,hoq] at hj;exact qf i 2 hj
    ·rw[HQO.out.2.2.2.1 j e] at hj;exact qf i 2 hj))
   have hb3:=Chg.keep h4 HB2.out (λe=>by
    have h1:=qX HQO.out.1.blk
    have e:w.heap.size+1=r.q:=e
    omega)
   obtain⟨d0,d1,d2,d3,d4,d5⟩:=qC hb3
   have HX3:=qQ hN3
   clear h2 h4 g4 hE hN3 hob hoq hb3 HP c11 l1 l2
   go_wp2_with fail
   (with_reducible refine (HDROP.out _ _ _ _ HX3.out HPC3.out HQ.out.2).mono ?_)
   rintro en w4 ⟨v3,o4,r3,rfl,hN,rfl⟩
   have HX:=qQ hN
   clear hN d0 d1 d2 d3 d4 d5
   go_wp2_with fail
   go_end0
   exact⟨_,_,_,rfl,by rw[HF.out];exact HX.out,rfl⟩
 ·have HN2:=qQ (H.out.kept (HG.out.trans G))
  have HPC:=qQ (HC.out.keep (HG.out.trans G) (λ_ _ e=>e))
  have hbb:=Chg.keep G HBB.out (λe=>e)
  obtain⟨d0,d1,d2,d3,d4,d5⟩:=qC hbb
  have HF:=qQ (show FS=evN s ⟨5,i,0,1,came⟩ from by rw[←HFS.out,if_neg (by rw[hmay];simp)])
  clear hbb
  go_wp2_with fail
  (with_reducible refine (HDROP.out _ _ _ _ HN2.out HPC.out HQ.out.2).mono ?_)
  rintro en w3 ⟨v3,o3,r3,rfl,hN,rfl⟩
  have HX:=qQ hN
  clear hN d0 d1 d2 d3 d4 d5
  go_wp2_with fail
  go_end0
  exact⟨_,_,_,rfl,by rw[HF.out];exact HX.out,rfl⟩
end
def downP(p:Pk)(me:Int):Int×Int×Pk:=
 let x:=stepP p me
 if x.1≠0 then (x.1,0,x.2) else
  let k:=jJ x.2.path me
  if k<0∨k=(x.2.path.length:Int)-1 then (6,0,pk0) else (0,x.2.path.getD (k.toNat+1) 0,x.2)
def PDownP(w:World)(x:Int×Int×Pk)(en:Ending)(w':World):Prop:=∃lv dv,en= .returned (.tuple #[pkV x.2.2 lv dv,.int .i64 x.2.1,.int .i64 x.1])∧OwnP w w' lv dv x.2.2∧Chg (λ_=>False) w w'
theorem PDownP.err(w w':World)(e:Int)(g:Chg (λ_=>False) w w'):PDownP w (e,0,pk0) (.returned (.tuple #[pkV pk0 (.slice none 0 0) (.slice none 0 0),.int .i64 0,.int .i64 e])) w':=⟨_,_,rfl,OwnP.nil _ _,g⟩
theorem indexI_bd(L:List Int)(x:Int): -1≤jJ L x∧jJ L x<(L.length:Int):=by
 unfold jJ
 split
 ·rename_i i hi
  have:=(List.findIdx?_eq_some_iff_getElem.1 hi).1
  omega
 ·omega
theorem pdown_any(w:World)(own:Cls)(p:Pk)(me:Int)(lv dv:Value)(h:PO w own lv dv p)(hL:p.path.length≤100000)(hD:p.data.length≤100000):Calls Tryz.prog 253 #[pkV p lv dv,.int .i64 me] w (PDownP w (downP p me)):=by
 obtain⟨R,hR⟩:=qZ (downP p me)
 rw[←hR]
 unfold downP at hR
 obtain⟨x,hx⟩:∃x,stepP p me=x:=⟨_,rfl⟩
 have hxl:=stepP_len hx hL
 obtain⟨E,S',D',N',F',P',T'⟩:=x
 dsimp only at hxl
 rw[hx] at hR
 obtain⟨S,D,N,F,P,T⟩:=p
 dsimp only at hL hD hR
 have HB:=qQ (PB2.start w S D N F lv dv)
 have HSTEP:=qQ (show∀W,Chg (λ_=>False) w W→Calls Tryz.prog 285 #[.agg #[.int .i64 S,.int .i64 D,.int .i64 N,.int .i64 F,lv,dv],.int .i64 me] W (PStepP W (E,⟨S',D',N',F',P',T'⟩)) from
  λW g=>hx▸pstep_any W own ⟨S,D,N,F,P,T⟩ me lv dv (h.keep g (λ_ _ e=>e)) hL hD)
 obtain⟨lA,lc,hlv,_⟩:=h.1
 obtain⟨⟨dA,dc,hdv,_⟩,_⟩:=h.2
 obtain⟨m,hm⟩:=qZ P.length
 obtain⟨n,hn⟩:=qZ T.length
 dsimp only at hdv hlv
 rw[←hn] at hdv
 rw[←hm] at hlv
 subst hlv hdv
 clear h hm hn hL hD hx
 have HR:=qQ hR
 have HXL:=qQ hxl
 clear hR hxl
 unfold pkV
 go_enter Tryz.func253,Tryz.ntmps253
 go_wp2_with fail
 obtain⟨b,hbe⟩:=qZ (w.heap.size+1)
 rw[←hbe] at HB ⊢
 clear hbe
 generalize (w.alloc (.cells #[.int .i64 S,.int .i64 D,.int .i64 N,.int .i64 F,.slice lA m lc,.slice dA n dc] 42)).alloc (.cells #[.int .i64 0,.int .i64 0,.int .i64 0,.int .i64 0,.slice none 0 0,.slice none 0 0] 42)=w1 at *
 obtain⟨a,hae⟩:=qZ w.heap.size
 obtain⟨d0,d1,d2,d3,d4,d5⟩:=qC HB.out.blk
 rw[←hae] at d0 d1 d2 d3 d4 d5 ⊢
 have HAE:=qQ hae
 clear hae
 (with_reducible refine (HSTEP.out w1 HB.out.chg).mono ?_)
 rintro en w4 ⟨v1,v2,rfl,hO,g4⟩
 dsimp only at hO
 obtain⟨A1,n1,c1,rfl⟩:∃A n c,v1= .slice A n c:=by rcases qD hO.1 with ⟨e,_⟩|⟨g,cap,e,_⟩ <;> exact⟨_,_,_,e⟩
 obtain⟨A2,n2,c2,rfl⟩:∃A n c,v2= .slice A n c:=by rcases qD hO.2.1 with ⟨e,_⟩|⟨g,cap,e,_⟩ <;> exact⟨_,_,_,e⟩
 have HB4:=qQ (HB.out.kept g4)
 have HG2:=qQ (HB.out.chg)
 have HH:=qQ (qX HB.out.res)
 have HH1:=qQ HB.out.lt
 have hblk:=HB4.out.blk
 rw[←HAE.out] at hblk
 have HSZ:=qQ (show w1.heap.size≤w4.heap.size from g4.size)
 clear g4 HB HSTEP d0 d1 d2 d3 d4 d5
 obtain⟨d0,d1,d2,d3,d4,d5⟩:=qC hblk
 obtain⟨e0,e1,e2,e3,e4,e5⟩:=zg hblk
 unfold pkV
 dsimp only
 go_upto_region 2 with fail
 have hb5:=set6b hblk (.int .i64 S') (.int .i64 D') (.int .i64 N') (.int .i64 F') (.slice A1 n1 c1) (.slice A2 n2 c2)
 have g5:=set6 w4 a (.int .i64 S') (.int .i64 D') (.int .i64 N') (.int .i64 F') (.slice A1 n1 c1) (.slice A2 n2 c2)
 generalize (((((w4.setCell ⟨a,0,none⟩ (.int .i64 S')).setCell ⟨a,1,none⟩ (.int .i64 D')).setCell ⟨a,2,none⟩ (.int .i64 N')).setCell ⟨a,3,none⟩ (.int .i64 F')).setCell ⟨a,4,none⟩ (.slice A1 n1 c1)).setCell ⟨a,5,none⟩ (.slice A2 n2 c2)=w5 at *
 have HB5:=qQ (HB4.out.setb (by rw[←HAE.out];exact g5) S' D' N' F' (.slice A1 n1 c1) (.slice A2 n2 c2) (by rw[←HAE.out];exact hb5))
 have hrow:∀(W:World) (e:TypeId) (v:Value) (len:Nat) (xs:List Value),W.ownsRow w1.heap.size e 1 v len xs→∀j,v.ownBlock=some j→¬j=a∧¬j=b:=λW e v len xs hr j hj=>by
  have h1:=(qT hr hj).1
  have h2:=HH.out
  have h3:=HH1.out
  have h4:=HAE.out
  omega
 have HROW:=qQ hrow
 have HO:=qQ (show w5.ownsRow w1.heap.size 3 1 (.slice A1 n1 c1) P'.length (P'.map VI)∧w5.ownsRow w1.heap.size 5 1 (.slice A2 n2 c2) T'.length (T'.map V8)∧(∀x∈T',0≤x∧x<256) from
  ⟨qY hO.1 g5 (λj hj=>(hrow _ _ _ _ _ hO.1 j hj).1),qY hO.2.1 g5 (λj hj=>(hrow _ _ _ _ _ hO.2.1 j hj).1),hO.2.2⟩)
 have HSZ:=qQ (Nat.le_trans HSZ.out g5.size)
 clear hO g5 HB4 hblk d0 d1 d2 d3 d4 d5 e0 e1 e2 e3 e4 e5 hrow
 obtain⟨d0,d1,d2,d3,d4,d5⟩:=qC hb5
 obtain⟨e0,e1,e2,e3,e4,e5⟩:=zg hb5
 clear hb5
 obtain⟨c0,c1',c2',c3,c4,c5⟩:=qC HB5.out.res
 obtain⟨f0,f1,f2,f3,f4,f5⟩:=zg HB5.out.res
 by_cases hE:E≠0
 ·skip
  have i1:(E != 0)=true:=by simpa using hE
  have i2:(!decide (E=0))=true:=by simpa using hE
  have HRF:=qQ (show R=(E,0,⟨S',D',N',F',P',T'⟩) from by rw[HR.out,if_pos hE])
  go_wp2_with fail
  obtain⟨hbk,G,GS⟩:=HB5.out.fin (.int .i64 S') (.int .i64 D') (.int .i64 N') (.int .i64 F') (.slice A1 n1 c1) (.slice A2 n2 c2) _ rfl
  obtain⟨k0,k1,k2,k3,k4,k5⟩:=qC hbk
  rw[HRF.out]
  exact bodyPost_ret (v:= .tuple #[pkV ⟨S',D',N',F',P',T'⟩ (.slice A1 n1 c1) (.slice A2 n2 c2),.int .i64 0,.int .i64 E]) (by simp[results,Tryz.results253,go_sem,pkV,k0,k1,k2,k3,k4,k5]) rfl
   ⟨_,_,rfl,⟨qk (qY HO.out.1 GS (λj hj=>(HROW.out _ _ _ _ _ HO.out.1 j hj).2)) HG2.out.size,
    qk (qY HO.out.2.1 GS (λj hj=>(HROW.out _ _ _ _ _ HO.out.2.1 j hj).2)) HG2.out.size,HO.out.2.2⟩,G⟩
 obtain rfl:E=0:=by simpa using hE
 clear hE
 have HR2:=qQ (show R=(let k:=jJ P' me;if k<0∨k=(P'.length:Int)-1 then (6,0,pk0) else (0,P'.getD (k.toNat+1) 0,⟨S',D',N',F',P',T'⟩)) from by rw[HR.out,if_neg (by simp)])
 clear HR
 have hrv:=RV.of_own (own:=λ_=>0) HO.out.1 (λ_ _=>rfl)
 obtain⟨Ax,cx,ex,hrs,hAn,_⟩:=hrv.rs
 cases ex
 have hkb:=indexI_bd P' me
 have HC:=qQ (indexI_any w5 A1 P'.length c1 P' me hrs HXL.out)
 obtain⟨k,hk⟩:∃k,jJ P' me=k:=⟨_,rfl⟩
 rw[hk] at HC HR2 hkb
 clear hrs hAn hrv hk
 obtain⟨ln,hln⟩:∃ln,P'.length=ln:=⟨_,rfl⟩
 rw[hln] at HC HR2 HO d4 HXL HB5 hkb
 have HLN:=qQ hln
 clear hln
 go_wp2_with fail
 with_reducible refine HC.out.mono ?_
 rintro en w6 ⟨rfl,hw6⟩
 subst w6
 clear HC
 have hxl:ln≤100000:=HXL.out
 by_cases hk:k<0∨k=(ln:Int)-1
 ·have HRF:=qQ (show R=(6,0,pk0) from by rw[HR2.out];exact if_pos hk)
  by_cases hk0:k<0
  ·clear hk
   have i1:decide (k<0)=true:=by simpa using hk0
   go_wp2_with fail
   obtain⟨hbk,G,_⟩:=HB5.out.fin (.int .i64 0) (.int .i64 0) (.int .i64 0) (.int .i64 0) (.slice none 0 0) (.slice none 0 0) _ rfl
   obtain⟨k0,k1,k2,k3,k4,k5⟩:=qC hbk
   rw[HRF.out]
   exact bodyPost_ret (v:= .tuple #[pkV pk0 (.slice none 0 0) (.slice none 0 0),.int .i64 0,.int .i64 6]) (by simp[results,Tryz.results253,go_sem,pkV,pk0,k0,k1,k2,k3,k4,k5]) rfl (PDownP.err _ _ _ G)
  ·have hw1:IntKind.wrap .i64 ((ln:Int)-1)=(ln:Int)-1:=wrap_small _ (by omega) (by omega)
   have hke:k=(ln:Int)-1:=by omega
   have i1:decide (k<0)=false:=by simpa using hk0
   have i2:(k==(ln:Int)-1)=true:=by simpa using hke
   have i3:decide (k=(ln:Int)-1)=true:=by simpa using hke
   have i4:¬k<0:=hk0
   have HKE:=qQ hke
   clear hk hke
   go_wp2_with fail
   obtain⟨hbk,G,_⟩:=HB5.out.fin (.int .i64 0) (.int .i64 0) (.int .i64 0) (.int .i64 0) (.slice none 0 0) (.slice none 0 0) _ rfl
   obtain⟨k0,k1,k2,k3,k4,k5⟩:=qC hbk
   rw[HRF.out]
   exact bodyPost_ret (v:= .tuple #[pkV pk0 (.slice none 0 0) (.slice none 0 0),.int .i64 0,.int .i64 6]) (by simp[results,Tryz.results253,go_sem,pkV,pk0,k0,k1,k2,k3,k4,k5]) rfl (PDownP.err _ _ _ G)
 ·obtain⟨q,rfl⟩:∃q:Nat,k=(q:Int):=⟨k.toNat,by omega⟩
  have HRF:=qQ (show R=(0,P'.getD (q+1) 0,⟨S',D',N',F',P',T'⟩) from by rw[HR2.out];exact if_neg hk)
  have i1:decide ((q:Int)<0)=false:=by simp
  have i2:((q:Int)==(ln:Int)-1)=false:=by simp;omega
  have i3:decide ((q:Int)=(ln:Int)-1)=false:=by simp;omega
  have i4:¬(q:Int)<0:=by omega
  have hq:q+1<ln:=by omega
  have hw1:IntKind.wrap .i64 ((ln:Int)-1)=(ln:Int)-1:=wrap_small _ (by omega) (by omega)
  clear hk HR2
  obtain⟨z,hz⟩:∃z,P'[q+1]? =some z:=⟨_,List.getElem?_eq_getElem (by have:=HLN.out;omega)⟩
  go_upto_region 7 with fail
  obtain⟨g,cap,e1,hgb,hgs,hcap⟩:∃g cap,A1=some ⟨g,0,none⟩∧w1.heap.size≤g∧c1=cap∧ln≤cap:=by
   rcases qD HO.out.1 with ⟨e,h1,_⟩|⟨g,cap,e,h2,h3,h4,_⟩
   ·omega
   ·cases e;exact⟨g,_,rfl,h2,rfl,h4⟩
  subst e1 hgs
  have hcz:w5.cell? ⟨g,q+1,none⟩=some (.int .i64 z):=by
   have:=qr HO.out.1 (q+1) (VI z) (by rw[List.getElem?_map,hz];rfl)
   exact this
  have hw2:IntKind.wrap .i64 ((q:Int)+1)=(q:Int)+1:=wrap_small _ (by omega) (by omega)
  have j1:0≤(q:Int)+1:=by omega
  have j2:(q:Int)+1<(ln:Int):=by omega
  have j3:((q:Int)+1).toNat=q+1:=by omega
  have hab:¬a=b:=by have:=HH1.out;have:=HAE.out;omega
  have hgb':¬g=b:=by have:=HH.out;omega
  have hK:∀W,Chg (· =b) w5 W→W.cell? ⟨a,0,none⟩=some (.int .i64 S')∧W.cell? ⟨a,1,none⟩=some (.int .i64 D')∧W.cell? ⟨a,2,none⟩=some (.int .i64 N')∧W.cell? ⟨a,3,none⟩=some (.int .i64 F')∧W.cell? ⟨a,4,none⟩=some (.slice (some ⟨g,0,none⟩) ln c1)∧W.cell? ⟨a,5,none⟩=some (.slice A2 n2 c2)∧W.cell? ⟨g,q+1,none⟩=some (.int .i64 z):=λW k=>by
   have L:=λ{o:Nat} {b':Nat} {v:Value} (h:w5.cell? ⟨b',o,none⟩=some v) (ne:¬b'=b)=>(k.cell (qP h) ne).trans h
   exact⟨L d0 hab,L d1 hab,L d2 hab,L d3 hab,L d4 hab,L d5 hab,L hcz hgb'⟩
  have HK:=qQ hK
  have hab0:=qQ hab
  have hgb0:=qQ hgb'
  have HZ:=qQ (show P'.getD (q+1) 0=z from by rw[List.getD_eq_getElem?_getD,hz];rfl)
  clear hK hab hgb' hcap hgb hz hq hxl hkb i1 i2 i3 i4 hw1
  have hab:=hab0.out
  have hgb':=hgb0.out
  go_cut [5,6] (λu5 u6 wx=>u5= .int .i64 z∧u6= .int .i64 0∧wx.heap[b]? =some (.cells #[.int .i64 S',.int .i64 D',.int .i64 N',.int .i64 F',.slice (some ⟨g,0,none⟩) ln c1,.slice A2 n2 c2] 42 (0,0))∧Chg (λj=>j=b) w5 wx)
  case first=>
   go_region_with fail
   all_goals
    go_wp2_with fail
    go_meet
    exact⟨rfl,rfl,Chg.keep (Chg.drew (λ_=>False) _) (set6b HB5.out.res (.int .i64 S') (.int .i64 D') (.int .i64 N') (.int .i64 F') (.slice (some ⟨g,0,none⟩) ln c1) (.slice A2 n2 c2)) (λe=>e),(set6 w5 b (.int .i64 S') (.int .i64 D') (.int .i64 N') (.int .i64 F') (.slice (some ⟨g,0,none⟩) ln c1) (.slice A2 n2 c2)).trans (Chg.drew _ _)⟩
  case rest=>
   obtain⟨rfl,rfl,hbk,GS⟩:=hcut
   obtain⟨k0,k1,k2,k3,k4,k5⟩:=qC hbk
   have G:Chg (λ_=>False) w wc:=by
    have hl:=HB5.out.lt
    exact (HB5.out.chg.none.trans (GS.mono (λk _ h=>(by have h:k=b:=h;omega:w.heap.size≤k)))).fresh
   clear d0 d1 d2 d3 d4 d5 e0 e1 e2 e3 e4 e5 c0 c1' c2' c3 c4 c5 f0 f1 f2 f3 f4 f5
   go_wp2_with fail
   rw[HRF.out,HZ.out]
   exact bodyPost_ret (v:= .tuple #[pkV ⟨S',D',N',F',P',T'⟩ (.slice (some ⟨g,0,none⟩) ln c1) (.slice A2 n2 c2),.int .i64 z,.int .i64 0]) (by simp[results,Tryz.results253,go_sem,pkV,k0,k1,k2,k3,k4,k5]) rfl
    ⟨_,_,rfl,⟨by rw[HLN.out];exact qk (qY HO.out.1 GS (λj hj=>(HROW.out _ _ _ _ _ HO.out.1 j hj).2)) HG2.out.size,
     qk (qY HO.out.2.1 GS (λj hj=>(HROW.out _ _ _ _ _ HO.out.2.1 j hj).2)) HG2.out.size,HO.out.2.2⟩,G⟩
def kB(c:Cfg)(i:Nat)(s:NSt)(p:Pk):NSt:=if (upP p i).1≠0 then evN s ⟨5,i,0,2,p⟩ else putN c i s (upP p i).2 64 p
theorem stepP_data{p:Pk}{me:Int}{x:Int×Pk}(h:stepP p me=x)(hp:p.data.length≤100000):x.2.data.length≤100000:=by
 subst h
 unfold stepP
 split
 ·simp[pk0]
 ·split
  ·simp[pk0]
  ·exact hp
theorem upP_len{p:Pk}{me E:Int}{x:Pk}(h:upP p me=(E,x))(hp:p.path.length≤100000)(hd:p.data.length≤100000):x.path.length≤100000∧x.data.length≤100000:=by
 unfold upP at h
 obtain⟨y,hy⟩:∃y,stepP p me=y:=⟨_,rfl⟩
 have a:=stepP_len hy hp
 have b:=stepP_data hy hd
 rw[hy] at h
 dsimp only at h
 split at h
 ·cases h;exact⟨a,b⟩
 ·split at h
  ·cases h;exact⟨a,b⟩
  ·split at h
   ·cases h;simp[pk0]
   ·rename_i h16
    cases h
    exact⟨by simp only[List.length_append,List.length_singleton];omega,b⟩
structure Made(w:World)(a:Nat)(x:Pk)(v1 v2:Value)(W:World):Prop where
 blk:W.heap[a]? =some (.cells #[.int .i64 x.src,.int .i64 x.dst,.int .i64 x.n,.int .i64 x.life,v1,v2] 42 (0,0))
 own:OwnP w W v1 v2 x
 chg:Chg (λ_=>False) w W
theorem OwnP.po{w W:World}{o:Cls}{v1 v2:Value}{x:Pk}(h:OwnP w W v1 v2 x)(z:Z w o):PO W o v1 v2 x:=
 ⟨RV.of_own h.1 (λk hk=>z k hk),BO.of_own h.2.1 h.2.2 (λk hk=>z k hk)⟩
theorem OwnP.down{w w' W:World}{v1 v2:Value}{x:Pk}(h:OwnP w' W v1 v2 x)(hs:w.heap.size≤w'.heap.size):OwnP w W v1 v2 x:=⟨qk h.1 hs,qk h.2.1 hs,h.2.2⟩
theorem OwnP.keep{w W W':World}{v1 v2:Value}{x:Pk}{S:Nat→Prop}(h:OwnP w W v1 v2 x)(g:Chg S W W')(h1:∀k,v1.ownBlock=some k→¬S k)(h2:∀k,v2.ownBlock=some k→¬S k):OwnP w W' v1 v2 x:=⟨qY h.1 g h1,qY h.2.1 g h2,h.2.2⟩
theorem made_fin{w w1 wv W:World}{a4:Nat}{x:Pk}{v1 v2:Value}(g0:Chg (λ_=>False) w w1)(h:OwnP wv W v1 v2 x)(hs:w.heap.size≤wv.heap.size)(g:Chg (λ_=>False) w1 W)
  (kb:W.heap[a4]? =some (.cells #[.int .i64 0,.int .i64 0,.int .i64 0,.int .i64 0,.slice none 0 0,.slice none 0 0] 42 (0,0))) (ha:w1.heap.size≤a4):
  Made w a4 x v1 v2 ((((((W.setCell ⟨a4,0,none⟩ (.int .i64 x.src)).setCell ⟨a4,1,none⟩ (.int .i64 x.dst)).setCell ⟨a4,2,none⟩ (.int .i64 x.n)).setCell ⟨a4,3,none⟩ (.int .i64 x.life)).setCell ⟨a4,4,none⟩ v1).setCell ⟨a4,5,none⟩ v2)∧
  Chg (λ_=>False) w1 ((((((W.setCell ⟨a4,0,none⟩ (.int .i64 x.src)).setCell ⟨a4,1,none⟩ (.int .i64 x.dst)).setCell ⟨a4,2,none⟩ (.int .i64 x.n)).setCell ⟨a4,3,none⟩ (.int .i64 x.life)).setCell ⟨a4,4,none⟩ v1).setCell ⟨a4,5,none⟩ v2):=by
 have gs:=set6 W a4 (.int .i64 x.src) (.int .i64 x.dst) (.int .i64 x.n) (.int .i64 x.life) v1 v2
 have hrow:∀{e v len xs},W.ownsRow wv.heap.size e 1 v len xs→e≠42→∀j,v.ownBlock=some j→¬j=a4:=λ{e v len xs} hr he j hj e2=>by
  rcases hr.2 with ⟨e3,_⟩|⟨g,cap,cur,e3,_,hg,_⟩
  ·rw[e3] at hj;cases hj
  ·rw[e3] at hj;cases hj
   subst e2
   rw[kb] at hg
   cases hg
   exact he rfl
 have G:Chg (λ_=>False) w1 _:=(g.none.trans (gs.mono (λk _ e=>(by have e:k=a4:=e;omega:w1.heap.size≤k)))).fresh
 exact⟨⟨set6b kb _ _ _ _ _ _,(h.keep gs (hrow h.1 (by decide)) (hrow h.2.1 (by decide))).down hs,g0.trans G⟩,G⟩
theorem made_new{w w1 wv W:World}{x:Pk}{v1 v2:Value}(g0:Chg (λ_=>False) w w1)(h:OwnP wv W v1 v2 x)(hs:w.heap.size≤wv.heap.size)(g:Chg (λ_=>False) w1 W):
  Made w W.heap.size x v1 v2 (W.alloc (.cells #[.int .i64 x.src,.int .i64 x.dst,.int .i64 x.n,.int .i64 x.life,v1,v2] 42))∧Chg (λ_=>False) w1 (W.alloc (.cells #[.int .i64 x.src,.int .i64 x.dst,.int .i64 x.n,.int .i64 x.life,v1,v2] 42)):=by
 have ga:=Chg.alloc (λ_=>False) W (.cells #[.int .i64 x.src,.int .i64 x.dst,.int .i64 x.n,.int .i64 x.life,v1,v2] 42)
 exact⟨⟨qV _ _,(h.keep ga (λ_ _ e=>e) (λ_ _ e=>e)).down hs,(g0.trans g).trans ga⟩,g.trans ga⟩
section
variable {w0 w w':World}{o0 o o':Cls}{c:Cfg}{i b:Nat}{s s':NSt}{r r':NR}
theorem nrises_any(h:NAt w0 o0 c i b s w o r)(p:Pk)(lv dv:Value)(hp:PO w o lv dv p)(hL:p.path.length≤100000)(hD:p.data.length≤100000)(hq:s.q.length≤900)(hn:s.ev.length≤1000):
  Calls Tryz.prog 212 #[.pointer (some ⟨b,0,none⟩),pkV p lv dv] w (PN w0 o0 c i b (kB c i s p) (λv _ _=>v= .tuple #[])):=by
 obtain⟨FS,hFS⟩:∃FS,kB c i s p=FS:=⟨_,rfl⟩
 rw[hFS]
 unfold kB at hFS
 obtain⟨x,hx⟩:∃x,upP p i=x:=⟨_,rfl⟩
 rw[hx] at hFS
 obtain⟨E,x⟩:=x
 dsimp only at hFS
 have hxl:x.path.length≤100000∧x.data.length≤100000:=upP_len hx hL hD
 obtain⟨lA,lc,hlv,_⟩:=hp.1
 obtain⟨⟨dA,dc,hdv,_⟩,hDB⟩:=hp.2
 obtain⟨m,hm⟩:=qZ p.path.length
 obtain⟨n,hnn⟩:=qZ p.data.length
 rw[←hm] at hlv
 rw[←hnn] at hdv
 subst hlv hdv
 have HUP:=qQ (show∀W,Chg (λ_=>False) w W→Calls Tryz.prog 255 #[.agg #[.int .i64 p.src,.int .i64 p.dst,.int .i64 p.n,.int .i64 p.life,.slice lA m lc,.slice dA n dc],.int .i64 i] W (PStepP W (E,x)) from λW g=>hx▸pup_any W o p i _ _ (hp.keep g (λ_ _ e=>e)) hL hD)
 have HDROP:=qQ (show∀(W:World) (O:Cls) (R:NR) (s1:NSt),NAt w0 o0 c i b s1 W O R→PO W O (.slice lA m lc) (.slice dA n dc) p→s1.ev.length≤1000→Calls Tryz.prog 69 #[.pointer (some ⟨b,0,none⟩),.agg #[.int .i64 p.src,.int .i64 p.dst,.int .i64 p.n,.int .i64 p.life,.slice lA m lc,.slice dA n dc],.int .i64 2] W (PN w0 o0 c i b (evN s1 ⟨5,i,0,2,p⟩) (λv _ _=>v= .tuple #[])) from
  λW O R s1 h1 h2 h3=>jZ h1 p _ _ 2 h2 h3)
 have HPUT:=qQ (show∀(W:World) (O:Cls) (R:NR) (s1:NSt) (v1 v2:Value),NAt w0 o0 c i b s1 W O R→PO W O v1 v2 x→PO W O (.slice lA m lc) (.slice dA n dc) p→s1.q.length≤900→s1.ev.length≤1000→Calls Tryz.prog 254 #[.pointer (some ⟨b,0,none⟩),.agg #[.int .i64 x.src,.int .i64 x.dst,.int .i64 x.n,.int .i64 x.life,v1,v2],.int .i64 64,.agg #[.int .i64 p.src,.int .i64 p.dst,.int .i64 p.n,.int .i64 p.life,.slice lA m lc,.slice dA n dc]] W (PN w0 o0 c i b (putN c i s1 x 64 p) (λv _ _=>v= .tuple #[])) from
  λW O R s1 v1 v2 h1 h2 h3 h4 h5=>nput_any h1 x p 64 _ _ _ _ h2 h3 hxl.1 hxl.2 h4 h5)
 obtain⟨w1,hw1⟩:=qZ (w.alloc (.cells #[.int .i64 p.src,.int .i64 p.dst,.int .i64 p.n,.int .i64 p.life,.slice lA m lc,.slice dA n dc] 42))
 have ga:=Chg.alloc (λ_=>False) w (.cells #[.int .i64 p.src,.int .i64 p.dst,.int .i64 p.n,.int .i64 p.life,.slice lA m lc,.slice dA n dc] 42)
 have ba:=qV w (.cells #[.int .i64 p.src,.int .i64 p.dst,.int .i64 p.n,.int .i64 p.life,.slice lA m lc,.slice dA n dc] 42)
 rw[←hw1] at ba ga
 have HG:=qQ ga
 have HW1:=qQ hw1
 have HBB:=qQ ba
 obtain⟨d0,d1,d2,d3,d4,d5⟩:=qC ba
 have hk:=h.kept ga
 have c9:w1.cell? ⟨b,9,none⟩=some (.int .i64 i):=hk.cell 9
 have H:=qQ h
 have HC:=qQ hp
 have HQ:=qQ (And.intro hq hn)
 have HFS:=qQ hFS
 clear ga ba hw1 hp hL hD hq hn hFS h hm hnn hk hx hxl hDB
 unfold pkV
 go_enter Tryz.func212,Tryz.ntmps212
 go_upto_region 1 with fail
 rw[←HW1.out]
 obtain⟨a,hae⟩:=qZ w.heap.size
 have HAE:=qQ hae
 rw[←hae] at d0 d1 d2 d3 d4 d5 HBB ⊢
 clear HW1 hae
 go_cut [4,5] (λu4 u5 wx=>∃a4 v1 v2,u4= .pointer (some ⟨a4,0,none⟩)∧u5= .int .i64 E∧Made w a4 x v1 v2 wx∧Chg (λ_=>False) w1 wx)
 case first=>
  have za:=Chg.alloc (λ_=>False) w1 (.cells #[.int .i64 0,.int .i64 0,.int .i64 0,.int .i64 0,.slice none 0 0,.slice none 0 0] 42)
  have e0:=qN d0 (.cells #[.int .i64 0,.int .i64 0,.int .i64 0,.int .i64 0,.slice none 0 0,.slice none 0 0] 42)
  have e1:=qN d1 (.cells #[.int .i64 0,.int .i64 0,.int .i64 0,.int .i64 0,.slice none 0 0,.slice none 0 0] 42)
  have e2:=qN d2 (.cells #[.int .i64 0,.int .i64 0,.int .i64 0,.int .i64 0,.slice none 0 0,.slice none 0 0] 42)
  have e3:=qN d3 (.cells #[.int .i64 0,.int .i64 0,.int .i64 0,.int .i64 0,.slice none 0 0,.slice none 0 0] 42)
  have e4:=qN d4 (.cells #[.int .i64 0,.int .i64 0,.int .i64 0,.int .i64 0,.slice none 0 0,.slice none 0 0] 42)
  have e5:=qN d5 (.cells #[.int .i64 0,.int .i64 0,.int .i64 0,.int .i64 0,.slice none 0 0,.slice none 0 0] 42)
  have e9:=qN c9 (.cells #[.int .i64 0,.int .i64 0,.int .i64 0,.int .i64 0,.slice none 0 0,.slice none 0 0] 42)
  go_region_with (first
   |(go_at_call 255;refine (HUP.out (w1.alloc (.cells #[.int .i64 0,.int .i64 0,.int .i64 0,.int .i64 0,.slice none 0 0,.slice none 0 0] 42)).drew (HG.out.trans ((Chg.alloc _ _ _).trans (Chg.drew _ _)))).mono ?_;rintro en wp ⟨v1,v2,rfl,O1,g1⟩
     dsimp only at O1
     obtain⟨A1,n1,c1,rfl⟩:∃A n c,v1= .slice A n c:=by rcases qD O1.1 with ⟨e,_⟩|⟨g,cap,e,_⟩ <;> exact⟨_,_,_,e⟩
     obtain⟨A2,n2,c2,rfl⟩:∃A n c,v2= .slice A n c:=by rcases qD O1.2.1 with ⟨e,_⟩|⟨g,cap,e,_⟩ <;> exact⟨_,_,_,e⟩
     have O1:=qQ O1
     have G1:=qQ (show Chg (λ_=>False) w1 wp from ((Chg.alloc _ _ _).trans (Chg.drew _ _)).trans g1)
     have kb:=Chg.keep g1 (show (w1.alloc (.cells #[.int .i64 0,.int .i64 0,.int .i64 0,.int .i64 0,.slice none 0 0,.slice none 0 0] 42)).drew.heap[w1.heap.size]? =_ from qV w1 (.cells #[.int .i64 0,.int .i64 0,.int .i64 0,.int .i64 0,.slice none 0 0,.slice none 0 0] 42)) (λe=>e)
     have KBH:=qQ kb
     obtain⟨k0,k1,k2,k3,k4,k5⟩:=qC kb
     obtain⟨q0,q1,q2,q3,q4,q5⟩:=zg kb
     clear kb
     unfold pkV
     dsimp only)
   |(go_at_call 255;refine (HUP.out w1.drew (HG.out.trans (Chg.drew _ _))).mono ?_;rintro en wp ⟨v1,v2,rfl,O1,g1⟩
     dsimp only at O1
     obtain⟨A1,n1,c1,rfl⟩:∃A n c,v1= .slice A n c:=by rcases qD O1.1 with ⟨e,_⟩|⟨g,cap,e,_⟩ <;> exact⟨_,_,_,e⟩
     obtain⟨A2,n2,c2,rfl⟩:∃A n c,v2= .slice A n c:=by rcases qD O1.2.1 with ⟨e,_⟩|⟨g,cap,e,_⟩ <;> exact⟨_,_,_,e⟩
     have O1:=qQ O1
     have G1:=qQ (show Chg (λ_=>False) w1 wp from (Chg.drew _ _).trans g1)
     have kb:=qV wp (.cells #[.int .i64 0,.int .i64 0,.int .i64 0,.int .i64 0,.slice none 0 0,.slice none 0 0] 42)
     have KBH:=qQ kb
     obtain⟨k0,k1,k2,k3,k4,k5⟩:=qC kb
     obtain⟨q0,q1,q2,q3,q4,q5⟩:=zg kb
     clear kb
     unfold pkV
     dsimp only))
  all_goals
   go_wp2_with fail
   go_meet
   first
    |(refine⟨w1.heap.size,.slice A1 n1 c1,.slice A2 n2 c2,(by with_reducible rfl),(by with_reducible rfl),?_⟩
      exact made_fin HG.out O1.out (Nat.le_trans HG.out.size (Chg.alloc (λ_=>False) w1 (.cells #[.int .i64 0,.int .i64 0,.int .i64 0,.int .i64 0,.slice none 0 0,.slice none 0 0] 42)).size) G1.out KBH.out (Nat.le_refl _))
    |(refine⟨wp.heap.size,.slice A1 n1 c1,.slice A2 n2 c2,(by with_reducible rfl),(by with_reducible rfl),?_⟩
      exact made_new HG.out O1.out HG.out.size G1.out)
 case rest=>
  obtain⟨a4,v1,v2,rfl,rfl,hM,hG⟩:=hcut
  have hN:=H.out.kept hM.chg
  have hbb:=Chg.keep hG HBB.out (λe=>e)
  have HN:=qQ hN
  have HPC:=qQ (HC.out.keep hM.chg (λ_ _ e=>e))
  have HPX:=qQ (hM.own.po H.out.z |> λk=>k)
  obtain⟨A1,n1,c1,rfl⟩:∃A n c,v1= .slice A n c:=by rcases qD hM.own.1 with ⟨e,_⟩|⟨g,cap,e,_⟩ <;> exact⟨_,_,_,e⟩
  obtain⟨A2,n2,c2,rfl⟩:∃A n c,v2= .slice A n c:=by rcases qD hM.own.2.1 with ⟨e,_⟩|⟨g,cap,e,_⟩ <;> exact⟨_,_,_,e⟩
  clear d0 d1 d2 d3 d4 d5 c9 HUP hN
  obtain⟨d0,d1,d2,d3,d4,d5⟩:=qC hbb
  obtain⟨e0,e1,e2,e3,e4,e5⟩:=qC hM.blk
  clear hM hG hbb
  by_cases hE:E≠0
  ·have i1:(E != 0)=true:=by simpa using hE
   have HF:=qQ (show FS=evN s ⟨5,i,0,2,p⟩ from by rw[←HFS.out,if_pos hE])
   clear hE
   go_wp2_with fail
   (with_reducible refine (HDROP.out _ _ _ _ HN.out HPC.out HQ.out.2).mono ?_)
   rintro en w3 ⟨v3,o3,r3,rfl,hN,rfl⟩
   have HX:=qQ hN
   clear hN d0 d1 d2 d3 d4 d5 e0 e1 e2 e3 e4 e5
   go_wp2_with fail
   go_end0
   exact⟨_,_,_,rfl,by rw[HF.out];exact HX.out,rfl⟩
  ·obtain rfl:E=0:=by simpa using hE
   have HF:=qQ (show FS=putN c i s x 64 p from by rw[←HFS.out,if_neg (by simp)])
   clear hE
   go_wp2_with fail
   (with_reducible refine (HPUT.out _ _ _ _ _ _ HN.out HPX.out HPC.out HQ.out.1 HQ.out.2).mono ?_)
   rintro en w3 ⟨v3,o3,r3,rfl,hN,rfl⟩
   have HX:=qQ hN
   clear hN d0 d1 d2 d3 d4 d5 e0 e1 e2 e3 e4 e5
   go_wp2_with fail
   go_end0
   exact⟨_,_,_,rfl,by rw[HF.out];exact HX.out,rfl⟩
end
end Go.Proofs.YtnpihllannobgaaGreatDoor
