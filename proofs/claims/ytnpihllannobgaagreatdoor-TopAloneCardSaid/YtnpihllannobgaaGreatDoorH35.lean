/- Steps of the proof, part H35. No condition. -/
import Derived.Test.YtnpihllannobgaaGreatDoorH30
import Derived.Test.YtnpihllannobgaaGreatDoorH27
import Derived.Test.YtnpihllannobgaaGreatDoorH25
import Derived.Deep.RegionHeld3
namespace Go.Proofs.YtnpihllannobgaaGreatDoor
set_option linter.unusedVariables false
set_option linter.unusedSimpArgs false
set_option maxRecDepth 100000
set_option maxHeartbeats 32000000
open Go.ChangeShapes Go.WideShapes Go.ChangeAt Go.RowKit
def EvP(i:Nat)(n:Nat)(l:List Ev):Prop:=∀e∈l,(e.kind=7∨e.kind=3→e.i=i)∧(e.kind=7→0≤e.src∧e.src<n)
theorem EvP.nil(i n:Nat):EvP i n []:=λe he=>by cases he
theorem EvP.snoc{i n:Nat}{l:List Ev}(h:EvP i n l)(e:Ev)(h1:e.kind=7∨e.kind=3→e.i=i)(h2:e.kind=7→0≤e.src∧e.src<n):EvP i n (l++[e]):=λx hx=>by
 rcases List.mem_append.1 hx with hx|hx
 ·exact h x hx
 ·simp at hx;subst hx;exact⟨h1,h2⟩
theorem hearsN_evp{i n:Nat}{s:NSt}(h:EvP i n s.ev)(src rk now t:Int)(hs:0≤src∧src<n):EvP i n (qx i s src rk now t).ev∧(qx i s src rk now t).ev.length≤s.ev.length+2:=by
 refine⟨?_,hearsN_ev i s src rk now t⟩
 have h1:EvP i n (zY i (jd s src rk now) src t).ev:=by
  unfold zY
  split
  ·exact EvP.snoc h _ (λ_=>rfl) (λ_=>hs)
  ·exact h
 unfold qx zQ
 split
 ·exact h1
 ·exact EvP.snoc h1 _ (λe=>by rcases e with e|e <;> cases e) (λe=>by cases e)
theorem hearN_evp{i:Nat}{c:Cfg}{s:NSt}(hev:s.ev=[])(X:Int×Fr)(now ms:Int):EvP i c.nodes (zq i c s X now ms id).ev∧(zq i c s X now ms id).ev.length≤10:=by
 unfold zq
 by_cases hg:(goodF i c X&&(zZ X.2 now).2)=true
 ·rw[if_pos hg]
  simp only[Bool.and_eq_true] at hg
  have hsrc:0≤X.2.src∧X.2.src<c.nodes:=by
   have:=hg.1
   unfold goodF inR at this
   simp only[Bool.and_eq_true,decide_eq_true_eq] at this
   omega
  have h0:EvP i c.nodes (evN s ⟨1,i,X.2.src,0,pk0⟩).ev:=by
   show EvP i c.nodes (s.ev++[_])
   rw[hev]
   exact EvP.snoc (EvP.nil _ _) _ (λe=>by rcases e with e|e <;> cases e) (λe=>by cases e)
  have l0:(evN s ⟨1,i,X.2.src,0,pk0⟩).ev.length=1:=by show (s.ev++[_]).length=1;rw[hev];rfl
  by_cases hsy:s.synced=true
  ·rw[if_pos hsy]
   obtain⟨k1,k2⟩:=hearsN_evp h0 X.2.src (zZ X.2 now).1 now ms hsrc
   unfold hear2N
   by_cases hi:i=0
   ·rw[if_pos hi];exact⟨h0,by show _≤_;unfold id;omega⟩
   ·rw[if_neg hi]
    by_cases hf:qR (qx i (evN s ⟨1,i,X.2.src,0,pk0⟩) X.2.src (zZ X.2 now).1 now ms)=64
    ·rw[if_pos hf];exact⟨k1,by omega⟩
    ·rw[if_neg hf];exact⟨k1,by unfold id;omega⟩
  ·rw[if_neg hsy]
   unfold adoptN
   split
   ·unfold adopt2N
    have h1:EvP i c.nodes (evN (adopt1N s X.2.src (zZ X.2 now).1 now) ⟨1,i,X.2.src,0,pk0⟩).ev:=h0
    have h2:EvP i c.nodes (movesN i (evN (adopt1N s X.2.src (zZ X.2 now).1 now) ⟨1,i,X.2.src,0,pk0⟩) X.2.src ms).ev:=EvP.snoc h1 _ (λ_=>rfl) (λ_=>hsrc)
    refine⟨EvP.snoc (EvP.snoc h2 _ (λe=>by rcases e with e|e <;> cases e) (λe=>by cases e)) _ (λe=>by rcases e with e|e <;> cases e) (λe=>by cases e),?_⟩
    show (((s.ev++[_])++[_]++[_])++[_]).length≤10
    rw[hev];simp
   ·rw[hev];exact⟨EvP.nil _ _,by simp⟩
 ·rw[if_neg hg,hev];exact⟨EvP.nil _ _,by simp⟩
section
variable {w0 w w':World}{o0 o o':Cls}{c:Cfg}{W:Nat}{x x':WM}{asn:Int}{r r':WR}{d:Dr}{dr lo ac er da:Value}{S:Nat→Prop}
theorem WAt.cong(h:WAt w0 o0 c W x asn w o r)(hn:x'.nodes=x.nodes)(hb:x'.bound=x.bound)(he:x'.ev=x.ev):WAt w0 o0 c W x' asn w o r:=by
 obtain⟨⟨a1,a2,a3,a4,a5,a6,a7,a8,a9,aa,ab,ac,ad⟩,z,e,g⟩:=h
 exact⟨⟨a1,a2,a3,a4,a5,a6,by rw[hb];exact a7,a8,a9,aa,by rw[he];exact ab,by rw[hn];exact ac,λi hi=>by
  obtain⟨b,q,h1,h2⟩:=ad i hi
  refine⟨b,q,h1,?_⟩
  unfold WM.nd at h2 ⊢
  rw[hn];exact h2⟩,z,e,g⟩
theorem AV.shape{a:Option (List Int)}{v:Value}(h:AV a v w o):∃A n cp,v= .slice A n cp:=by
 cases a with
 |none=>exact⟨_,_,_,h⟩
 |some l=>obtain⟨⟨A,cp,e,_⟩,_⟩:=h;exact⟨_,_,_,e⟩
theorem Bk.fr{g n cap:Nat}{back:List (Option (List Int))}(h:Bk w o (.slice (some ⟨g,0,none⟩) n cap) back)(k:Nat):w.frozen? ⟨g,k,none⟩=false:=by
 obtain⟨vs,h1,_⟩:=h
 rcases h1.2 with ⟨e,_⟩|⟨g2,c2,cur,e,_,hb2,_⟩
 ·cases e
 ·cases e;exact qK hb2 k
theorem ty59:Tryz.prog.underlying 59=some (.map 3 33):=by kernel_rfl
theorem z33(w:World):(zeroValue 33).run Tryz.prog w= .ok (.slice none 0 0) w:=by kernel_rfl
end
structure PlanOk(i:Nat)(s:NSt):Prop where
 p:s.synced=true→i≠0→s.p≠none
 k:qR s≠64→s.k≠none
 q:s.q.length≤1000∧∀p∈s.q,p.2.length≤1000
 seq:0≤s.seq∧s.seq≤255
 slots:0≤s.slots∧s.slots≤1000000
 base: -1000000000000000≤s.base∧s.base≤1000000000000000
 sum: -1000000000000000≤s.sum∧s.sum≤1000000000000000
structure AckOk(c:Cfg)(i:Nat)(s:NSt)(L:List Int)(now:Int):Prop where
 ev:s.ev=[]
 len:L.length≤100000
 c:(s.synced=false∨s.sopen=false∨s.sasn≠now)∨
  (s.skind≠1∧(-1000000000000000≤s.base∧s.base≤1000000000000000)∧(s.p≠none→s.k≠none)∧(0≤s.sdst∧s.sdst<c.nodes)∧s.sdst≠i)
structure EndOk(c:Cfg)(i:Nat)(s:NSt)(now:Int):Prop where
 ev:s.ev=[]
 c:(i=0∨s.synced=false)∨∃R L x,s.p=some (R,L)∧s.k=some x∧qR (pN (kN s (some (vf x))) (some (R,keptL L now c.loss)))≠64
section
variable {w0 w w':World}{o0 o o':Cls}{c:Cfg}{i b:Nat}{s s':NSt}{r r':NR}
theorem nplan_all(hc:CfgOk c)(h:NAt w0 o0 c i b s w o r)(now:Int)(h0:0≤now)(h1:now<1099511627776)(hk:PlanOk i s):
  Calls Tryz.prog 32 #[.pointer (some ⟨b,0,none⟩),.int .i64 now] w (PPlan w0 o0 c i b (zS c i s now)):=by
 by_cases hs:s.synced=true
 ·by_cases hm:now % (c.nodes:Int)=i
  ·exact nplan_send hc h now h0 h1 hs hm (hk.p hs) hk.k hk.q.1 hk.q.2 hk.seq
  ·exact nplan_idle hc h now h0 h1 hs hm
 ·exact nplan_off hc h now h0 h1 (by simpa using hs) hk.slots
theorem nack_all(hc:CfgOk c)(h:NAt w0 o0 c i b s w o r)(now m:Int)(v:Value)(L:List Int)(hv:BO w o v L)(hk:AckOk c i s L now)(h0:0≤now):
  Calls Tryz.prog 36 #[.pointer (some ⟨b,0,none⟩),.int .i64 now,v,.int .i64 m] w (PN w0 o0 c i b (noEv (ackN i s L now)) (λv w' o'=>Eo w' o' (cl i 9) v (ackN i s L now).ev)):=by
 by_cases hcl:s.synced=false∨s.sopen=false∨s.sasn≠now
 ·have e:ackN i s L now=s:=by
   unfold ackN
   rcases hcl with h|h|h
   ·rw[h];simp
   ·rw[h];simp
   ·rw[decide_eq_false h];simp
  rw[e]
  refine (nack_closed h now m v hcl).mono (λen w' hp=>?_)
  obtain⟨rfl,rfl⟩:=hp
  rw[jR hk.ev,hk.ev]
  exact⟨_,o,r,rfl,h,Eo.nil _ _ _⟩
 ·rcases hk.c with hx|⟨k1,k2,k3,k4,k5⟩
  ·exact absurd hx hcl
  ·simp only[not_or,ne_eq,Classical.not_not] at hcl
   have hn:=hc.n1
   exact nack_any h now m v L hv hk.len ⟨by simpa using hcl.1,by simpa using hcl.2.1,hcl.2.2⟩ k1 hk.ev k2 k3 ⟨k4.1,by omega⟩ k5 h0
theorem nend_all(hc:CfgOk c)(h:NAt w0 o0 c i b s w o r)(now:Int)(h0:0≤now)(h1:now<1099511627776)(hk:EndOk c i s now):
  Calls Tryz.prog 38 #[.pointer (some ⟨b,0,none⟩),.int .i64 now] w (PN w0 o0 c i b (noEv (endS c i s now)) (λv w' o'=>Eo w' o' (cl i 9) v (endS c i s now).ev)):=by
 by_cases ho:i=0∨s.synced=false
 ·have e:endS c i s now=s:=by unfold endS;rw[if_pos ho]
  rw[e]
  refine (nend_off h now h0 h1 ho).mono (λen w' hp=>?_)
  obtain⟨rfl,rfl⟩:=hp
  rw[jR hk.ev,hk.ev]
  exact⟨_,o,r,rfl,h,Eo.nil _ _ _⟩
 ·rcases hk.c with hx|⟨R,L,x,k1,k2,k3⟩
  ·exact absurd hx ho
  ·have e:endS c i s now=endN i s R L x now c.loss:=by unfold endS;rw[if_neg ho,k1,k2]
   rw[e]
   simp only[not_or] at ho
   exact nend_keep hc h now h0 h1 ho.1 (by simpa using ho.2) R L x k1 k2 (by rw[hk.ev];simp) k3
theorem end_evp{now:Int}(hk:EndOk c i s now):EvP i c.nodes (endS c i s now).ev∧(endS c i s now).ev.length≤10:=by
 unfold endS
 split
 ·rw[hk.ev];exact⟨EvP.nil _ _,by simp⟩
 ·split
  ·unfold endN zQ
   split
   ·show EvP i c.nodes s.ev∧s.ev.length≤10
    rw[hk.ev];exact⟨EvP.nil _ _,by simp⟩
   ·show EvP i c.nodes (s.ev++[_])∧(s.ev++[_]).length≤10
    rw[hk.ev]
    exact⟨EvP.snoc (EvP.nil _ _) _ (λe=>by rcases e with e|e <;> cases e) (λe=>by cases e),by simp⟩
  ·rw[hk.ev];exact⟨EvP.nil _ _,by simp⟩
end
theorem own_setS{w:World}{base e s n cap g:Nat}{xs:List Value}(h:w.ownsRow base e s (.slice (some ⟨g,0,none⟩) n cap) n xs)(i:Nat)(x:Value)(hi:i<n*s):
  (w.setCell ⟨g,i,none⟩ x).ownsRow base e s (.slice (some ⟨g,0,none⟩) n cap) n (xs.set i x):=by
 rcases h.2 with ⟨e1,_⟩|⟨g2,c2,cur,e1,h1,h2,h3,h4,h5,h6⟩
 ·cases e1
 ·cases e1
  refine⟨by rw[List.length_set];exact h.1,.inr ⟨g,cap,cur.setIfInBounds i x,rfl,h1,qB h2 i x,h3,h4,by simp[h5],?_⟩⟩
  rw[Array.toList_setIfInBounds,List.take_set,h6]
theorem flat_set(ps:List (Snd×Value))(i:Nat)(p:Snd×Value)(hi:i<ps.length):
  ((((ps.flatMap cellsS).set (i*3) (.int .i64 p.1.1)).set (i*3+1) p.2).set (i*3+2) (.int .i64 p.1.2.2))=(ps.set i p).flatMap cellsS:=by
 induction ps generalizing i with
 |nil=>simp at hi
 |cons a t ih=>
  cases i with
  |zero=>simp[cellsS]
  |succ i=>
   have:=ih i (by simpa using hi)
   rw[List.set_cons_succ,List.flatMap_cons,List.flatMap_cons,←this]
   have e:cellsS a=[.int .i64 a.1.1,a.2,.int .i64 a.1.2.2]:=rfl
   rw[e]
   rw[show (i+1)*3=i*3+1+1+1 by omega]
   simp[List.set_cons_succ]
section
variable {w0 w w':World}{o0 o o':Cls}{c:Cfg}{W:Nat}{x x':WM}{asn:Int}{r r':WR}{d:Dr}{dr lo ac er da:Value}{S:Nat→Prop}
theorem WAt.seta(h:WAt w0 o0 c W x asn w o r)(hc:c.nodes≤16){g n cap:Nat}{air:List Snd}(hb:Ao w o (.slice (some ⟨g,0,none⟩) n cap) air)(hg:w0.heap.size≤g)(i:Nat)(hi:i<air.length)(ch off:Int)(L:List Int)(u:Value)(ha:BO w o u L):
  WAt w0 o0 c W x asn (((w.setCell ⟨g,i*3,none⟩ (.int .i64 ch)).setCell ⟨g,i*3+1,none⟩ u).setCell ⟨g,i*3+2,none⟩ (.int .i64 off)) o r∧
  Ao (((w.setCell ⟨g,i*3,none⟩ (.int .i64 ch)).setCell ⟨g,i*3+1,none⟩ u).setCell ⟨g,i*3+2,none⟩ (.int .i64 off)) o (.slice (some ⟨g,0,none⟩) n cap) (air.set i (ch,L,off))∧
  Chg (λk=>k=g) w (((w.setCell ⟨g,i*3,none⟩ (.int .i64 ch)).setCell ⟨g,i*3+1,none⟩ u).setCell ⟨g,i*3+2,none⟩ (.int .i64 off))∧o g=cl 16 5:=by
 obtain⟨ps,h1,h2,h3,h4⟩:=hb
 have hog:o g=cl 16 5:=h2 g rfl
 have G:Chg (λk=>k=g) w (((w.setCell ⟨g,i*3,none⟩ (.int .i64 ch)).setCell ⟨g,i*3+1,none⟩ u).setCell ⟨g,i*3+2,none⟩ (.int .i64 off)):=((chg1 _ _ _ _).trans (chg1 _ _ _ _)).trans (chg1 _ _ _ _)
 have hl:ps.length=air.length:=by rw[h4,List.length_map]
 have hn:n=ps.length:=by
  rcases qD h1 with ⟨e,_⟩|⟨g2,c2,e,_⟩
  ·cases e
  ·cases e;rfl
 have n0:∀k,o k=0→¬(k=g):=λk hk e=>by subst e;rw[hog] at hk;exact qP 16 5 hk
 refine⟨h.other (Ext.refl _ _) (h.z.more G.size) G hc (λk hk=>⟨by rw[hk,hog];unfold cl;omega,by rw[hk];exact hg⟩),⟨ps.set i ((ch,L,off),u),?_,h2,λp hp=>?_,by rw[List.map_set,←h4]⟩,G,hog⟩
 ·rw[hn] at h1 ⊢
  have k1:=own_setS (own_setS (own_setS h1 (i*3) (.int .i64 ch) (by omega)) (i*3+1) u (by omega)) (i*3+2) (.int .i64 off) (by omega)
  rw[List.length_set,←flat_set ps i ((ch,L,off),u) (by omega)]
  exact k1
 ·rcases List.mem_or_eq_of_mem_set hp with hp|hp
  ·exact (h3 p hp).step (Ext.refl _ _) G n0
  ·subst hp;exact ha.step (Ext.refl _ _) G n0
theorem WAt.aset(h:WAt w0 o0 c W x asn w o r)(hc:c.nodes≤16)(a:Int):WAt w0 o0 c W x a (w.setCell ⟨W,10,none⟩ (.int .i64 a)) o r:=by
 have hd:=h.wd
 have G:=chg1 w W 10 (.int .i64 a)
 obtain⟨n0,nj,nm⟩:=part_no (S:=λk=>k=W) (o:=o) (m:=0) (by omega) (λk hk=>by rw[hk];exact hd.ob)
 refine⟨⟨qB hd.blk 10 _,hd.ob,hd.near.step (Ext.refl _ _) G n0,hd.hops.step (Ext.refl _ _) G n0,qY hd.row G (λk hk=>nj 1 (by omega) (by omega) k (hd.rowo k hk)),hd.rowo,
  qY hd.bnd G (λk hk=>nj 2 (by omega) (by omega) k (hd.bndo k hk)),hd.bndo,hd.inj.step (Ext.refl _ _) G (nj 3 (by omega) (by omega) _ hd.injo) n0,hd.injo,hd.ev.step (Ext.refl _ _) G (λk hk=>hk.elim (n0 k) (nj 4 (by omega) (by omega) k)),hd.nl,hd.nds (Ext.refl _ _) G n0 nm hc⟩,
  h.z.more G.size,h.ext,h.chg.extW h.ext (G.mono (λk _ hk=>by unfold WdS;rw[hk,hd.ob];exact⟨qP 16 0,by unfold cl;omega⟩))⟩
theorem WAt.iset(h:WAt w0 o0 c W x asn w o r)(hc:c.nodes≤16):∃o',WAt w0 o0 c W x asn ((w.alloc (.map #[] 0)).setCell ⟨W,12,none⟩ (.map (some w.heap.size))) o' {r with inj:=w.heap.size,ij:=qh}:=by
 have hd:=h.wd
 have ga:=Chg.alloc (λ_=>False) w (.map #[] 0)
 have hWl:=qX hd.blk
 have hsz:(w.alloc (.map #[] 0)).heap.size=w.heap.size+1:=by simp
 have G:=chg1 (w.alloc (.map #[] 0)) W 12 (.map (some w.heap.size))
 have G2:Chg (λk=>k=W) w ((w.alloc (.map #[] 0)).setCell ⟨W,12,none⟩ (.map (some w.heap.size))):=ga.none.trans G
 obtain⟨n0,nj,nm⟩:=part_no (S:=λk=>k=W) (o:=o) (m:=0) (by omega) (λk hk=>by rw[hk];exact hd.ob)
 have hE:=Ext.cls (w:=w) o w.heap.size (cl 16 3) (Nat.le_refl _)
 refine⟨cls o w.heap.size (cl 16 3),⟨qB (Chg.keep ga hd.blk (λe=>e)) 12 _,by rw[hE W hWl];exact hd.ob,hd.near.step hE G2 n0,hd.hops.step hE G2 n0,qY hd.row G2 (λk hk=>nj 1 (by omega) (by omega) k (hd.rowo k hk)),
  λk hk=>by rw[hE k (qg hd.row hk).2];exact hd.rowo k hk,qY hd.bnd G2 (λk hk=>nj 2 (by omega) (by omega) k (hd.bndo k hk)),λk hk=>by rw[hE k (qg hd.bnd hk).2];exact hd.bndo k hk,
  Ij.nil ((Mp.made w).keep G (by omega)),jX _ _ _,hd.ev.step hE G2 (λk hk=>hk.elim (n0 k) (nj 4 (by omega) (by omega) k)),hd.nl,hd.nds hE G2 n0 nm hc⟩,
  (h.z.more G2.size).cls _ (by have:=G.size;omega),h.ext.trans hE h.chg.size,h.chg.extW h.ext (G2.mono (λk _ hk=>by unfold WdS;rw[hk,hd.ob];exact⟨qP 16 0,by unfold cl;omega⟩))⟩
end
end Go.Proofs.YtnpihllannobgaaGreatDoor
