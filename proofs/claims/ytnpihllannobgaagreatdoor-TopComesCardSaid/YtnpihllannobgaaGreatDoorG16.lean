/- Steps of the proof, part G16. No condition. -/
import Derived.Test.YtnpihllannobgaaGreatDoorG15
namespace Go.Proofs.YtnpihllannobgaaGreatDoor
set_option linter.unusedVariables false
set_option linter.unusedSimpArgs false
set_option maxRecDepth 100000
set_option maxHeartbeats 32000000
open Go.ChangeShapes Go.WideShapes Go.ChangeAt Go.RowKit
section
variable {w0 w w':World}{o0 o o':Cls}{c:Cfg}{W:Nat}{x x':WM}{asn:Int}{r r':WR}
theorem at54_any(v:Value)(L:List Int)(i:Nat)(hv:RV VI w o v L):Calls Tryz.prog 54 #[v,.int .i64 i] w (PV0 (.int .i64 (atL L i)) w):=by
 obtain⟨A,cap,rfl,hro,_⟩:=hv
 obtain⟨n,hn⟩:=qZ L.length
 rw[←hn] at hro ⊢
 by_cases hlt:i<n
 ·obtain⟨p,z,rfl,hz,hcell⟩:=hro.at hlt
  have e:atL L i=z:=by unfold atL;rw[List.getD_eq_getElem?_getD,hz];rfl
  rw[e]
  have b1:decide ((n:Int)≤(i:Int))=false:=by simp;omega
  have i1:(i:Int)<(n:Int):=by omega
  unfold VI at hcell
  clear hro hz e hn
  go_enter Tryz.func54,Tryz.ntmps54
  go_wp2_with fail
  go_ret
  exact⟨rfl,rfl⟩
 ·have e:atL L i=0:=by unfold atL;rw[List.getD_eq_getElem?_getD,List.getElem?_eq_none (by omega)];rfl
  rw[e]
  have b1:decide ((n:Int)≤(i:Int))=true:=by simp;omega
  clear hro e hn
  go_enter Tryz.func54,Tryz.ntmps54
  go_wp2_with fail
  go_ret
  exact⟨rfl,rfl⟩
theorem at71_any(v:Value)(L:List Int)(i:Nat)(hv:RV VU w o v L):Calls Tryz.prog 71 #[v,.int .i64 i] w (PV0 (.int .u64 (atL L i)) w):=by
 obtain⟨A,cap,rfl,hro,_⟩:=hv
 obtain⟨n,hn⟩:=qZ L.length
 rw[←hn] at hro ⊢
 by_cases hlt:i<n
 ·obtain⟨p,z,rfl,hz,hcell⟩:=hro.at hlt
  have e:atL L i=z:=by unfold atL;rw[List.getD_eq_getElem?_getD,hz];rfl
  rw[e]
  have b1:decide ((n:Int)≤(i:Int))=false:=by simp;omega
  have i1:(i:Int)<(n:Int):=by omega
  unfold VU at hcell
  clear hro hz e hn
  go_enter Tryz.func71,Tryz.ntmps71
  go_wp2_with fail
  go_ret
  exact⟨rfl,rfl⟩
 ·have e:atL L i=0:=by unfold atL;rw[List.getD_eq_getElem?_getD,List.getElem?_eq_none (by omega)];rfl
  rw[e]
  have b1:decide ((n:Int)≤(i:Int))=true:=by simp;omega
  clear hro e hn
  go_enter Tryz.func71,Tryz.ntmps71
  go_wp2_with fail
  go_ret
  exact⟨rfl,rfl⟩
theorem whas_any(h:WAt w0 o0 c W x asn w o r)(hc:0<c.nodes)(q:Int):Calls Tryz.prog 22 #[VP W,.int .i64 q] w (PV0 (.bool (inR q 0 ((c.nodes:Int)-1))) w):=by
 have c9:w.cell? ⟨W,9,none⟩=some r.lv:=h.cell 9
 obtain⟨g,cap,e,_⟩:=h.rowval hc
 rw[e] at c9
 clear h e
 unfold VP
 by_cases h0:0≤q
 ·by_cases h1:q<c.nodes
  ·have e:inR q 0 ((c.nodes:Int)-1)=true:=jG h0 (by omega)
   rw[e]
   clear e
   go_enter Tryz.func22,Tryz.ntmps22
   go_wp2_with fail
   go_ret
   exact⟨rfl,rfl⟩
  ·have e:inR q 0 ((c.nodes:Int)-1)=false:=jw (by omega)
   rw[e]
   have b1:decide (q<(c.nodes:Int))=false:=by simp;omega
   clear e
   go_enter Tryz.func22,Tryz.ntmps22
   go_wp2_with fail
   go_ret
   exact⟨rfl,rfl⟩
 ·have e:inR q 0 ((c.nodes:Int)-1)=false:=kK (by omega)
  have b1:decide (0≤q)=false:=by simp;omega
  rw[e]
  clear e
  go_enter Tryz.func22,Tryz.ntmps22
  go_wp2_with fail
  go_ret
  exact⟨rfl,rfl⟩
theorem wnode_any(h:WAt w0 o0 c W x asn w o r)(i b:Nat)(hi:i<c.nodes)(hb:r.bs[i]? =some b):Calls Tryz.prog 8 #[VP W,.int .i64 i] w (PV0 (VP b) w):=by
 have HH:=qQ (whas_any h (by omega) i)
 rw[jG (by omega) (by omega)] at HH
 have c9:w.cell? ⟨W,9,none⟩=some r.lv:=h.cell 9
 obtain⟨g,cap,e,he⟩:=h.rowval (by omega)
 have hcell:=he i b hb
 rw[e] at c9
 have i1:(i:Int)<(c.nodes:Int):=by omega
 clear h e he hb
 unfold VP at *
 go_enter Tryz.func8,Tryz.ntmps8
 go_wp2_with fail
 with_reducible refine HH.out.mono ?_
 rintro en w1 ⟨rfl,rfl⟩
 go_wp2_with fail
 go_ret
 exact⟨rfl,rfl⟩
end
theorem appRow{w:World}{ops:Array Oper}{rest:List Oper}{o:Oper}{a:Act}{Q:Exit→Act→World→Prop}{t e sz bytes:Nat}(he:ElS t e sz bytes)(hgd:o.guard=none)(s x:Operand)
  (ho:o.op= .call {callee:= .builtin .append,args:=#[s,x],argTypes:=#[t,t]})
  (base:Nat) (v:Value) (n:Nat) (xs:List Value) (hs:a.eval s=v) (hown:w.ownsRow base e sz v n xs)
  (b2:Nat) (v2:Value) (m:Nat) (ys:List Value) (hx:a.eval x=v2) (hrow:w.ownsRow b2 e sz v2 m ys) (h1:∀u∈ys,u.oneCell'=true)
  (hby:bytes≤200) (h63:n+m≤1000000) (hbase:base≤w.heap.size)
  (h:∀v' w',w'.ownsRow base e sz v' (n+m) (xs++ys)→w.grownBy w' v.ownBlock→(v'.ownBlock=v.ownBlock∨v'.ownBlock=some w.heap.size)→wpList Tryz.prog ops Q rest (a.put o.dst v') w'):wpList Tryz.prog ops Q (o::rest) a w:=by
 obtain⟨ht,i,z,h1i,h2i,h3i,h4i,h5i,h6i⟩:=he
 rcases qD hrow with ⟨e1,hm,_⟩|⟨g,cap,e1,_⟩
 ·subst hm
  have hy:ys=[]:=List.eq_nil_of_length_eq_zero (by rw[hrow.1];simp)
  subst hy
  exact wpList_append_own_none hgd s x t ho base e i sz ht h1i v n xs hs hown (by rw[hx,e1]) (h v w (by simpa using hown) ⟨rfl,rfl,rfl,Nat.le_refl _,λ_ _ _=>rfl⟩ (.inl rfl))
 ·subst e1
  have h7:(n+m)*bytes≤(n+m)*200:=Nat.mul_le_mul_left _ hby
  refine wpList_append_own_at w hgd s x t ho base e i z sz bytes ht h1i h2i h3i h4i h5i h6i v n xs hs hown ⟨g,0,none⟩ m cap ys hx hrow.1 (λj u hu=>?_) h1 (by unfold maxLen;omega) (by omega) hbase (λv' w' k1 k2 _ k4=>h v' w' k1 k2 k4)
  rw[add_mk,Nat.zero_add]
  exact qL hrow j u hu
def WR.same(r r':WR):Prop:=r'.lv=r.lv∧r'.bs=r.bs∧r'.bv=r.bv∧r'.nv=r.nv∧r'.hv=r.hv∧r'.ij=r.ij
theorem WR.same.refl(r:WR):r.same r:=⟨rfl,rfl,rfl,rfl,rfl,rfl⟩
theorem WR.same.trans{r r1 r2:WR}(h:r.same r1)(k:r1.same r2):r.same r2:=⟨k.1.trans h.1,k.2.1.trans h.2.1,k.2.2.1.trans h.2.2.1,k.2.2.2.1.trans h.2.2.2.1,k.2.2.2.2.1.trans h.2.2.2.2.1,k.2.2.2.2.2.trans h.2.2.2.2.2⟩
def PW(w0:World)(o0:Cls)(c:Cfg)(W:Nat)(x:WM)(asn:Int)(r:WR)(V:Value→World→Cls→Prop)(en:Ending)(w':World):Prop:=
 ∃v o' r',en= .returned v∧WAt w0 o0 c W x asn w' o' r'∧r.same r'∧V v w' o'
section
variable {w0 w w':World}{o0 o o':Cls}{c:Cfg}{W:Nat}{x x':WM}{asn:Int}{r r':WR}{S:Nat→Prop}
theorem Wd.nds(h:Wd w o c W r x asn)(e:Ext w o o')(g:Chg S w w')(n0:∀k,o k=0→¬S k)(nm:∀i,i<16→∀k,NdS o i k→¬S k)(hc:c.nodes≤16):
  ∀i,i<c.nodes→∃b q,r.bs[i]? =some b∧Nd w' o' c i b q (x.nd i):=λi hi=>by
 obtain⟨b,q,h1,h2⟩:=h.nd i hi
 exact⟨b,q,h1,h2.step e g n0 (nm i (by omega))⟩
theorem part_no{m:Nat}(hm:m≤15)(hS:∀k,S k→o k=cl 16 m):(∀k,o k=0→¬S k)∧(∀j,j≠m→j≤15→∀k,o k=cl 16 j→¬S k)∧(∀i,i<16→∀k,NdS o i k→¬S k):=
 ⟨λk hk hs=>by have:=hS k hs;rw[hk] at this;exact qf 16 m this.symm,
  λj hj h15 k hk hs=>hj (zK (hk.symm.trans (hS k hs)) (by omega) (by omega)).2,
  λi hi k hk hs=>by obtain⟨j,hj,hk⟩:=hk;have:=(zK (hk.symm.trans (hS k hs)) (by omega) (by omega)).1;omega⟩
theorem WAt.bset(h:WAt w0 o0 c W x asn w o r)(hc:c.nodes≤16){g cap:Nat}(hg:r.bv= .slice (some ⟨g,0,none⟩) c.nodes cap)(q:Nat)(hq:q<c.nodes)(z:Int):
  WAt w0 o0 c W {x with bound:=x.bound.set q z} asn (w.setCell ⟨g,q,none⟩ (.int .i64 z)) o r:=by
 have hd:=h.wd
 have hog:o g=cl 16 2:=hd.bndo g (by rw[hg];rfl)
 have G:=chg1 w g q (.int .i64 z)
 obtain⟨n0,nj,nm⟩:=part_no (S:=λk=>k=g) (o:=o) (m:=2) (by omega) (λk hk=>by rw[hk];exact hog)
 have hb:=hd.bnd
 rw[hg] at hb
 have hb2:=own_set hb q (.int .i64 z) hq
 refine h.next ⟨Chg.keep G hd.blk (nj 0 (by omega) (by omega) _ hd.ob),hd.ob,hd.near.step (Ext.refl _ _) G n0,hd.hops.step (Ext.refl _ _) G n0,qY hd.row G (λk hk=>nj 1 (by omega) (by omega) k (hd.rowo k hk)),hd.rowo,
  ?_,hd.bndo,hd.inj.step (Ext.refl _ _) G (nj 3 (by omega) (by omega) _ hd.injo) n0,hd.injo,hd.ev.step (Ext.refl _ _) G (λk hk=>hk.elim (n0 k) (nj 4 (by omega) (by omega) k)),hd.nl,hd.nds (Ext.refl _ _) G n0 nm hc⟩ (h.z.more G.size) (Ext.refl _ _)
  (G.mono (λk _ hk=>by unfold WdS;rw[hk,hog];exact⟨qf 16 2,by unfold cl;omega⟩))
 rw[hg]
 have e:List.map VI (x.bound.set q z)=(List.map VI x.bound).set q (.int .i64 z):=by rw[List.map_set];rfl
 show World.ownsRow _ 0 2 1 _ c.nodes (List.map VI (x.bound.set q z))
 rw[e];exact hb2
theorem WAt.tolds(h:WAt w0 o0 c W x asn w o r)(hc:c.nodes≤16){ks:List (Ev×Value×Value)}{l:List Ev}(v':Value)(w5:World)(n:Nat)(hn:n=x.ev.length)(ps:List (Ev×Value×Value))(e4:x.ev=ps.map Prod.fst)
  (hps:∀p∈ps,RV VI w o p.2.1 p.1.p.path∧BO w o p.2.2 p.1.p.data) (hks:∀p∈ks,RV VI w o p.2.1 p.1.p.path∧BO w o p.2.2 p.1.p.data) (hl:l=ks.map Prod.fst)
  (G:Chg (λk=>r.ev.ownBlock=some k) w w5) (hrow:w5.ownsRow 0 44 10 v' (n+ks.length) (ps.flatMap jP++ks.flatMap jP)) (hat:v'.ownBlock=r.ev.ownBlock∨v'.ownBlock=some w.heap.size):
  ∃o',WAt w0 o0 c W {x with ev:=x.ev++l} asn (w5.setCell ⟨W,13,none⟩ v') o' {r with ev:=v'}:=by
 have hd:=h.wd
 obtain⟨ps0,r1,r2,r3,r4⟩:=hd.ev
 have hlen:ps.length=n:=by rw[hn,e4,List.length_map]
 have hWl:=qX hd.blk
 have hWN:∀k,r.ev.ownBlock=some k→k≠W:=λk hk e=>by
  subst e;have h1:=r2 k hk;rw[hd.ob] at h1;have:=(zK h1 (by omega) (by omega)).2;omega
 have gs:=chg1 w5 W 13 v'
 have G2:Chg (λq=>r.ev.ownBlock=some q∨q=W) w (w5.setCell ⟨W,13,none⟩ v'):=
  (G.mono (λk _ hk=>(.inl hk:r.ev.ownBlock=some k∨k=W))).trans (gs.mono (λk _ hk=> .inr hk))
 have n0:∀k,o k=0→¬(r.ev.ownBlock=some k∨k=W):=λk hk hs=>by
  rcases hs with hs|hs
  ·have:=r2 k hs;rw[hk] at this;exact qf 16 4 this.symm
  ·subst hs;rw[hd.ob] at hk;exact qf 16 0 hk
 have nj:∀j,j≠4→j≠0→j≤15→∀k,o k=cl 16 j→¬(r.ev.ownBlock=some k∨k=W):=λj h4 h0 h15 k hk hs=>by
  rcases hs with hs|hs
  ·exact h4 (zK (hk.symm.trans (r2 k hs)) (by omega) (by omega)).2
  ·subst hs;exact h0 (zK (hk.symm.trans hd.ob) (by omega) (by omega)).2
 have nm:∀i,i<16→∀k,NdS o i k→¬(r.ev.ownBlock=some k∨k=W):=λi hi k hk hs=>by
  obtain⟨j,hj,hk⟩:=hk
  rcases hs with hs|hs
  ·have:=(zK (hk.symm.trans (r2 k hs)) (by omega) (by omega)).1;omega
  ·subst hs;have:=(zK (hk.symm.trans hd.ob) (by omega) (by omega)).1;omega
 have hbk:(w5.setCell ⟨W,13,none⟩ v').heap[W]? =some (.cells (cellsW c {r with ev:=v'} asn) 61 (0,0)):=
  qB (Chg.keep G hd.blk (λe=>hWN W e rfl)) 13 _
 have hvW:∀k,v'.ownBlock=some k→k≠W:=λk hk=>by
  rcases hat with e|e
  ·rw[e] at hk;exact hWN k hk
  ·rw[e] at hk;cases hk;omega
 have hrw:(w5.setCell ⟨W,13,none⟩ v').ownsRow 0 44 10 v' (ps++ks).length ((ps++ks).flatMap jP):=by
  have:=qY hrow gs (λk hk e=>hvW k hk e)
  rw[List.flatMap_append,List.length_append,hlen];exact this
 have key:∀o',Ext w o o'→Z w5 o'→(∀k,v'.ownBlock=some k→o' k=cl 16 4)→∃o',WAt w0 o0 c W {x with ev:=x.ev++l} asn (w5.setCell ⟨W,13,none⟩ v') o' {r with ev:=v'}:=by
  intro o' hE hZ hv
  refine⟨o',h.next ⟨hbk,by rw[hE W hWl];exact hd.ob,hd.near.step hE G2 n0,hd.hops.step hE G2 n0,qY hd.row G2 (λk hk=>nj 1 (by omega) (by omega) (by omega) k (hd.rowo k hk)),
   λk hk=>by rw[hE k (qg hd.row hk).2];exact hd.rowo k hk,qY hd.bnd G2 (λk hk=>nj 2 (by omega) (by omega) (by omega) k (hd.bndo k hk)),λk hk=>by rw[hE k (qg hd.bnd hk).2];exact hd.bndo k hk,
   hd.inj.step hE G2 (nj 3 (by omega) (by omega) (by omega) _ hd.injo) n0,by rw[hE _ hd.inj.lt];exact hd.injo,
   ⟨ps++ks,hrw,hv,λp hp=>?_,by rw[List.map_append,←e4,←hl]⟩,hd.nl,hd.nds hE G2 n0 nm hc⟩ (hZ.more gs.size) hE (G2.mono (λk _ hk=>?_))⟩
  ·rcases List.mem_append.1 hp with hp|hp
   ·exact⟨(hps p hp).1.step hE G2 n0,(hps p hp).2.step hE G2 n0⟩
   ·exact⟨(hks p hp).1.step hE G2 n0,(hks p hp).2.step hE G2 n0⟩
  ·unfold WdS
   rcases hk with hk|hk
   ·rw[r2 k hk];exact⟨qf 16 4,by unfold cl;omega⟩
   ·rw[hk,hd.ob];exact⟨qf 16 0,by unfold cl;omega⟩
 rcases hat with e|e
 ·exact key o (Ext.refl _ _) (h.z.more G.size) (λk hk=>r2 k (e▸hk))
 ·refine key (cls o w.heap.size (cl 16 4)) (Ext.cls o _ _ (Nat.le_refl _)) ((h.z.more G.size).cls _ ?_) (λk hk=>by rw[e] at hk;cases hk;exact jp _ _ _)
  exact (qg hrow e).2
end
theorem cell10{w:World}{b:Nat}{t:TypeId}{v0 v1 v2 v3 v4 v5 v6 v7 v8 v9:Value}(h:w.heap[b]? =some (.cells #[v0,v1,v2,v3,v4,v5,v6,v7,v8,v9] t (0,0))):
  w.cell? ⟨b,0,none⟩=some v0∧w.cell? ⟨b,1,none⟩=some v1∧w.cell? ⟨b,2,none⟩=some v2∧w.cell? ⟨b,3,none⟩=some v3∧w.cell? ⟨b,4,none⟩=some v4∧w.cell? ⟨b,5,none⟩=some v5∧w.cell? ⟨b,6,none⟩=some v6∧w.cell? ⟨b,7,none⟩=some v7∧w.cell? ⟨b,8,none⟩=some v8∧w.cell? ⟨b,9,none⟩=some v9:=by
 refine⟨?_,?_,?_,?_,?_,?_,?_,?_,?_,?_⟩ <;> rw[qJ h] <;> rfl
theorem evAt{w:World}{g cap n:Nat}{ps:List (Ev×Value×Value)}(h:w.ownsRow 0 44 10 (.slice (some ⟨g,0,none⟩) n cap) n (ps.flatMap jP)){k:Nat}{p:Ev×Value×Value}(hk:ps[k]? =some p):
  w.cell? ⟨g,k*10,none⟩=some (.int .i64 p.1.kind)∧w.cell? ⟨g,k*10+1,none⟩=some (.int .i64 p.1.i)∧w.cell? ⟨g,k*10+2,none⟩=some (.int .i64 p.1.src)∧w.cell? ⟨g,k*10+3,none⟩=some (.int .i64 p.1.code)∧
  w.cell? ⟨g,k*10+4,none⟩=some (.int .i64 p.1.p.src)∧w.cell? ⟨g,k*10+5,none⟩=some (.int .i64 p.1.p.dst)∧w.cell? ⟨g,k*10+6,none⟩=some (.int .i64 p.1.p.n)∧w.cell? ⟨g,k*10+7,none⟩=some (.int .i64 p.1.p.life)∧
  w.cell? ⟨g,k*10+8,none⟩=some p.2.1∧w.cell? ⟨g,k*10+9,none⟩=some p.2.2:=by
 have hc:∀j u,j<10→(jP p)[j]? =some u→w.cell? ⟨g,k*10+j,none⟩=some u:=λj u hj hu=>
  qL h (k*10+j) u (by rw[vh cellsV_len ps k j p hk hj];exact hu)
 exact⟨hc 0 _ (by omega) rfl,hc 1 _ (by omega) rfl,hc 2 _ (by omega) rfl,hc 3 _ (by omega) rfl,hc 4 _ (by omega) rfl,hc 5 _ (by omega) rfl,hc 6 _ (by omega) rfl,hc 7 _ (by omega) rfl,hc 8 _ (by omega) rfl,hc 9 _ (by omega) rfl⟩
theorem foldl_snoc{α β:Type}(f:β→α→β)(b:β)(L:List α)(k:Nat)(z:α)(h:L[k]? =some z):(L.take (k+1)).foldl f b=f ((L.take k).foldl f b) z:=by
 rw[List.take_add_one,h,List.foldl_append];rfl
section
variable {w0 w w':World}{o0 o o':Cls}{c:Cfg}{W:Nat}{x x':WM}{asn:Int}{r r':WR}
theorem WAt.bndval(h:WAt w0 o0 c W x asn w o r)(hc:0<c.nodes):∃g cap,r.bv= .slice (some ⟨g,0,none⟩) c.nodes cap:=by
 obtain⟨g,cap,cur,e,_⟩:=kZ h.wd.bnd hc
 exact⟨g,cap,e⟩
theorem WAt.blen(h:WAt w0 o0 c W x asn w o r):x.bound.length=c.nodes:=by have:=h.wd.bnd.1;simpa using this
theorem WAt.bcell(h:WAt w0 o0 c W x asn w o r){g cap:Nat}(hg:r.bv= .slice (some ⟨g,0,none⟩) c.nodes cap)(q:Nat)(hq:q<c.nodes):w.cell? ⟨g,q,none⟩=some (.int .i64 (atL x.bound q)):=by
 have hb:=h.wd.bnd
 rw[hg] at hb
 refine qr hb q _ ?_
 rw[List.getElem?_map,List.getElem?_eq_getElem (by rw[h.blen];exact hq)]
 unfold atL
 rw[List.getD_eq_getElem?_getD,List.getElem?_eq_getElem (by rw[h.blen];exact hq)]
 rfl
theorem WAt.bfr(h:WAt w0 o0 c W x asn w o r){g cap:Nat}(hg:r.bv= .slice (some ⟨g,0,none⟩) c.nodes cap)(q:Nat):w.frozen? ⟨g,q,none⟩=false:=by
 have hb:=h.wd.bnd
 rw[hg] at hb
 rcases hb.2 with ⟨e,_⟩|⟨g2,c2,cur,e,_,hb2,_⟩
 ·cases e
 ·cases e;exact qK hb2 q
theorem WAt.lowb(h:WAt w0 o0 c W x asn w o r)(hc:0<c.nodes)(kv:Value)(known:List Int)(hk:RV VI w o kv known){w5:World}(g:Chg (λq=>r.bv.ownBlock=some q) w w5):RV VI w5 o kv known:=
 hk.keep g (λj hj e=>by have:=h.wd.bndo j e;rw[hj] at this;exact qf 16 2 this.symm)
theorem wtells_any(hc:CfgOk c)(h:WAt w0 o0 c W x asn w o r)(v:Value)(l:List Ev)(k:Nat)(hE:Eo w o k v l)(hk:k≠cl 16 0∧k≠cl 16 2∧k≠cl 16 4)(kv:Value)(known:List Int)
  (hkv:(RV VI w o kv known∧known.length=c.nodes∧∀z∈known,-1≤z∧z≤1000000000000)∨∀e∈l,e.kind≠7) (hok:∀e∈l,(e.kind=7∨e.kind=3→0≤e.i∧e.i<c.nodes)∧(e.kind=7→0≤e.src∧e.src<c.nodes))
  (hl:l.length≤1000) (hx:x.ev.length≤100000):
  Calls Tryz.prog 35 #[VP W,v,kv] w (PW w0 o0 c W (WM.tells c known x l) asn r (λv _ _=>v= .tuple #[])):=by
 have hn0:=hc.n0
 have hn1:=hc.n1
 have he0:=hc.e
 have H:=qQ h
 obtain⟨gb,bcap,hbv⟩:=h.bndval (by omega)
 obtain⟨ps,p1,p2,p3,p4⟩:=hE
 have hpl:ps.length=l.length:=by rw[p4,List.length_map]
 rw[hpl] at p1
 obtain⟨n,hn⟩:=qZ l.length
 rw[←hn] at p1 hl hpl
 obtain⟨A,cap,hv⟩:∃A cap,v= .slice A n cap:=by
  rcases qD p1 with ⟨e,h1,_⟩|⟨g,cap,e,_⟩
  ·exact⟨none,0,by rw[e,h1]⟩
  ·exact⟨_,_,e⟩
 have HE:=qQ (And.intro p1 (And.intro p2 (And.intro p3 (And.intro p4 hpl))))
 have HKV:=qQ hkv
 have HOK:=qQ hok
 have HN:=qQ hn
 have HBV:=qQ hbv
 have HV:=qQ hv
 obtain⟨F,hF⟩:=qZ (WM.tells c known x l)
 rw[←hF]
 have HF:=qQ hF
 subst hv
 have hl2:(n:Int)≤1000:=by omega
 clear h p1 p2 p3 p4 hpl hkv hok hn hbv hF
 unfold VP
 go_enter Tryz.func35,Tryz.ntmps35
 go_wp2_with fail
 go_loopw [11] (λi wr=>∃(k:Nat),k≤n∧i= .int .i64 k∧WAt w0 o0 c W {x with bound:=(l.take k).foldl (tellF c.err known) x.bound} asn wr o r∧Chg (λq=>r.bv.ownBlock=some q) w wr) (λi _=>n-(intOf i).toNat)
 case atStart=>exact⟨0,by omega,rfl,H.out,Chg.refl _ _⟩
 case round=>
  obtain⟨q,hq,rfl,hA,hG⟩:=hrel
  have HA:=qQ hA
  have HG:=qQ hG
  clear hA hG
  by_cases hlt:q<n
  ·obtain⟨⟨e,pv,dv⟩,hz⟩:∃z,ps[q]? =some z:=⟨_,List.getElem?_eq_getElem (by have:=HE.out.2.2.2.2;omega)⟩
   have hze:l[q]? =some e:=by rw[HE.out.2.2.2.1,List.getElem?_map,hz];rfl
   have i1:(q:Int)<(n:Int):=by omega
   obtain⟨g,cap2,hvv⟩:∃g cap2,A=some ⟨g,0,none⟩∧cap=cap2:=by
    rcases qD HE.out.1 with ⟨e,h1,_⟩|⟨g,cap2,e,_⟩
    ·omega
    ·cases e;exact⟨_,_,rfl,rfl⟩
   obtain⟨rfl,rfl⟩:=hvv
   have hrow:=qY HE.out.1 HG.out (λk2 hk2 e=>by
    have h1:=HE.out.2.1 k2 hk2
    have h2:=H.out.wd.bndo k2 e
    rw[h1] at h2
    exact hk.2.1 h2)
   obtain⟨d0,d1,d2,d3,d4,d5,d6,d7,d8,d9⟩:=evAt hrow hz
   obtain⟨ok1,ok2⟩:=HOK.out e (List.mem_of_getElem? hze)
   have hnx:=foldl_snoc (tellF c.err known) x.bound l q e hze
   have hpv:∃A n c,pv= .slice A n c:=by
    obtain⟨⟨A,c,e,_⟩,_⟩:=HE.out.2.2.1 _ (List.mem_of_getElem? hz)
    exact⟨_,_,_,e⟩
   have hdv:∃A n c,dv= .slice A n c:=by
    obtain⟨_,⟨A,c,e,_⟩,_⟩:=HE.out.2.2.1 _ (List.mem_of_getElem? hz)
    exact⟨_,_,_,e⟩
   obtain⟨pA,pn,pc,rfl⟩:=hpv
   obtain⟨dA,dn,dc,rfl⟩:=hdv
   have HZ:=qQ (List.mem_of_getElem? hze)
   dsimp only at d0 d1 d2 d3 d4 d5 d6 d7 d8 d9
   clear hz hze hrow
   obtain⟨X,hX⟩:∃X:WM,X= {x with bound:=(l.take q).foldl (tellF c.err known) x.bound}:=⟨_,rfl⟩
   have HX:Hid (X= {x with bound:=(l.take q).foldl (tellF c.err known) x.bound}):=qQ hX
   rw[←hX] at HA
   have hX2: {x with bound:=(l.take (q+1)).foldl (tellF c.err known) x.bound}= {X with bound:=tellF c.err known X.bound e}:=by rw[hnx,hX]
   have HX2:=qQ hX2
   clear hX hX2 hnx
   by_cases h7:e.kind=7
   ·obtain⟨oi0,oi1⟩:=ok1 (.inl h7)
    obtain⟨os0,os1⟩:=ok2 h7
    obtain⟨i',hi'⟩:=Int.eq_ofNat_of_zero_le oi0
    obtain⟨s',hs'⟩:=Int.eq_ofNat_of_zero_le os0
    have HI:=qQ (And.intro hi' hs')
    rw[hi'] at d1 oi1
    rw[hs'] at d2 os1
    have hin:i'<c.nodes:=by omega
    have hsn:s'<c.nodes:=by omega
    have b7:(e.kind==7)=true:=by simp[h7]
    rcases HKV.out with ⟨hk1,hk2,hk3⟩|hno
    ·have HH7:=qQ h7
     have HKW:=qQ (show∀W5,Chg (λq=>r.bv.ownBlock=some q) w W5→RV VI W5 o kv known from λW5 g5=>H.out.lowb (by omega) kv known hk1 g5)
     obtain⟨kA,kc,hkve,_⟩:=hk1
     rw[hk2] at hkve
     subst hkve
     obtain⟨z,hz⟩:∃z,known[s']? =some z:=⟨_,List.getElem?_eq_getElem (by omega)⟩
     obtain⟨z0,z1⟩:=hk3 z (List.mem_of_getElem? hz)
     have hza:atL known s'=z:=by unfold atL;rw[List.getD_eq_getElem?_getD,hz];rfl
     obtain⟨kp,hkp⟩:∃kp,kA=some kp:=by
      obtain⟨A2,c2,e2,hr2,_⟩:=HKW.out wr HG.out
      rw[hk2] at e2 hr2
      cases e2
      obtain⟨p2,z2,hp2,_⟩:=hr2.at (i:=s') (by omega)
      exact⟨p2,hp2⟩
     subst hkp
     have HKB:=qQ (show¬kp.block=gb from by
      obtain⟨A2,c2,e2,hr2,_⟩:=HKW.out w (Chg.refl _ _)
      rw[hk2] at e2 hr2
      cases e2
      obtain⟨x2,e3,h0,_⟩:=hr2.2 s' (by rw[hk2];exact hsn)
      cases e3
      intro e
      have h2:=H.out.wd.bndo gb (by rw[HBV.out];rfl)
      rw[←e,h0] at h2
      exact qf 16 2 h2.symm)
     have HWG:=qQ (show¬W=gb from λe=>by
      have h2:=H.out.wd.bndo gb (by rw[HBV.out];rfl)
      rw[←e,H.out.wd.ob] at h2
      have:=(zK h2 (by omega) (by omega)).2
      omega)
     have HZC:=qQ (show∀W5,Chg (λq=>r.bv.ownBlock=some q) w W5→W5.cell? (kp.add s')=some (.int .i64 z) from λW5 g5=>by
      obtain⟨A2,c2,e2,hr2,_⟩:=HKW.out W5 g5
      rw[hk2] at e2 hr2
      cases e2
      obtain⟨p2,z2,hp2,hz2,hc2⟩:=hr2.at (i:=s') (by omega)
      cases hp2
      rw[hz] at hz2
      cases hz2
      exact hc2)
     have ht:tellF c.err known X.bound e=X.bound.set i' (if 0≤z then z+c.err else-1):=by
      unfold tellF;rw[if_pos h7,hi',hs',Int.toNat_natCast,Int.toNat_natCast,hza]
     have HT:=qQ ht
     have HAE:=qQ (HA.out.kept hn1 ((Chg.alloc (λ_=>False) wr (.cells #[.int .i64 e.kind,.int .i64 (i':Int),.int .i64 (s':Int),.int .i64 e.code,.int .i64 e.p.src,.int .i64 e.p.dst,.int .i64 e.p.n,.int .i64 e.p.life,.slice pA pn pc,.slice dA dn dc] 44)).trans (Chg.drew _ _)))
     have c11:(wr.alloc (.cells #[.int .i64 e.kind,.int .i64 (i':Int),.int .i64 (s':Int),.int .i64 e.code,.int .i64 e.p.src,.int .i64 e.p.dst,.int .i64 e.p.n,.int .i64 e.p.life,.slice pA pn pc,.slice dA dn dc] 44)).cell? ⟨W,11,none⟩=some (.slice (some ⟨gb,0,none⟩) c.nodes bcap):=by rw[←HBV.out];exact (HA.out.kept hn1 (Chg.alloc (λ_=>False) wr (.cells #[.int .i64 e.kind,.int .i64 (i':Int),.int .i64 (s':Int),.int .i64 e.code,.int .i64 e.p.src,.int .i64 e.p.dst,.int .i64 e.p.n,.int .i64 e.p.life,.slice pA pn pc,.slice dA dn dc] 44))).cell 11
     have HGE:=qQ (HG.out.trans ((Chg.alloc _ wr (.cells #[.int .i64 e.kind,.int .i64 (i':Int),.int .i64 (s':Int),.int .i64 e.code,.int .i64 e.p.src,.int .i64 e.p.dst,.int .i64 e.p.n,.int .i64 e.p.life,.slice pA pn pc,.slice dA dn dc] 44)).trans (Chg.drew _ _)))
     have bc:=HAE.out.bcell HBV.out i' hin
     have bf:=HAE.out.bfr HBV.out i'
     have hgl:gb<wr.heap.size:=by have:=qP (HA.out.bcell HBV.out i' hin);exact this
     have HEB:=qQ (show (wr.alloc (.cells #[.int .i64 e.kind,.int .i64 (i':Int),.int .i64 (s':Int),.int .i64 e.code,.int .i64 e.p.src,.int .i64 e.p.dst,.int .i64 e.p.n,.int .i64 e.p.life,.slice pA pn pc,.slice dA dn dc] 44)).drew.heap[wr.heap.size]? =some (Obj.cells #[Value.int .i64 e.kind,.int .i64 (i':Int),.int .i64 (s':Int),.int .i64 e.code,.int .i64 e.p.src,.int .i64 e.p.dst,.int .i64 e.p.n,.int .i64 e.p.life,.slice pA pn pc,.slice dA dn dc] 44 (0,0)) from qV wr (.cells #[.int .i64 e.kind,.int .i64 (i':Int),.int .i64 (s':Int),.int .i64 e.code,.int .i64 e.p.src,.int .i64 e.p.dst,.int .i64 e.p.n,.int .i64 e.p.life,.slice pA pn pc,.slice dA dn dc] 44))
     obtain⟨x0,x1,_⟩:=cell10 (qV wr (.cells #[.int .i64 e.kind,.int .i64 (i':Int),.int .i64 (s':Int),.int .i64 e.code,.int .i64 e.p.src,.int .i64 e.p.dst,.int .i64 e.p.n,.int .i64 e.p.life,.slice pA pn pc,.slice dA dn dc] 44))
     clear h7 hi' hs' ok1 ok2 ht hz hza hk2 hk3 HKV HKW
     go_wp2_with fail
     generalize wr.alloc (.cells #[.int .i64 e.kind,.int .i64 (i':Int),.int .i64 (s':Int),.int .i64 e.code,.int .i64 e.p.src,.int .i64 e.p.dst,.int .i64 e.p.n,.int .i64 e.p.life,.slice pA pn pc,.slice dA dn dc] 44)=we at *
     obtain⟨eb,heb⟩:=qZ wr.heap.size
     rw[←heb] at x0 x1 HEB hgl ⊢
     clear heb
     go_still_tail 7,(by kernel_rfl)
     change wpList _ _ _ _ _ we.drew
     generalize we.drew=wd at *
     obtain⟨y0,y1,y2,_⟩:=cell10 HEB.out
     have hbn1:¬eb=gb:=by omega
     have hbn2:¬gb=eb:=by omega
     have zc:=HZC.out wd HGE.out
     have hkb:=HKB.out
     have hkb2:¬gb=kp.block:=λe=>hkb e.symm
     have hadd:=zw kp s'
     have c11d:wd.cell? ⟨W,11,none⟩=some (.slice (some ⟨gb,0,none⟩) c.nodes bcap):=by rw[←HBV.out];exact HAE.out.cell 11
     have c4:wd.cell? ⟨W,4,none⟩=some (.int .i64 c.err):=HAE.out.cell 4
     have hwn:¬W=gb:=HWG.out
     have hwn2:¬gb=W:=λe=>HWG.out e.symm
     have e1:IntKind.i64.wrap (z+c.err)=z+c.err:=IntWalk.i64_in _ (by omega)
     have HEB2:=qQ (show∀x:Value,(wd.setCell ⟨gb,i',none⟩ x).heap[eb]? =wd.heap[eb]? from λx=>by
      rw[HEB.out];exact Chg.keep (chg1 wd gb i' x) HEB.out hbn1)
     have HGF:=qQ (HGE.out.trans (Chg.set wd ⟨gb,i',none⟩ (.int .i64 (-1)) (show r.bv.ownBlock=some gb by rw[HBV.out];rfl)))
     have HA2:=qQ (HAE.out.bset hn1 HBV.out i' hin (-1))
     have zc2:=HZC.out _ HGF.out
     have hna:¬((⟨gb,i',none⟩:Addr)=kp.add s'):=λe=>hkb2 (by have:=congrArg Addr.block e;rw[hadd] at this;exact this)
     have hna2:¬(kp.add s'=(⟨gb,i',none⟩:Addr)):=λe=>hna e.symm
     by_cases hz:0≤z
     ·have hT:=HT.out
      rw[if_pos hz] at hT
      have HT:=qQ hT
      clear hT x0 x1 c11
      go_wp2_with fail
      have hb2:(wd.setCell ⟨gb,i',none⟩ (.int .i64 (-1))).heap[eb]? =_:=(HEB2.out _).trans HEB.out
      have c11:(wd.setCell ⟨gb,i',none⟩ (.int .i64 (-1))).cell? ⟨W,11,none⟩=some (.slice (some ⟨gb,0,none⟩) c.nodes bcap):=by rw[←HBV.out];exact HA2.out.cell 11
      have c4':(wd.setCell ⟨gb,i',none⟩ (.int .i64 (-1))).cell? ⟨W,4,none⟩=some (.int .i64 c.err):=HA2.out.cell 4
      have HAD:=qQ (HA2.out.kept hn1 (Chg.drew _ _))
      have HGD:=qQ (HGF.out.trans (Chg.drew _ _))
      have bc':=HAD.out.bcell HBV.out i' hin
      have bf':=HAD.out.bfr HBV.out i'
      clear bc bf c11d c4 y0 y1 y2 zc zc2 hna hna2 HEB HEB2 HA2 HGF HAE HGE
      generalize wd.setCell ⟨gb,i',none⟩ (.int .i64 (-1))=w2 at *
      obtain⟨y0,y1,y2,_⟩:=cell10 hb2
      go_still_tail 14,(by kernel_rfl)
      change wpList _ _ _ _ _ w2.drew
      generalize w2.drew=w3 at *
      go_wp2_with fail
      go_roundw
      case measure=>simp[intOf];omega
      case rel=>
       refine⟨q+1,by omega,by go_num,?_,HGD.out.trans (Chg.set _ _ _ ?_)⟩
       ·have:=HAD.out.bset hn1 HBV.out i' hin (z+c.err)
        rw[HX2.out,HT.out]
        simp only[List.set_set] at this
        exact this
       ·show r.bv.ownBlock=some gb;rw[HBV.out];rfl
     ·have hT:=HT.out
      rw[if_neg hz] at hT
      have HT:=qQ hT
      have bz:decide (0≤z)=false:=by simpa using hz
      clear hT hz x0 x1 c11
      go_wp2_with fail
      go_roundw
      case measure=>simp[intOf];omega
      case rel=>
       refine⟨q+1,by omega,by go_num,?_,HGF.out⟩
       rw[HX2.out,HT.out]
       exact HA2.out
    ·exact absurd h7 (hno e HZ.out)
   ·have b7:(e.kind==7)=false:=by simpa using h7
    by_cases h3:e.kind=3
    ·obtain⟨oi0,oi1⟩:=ok1 (.inr h3)
     obtain⟨i',hi'⟩:=Int.eq_ofNat_of_zero_le oi0
     rw[hi'] at d1 oi1
     have hin:i'<c.nodes:=by omega
     have b3:(e.kind==3)=true:=by simp[h3]
     have ht:tellF c.err known X.bound e=X.bound.set i' (-1):=by
      unfold tellF;rw[if_neg h7,if_pos h3,hi',Int.toNat_natCast]
     have HT:=qQ ht
     have HAE:=qQ (HA.out.kept hn1 ((Chg.alloc (λ_=>False) wr (.cells #[.int .i64 e.kind,.int .i64 (i':Int),.int .i64 e.src,.int .i64 e.code,.int .i64 e.p.src,.int .i64 e.p.dst,.int .i64 e.p.n,.int .i64 e.p.life,.slice pA pn pc,.slice dA dn dc] 44)).trans (Chg.drew _ _)))
     have c11:(wr.alloc (.cells #[.int .i64 e.kind,.int .i64 (i':Int),.int .i64 e.src,.int .i64 e.code,.int .i64 e.p.src,.int .i64 e.p.dst,.int .i64 e.p.n,.int .i64 e.p.life,.slice pA pn pc,.slice dA dn dc] 44)).cell? ⟨W,11,none⟩=some (.slice (some ⟨gb,0,none⟩) c.nodes bcap):=by rw[←HBV.out];exact (HA.out.kept hn1 (Chg.alloc (λ_=>False) wr (.cells #[.int .i64 e.kind,.int .i64 (i':Int),.int .i64 e.src,.int .i64 e.code,.int .i64 e.p.src,.int .i64 e.p.dst,.int .i64 e.p.n,.int .i64 e.p.life,.slice pA pn pc,.slice dA dn dc] 44))).cell 11
     have HGE:=qQ (HG.out.trans ((Chg.alloc _ wr (.cells #[.int .i64 e.kind,.int .i64 (i':Int),.int .i64 e.src,.int .i64 e.code,.int .i64 e.p.src,.int .i64 e.p.dst,.int .i64 e.p.n,.int .i64 e.p.life,.slice pA pn pc,.slice dA dn dc] 44)).trans (Chg.drew _ _)))
     have bc:=HAE.out.bcell HBV.out i' hin
     have bf:=HAE.out.bfr HBV.out i'
     obtain⟨x0,x1,_⟩:=cell10 (qV wr (.cells #[.int .i64 e.kind,.int .i64 (i':Int),.int .i64 e.src,.int .i64 e.code,.int .i64 e.p.src,.int .i64 e.p.dst,.int .i64 e.p.n,.int .i64 e.p.life,.slice pA pn pc,.slice dA dn dc] 44))
     clear h7 h3 hi' ok1 ok2 ht
     go_wp2_with fail
     generalize wr.alloc (.cells #[.int .i64 e.kind,.int .i64 (i':Int),.int .i64 e.src,.int .i64 e.code,.int .i64 e.p.src,.int .i64 e.p.dst,.int .i64 e.p.n,.int .i64 e.p.life,.slice pA pn pc,.slice dA dn dc] 44)=we at *
     go_still_tail 7,(by kernel_rfl)
     change wpList _ _ _ _ _ we.drew
     generalize we.drew=wd at *
     go_wp2_with fail
     go_roundw
     case measure=>simp[intOf];omega
     case rel=>
      refine⟨q+1,by omega,by go_num,?_,HGE.out.trans (Chg.set _ _ _ ?_)⟩
      ·rw[HX2.out,HT.out];exact HAE.out.bset hn1 HBV.out i' hin (-1)
      ·show r.bv.ownBlock=some gb;rw[HBV.out];rfl
    ·have b3:(e.kind==3)=false:=by simpa using h3
     have ht:tellF c.err known X.bound e=X.bound:=by
      unfold tellF;rw[if_neg h7,if_neg h3]
     have HT:=qQ ht
     have HAE:=qQ (And.intro (HA.out.kept hn1 (Chg.alloc (λ_=>False) wr (.cells #[.int .i64 e.kind,.int .i64 e.i,.int .i64 e.src,.int .i64 e.code,.int .i64 e.p.src,.int .i64 e.p.dst,.int .i64 e.p.n,.int .i64 e.p.life,.slice pA pn pc,.slice dA dn dc] 44))) (HG.out.trans (Chg.alloc _ wr (.cells #[.int .i64 e.kind,.int .i64 e.i,.int .i64 e.src,.int .i64 e.code,.int .i64 e.p.src,.int .i64 e.p.dst,.int .i64 e.p.n,.int .i64 e.p.life,.slice pA pn pc,.slice dA dn dc] 44))))
     clear h7 h3 ht ok1 ok2
     go_wp2_with fail
     go_roundw
     case measure=>simp[intOf];omega
     case rel=>
      refine⟨q+1,by omega,by go_num,?_,HAE.out.2⟩
      rw[HX2.out,HT.out]
      exact HAE.out.1
  ·obtain rfl:q=n:=by omega
   have hfin:=HA.out
   have hG:=HG.out
   rw[List.take_of_length_le (by rw[←HN.out];exact Nat.le_refl _)] at hfin
   have c13:wr.cell? ⟨W,13,none⟩=some r.ev:=hfin.cell 13
   have f13:=hfin.f 13
   obtain⟨qs,q1,q2,q3,q4⟩:=hfin.wd.ev
   have hrow:=qY HE.out.1 hG (λk2 hk2 e=>by
    have h1:=HE.out.2.1 k2 hk2
    have h2:=H.out.wd.bndo k2 e
    rw[h1] at h2
    exact hk.2.1 h2)
   obtain⟨eA,ecap,hev⟩:∃A cap,r.ev= .slice A qs.length cap:=by
    rcases qD q1 with ⟨e,h1,_⟩|⟨g,cap,e,_⟩
    ·exact⟨none,0,by rw[e,h1]⟩
    ·exact⟨_,_,e⟩
   have hql:qs.length=x.ev.length:=by
    have:x.ev=qs.map Prod.fst:=q4
    rw[this,List.length_map]
   have hone:∀(rs:List (Ev×Value×Value)),(∀p∈rs,RV VI w o p.2.1 p.1.p.path∧BO w o p.2.2 p.1.p.data)→∀u∈rs.flatMap jP,u.oneCell'=true:=by
    intro rs hrs u hu
    obtain⟨p,hp,hup⟩:=List.mem_flatMap.1 hu
    obtain⟨⟨A,c,e,_⟩,⟨A2,c2,e2,_⟩,_⟩:=hrs p hp
    obtain⟨pe,pv,dv⟩:=p
    dsimp only at e e2
    subst e e2
    simp[jP] at hup
    rcases hup with rfl|rfl|rfl|rfl|rfl|rfl|rfl|rfl|rfl|rfl <;> rfl
   have h1:=hone ps HE.out.2.2.1
   rw[hev] at c13 q1
   obtain⟨qn,hqn⟩:=qZ qs.length
   rw[←hqn] at c13 q1 hql hev
   have HQ:=qQ (And.intro q1 (And.intro q2 (And.intro q3 (And.intro q4 (And.intro hev (And.intro hql hqn))))))
   have HROW:=qQ (And.intro hrow h1)
   have HKS:=qQ (show∀p∈ps,RV VI wr o p.2.1 p.1.p.path∧BO wr o p.2.2 p.1.p.data from λp hp=>by
    have h0:∀j,o j=0→¬(r.bv.ownBlock=some j):=λj hj e=>by have:=H.out.wd.bndo j e;rw[hj] at this;exact qf 16 2 this.symm
    exact⟨(HE.out.2.2.1 p hp).1.keep hG h0,(HE.out.2.2.1 p hp).2.keep hG h0⟩)
   have HFIN:=qQ hfin
   have hqle:qn+q≤1000000:=by omega
   clear hone h1 hrow q1 q2 q3 q4 hev hql hqn hfin hG HA HG hx hl hl2 hlt hq
   go_wp2_with (at_builtin;go_loud (refine appRow ElV rfl (.tmp 61) (.tmp 62) rfl 0 (.slice eA qn ecap) qn (qs.flatMap jP) rfl HQ.out.1 0 _ q (ps.flatMap jP) rfl HROW.out.1 HROW.out.2 (by omega) (by omega) (Nat.zero_le _) ?grow))
   case grow=>
    intro v' w5 hown hgr hat
    obtain⟨A5,cap5,rfl⟩:∃A5 cap5,v'= .slice A5 (qn+q) cap5:=by
     rcases qD hown with ⟨e,h1,_⟩|⟨g,cap,e,_⟩
     ·exact⟨none,0,by rw[e,h1]⟩
     ·exact⟨_,_,e⟩
    obtain⟨y1,y2,y3,y4,y5,y6,y7⟩:=HQ.out
    have G:Chg (λk=>r.ev.ownBlock=some k) wr w5:=qH hgr (λj e=>by rw[y5];exact e)
    have hWN:¬(r.ev.ownBlock=some W):=λe=>by
     have h1:=y2 W e
     rw[HFIN.out.wd.ob] at h1
     have:=(zK h1 (by omega) (by omega)).2
     omega
    have hb5:=Chg.keep G HFIN.out.wd.blk hWN
    have c13':w5.cell? ⟨W,13,none⟩=some (.slice eA qn ecap):=by rw[qJ hb5];exact congrArg some y5
    have f13':=qK hb5 13
    obtain⟨o',hT⟩:=HFIN.out.tolds hn1 (ks:=ps) (l:=l) (.slice A5 (qn+q) cap5) w5 qn y6 qs y4 y3 HKS.out HE.out.2.2.2.1 G (by rw[HE.out.2.2.2.2];exact hown) (by rw[y5];exact hat)
    have HT:=qQ hT
    clear y1 y2 y3 y4 y5 y6 y7 G hWN hb5 hT hown hgr hat HFIN HQ HKS HROW c13 f13
    go_wp2_with fail
    go_end0
    rw[HF.out]
    exact⟨_,o',_,rfl,HT.out,⟨rfl,rfl,rfl,rfl,rfl,rfl⟩,rfl⟩
end
section
variable (c:Cfg)(d:Dr)(now:Int)(x:WM)
def vS(i:Nat):NSt:=vy i (atL d.drift i) (x.nd i)
def vP(i:Nat):NSt×Int×List Int:=jK c i (vS d x i) now
def vA(i:Nat):Snd:=((vP c d now x i).2.1,(vP c d now x i).2.2,offN (vP c d now x i).1)
def vB(i j:Nat):Bool:=
 bitW (atL c.near i) (atL d.lost i) j&&(!(vA c d now x j).2.1.isEmpty&&(vA c d now x j).1==(vA c d now x i).1)&&(!(vP c d now x i).1.synced||zx (vA c d now x i).2.2 (vA c d now x j).2.2 c.guard)
def vL(i:Nat):List Nat:=(List.range c.nodes).filter (vB c d now x i)
def vM(i j:Nat):Int:=meas (vA c d now x i).2.2 (vA c d now x j).2.2 (atL d.err i) c.err
def vX(j:Nat):Int×Fr:=decF (vA c d now x j).2.1
end
theorem vz{α:Type}(l:List α)(i j:Nat)(v z:α)(h:i<l.length):(l.set i v).getD j z=if j=i then v else l.getD j z:=by
 simp only[List.getD_eq_getElem?_getD,List.getElem?_set]
 by_cases hj:j=i
 ·subst hj;simp[h]
 ·have hj':¬i=j:=λe=>hj e.symm
  rw[if_neg hj',if_neg hj]
theorem range_snoc{β:Type}(f:Nat→List β)(k:Nat):(List.range (k+1)).flatMap f=(List.range k).flatMap f++f k:=by
 rw[List.range_succ,List.flatMap_append];simp
section
variable {c:Cfg}{d:Dr}{now:Int}{x:WM}{n:Nat}{known:List Int}
theorem slot1_nd(hn:x.nodes.length=n):∀k,k≤n→(iter (zz d) k x).nodes.length=n∧(iter (zz d) k x).ev=x.ev∧∀i,i<n→(iter (zz d) k x).nd i=if i<k then vS d x i else x.nd i:=by
 intro k
 induction k with
 |zero=>intro _;exact⟨hn,rfl,λi _=>by simp[iter]⟩
 |succ k ih=>
  intro hk
  obtain⟨h1,h2,h3⟩:=ih (by omega)
  refine⟨by simp[iter,zz,h1],by simp[iter,zz,h2],λi hi=>?_⟩
  show (WM.put (iter (zz d) k x) k _).nodes.getD i s00=_
  unfold WM.put
  simp only[]
  rw[vz _ _ _ _ _ (by omega)]
  by_cases hik:i=k
  ·subst hik
   rw[if_pos rfl,if_pos (by omega),h3 i hi,if_neg (by omega)];rfl
  ·rw[if_neg hik]
   refine (h3 i hi).trans ?_
   by_cases h:i<k
   ·rw[if_pos h,if_pos (by omega)]
   ·rw[if_neg h,if_neg (by omega)]
theorem slot2_nd{y:WM}(hn:y.nodes.length=n)(ha:y.air.length=n):∀k,k≤n→(iter (jT c now) k y).nodes.length=n∧(iter (jT c now) k y).ev=y.ev∧(iter (jT c now) k y).air.length=n∧
  ∀i,i<n→(iter (jT c now) k y).nd i=(if i<k then (jK c i (y.nd i) now).1 else y.nd i)∧
   (iter (jT c now) k y).snd i=(if i<k then ((jK c i (y.nd i) now).2.1,(jK c i (y.nd i) now).2.2,offN (jK c i (y.nd i) now).1) else y.snd i):=by
 intro k
 induction k with
 |zero=>intro _;exact⟨hn,rfl,ha,λi _=>by simp[iter]⟩
 |succ k ih=>
  intro hk
  obtain⟨h1,h2,h0,h3⟩:=ih (by omega)
  refine⟨by simp[iter,jT,h1],by simp[iter,jT,h2],by simp[iter,jT,h0],λi hi=>⟨?_,?_⟩⟩
  ·show (List.set _ k _).getD i s00=_
   rw[vz _ _ _ _ _ (by omega)]
   by_cases hik:i=k
   ·subst hik
    rw[if_pos rfl,if_pos (by omega),(h3 i hi).1,if_neg (by omega)]
   ·rw[if_neg hik]
    refine ((h3 i hi).1).trans ?_
    by_cases h:i<k
    ·rw[if_pos h,if_pos (by omega)]
    ·rw[if_neg h,if_neg (by omega)]
  ·show (List.set _ k _).getD i (0,[],0)=_
   rw[vz _ _ _ _ _ (by omega)]
   by_cases hik:i=k
   ·subst hik
    rw[if_pos rfl,if_pos (by omega),(h3 i hi).1,if_neg (by omega)]
   ·rw[if_neg hik]
    refine ((h3 i hi).2).trans ?_
    by_cases h:i<k
    ·rw[if_pos h,if_pos (by omega)]
    ·rw[if_neg h,if_neg (by omega)]
theorem at2(hn:x.nodes.length=n):(zp c d n now x).nodes.length=n∧(zp c d n now x).ev=x.ev∧∀i,i<n→(zp c d n now x).nd i=(vP c d now x i).1∧(zp c d n now x).snd i=vA c d now x i:=by
 obtain⟨h1,h2,h3⟩:=slot1_nd (d:=d) hn n (Nat.le_refl _)
 obtain⟨k1,k2,k3,k4⟩:=slot2_nd (c:=c) (now:=now) (y:={qR d n x with air:=List.replicate n (0,[],0)}) (n:=n) h1 (by simp) n (Nat.le_refl _)
 refine⟨k1,k2.trans h2,λi hi=>?_⟩
 obtain⟨k5,k6⟩:=k4 i hi
 rw[if_pos hi] at k5 k6
 have e:WM.nd {qR d n x with air:=List.replicate n (0,[],0)} i=vS d x i:=by
  have:=h3 i hi
  rw[if_pos hi] at this
  exact this
 rw[e] at k5 k6
 exact⟨k5,k6⟩
theorem hears_eq{y:WM}(hy:∀j,j<c.nodes→y.snd j=vA c d now x j){i:Nat}(hi:i<c.nodes)(h:y.nd i=(vP c d now x i).1):heardW c d y i=vL c d now x i:=by
 unfold heardW vL
 apply List.filter_congr
 intro j hj
 rw[List.mem_range] at hj
 unfold vQ vB
 rw[hy i hi,hy j hj,h]
theorem vL_lt{i j:Nat}(h:vL c d now x i=[j]):j<c.nodes:=by
 have:j∈vL c d now x i:=by rw[h];simp
 unfold vL at this
 rw[List.mem_filter,List.mem_range] at this
 exact this.1
theorem one_nd{f:Nat→WM→WM}{y:WM}{N:Nat→NSt}{L:Nat→List Ev}(hn:y.nodes.length=n)
  (hf:∀k z,k<n→z.nodes.length=n→z.air=y.air→z.back=y.back→z.nd k=y.nd k→(f k z).nodes=z.nodes.set k (N k)∧(f k z).air=z.air∧(f k z).back=z.back∧(f k z).ev=z.ev++L k):
  ∀k,k≤n→(iter f k y).nodes.length=n∧(iter f k y).air=y.air∧(iter f k y).back=y.back∧(iter f k y).ev=y.ev++(List.range k).flatMap L∧∀i,i<n→(iter f k y).nd i=if i<k then N i else y.nd i:=by
 intro k
 induction k with
 |zero=>intro _;exact⟨hn,rfl,rfl,by simp[iter],λi _=>by simp[iter]⟩
 |succ k ih=>
  intro hk
  obtain⟨h1,h2,h3,h4,h5⟩:=ih (by omega)
  have hkn:k<n:=by omega
  have n1:=h5 k hkn
  rw[if_neg (by omega)] at n1
  have hstep:iter f (k+1) y=f k (iter f k y):=rfl
  rw[hstep]
  generalize iter f k y=z at *
  obtain⟨q1,q2,q3,q4⟩:=hf k z hkn h1 h2 h3 n1
  refine⟨by rw[q1];simp[h1],q2.trans h2,q3.trans h3,by rw[q4,h4,range_snoc,List.append_assoc],λi hi=>?_⟩
  show (f k z).nodes.getD i s00=_
  rw[q1,vz _ _ _ _ _ (by omega)]
  by_cases hik:i=k
  ·subst hik;rw[if_pos rfl,if_pos (by omega)]
  ·rw[if_neg hik]
   refine (h5 i hi).trans ?_
   by_cases h:i<k
   ·rw[if_pos h,if_pos (by omega)]
   ·rw[if_neg h,if_neg (by omega)]
theorem set_self{z:WM}{k:Nat}(h:k<z.nodes.length):z.nodes.set k (z.nd k)=z.nodes:=by
 unfold WM.nd
 apply List.ext_getElem?
 intro j
 rw[List.getElem?_set]
 by_cases hj:k=j
 ·subst hj;simp[h]
 ·rw[if_neg hj]
end
end Go.Proofs.YtnpihllannobgaaGreatDoor
