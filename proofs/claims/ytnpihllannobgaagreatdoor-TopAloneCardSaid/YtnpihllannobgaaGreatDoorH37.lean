/- Steps of the proof, part H37. No condition. -/
import Derived.Test.YtnpihllannobgaaGreatDoorH35
import Derived.Test.YtnpihllannobgaaGreatDoorH31
import Derived.Deep.RegionHeld3
namespace Go.Proofs.YtnpihllannobgaaGreatDoor
set_option linter.unusedVariables false
set_option linter.unusedSimpArgs false
set_option maxRecDepth 100000
set_option maxHeartbeats 32000000
open Go.ChangeShapes Go.WideShapes Go.ChangeAt Go.RowKit
theorem planF_len(c:Cfg)(now:Int)(x:WM):∀k,(iter (vH c now) k x).air.length=x.air.length∧(iter (vH c now) k x).ev=x.ev∧(iter (vH c now) k x).bound=x.bound∧(iter (vH c now) k x).back=x.back:=by
 intro k
 induction k with
 |zero=>exact⟨rfl,rfl,rfl,rfl⟩
 |succ k ih=>
  obtain⟨h1,h2,h3,h4⟩:=ih
  exact⟨by show (List.set _ _ _).length=_;rw[List.length_set];exact h1,h2,h3,h4⟩
def slotA(d:Dr)(c:Cfg)(x:WM):WM:={qf d c.nodes x with air:=List.replicate c.nodes (0,[],0)}
def jM(c:Cfg)(d:Dr)(now:Int)(x:WM):WM:={jN c d c.nodes now x with back:=List.replicate c.nodes none}
def PWa(w0:World)(o0:Cls)(c:Cfg)(W:Nat)(x:WM)(asn:Int)(r:WR)(J:Inj)(v:Value)(en:Ending)(w':World):Prop:=
 ∃o' r',en= .returned v∧WAt w0 o0 c W x asn w' o' r'∧r'.lv=r.lv∧r'.bs=r.bs∧r'.ij=J
section
variable {w0 w w':World}{o0 o o':Cls}{c:Cfg}{W:Nat}{x x':WM}{asn:Int}{r r':WR}{d:Dr}{dr lo ac er da:Value}{S:Nat→Prop}
theorem Ao.fr{g n cap:Nat}{air:List Snd}(h:Ao w o (.slice (some ⟨g,0,none⟩) n cap) air)(k:Nat):w.frozen? ⟨g,k,none⟩=false:=by
 obtain⟨vs,h1,_⟩:=h
 rcases h1.2 with ⟨e,_⟩|⟨g2,c2,cur,e,_,hb2,_⟩
 ·cases e
 ·cases e;exact qK hb2 k
theorem planN_bs(c:Cfg)(i:Nat)(s:NSt)(now:Int):(zS c i s now).1.base=s.base∧(zS c i s now).1.sum=s.sum:=by
 unfold zS
 split
 ·exact⟨rfl,rfl⟩
 ·exact⟨rfl,rfl⟩
end
def lostE(i:Nat):Ev:=⟨3,i,0,0,⟨0,0,0,0,[],[]⟩⟩
def rebootW(c:Cfg)(i:Nat)(x:WM):WM:=
 if (x.nd i).synced then WM.tells c (x.put i (vF i (x.nd i))).bound (x.put i (vF i (x.nd i))) [lostE i] else x.put i (vF i (x.nd i))
section
variable {w0 w w':World}{o0 o o':Cls}{c:Cfg}{W:Nat}{x x':WM}{asn:Int}{r r':WR}{S:Nat→Prop}
def lostO(i:Nat):Obj:= .cells #[.int .i64 3,.int .i64 i,.int .i64 0,.int .i64 0,.int .i64 0,.int .i64 0,.int .i64 0,.int .i64 0,.slice none 0 0,.slice none 0 0] 44
theorem Eo.lost(hz:Z w o)(i:Nat):Eo (w.alloc (lostO i)) o 0 (.slice (some ⟨w.heap.size,0,none⟩) 1 1) [lostE i]:=by
 refine⟨[(lostE i,.slice none 0 0,.slice none 0 0)],?_,λk hk=>?_,λp hp=>?_,rfl⟩
 ·exact⟨rfl,.inr ⟨w.heap.size,1,_,rfl,Nat.zero_le _,qV w (lostO i),by simp,by decide,by simp,rfl⟩⟩
 ·cases hk;exact hz _ (Nat.le_refl _)
 ·simp at hp;subst hp;exact⟨RV.nil _ _ _,BO.nil _ _⟩
theorem wreboot_any(hc:CfgOk c)(h:WAt w0 o0 c W x asn w o r)(i:Nat)(hi:i<c.nodes)(hi0:i≠0)(hx: -1000000000000000≤(x.nd i).base∧(x.nd i).base≤1000000000000000)(hy: -1000000000000000≤(x.nd i).sum∧(x.nd i).sum≤1000000000000000)(hev:x.ev.length≤100000):
  Calls Tryz.prog 20 #[VP W,.int .i64 i] w (PWa w0 o0 c W (rebootW c i x) asn r r.ij (.int .i64 0)):=by
 have hn0:=hc.n0
 have hn1:=hc.n1
 have HH:=qQ (jj h (by omega) i)
 rw[zT (by omega) (by omega)] at HH
 obtain⟨b,q,hbs,hN⟩:=h.get i hi
 obtain⟨lg,lcap,hlv,hrc⟩:=h.rowval (by omega)
 have hbc:=hrc i b hbs
 have c9:w.cell? ⟨W,9,none⟩=some r.lv:=h.cell 9
 rw[hlv] at c9
 have i1:(i:Int)<(c.nodes:Int):=by omega
 have hne:¬(i:Int)=0:=by omega
 have HS:=qQ (nsynced_any hN)
 have HR:=qQ (nreboot_any hN hc hi hi0 hx hy)
 have H:=qQ (And.intro h (And.intro hbs (And.intro hlv hi)))
 have HC:=qQ hc
 have HEV:=qQ hev
 obtain⟨sy,hsy⟩:=qZ ((x.nd i).synced)
 rw[←hsy] at HS
 have HSY:=qQ hsy
 clear h hbs hN hlv hrc hc hev hsy
 unfold VP at *
 go_enter Tryz.func20,Tryz.ntmps20
 go_wp2_with fail
 with_reducible refine HH.out.mono ?_
 rintro en w1 ⟨rfl,rfl⟩
 go_wp2_with fail
 with_reducible refine HS.out.mono ?_
 rintro en w2 ⟨rfl,rfl⟩
 go_wp2_with fail
 with_reducible refine HR.out.mono ?_
 rintro en w3 ⟨rfl,o3,q3,hN3⟩
 have hA3:=H.out.1.node hn1 H.out.2.2.2 H.out.2.1 hN3
 obtain⟨X,hX⟩:=qZ (x.put i (vF i (x.nd i)))
 rw[←hX] at hA3
 have HX:=qQ hX
 have H3:=qQ hA3
 clear hN3 hX hA3
 cases sy with
 |false=>
  go_wp2_with fail
  go_ret
  refine⟨o3,r,rfl,?_,rfl,rfl,rfl⟩
  unfold rebootW
  rw[←HSY.out,←HX.out]
  exact H3.out
 |true=>
  have c11:w3.cell? ⟨W,11,none⟩=some r.bv:=H3.out.cell 11
  have c11b:=qL c11 (lostO i)
  have HT:=qQ (j8 HC.out (H3.out.kept hn1 (Chg.alloc (λ_=>False) w3 (lostO i))) (.slice (some ⟨w3.heap.size,0,none⟩) 1 1) [lostE i] 0 (Eo.lost H3.out.z i)
   ⟨λe=>qP 16 0 e.symm,λe=>qP 16 2 e.symm,λe=>qP 16 4 e.symm⟩ r.bv X.bound (.inr (λe he=>by simp at he;subst he;show (3:Int)≠7;decide))
   (λe he=>by simp at he;subst he;exact⟨λ_=>by unfold lostE;dsimp only;omega,λh=>by cases h⟩) (by simp) (by rw[HX.out];exact HEV.out))
  have ho:lostO i= .cells #[.int .i64 3,.int .i64 i,.int .i64 0,.int .i64 0,.int .i64 0,.int .i64 0,.int .i64 0,.int .i64 0,.slice none 0 0,.slice none 0 0] 44:=rfl
  rw[ho] at c11b HT
  unfold VP at HT
  clear ho
  go_wp2_with fail
  with_reducible refine HT.out.mono ?_
  rintro en w4 ⟨v,o4,r4,rfl,hA4,hs4,rfl⟩
  have H4:=qQ (And.intro hA4 hs4)
  clear hA4 hs4 HT c11 c11b
  go_wp2_with fail
  go_ret
  refine⟨o4,r4,rfl,?_,H4.out.2.1,H4.out.2.2.1,H4.out.2.2.2.2.2.2⟩
  unfold rebootW
  rw[←HSY.out,←HX.out]
  exact H4.out.1
end
def zh(x:WM):WM:={x with ev:=[]}
def PDo(w0:World)(o0:Cls)(c:Cfg)(W:Nat)(x:WM)(asn:Int)(r:WR)(J:Inj)(en:Ending)(w':World):Prop:=
 ∃v o' r',en= .returned (.tuple #[v,.int .i64 0])∧WAt w0 o0 c W (zh x) asn w' o' r'∧Eo w' o' (cl 16 4) v x.ev∧r'.lv=r.lv∧r'.bs=r.bs∧r'.ij=J
section
variable {w0 w w':World}{o0 o o':Cls}{c:Cfg}{W:Nat}{x x':WM}{asn:Int}{r r':WR}{d:Dr}{dr lo ac er da:Value}{S:Nat→Prop}
theorem WAt.evset(h:WAt w0 o0 c W x asn w o r)(hc:c.nodes≤16):WAt w0 o0 c W (zh x) asn (w.setCell ⟨W,13,none⟩ (.slice none 0 0)) o {r with ev:= .slice none 0 0}∧Eo (w.setCell ⟨W,13,none⟩ (.slice none 0 0)) o (cl 16 4) r.ev x.ev:=by
 have hd:=h.wd
 have G:=chg1 w W 13 (.slice none 0 0)
 obtain⟨n0,nj,nm⟩:=part_no (S:=λk=>k=W) (o:=o) (m:=0) (by omega) (λk hk=>by rw[hk];exact hd.ob)
 exact⟨h.next ⟨qB hd.blk 13 _,hd.ob,hd.near.step (Ext.refl _ _) G n0,hd.hops.step (Ext.refl _ _) G n0,qY hd.row G (λk hk=>nj 1 (by omega) (by omega) k (hd.rowo k hk)),hd.rowo,
  qY hd.bnd G (λk hk=>nj 2 (by omega) (by omega) k (hd.bndo k hk)),hd.bndo,hd.inj.step (Ext.refl _ _) G (nj 3 (by omega) (by omega) _ hd.injo) n0,hd.injo,Eo.nil _ _ _,hd.nl,hd.nds (Ext.refl _ _) G n0 nm hc⟩
  (h.z.more G.size) (Ext.refl _ _) (G.mono (λk _ hk=>by unfold WdS;rw[hk,hd.ob];exact⟨qP 16 0,by unfold cl;omega⟩)),
  hd.ev.step (Ext.refl _ _) G (λk hk=>hk.elim (n0 k) (nj 4 (by omega) (by omega) k))⟩
theorem WAt.evrow(h:WAt w0 o0 c W x asn w o r):∃A n cap,r.ev= .slice A n cap:=by
 obtain⟨ps,e1,_⟩:=h.wd.ev
 rcases qD e1 with ⟨e,_,_⟩|⟨g,cap,e,_⟩
 ·exact⟨none,0,0,e⟩
 ·exact⟨_,_,_,e⟩
end
theorem ElN:ElS 57 36 1 8:=ElS.of (z:= .pointer none) (by kernel_rfl) (by kernel_rfl) (by decide+kernel) (by decide)
theorem ElI8:ElS 58 2 1 8:=ElS.of (z:= .int .i64 0) (by kernel_rfl) (by kernel_rfl) (by decide+kernel) (by decide)
structure Wb(w0:World)(o0:Cls)(c:Cfg)(W cb:Nat)(r:WR)(k m:Nat)(w:World)(o:Cls):Prop where
 blk:w.heap[W]? =some (.cells (cellsW c r 0) 61 (0,0))
 ob:o W=cl 16 0
 wl:w0.heap.size≤W
 box:w.heap[cb]? =some (.cells #[.int .i64 c.nodes,r.nv,r.hv,.int .i64 c.guard,.int .i64 c.err,.int .i64 c.keep,.int .i64 c.loss,.int .i64 c.queue,.int .i64 c.life] 26 (0,0))
 oc:o cb=0
 near:RV VU w o r.nv c.near
 hops:RV VI w o r.hv c.hops
 row:w.ownsRow 0 36 1 r.lv k (r.bs.map VP)
 rowo:∀j,r.lv.ownBlock=some j→o j=cl 16 1∧w0.heap.size≤j
 bnd:w.ownsRow 0 2 1 r.bv m ((List.replicate m (-1:Int)).map VI)
 bndo:∀j,r.bv.ownBlock=some j→o j=cl 16 2∧w0.heap.size≤j
 inj:Mp w r.inj (λ_=>none)
 injo:o r.inj=cl 16 3
 nij:r.ij=qh
 ev:r.ev= .slice none 0 0
 nd:∀i,i<k→∃b q,r.bs[i]? =some b∧Nd w o c i b q (newN i)
 z:Z w o
 ext:Ext w0 o0 o
 chg:Chg (λ_=>False) w0 w
section
variable {w0 w w':World}{o0 o o':Cls}{c:Cfg}{W cb k m:Nat}{r r':WR}{S:Nat→Prop}
theorem Wb.bl(h:Wb w0 o0 c W cb r k m w o):r.bs.length=k:=by
 have:=h.row.1
 simpa using this
theorem Wb.same(h:Wb w0 o0 c W cb r k m w o)(e:Ext w o o')(z:Z w' o')(g:Chg (λ_=>False) w w'):Wb w0 o0 c W cb r k m w' o':=
 ⟨Chg.keep g h.blk (λe=>e),by rw[e W (qX h.blk)];exact h.ob,h.wl,Chg.keep g h.box (λe=>e),by rw[e cb (qX h.box)];exact h.oc,h.near.step e g (λ_ _ e=>e),h.hops.step e g (λ_ _ e=>e),
  qY h.row g (λ_ _ e=>e),λj hj=>by rw[e j (qg h.row hj).2];exact h.rowo j hj,qY h.bnd g (λ_ _ e=>e),λj hj=>by rw[e j (qg h.bnd hj).2];exact h.bndo j hj,
  h.inj.keep g (λe=>e),by rw[e _ h.inj.lt];exact h.injo,h.nij,h.ev,λi hi=>by
   obtain⟨b,q,h1,h2⟩:=h.nd i hi
   exact⟨b,q,h1,h2.step e g (λ_ _ e=>e) (λ_ _ e=>e)⟩,z,h.ext.trans e h.chg.size,h.chg.trans g⟩
theorem Wb.kept(h:Wb w0 o0 c W cb r k m w o)(g:Chg (λ_=>False) w w'):Wb w0 o0 c W cb r k m w' o:=h.same (Ext.refl _ _) (h.z.more g.size) g
theorem Wb.lval(h:Wb w0 o0 c W cb r k m w o):∃A cap,r.lv= .slice A k cap:=by
 rcases qD h.row with ⟨e,h1,_⟩|⟨g,cap,e,_⟩
 ·exact⟨none,0,by rw[e,h1]⟩
 ·exact⟨_,_,e⟩
theorem Wb.bval(h:Wb w0 o0 c W cb r k m w o):∃A cap,r.bv= .slice A m cap:=by
 rcases qD h.bnd with ⟨e,h1,_⟩|⟨g,cap,e,_⟩
 ·exact⟨none,0,by rw[e,h1]⟩
 ·exact⟨_,_,e⟩
theorem Wb.cell(h:Wb w0 o0 c W cb r k m w o)(j:Nat):w.cell? ⟨W,j,none⟩=(cellsW c r 0)[j]? :=by rw[qJ h.blk]
theorem Wb.rowW(h:Wb w0 o0 c W cb r k m w o):¬r.lv.ownBlock=some W:=λe=>by
 have h1:=(h.rowo W e).1
 rw[h.ob] at h1
 have:=(qy h1 (by omega) (by omega)).2
 omega
theorem Wb.bndW(h:Wb w0 o0 c W cb r k m w o):¬r.bv.ownBlock=some W:=λe=>by
 have h1:=(h.bndo W e).1
 rw[h.ob] at h1
 have:=(qy h1 (by omega) (by omega)).2
 omega
theorem two_no{t:Nat}(ht:t≤15)(hS:∀j,S j→o j=cl 16 t∨o j=cl 16 0):(∀j,o j=0→¬S j)∧(∀q,q≠t→q≠0→q≤15→∀j,o j=cl 16 q→¬S j)∧(∀i,i<16→∀j,NdS o i j→¬S j):=
 ⟨λj hj hs=>by
  rcases hS j hs with h|h
  ·rw[hj] at h;exact qP 16 t h.symm
  ·rw[hj] at h;exact qP 16 0 h.symm,
  λq h1 h2 h15 j hj hs=>by
  rcases hS j hs with h|h
  ·exact h1 (qy (hj.symm.trans h) (by omega) (by omega)).2
  ·exact h2 (qy (hj.symm.trans h) (by omega) (by omega)).2,
  λi hi j hj hs=>by
  obtain⟨q,hq,hj⟩:=hj
  rcases hS j hs with h|h
  ·have:=(qy (hj.symm.trans h) (by omega) (by omega)).1;omega
  ·have:=(qy (hj.symm.trans h) (by omega) (by omega)).1;omega⟩
theorem chg_past(h:Chg (λ_=>False) w0 w)(g:Chg S w w')(hS:∀j,S j→w0.heap.size≤j):Chg (λ_=>False) w0 w':=
 ⟨g.os.trans h.os,g.tape.trans h.tape,g.output.trans h.output,Nat.le_trans h.size g.size,λq hi _=>(g.block q (Nat.lt_of_lt_of_le hi h.size) (λhs=>by have:=hS q hs;omega)).trans (h.block q hi (λe=>e))⟩
theorem Wb.node(h:Wb w0 o0 c W cb r k m w o)(hc:c.nodes≤16)(hk:k<c.nodes){nb:Nat}{q:NR}(hN:Nd w o c k nb q (newN k)){v:Value}{w5:World}
  (G:Chg (λj=>r.lv.ownBlock=some j) w w5) (hrow:w5.ownsRow 0 36 1 v (k+1) (r.bs.map VP++[VP nb])) (hat:v.ownBlock=r.lv.ownBlock∨v.ownBlock=some w.heap.size):
  ∃o',Wb w0 o0 c W cb {r with lv:=v,bs:=r.bs++[nb]} (k+1) m (w5.setCell ⟨W,9,none⟩ v) o':=by
 have gs:=chg1 w5 W 9 v
 have G2:Chg (λj=>r.lv.ownBlock=some j∨j=W) w (w5.setCell ⟨W,9,none⟩ v):=(G.mono (λk _ hk=>(.inl hk:r.lv.ownBlock=some k∨k=W))).trans (gs.mono (λk _ hk=> .inr hk))
 obtain⟨n0,nj,nm⟩:=two_no (S:=λj=>r.lv.ownBlock=some j∨j=W) (o:=o) (t:=1) (by omega) (λj hj=>by
  rcases hj with hj|hj
  ·exact .inl (h.rowo j hj).1
  ·exact .inr (by rw[hj];exact h.ob))
 have hbk:(w5.setCell ⟨W,9,none⟩ v).heap[W]? =some (.cells (cellsW c {r with lv:=v,bs:=r.bs++[nb]} 0) 61 (0,0)):=qB (Chg.keep G h.blk h.rowW) 9 _
 have hvW:¬v.ownBlock=some W:=λe=>by
  rcases hat with e2|e2
  ·rw[e2] at e;exact h.rowW e
  ·rw[e2] at e;cases e;have:=qX h.blk;omega
 have hbl:=h.bl
 have key:∀o',Ext w o o'→Z w5 o'→(∀j,v.ownBlock=some j→o' j=cl 16 1)→∃o',Wb w0 o0 c W cb {r with lv:=v,bs:=r.bs++[nb]} (k+1) m (w5.setCell ⟨W,9,none⟩ v) o':=by
  intro o' hE hZ hv
  refine⟨o',hbk,by rw[hE W (qX h.blk)];exact h.ob,h.wl,Chg.keep G2 h.box (n0 cb h.oc),by rw[hE cb (qX h.box)];exact h.oc,h.near.step hE G2 n0,h.hops.step hE G2 n0,
   ?_,λj hj=>⟨hv j hj,?_⟩,qY h.bnd G2 (λj hj=>nj 2 (by omega) (by omega) (by omega) j (h.bndo j hj).1),λj hj=>by rw[hE j (qg h.bnd hj).2];exact h.bndo j hj,
   h.inj.keep G2 (nj 3 (by omega) (by omega) (by omega) _ h.injo),by rw[hE _ h.inj.lt];exact h.injo,h.nij,h.ev,λi hi=>?_,hZ.more gs.size,h.ext.trans hE h.chg.size,?_⟩
  ·have:=qY hrow gs (λj hj e=>hvW (e▸hj))
   simpa using this
  ·rcases hat with e|e
   ·rw[e] at hj;exact (h.rowo j hj).2
   ·rw[e] at hj;cases hj;exact h.chg.size
  ·by_cases hik:i<k
   ·obtain⟨b,q,h1,h2⟩:=h.nd i hik
    exact⟨b,q,by rw[List.getElem?_append_left (by omega)];exact h1,h2.step hE G2 n0 (nm i (by omega))⟩
   ·obtain rfl:i=k:=by omega
    exact⟨nb,q,by rw[List.getElem?_append_right (by omega),hbl];simp,hN.step hE G2 n0 (nm i (by omega))⟩
  ·exact chg_past h.chg G2 (λj hj=>by
    rcases hj with hj|hj
    ·exact (h.rowo j hj).2
    ·rw[hj];exact h.wl)
 rcases hat with e|e
 ·exact key o (Ext.refl _ _) (h.z.more G.size) (λj hj=>(h.rowo j (e▸hj)).1)
 ·refine key (cls o w.heap.size (cl 16 1)) (Ext.cls o _ _ (Nat.le_refl _)) ((h.z.more G.size).cls _ ?_) (λj hj=>by rw[e] at hj;cases hj;exact jX _ _ _)
  exact (qg hrow e).2
theorem Wb.bound(h:Wb w0 o0 c W cb r k m w o)(hc:c.nodes≤16)(hk:k≤c.nodes){v:Value}{w5:World}
  (G:Chg (λj=>r.bv.ownBlock=some j) w w5) (hrow:w5.ownsRow 0 2 1 v (m+1) ((List.replicate m (-1:Int)).map VI++[.int .i64 (-1)])) (hat:v.ownBlock=r.bv.ownBlock∨v.ownBlock=some w.heap.size):
  ∃o',Wb w0 o0 c W cb {r with bv:=v} k (m+1) (w5.setCell ⟨W,11,none⟩ v) o':=by
 have gs:=chg1 w5 W 11 v
 have G2:Chg (λj=>r.bv.ownBlock=some j∨j=W) w (w5.setCell ⟨W,11,none⟩ v):=(G.mono (λk _ hk=>(.inl hk:r.bv.ownBlock=some k∨k=W))).trans (gs.mono (λk _ hk=> .inr hk))
 obtain⟨n0,nj,nm⟩:=two_no (S:=λj=>r.bv.ownBlock=some j∨j=W) (o:=o) (t:=2) (by omega) (λj hj=>by
  rcases hj with hj|hj
  ·exact .inl (h.bndo j hj).1
  ·exact .inr (by rw[hj];exact h.ob))
 have hbk:(w5.setCell ⟨W,11,none⟩ v).heap[W]? =some (.cells (cellsW c {r with bv:=v} 0) 61 (0,0)):=qB (Chg.keep G h.blk h.bndW) 11 _
 have hvW:¬v.ownBlock=some W:=λe=>by
  rcases hat with e2|e2
  ·rw[e2] at e;exact h.bndW e
  ·rw[e2] at e;cases e;have:=qX h.blk;omega
 have key:∀o',Ext w o o'→Z w5 o'→(∀j,v.ownBlock=some j→o' j=cl 16 2)→∃o',Wb w0 o0 c W cb {r with bv:=v} k (m+1) (w5.setCell ⟨W,11,none⟩ v) o':=by
  intro o' hE hZ hv
  refine⟨o',hbk,by rw[hE W (qX h.blk)];exact h.ob,h.wl,Chg.keep G2 h.box (n0 cb h.oc),by rw[hE cb (qX h.box)];exact h.oc,h.near.step hE G2 n0,h.hops.step hE G2 n0,
   qY h.row G2 (λj hj=>nj 1 (by omega) (by omega) (by omega) j (h.rowo j hj).1),λj hj=>by rw[hE j (qg h.row hj).2];exact h.rowo j hj,?_,λj hj=>⟨hv j hj,?_⟩,
   h.inj.keep G2 (nj 3 (by omega) (by omega) (by omega) _ h.injo),by rw[hE _ h.inj.lt];exact h.injo,h.nij,h.ev,λi hi=>?_,hZ.more gs.size,h.ext.trans hE h.chg.size,?_⟩
  ·have:=qY hrow gs (λj hj e=>hvW (e▸hj))
   rw[List.replicate_succ',List.map_append]
   exact this
  ·rcases hat with e|e
   ·rw[e] at hj;exact (h.bndo j hj).2
   ·rw[e] at hj;cases hj;exact h.chg.size
  ·obtain⟨b,q,h1,h2⟩:=h.nd i hi
   exact⟨b,q,h1,h2.step hE G2 n0 (nm i (by omega))⟩
  ·exact chg_past h.chg G2 (λj hj=>by
    rcases hj with hj|hj
    ·exact (h.bndo j hj).2
    ·rw[hj];exact h.wl)
 rcases hat with e|e
 ·exact key o (Ext.refl _ _) (h.z.more G.size) (λj hj=>(h.bndo j (e▸hj)).1)
 ·refine key (cls o w.heap.size (cl 16 2)) (Ext.cls o _ _ (Nat.le_refl _)) ((h.z.more G.size).cls _ ?_) (λj hj=>by rw[e] at hj;cases hj;exact jX _ _ _)
  exact (qg hrow e).2
def newW(c:Cfg):WM:=⟨(List.range c.nodes).map newN,(List.replicate c.nodes (-1)).set 0 0,[],[],[]⟩
theorem newW_nd(c:Cfg)(i:Nat)(hi:i<c.nodes):(newW c).nd i=newN i:=by
 unfold newW WM.nd
 simp[List.getD_eq_getElem?_getD,List.getElem?_map,List.getElem?_range hi]
theorem Wb.done(h:Wb w0 o0 c W cb r c.nodes c.nodes w o)(hc:CfgOk c){g cap:Nat}(hg:r.bv= .slice (some ⟨g,0,none⟩) c.nodes cap):
  Wd (w.setCell ⟨g,0,none⟩ (.int .i64 0)) o c W r (newW c) 0∧Z (w.setCell ⟨g,0,none⟩ (.int .i64 0)) o∧Ext w0 o0 o∧Chg (λ_=>False) w0 (w.setCell ⟨g,0,none⟩ (.int .i64 0))∧r.ij=qh:=by
 have hn0:=hc.n0
 have hn1:=hc.n1
 have G:=chg1 w g 0 (.int .i64 0)
 have hog:=h.bndo g (by rw[hg];rfl)
 obtain⟨n0,nj,nm⟩:=two_no (S:=λj=>j=g) (o:=o) (t:=2) (by omega) (λj hj=> .inl (by rw[hj];exact hog.1))
 have hgW:¬W=g:=λe=>by have h1:=hog.1;rw[←e,h.ob] at h1;have:=(qy h1 (by omega) (by omega)).2;omega
 have hb:=h.bnd
 rw[hg] at hb
 have hb2:=vq hb 0 (.int .i64 0) (by omega)
 refine⟨⟨Chg.keep G h.blk hgW,h.ob,h.near.step (Ext.refl _ _) G n0,h.hops.step (Ext.refl _ _) G n0,qY h.row G (λj hj=>nj 1 (by omega) (by omega) (by omega) j (h.rowo j hj).1),λj hj=>(h.rowo j hj).1,
  ?_,λj hj=>(h.bndo j hj).1,(h.nij▸Ij.nil (h.inj.keep G (nj 3 (by omega) (by omega) (by omega) _ h.injo))),h.injo,?_,by unfold newW;simp,λi hi=>?_⟩,h.z.more G.size,h.ext,chg_past h.chg G (λj hj=>by rw[hj];exact hog.2),h.nij⟩
 ·rw[hg]
  have e:List.map VI (newW c).bound=(List.map VI (List.replicate c.nodes (-1))).set 0 (.int .i64 0):=by unfold newW;rw[List.map_set];rfl
  rw[e];exact hb2
 ·rw[h.ev];exact Eo.nil _ _ _
 ·obtain⟨b,q,h1,h2⟩:=h.nd i hi
  rw[newW_nd c i hi]
  exact⟨b,q,h1,h2.step (Ext.refl _ _) G n0 (nm i (by omega))⟩
end
end Go.Proofs.YtnpihllannobgaaGreatDoor
