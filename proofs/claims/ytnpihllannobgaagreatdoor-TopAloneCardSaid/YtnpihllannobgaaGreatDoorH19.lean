/- Steps of the proof, part H19. No condition. -/
import Derived.Test.YtnpihllannobgaaGreatDoorH18
import Derived.Test.YtnpihllannobgaaGreatDoorH15
import Derived.Deep.DeepAppendRoom
import Derived.StillTailTactics
import Derived.Deep.AppendLies
namespace Go.Proofs.YtnpihllannobgaaGreatDoor
set_option linter.unusedVariables false
set_option linter.unusedSimpArgs false
set_option maxRecDepth 100000
set_option maxHeartbeats 32000000
open Go.ChangeShapes Go.WideShapes Go.ChangeAt Go.RowKit
section
variable {w0 w w':World}{o0 o o':Cls}{c:Cfg}{i b:Nat}{s s':NSt}{r r':NR}
theorem nend_off(h:NAt w0 o0 c i b s w o r)(now:Int)(h0:0≤now)(h1:now<1099511627776)(hs:i=0∨s.synced=false):
  Calls Tryz.prog 38 #[.pointer (some ⟨b,0,none⟩),.int .i64 now] w (PV0 (.slice none 0 0) w):=by
 have HA:=qQ (λw=>jB now h0 h1 w)
 have c18:w.cell? ⟨b,18,none⟩=some (.bool s.synced):=h.cell 18
 have c9:w.cell? ⟨b,9,none⟩=some (.int .i64 i):=h.cell 9
 clear h
 by_cases hi:i=0
 ·subst hi
  clear hs
  go_enter Tryz.func38,Tryz.ntmps38
  go_wp2_with fail
  (with_reducible refine (HA.out _).mono ?_)
  rintro en w1 ⟨rfl,rfl⟩
  go_wp2_with fail
  go_ret
  exact⟨rfl,rfl⟩
 ·have hsy:s.synced=false:=by
   rcases hs with h|h
   ·exact absurd h hi
   ·exact h
  rw[hsy] at c18
  have i0:((i:Int)==0)=false:=by simp;omega
  clear hs hi
  go_enter Tryz.func38,Tryz.ntmps38
  go_wp2_with fail
  (with_reducible refine (HA.out _).mono ?_)
  rintro en w1 ⟨rfl,rfl⟩
  go_wp2_with fail
  go_ret
  exact⟨rfl,rfl⟩
def keptL(L:List Pa)(now loss:Int):List Pa:=L.filter (λp=>!(decide (p.heard≤now-loss)))
def vf(x:Int):Int:=min (x+1) 1000000
def endN(i:Nat)(s:NSt)(R:Int)(L:List Pa)(x:Int)(now loss:Int):NSt:=zQ i (pN (kN s (some (vf x))) (some (R,keptL L now loss))) (qR s)
theorem nend_keep(hc:CfgOk c)(h:NAt w0 o0 c i b s w o r)(now:Int)(h0:0≤now)(h1:now<1099511627776)(hi:i≠0)(hsy:s.synced=true)(R:Int)(L:List Pa)(x:Int)(hp:s.p=some (R,L))(hk:s.k=some x)(hev:s.ev.length≤900)
  (hne:qR (pN (kN s (some (vf x))) (some (R,keptL L now c.loss)))≠64):
  Calls Tryz.prog 38 #[.pointer (some ⟨b,0,none⟩),.int .i64 now] w (PN w0 o0 c i b (noEv (endN i s R L x now c.loss)) (λv w' o'=>Eo w' o' (cl i 9) v (endN i s R L x now c.loss).ev)):=by
 have HA:=qQ (λw=>jB now h0 h1 w)
 have c18:w.cell? ⟨b,18,none⟩=some (.bool true):=by rw[←hsy];exact h.cell 18
 have c9:w.cell? ⟨b,9,none⟩=some (.int .i64 i):=h.cell 9
 have c20:w.cell? ⟨b,20,none⟩=some r.kv:=h.cell 20
 have hko:=h.nd.np.2.2.2.2.2.2.2.2.1
 rw[hk] at hko
 obtain⟨kb,hk1,hk2,hk3,hk4⟩:=hko
 rw[hk1] at c20
 have HK:=qQ (kpslot_any w kb c.keep x (vf x) hk2 (by omega) (by omega) rfl)
 have HK2:=qQ (λw' k g=>h.kset (w':=w') (x:=vf x) hk1 hk3 k (by unfold vf;omega) g)
 have i0:((i:Int)==0)=false:=by simp;omega
 clear h hk hk1 hk2 hk3 hk4 hsy
 go_enter Tryz.func38,Tryz.ntmps38
 go_wp2_with fail
 (with_reducible refine (HA.out _).mono ?_)
 rintro en w1 ⟨rfl,rfl⟩
 go_wp2_with fail
 with_reducible refine HK.out.mono ?_
 rintro en w2 ⟨rfl,k1,k2⟩
 have H2:=qQ (HK2.out _ k1 k2)
 clear k1 k2 HK HK2
 have HF:=qQ (qt H2.out)
 go_wp2_with fail
 with_reducible refine HF.out.mono ?_
 rintro en w3 ⟨rfl,g3⟩
 have H3:=qQ (H2.out.kept g3)
 have hpo:=H3.out.nd.np.2.2.2.2.2.2.2.1
 obtain⟨pb,row,e1,hP,hq1,hq2,hR0,hR1,hL,hS⟩:=(show Po w3 o (cl i 6) r.pv i (some (R,L)) from hp▸hpo)
 have c19:w3.cell? ⟨b,19,none⟩=some (.pointer (some ⟨pb,0,none⟩)):=e1▸H3.out.cell 19
 have c6:w3.cell? ⟨b,6,none⟩=some (.int .i64 c.loss):=H3.out.cell 6
 have HO:=qQ (λW (g:Chg (λ_=>False) w3 W)=>psold_any W pb row i R L now c.loss (hP.kept g) hL h0 (by omega) (by have:=hc.l;omega) hc.l.2)
 have HPS:=qQ (λW (g:Chg (λ_=>False) w3 W) w' v' g2 P hn=>(H3.out.kept g).pset (w':=w') (v':=v') (R':=R) (L':=keptL L now c.loss) e1 hq1 hq2 g2 P hn ⟨hR0,hR1⟩ (Nat.le_trans (List.length_filter_le _ _) hL) (hS.filter _))
 clear g3 HF H2 hpo hP hq1 hq2 hR0 hR1 hL hS e1
 go_wp2_with fail
 go_still_tail 10,(by kernel_rfl)
 change wpList _ _ _ _ _ w3.drew
 go_wp2_with fail
 (with_reducible refine (HO.out _ (Chg.drew _ w3)).mono ?_)
 rintro en w4 ⟨vo,v',rfl,hP4,g4,hv4⟩
 obtain⟨o4,h4⟩:=HPS.out _ (Chg.drew _ w3) w4 v' g4 hP4 (λk hk=> .inl (by rw[←hv4];exact hk))
 have H4:=qQ h4
 have HF:=qQ (qt h4)
 clear hP4 g4 hv4 h4 HPS HO c19 c6
 obtain⟨t,ht⟩:=qZ (qR (pN (kN s (some (vf x))) (some (R,keptL L now c.loss))))
 rw[←ht] at HF hne
 have t64:(t != 64)=true:=by simpa using hne
 obtain⟨was,hw⟩:∃f,f=qR (kN s (some (vf x))):=⟨_,rfl⟩
 rw[←hw]
 have HW:=qQ (show was=qR s from hw)
 clear ht hw hne
 go_wp2_with fail
 with_reducible refine HF.out.mono ?_
 rintro en w5 ⟨rfl,g5⟩
 have HFO:=qQ (vt (H4.out.kept g5) was (show s.ev.length≤1000 by omega))
 clear g5 HF
 go_wp2_with fail
 with_reducible refine HFO.out.mono ?_
 rintro en w6 ⟨v6,o6,r6,rfl,h6,rfl⟩
 have HTL:=qQ (zH h6)
 clear h6 HFO
 go_wp2_with fail
 with_reducible refine HTL.out.mono ?_
 rintro en w7 ⟨v7,o7,r7,rfl,h7,hE7⟩
 have H7:=qQ (And.intro h7 hE7)
 clear h7 hE7 HTL
 go_wp2_with fail
 go_ret
 have hfin:=H7.out
 rw[HW.out] at hfin
 exact⟨_,o7,r7,rfl,hfin.1,hfin.2⟩
end
/- what a node sends -/
def dueN(c:Cfg)(s:NSt):Bool:=match s.k with|none=>false|some x=>decide (c.keep≤x)
def vJ(c:Cfg)(i:Nat)(s:NSt)(now:Int):Fr:=
 if (pktN s).2.2 then ⟨1,i,(pktN s).2.1,s.seq,[syncE i s now],(pktN s).1⟩
 else if qR s≠64∧dueN c s=true then ⟨4,i,qR s,s.seq,[syncE i s now],[]⟩
 else ⟨3,i,64,s.seq,[syncE i s now,⟨3,0,0,0,c.hops⟩],[]⟩
def sendN(s:NSt)(f:Fr)(now:Int):NSt:=
 {s with seq:=(s.seq+1) % 256,sasn:=now,skind:=f.kind,ssrc:=f.src,sdst:=f.dst,sseq:=f.seq,sopen:=f.kind != 3}
def encO(f:Fr):List Int:=if mayF f then encF f else []
def chanN(c:Cfg)(s:NSt)(now:Int):Int:=chanOf c.hops (if s.synced then now else s.slots / ((c.nodes:Int)*(c.hops.length:Int)))
def zS(c:Cfg)(i:Nat)(s:NSt)(now:Int):NSt×Int×List Int:=
 if s.synced&&decide (now % (c.nodes:Int)=(i:Int)) then (sendN s (vJ c i s now) now,chanN c s now,encO (vJ c i s now)) else (s,chanN c s now,[])
/- what goes back -/
def ackFr(i:Nat)(s:NSt)(f:Fr)(now ms:Int):Fr:=⟨2,i,f.src,f.seq,[syncE i s now,⟨2,0,0,-ms,[]⟩],[]⟩
def kQ(i:Nat)(f:Fr)(now ms:Int)(s:NSt):Option (List Int):=
 if f.dst=(i:Int)∧(f.kind=1∨f.kind=4) then (if mayF (ackFr i s f now ms) then some (encF (ackFr i s f now ms)) else none) else none
/- answers -/
def zL(i:Nat)(s:NSt)(x:Int×Fr)(now:Int):Bool:=
 x.1==0&&(zZ x.2 now).2&&x.2.kind==2&&x.2.src==s.sdst&&x.2.dst==(i:Int)&&x.2.seq==s.sseq
def ticksF(f:Fr):Int:=match zM f.ies 2 with|none=>0|some e=>e.ticks
def ackN(i:Nat)(s:NSt)(L:List Int)(now:Int):NSt:=
 if s.synced&&s.sopen&&decide (s.sasn=now) then
  if zL i s (decF L) now then
   (if i≠0∧qR s=s.sdst then qx i (opnN s false) s.sdst (zZ (decF L).2 now).1 now (ticksF (decF L).2) else opnN s false)
  else opnN s false
 else s
/- the end of a slot -/
def endS(c:Cfg)(i:Nat)(s:NSt)(now:Int):NSt:=
 if i=0∨s.synced=false then s else match s.p,s.k with|some (R,L),some x=>endN i s R L x now c.loss|_,_=>s
/- the world -/
def s00:NSt:=⟨0,0,0,[],λ_=>none,λ_=>none,λ_=>none,0,0,0,false,none,none,0,λ_=>none,0,0,0,0,0,false,[]⟩
structure Dr where
 drift:List Int
 lost:List Int
 acks:List Int
 err:List Int
abbrev Snd:=Int×List Int×Int
structure WM where
 nodes:List NSt
 bound:List Int
 ev:List Ev
 air:List Snd
 back:List (Option (List Int))
def iter{α:Type}(f:Nat→α→α):Nat→α→α
 |0,x=>x
 |k+1,x=>f k (iter f k x)
def atL(l:List Int)(i:Nat):Int:=l.getD i 0
def WM.nd(x:WM)(i:Nat):NSt:=x.nodes.getD i s00
def WM.put(x:WM)(i:Nat)(s:NSt):WM:={x with nodes:=x.nodes.set i s}
def WM.snd(x:WM)(i:Nat):Snd:=x.air.getD i (0,[],0)
def ageB(i:Nat)(b:Int):Int:=if 0<i∧0≤b then min (b+1) 1000000000000 else b
def zC(d:Dr)(i:Nat)(x:WM):WM:={x with nodes:=x.nodes.set i (slotN i (atL d.drift i) (x.nd i)),bound:=x.bound.set i (ageB i (atL x.bound i))}
def vH(c:Cfg)(now:Int)(i:Nat)(x:WM):WM:=
 {x with nodes:=x.nodes.set i (zS c i (x.nd i) now).1,air:=x.air.set i ((zS c i (x.nd i) now).2.1,(zS c i (x.nd i) now).2.2,offN (zS c i (x.nd i) now).1)}
def tellF(err:Int)(known:List Int)(b:List Int)(e:Ev):List Int:=
 if e.kind=7 then b.set e.i.toNat (if 0≤atL known e.src.toNat then atL known e.src.toNat+err else-1) else if e.kind=3 then b.set e.i.toNat (-1) else b
def WM.tells(c:Cfg)(known:List Int)(x:WM)(l:List Ev):WM:={x with bound:=l.foldl (tellF c.err known) x.bound,ev:=x.ev++l}
def bitW(near lost:Int)(j:Nat):Bool:=decide (near / 2^j % 2=1)&&decide (lost / 2^j % 2=0)
def jb(c:Cfg)(d:Dr)(x:WM)(i j:Nat):Bool:=
 bitW (atL c.near i) (atL d.lost i) j&&(!(x.snd j).2.1.isEmpty&&(x.snd j).1==(x.snd i).1)&&(!(x.nd i).synced||jQ (x.snd i).2.2 (x.snd j).2.2 c.guard)
def heardW(c:Cfg)(d:Dr)(x:WM)(i:Nat):List Nat:=(List.range c.nodes).filter (jb c d x i)
def msW(c:Cfg)(d:Dr)(x:WM)(i j:Nat):Int:=meas (x.snd i).2.2 (x.snd j).2.2 (atL d.err i) c.err
def jK(c:Cfg)(d:Dr)(x:WM)(i:Nat):Option (List Int):=
 let X:=decF (x.snd i).2.1
 if X.1==0&&inR X.2.dst 0 ((c.nodes:Int)-1)&&bitW (atL c.near i) (atL d.acks i) X.2.dst.toNat then x.back.getD X.2.dst.toNat none else none
def qf(d:Dr)(n:Nat)(x:WM):WM:=iter (zC d) n x
def jN(c:Cfg)(d:Dr)(n:Nat)(now:Int)(x:WM):WM:=iter (vH c now) n {qf d n x with air:=List.replicate n (0,[],0)}
def VP(b:Nat):Value:= .pointer (some ⟨b,0,none⟩)
abbrev Inj:=Nat→Option (List Int)
def qh:Inj:=λ_=>none
structure WR where
 nv:Value
 hv:Value
 lv:Value
 bv:Value
 inj:Nat
 ev:Value
 bs:List Nat
 ij:Inj
def IjV(w:World)(own:Cls)(v:Value):Option (List Int)→Prop
 |none=>v= .slice none 0 0
 |some L=>BO w own v L∧∃x n c,v= .slice (some x) n c
def Ij(w:World)(own:Cls)(b:Nat)(ij:Inj):Prop:=∃f,Mp w b f∧∀i:Nat,IjV w own ((f i).getD (.slice none 0 0)) (ij i)
theorem IjV.step{w w':World}{o o':Cls}{S:Nat→Prop}{v:Value}{a:Option (List Int)}(h:IjV w o v a)(e:Ext w o o')(g:Chg S w w')(n0:∀k,o k=0→¬S k):IjV w' o' v a:=by
 cases a with
 |none=>exact h
 |some L=>exact⟨h.1.step e g n0,h.2⟩
theorem Ij.step{w w':World}{o o':Cls}{S:Nat→Prop}{b:Nat}{ij:Inj}(h:Ij w o b ij)(e:Ext w o o')(g:Chg S w w')(hs:¬S b)(n0:∀k,o k=0→¬S k):Ij w' o' b ij:=by
 obtain⟨f,h1,h2⟩:=h
 exact⟨f,h1.keep g hs,λi=>(h2 i).step e g n0⟩
theorem Ij.lt{w:World}{o:Cls}{b:Nat}{ij:Inj}(h:Ij w o b ij):b<w.heap.size:=by
 obtain⟨f,h1,_⟩:=h;exact h1.lt
theorem Ij.nil{w:World}{o:Cls}{b:Nat}(h:Mp w b (λ_=>none)):Ij w o b qh:=⟨_,h,λi=>rfl⟩
def cellsW(c:Cfg)(r:WR)(asn:Int):Array Value:=
 #[.int .i64 c.nodes,r.nv,r.hv,.int .i64 c.guard,.int .i64 c.err,.int .i64 c.keep,.int .i64 c.loss,.int .i64 c.queue,.int .i64 c.life,r.lv,.int .i64 asn,r.bv,.map (some r.inj),r.ev]
structure Wd(w:World)(own:Cls)(c:Cfg)(W:Nat)(r:WR)(x:WM)(asn:Int):Prop where
 blk:w.heap[W]? =some (.cells (cellsW c r asn) 61 (0,0))
 ob:own W=cl 16 0
 near:RV VU w own r.nv c.near
 hops:RV VI w own r.hv c.hops
 row:w.ownsRow 0 36 1 r.lv c.nodes (r.bs.map VP)
 rowo:∀k,r.lv.ownBlock=some k→own k=cl 16 1
 bnd:w.ownsRow 0 2 1 r.bv c.nodes (x.bound.map VI)
 bndo:∀k,r.bv.ownBlock=some k→own k=cl 16 2
 inj:Ij w own r.inj r.ij
 injo:own r.inj=cl 16 3
 ev:Eo w own (cl 16 4) r.ev x.ev
 nl:x.nodes.length=c.nodes
 nd:∀i,i<c.nodes→∃b q,r.bs[i]? =some b∧Nd w own c i b q (x.nd i)
def WdS(own:Cls):Nat→Prop:=λk=>own k≠0∧own k≤261
structure WAt(w0:World)(o0:Cls)(c:Cfg)(W:Nat)(x:WM)(asn:Int)(w:World)(o:Cls)(r:WR):Prop where
 wd:Wd w o c W r x asn
 z:Z w o
 ext:Ext w0 o0 o
 chg:Chg (WdS o0) w0 w
def cellsS(p:Snd×Value):List Value:=[.int .i64 p.1.1,p.2,.int .i64 p.1.2.2]
theorem cellsS_len(p:Snd×Value):(cellsS p).length=3:=rfl
def Ao(w:World)(own:Cls)(v:Value)(air:List Snd):Prop:=
 ∃ps:List (Snd×Value),w.ownsRow 0 90 3 v ps.length (ps.flatMap cellsS)∧(∀k,v.ownBlock=some k→own k=cl 16 5)∧(∀p∈ps,BO w own p.2 p.1.2.1)∧air=ps.map Prod.fst
def Bk(w:World)(own:Cls)(v:Value)(back:List (Option (List Int))):Prop:=
 ∃vs:List Value,w.ownsRow 0 33 1 v vs.length vs∧(∀k,v.ownBlock=some k→own k=cl 16 6)∧vs.length=back.length∧∀(i:Nat) a u,back[i]? =some a→vs[i]? =some u→AV a u w own
theorem put_nd(x:WM)(i j:Nat)(s:NSt)(h:i<x.nodes.length):(x.put i s).nd j=if j=i then s else x.nd j:=by
 unfold WM.put WM.nd
 simp only[List.getD_eq_getElem?_getD,List.getElem?_set]
 by_cases hj:j=i
 ·subst hj;simp[h]
 ·have hj':¬i=j:=λe=>hj e.symm
  rw[if_neg hj',if_neg hj]
section
variable {w0 w w':World}{o0 o o':Cls}{c:Cfg}{W:Nat}{x x':WM}{asn:Int}{r r':WR}{S:Nat→Prop}{i b:Nat}{s s':NSt}{q q':NR}
theorem Wd.step(h:Wd w o c W r x asn)(e:Ext w o o')(g:Chg S w w')(hc:c.nodes≤16)(hS:∀k,S k→261<o k):Wd w' o' c W r x asn:=by
 have n0:∀k,o k=0→¬S k:=λk hk hs=>by have:=hS k hs;omega
 have nj:∀j,j≤4→∀k,o k=cl 16 j→¬S k:=λj hj k hk hs=>by have:=hS k hs;unfold cl at hk;omega
 have nm:∀i,i<16→∀k,NdS o i k→¬S k:=λi hi k hk hs=>by
  obtain⟨j,hj,hk⟩:=hk;have:=hS k hs;unfold cl at hk;omega
 exact⟨Chg.keep g h.blk (nj 0 (by omega) _ h.ob),by rw[e W (qX h.blk)];exact h.ob,h.near.step e g n0,h.hops.step e g n0,
  qY h.row g (λk hk=>nj 1 (by omega) k (h.rowo k hk)),λk hk=>by rw[e k (qg h.row hk).2];exact h.rowo k hk,
  qY h.bnd g (λk hk=>nj 2 (by omega) k (h.bndo k hk)),λk hk=>by rw[e k (qg h.bnd hk).2];exact h.bndo k hk,
  h.inj.step e g (nj 3 (by omega) _ h.injo) n0,by rw[e _ h.inj.lt];exact h.injo,
  h.ev.step e g (λk hk=>hk.elim (n0 k) (nj 4 (by omega) k)),h.nl,
  λi hi=>by
   obtain⟨b,q,h1,h2⟩:=h.nd i hi
   exact⟨b,q,h1,h2.step e g n0 (nm i (by omega))⟩⟩
theorem WAt.start(h:Wd w o c W r x asn)(z:Z w o):WAt w o c W x asn w o r:=⟨h,z,Ext.refl _ _,Chg.refl _ _⟩
theorem Chg.extW{w w1 w2:World}{o1 o2:Cls}(h:Chg (WdS o1) w w1)(e:Ext w o1 o2)(k:Chg (WdS o2) w1 w2):Chg (WdS o1) w w2:=
 ⟨k.os.trans h.os,k.tape.trans h.tape,k.output.trans h.output,Nat.le_trans h.size k.size,
  λq hi hn=>(k.block q (Nat.lt_of_lt_of_le hi h.size) (λhh=>hn (by unfold WdS at hh ⊢;rw[←e q hi];exact hh))).trans (h.block q hi hn)⟩
theorem WAt.next(h:WAt w0 o0 c W x asn w o r)(n:Wd w' o' c W r' x' asn)(z:Z w' o')(e:Ext w o o')(g:Chg (WdS o) w w'):WAt w0 o0 c W x' asn w' o' r':=
 ⟨n,z,h.ext.trans e h.chg.size,h.chg.extW h.ext g⟩
theorem WAt.trans{w1:World}{o1:Cls}{x1:WM}{r1:WR}(h:WAt w0 o0 c W x1 asn w1 o1 r1)(k:WAt w1 o1 c W x asn w o r):WAt w0 o0 c W x asn w o r:=
 h.next k.wd k.z k.ext k.chg
theorem WAt.next2(h:WAt w0 o0 c W x asn w o r)(n:Wd w' o' c W r' x' asn)(z:Z w' o')(e:Ext w o o')(g:Chg (λk=>WdS o k∨w0.heap.size≤k) w w'):WAt w0 o0 c W x' asn w' o' r':=
 ⟨n,z,h.ext.trans e h.chg.size,⟨g.os.trans h.chg.os,g.tape.trans h.chg.tape,g.output.trans h.chg.output,Nat.le_trans h.chg.size g.size,
  λq hi hn=>(g.block q (Nat.lt_of_lt_of_le hi h.chg.size) (λhh=>hn (by
   rcases hh with hh|hh
   · unfold WdS at hh ⊢;rw[←h.ext q hi];exact hh
   · omega))).trans (h.chg.block q hi hn)⟩⟩
theorem WAt.other(h:WAt w0 o0 c W x asn w o r)(e:Ext w o o')(z:Z w' o')(g:Chg S w w')(hc:c.nodes≤16)(hS:∀k,S k→261<o k∧w0.heap.size≤k):WAt w0 o0 c W x asn w' o' r:=
 h.next2 (h.wd.step e g hc (λk hk=>(hS k hk).1)) z e (g.mono (λk _ hk=> .inr (hS k hk).2))
theorem WAt.kept(h:WAt w0 o0 c W x asn w o r)(hc:c.nodes≤16)(g:Chg (λ_=>False) w w'):WAt w0 o0 c W x asn w' o r:=
 h.other (Ext.refl _ _) (h.z.more g.size) g hc (λ_ e=>e.elim)
theorem WAt.cell(h:WAt w0 o0 c W x asn w o r)(k:Nat):w.cell? ⟨W,k,none⟩=(cellsW c r asn)[k]? :=by rw[qJ h.wd.blk]
theorem WAt.f(h:WAt w0 o0 c W x asn w o r)(k:Nat):w.frozen? ⟨W,k,none⟩=false:=qK h.wd.blk k
theorem WAt.rowval(h:WAt w0 o0 c W x asn w o r)(hn:0<c.nodes):∃g cap,r.lv= .slice (some ⟨g,0,none⟩) c.nodes cap∧∀i b,r.bs[i]? =some b→w.cell? ⟨g,i,none⟩=some (VP b):=by
 obtain⟨g,cap,cur,e,_⟩:=vL h.wd.row hn
 refine⟨g,cap,e,λi b hb=>?_⟩
 have hrow:=h.wd.row
 rw[e] at hrow
 exact qp hrow i _ (by rw[List.getElem?_map,hb];rfl)
theorem WAt.get(h:WAt w0 o0 c W x asn w o r)(i:Nat)(hi:i<c.nodes):∃b q,r.bs[i]? =some b∧NAt w o c i b (x.nd i) w o q:=by
 obtain⟨b,q,h1,h2⟩:=h.wd.nd i hi
 exact⟨b,q,h1,NAt.start h2 h.z⟩
theorem WAt.node(h:WAt w0 o0 c W x asn w o r)(hc:c.nodes≤16)(hi:i<c.nodes)(hb:r.bs[i]? =some b) (k:NAt w o c i b s' w' o' q'):WAt w0 o0 c W (x.put i s') asn w' o' r:=by
 have hd:=h.wd
 have n0:∀k,o k=0→¬NdS o i k:=λk hk hs=>by obtain⟨j,hj,hs⟩:=hs;rw[hk] at hs;exact qP i j hs.symm
 have nj:∀j,j≤4→∀k,o k=cl 16 j→¬NdS o i k:=λj hj k hk hs=>by
  obtain⟨m,hm,hs⟩:=hs;have:=(qy (hk.symm.trans hs) (by omega) (by omega)).1;omega
 have nm:∀m,m≠i→∀k,NdS o m k→¬NdS o i k:=λm hm k hk hs=>by
  obtain⟨j1,hj1,hk⟩:=hk;obtain⟨j2,hj2,hs⟩:=hs;exact hm (qy (hk.symm.trans hs) (by omega) (by omega)).1
 have e:=k.ext
 have g:=k.chg
 refine h.next ⟨Chg.keep g hd.blk (nj 0 (by omega) _ hd.ob),by rw[e W (qX hd.blk)];exact hd.ob,hd.near.step e g n0,hd.hops.step e g n0,
  qY hd.row g (λk hk=>nj 1 (by omega) k (hd.rowo k hk)),λk hk=>by rw[e k (qg hd.row hk).2];exact hd.rowo k hk,
  qY hd.bnd g (λk hk=>nj 2 (by omega) k (hd.bndo k hk)),λk hk=>by rw[e k (qg hd.bnd hk).2];exact hd.bndo k hk,
  hd.inj.step e g (nj 3 (by omega) _ hd.injo) n0,by rw[e _ hd.inj.lt];exact hd.injo,
  hd.ev.step e g (λk hk=>hk.elim (n0 k) (nj 4 (by omega) k)),by unfold WM.put;simp[hd.nl],λj hjn=>?_⟩ k.z e (g.mono (λk _ hk=>by obtain⟨m,hm,hk⟩:=hk;unfold WdS;rw[hk];exact⟨qP i m,by unfold cl;omega⟩))
 rw[put_nd x i j s' (by rw[hd.nl];exact hi)]
 by_cases hj:j=i
 ·subst hj
  rw[if_pos rfl]
  exact⟨b,q',hb,k.nd⟩
 ·rw[if_neg hj]
  obtain⟨b2,q2,h1,h2⟩:=hd.nd j hjn
  exact⟨b2,q2,h1,h2.step e g n0 (nm j hj)⟩
theorem Ao.step{v:Value}{air:List Snd}(h:Ao w o v air)(e:Ext w o o')(g:Chg S w w')(n0:Off o (cl 16 5) S):Ao w' o' v air:=by
 obtain⟨ps,h1,h2,h3,h4⟩:=h
 exact⟨ps,qY h1 g (λk hk=>n0 k (.inr (h2 k hk))),λk hk=>by rw[e k (qg h1 hk).2];exact h2 k hk,λp hp=>(h3 p hp).step e g n0.zero,h4⟩
theorem AV.step{a:Option (List Int)}{v:Value}(h:AV a v w o)(e:Ext w o o')(g:Chg S w w')(n0:∀k,o k=0→¬S k):AV a v w' o':=by
 cases a with
 |none=>exact h
 |some l=>exact BO.step h e g n0
theorem Bk.step{v:Value}{l:List (Option (List Int))}(h:Bk w o v l)(e:Ext w o o')(g:Chg S w w')(n0:Off o (cl 16 6) S):Bk w' o' v l:=by
 obtain⟨vs,h1,h2,h3,h4⟩:=h
 exact⟨vs,qY h1 g (λk hk=>n0 k (.inr (h2 k hk))),λk hk=>by rw[e k (qg h1 hk).2];exact h2 k hk,h3,λi a u ha hu=>(h4 i a u ha hu).step e g n0.zero⟩
theorem WdS.off(j:Nat)(hj:5≤j):Off o (cl 16 j) (WdS o):=λk hk hs=>by
 rcases hk with hk|hk
 ·exact hs.1 hk
 ·have:=hs.2;rw[hk] at this;unfold cl at this;omega
theorem WAt.air(h:WAt w0 o0 c W x asn w o r){v:Value}{l:List Snd}(a:Ao w0 o0 v l):Ao w o v l:=a.step h.ext h.chg (WdS.off 5 (by omega))
theorem WAt.bck(h:WAt w0 o0 c W x asn w o r){v:Value}{l:List (Option (List Int))}(a:Bk w0 o0 v l):Bk w o v l:=a.step h.ext h.chg (WdS.off 6 (by omega))
theorem off_nd(i:Nat)(hi:i<16)(j:Nat)(hj:5≤j):Off o (cl 16 j) (NdS o i):=λk hk hs=>by
 obtain⟨m,hm,hs⟩:=hs
 rcases hk with hk|hk
 ·rw[hk] at hs;exact qP i m hs.symm
 ·rw[hk] at hs;unfold cl at hs;omega
end
section
variable {w0 w w':World}{o0 o o':Cls}{c:Cfg}{W:Nat}{x x':WM}{asn:Int}{r r':WR}
theorem at54_any(v:Value)(L:List Int)(i:Nat)(hv:RV VI w o v L):Calls Tryz.prog 54 #[v,.int .i64 i] w (PV0 (.int .i64 (atL L i)) w):=by
 obtain⟨A,cap,rfl,hro,_⟩:=hv
 obtain⟨n,hn⟩:=qZ L.length
 rw[←hn] at hro ⊢
 by_cases hlt:i<n
 ·obtain⟨p,z,rfl,hz,hcell⟩:=hro.at hlt
  have e:atL L i=z:=by unfold atL;rw[List.getD_eq_getElem?_getD,hz];rfl
  rw[e]
  have b1:decide ((n:Int)≤(i:Int))=false:=by simp;omega
  have i1:(i:Int)<(n:Int):=by omega
  unfold VI at hcell
  clear hro hz e hn
  go_enter Tryz.func54,Tryz.ntmps54
  go_wp2_with fail
  go_ret
  exact⟨rfl,rfl⟩
 ·have e:atL L i=0:=by unfold atL;rw[List.getD_eq_getElem?_getD,List.getElem?_eq_none (by omega)];rfl
  rw[e]
  have b1:decide ((n:Int)≤(i:Int))=true:=by simp;omega
  clear hro e hn
  go_enter Tryz.func54,Tryz.ntmps54
  go_wp2_with fail
  go_ret
  exact⟨rfl,rfl⟩
theorem at71_any(v:Value)(L:List Int)(i:Nat)(hv:RV VU w o v L):Calls Tryz.prog 71 #[v,.int .i64 i] w (PV0 (.int .u64 (atL L i)) w):=by
 obtain⟨A,cap,rfl,hro,_⟩:=hv
 obtain⟨n,hn⟩:=qZ L.length
 rw[←hn] at hro ⊢
 by_cases hlt:i<n
 ·obtain⟨p,z,rfl,hz,hcell⟩:=hro.at hlt
  have e:atL L i=z:=by unfold atL;rw[List.getD_eq_getElem?_getD,hz];rfl
  rw[e]
  have b1:decide ((n:Int)≤(i:Int))=false:=by simp;omega
  have i1:(i:Int)<(n:Int):=by omega
  unfold VU at hcell
  clear hro hz e hn
  go_enter Tryz.func71,Tryz.ntmps71
  go_wp2_with fail
  go_ret
  exact⟨rfl,rfl⟩
 ·have e:atL L i=0:=by unfold atL;rw[List.getD_eq_getElem?_getD,List.getElem?_eq_none (by omega)];rfl
  rw[e]
  have b1:decide ((n:Int)≤(i:Int))=true:=by simp;omega
  clear hro e hn
  go_enter Tryz.func71,Tryz.ntmps71
  go_wp2_with fail
  go_ret
  exact⟨rfl,rfl⟩
theorem jj(h:WAt w0 o0 c W x asn w o r)(hc:0<c.nodes)(q:Int):Calls Tryz.prog 22 #[VP W,.int .i64 q] w (PV0 (.bool (inR q 0 ((c.nodes:Int)-1))) w):=by
 have c9:w.cell? ⟨W,9,none⟩=some r.lv:=h.cell 9
 obtain⟨g,cap,e,_⟩:=h.rowval hc
 rw[e] at c9
 clear h e
 unfold VP
 by_cases h0:0≤q
 ·by_cases h1:q<c.nodes
  ·have e:inR q 0 ((c.nodes:Int)-1)=true:=zT h0 (by omega)
   rw[e]
   clear e
   go_enter Tryz.func22,Tryz.ntmps22
   go_wp2_with fail
   go_ret
   exact⟨rfl,rfl⟩
  ·have e:inR q 0 ((c.nodes:Int)-1)=false:=jC (by omega)
   rw[e]
   have b1:decide (q<(c.nodes:Int))=false:=by simp;omega
   clear e
   go_enter Tryz.func22,Tryz.ntmps22
   go_wp2_with fail
   go_ret
   exact⟨rfl,rfl⟩
 ·have e:inR q 0 ((c.nodes:Int)-1)=false:=vP (by omega)
  have b1:decide (0≤q)=false:=by simp;omega
  rw[e]
  clear e
  go_enter Tryz.func22,Tryz.ntmps22
  go_wp2_with fail
  go_ret
  exact⟨rfl,rfl⟩
theorem wnode_any(h:WAt w0 o0 c W x asn w o r)(i b:Nat)(hi:i<c.nodes)(hb:r.bs[i]? =some b):Calls Tryz.prog 8 #[VP W,.int .i64 i] w (PV0 (VP b) w):=by
 have HH:=qQ (jj h (by omega) i)
 rw[zT (by omega) (by omega)] at HH
 have c9:w.cell? ⟨W,9,none⟩=some r.lv:=h.cell 9
 obtain⟨g,cap,e,he⟩:=h.rowval (by omega)
 have hcell:=he i b hb
 rw[e] at c9
 have i1:(i:Int)<(c.nodes:Int):=by omega
 clear h e he hb
 unfold VP at *
 go_enter Tryz.func8,Tryz.ntmps8
 go_wp2_with fail
 with_reducible refine HH.out.mono ?_
 rintro en w1 ⟨rfl,rfl⟩
 go_wp2_with fail
 go_ret
 exact⟨rfl,rfl⟩
end
theorem appRow{w:World}{ops:Array Oper}{rest:List Oper}{o:Oper}{a:Act}{Q:Exit→Act→World→Prop}{t e sz bytes:Nat}(he:ElS t e sz bytes)(hgd:o.guard=none)(s x:Operand)
  (ho:o.op= .call {callee:= .builtin .append,args:=#[s,x],argTypes:=#[t,t]})
  (base:Nat) (v:Value) (n:Nat) (xs:List Value) (hs:a.eval s=v) (hown:w.ownsRow base e sz v n xs)
  (b2:Nat) (v2:Value) (m:Nat) (ys:List Value) (hx:a.eval x=v2) (hrow:w.ownsRow b2 e sz v2 m ys) (h1:∀u∈ys,u.oneCell'=true)
  (hby:bytes≤200) (h63:n+m≤1000000) (hbase:base≤w.heap.size)
  (h:∀v' w',w'.ownsRow base e sz v' (n+m) (xs++ys)→w.grownBy w' v.ownBlock→(v'.ownBlock=v.ownBlock∨v'.ownBlock=some w.heap.size)→wpList Tryz.prog ops Q rest (a.put o.dst v') w'):wpList Tryz.prog ops Q (o::rest) a w:=by
 obtain⟨ht,i,z,h1i,h2i,h3i,h4i,h5i,h6i⟩:=he
 rcases qD hrow with ⟨e1,hm,_⟩|⟨g,cap,e1,_⟩
 ·subst hm
  have hy:ys=[]:=List.eq_nil_of_length_eq_zero (by rw[hrow.1];simp)
  subst hy
  exact wpList_append_own_none hgd s x t ho base e i sz ht h1i v n xs hs hown (by rw[hx,e1]) (h v w (by simpa using hown) ⟨rfl,rfl,rfl,Nat.le_refl _,λ_ _ _=>rfl⟩ (.inl rfl))
 ·subst e1
  have h7:(n+m)*bytes≤(n+m)*200:=Nat.mul_le_mul_left _ hby
  refine wpList_append_own_at w hgd s x t ho base e i z sz bytes ht h1i h2i h3i h4i h5i h6i v n xs hs hown ⟨g,0,none⟩ m cap ys hx hrow.1 (λj u hu=>?_) h1 (by unfold maxLen;omega) (by omega) hbase (λv' w' k1 k2 _ k4=>h v' w' k1 k2 k4)
  rw[add_mk,Nat.zero_add]
  exact qM hrow j u hu
def WR.same(r r':WR):Prop:=r'.lv=r.lv∧r'.bs=r.bs∧r'.bv=r.bv∧r'.nv=r.nv∧r'.hv=r.hv∧r'.ij=r.ij
theorem WR.same.refl(r:WR):r.same r:=⟨rfl,rfl,rfl,rfl,rfl,rfl⟩
theorem WR.same.trans{r r1 r2:WR}(h:r.same r1)(k:r1.same r2):r.same r2:=⟨k.1.trans h.1,k.2.1.trans h.2.1,k.2.2.1.trans h.2.2.1,k.2.2.2.1.trans h.2.2.2.1,k.2.2.2.2.1.trans h.2.2.2.2.1,k.2.2.2.2.2.trans h.2.2.2.2.2⟩
def PW(w0:World)(o0:Cls)(c:Cfg)(W:Nat)(x:WM)(asn:Int)(r:WR)(V:Value→World→Cls→Prop)(en:Ending)(w':World):Prop:=
 ∃v o' r',en= .returned v∧WAt w0 o0 c W x asn w' o' r'∧r.same r'∧V v w' o'
section
variable {w0 w w':World}{o0 o o':Cls}{c:Cfg}{W:Nat}{x x':WM}{asn:Int}{r r':WR}{S:Nat→Prop}
theorem Wd.nds(h:Wd w o c W r x asn)(e:Ext w o o')(g:Chg S w w')(n0:∀k,o k=0→¬S k)(nm:∀i,i<16→∀k,NdS o i k→¬S k)(hc:c.nodes≤16):
  ∀i,i<c.nodes→∃b q,r.bs[i]? =some b∧Nd w' o' c i b q (x.nd i):=λi hi=>by
 obtain⟨b,q,h1,h2⟩:=h.nd i hi
 exact⟨b,q,h1,h2.step e g n0 (nm i (by omega))⟩
theorem part_no{m:Nat}(hm:m≤15)(hS:∀k,S k→o k=cl 16 m):(∀k,o k=0→¬S k)∧(∀j,j≠m→j≤15→∀k,o k=cl 16 j→¬S k)∧(∀i,i<16→∀k,NdS o i k→¬S k):=
 ⟨λk hk hs=>by have:=hS k hs;rw[hk] at this;exact qP 16 m this.symm,
  λj hj h15 k hk hs=>hj (qy (hk.symm.trans (hS k hs)) (by omega) (by omega)).2,
  λi hi k hk hs=>by obtain⟨j,hj,hk⟩:=hk;have:=(qy (hk.symm.trans (hS k hs)) (by omega) (by omega)).1;omega⟩
theorem WAt.bset(h:WAt w0 o0 c W x asn w o r)(hc:c.nodes≤16){g cap:Nat}(hg:r.bv= .slice (some ⟨g,0,none⟩) c.nodes cap)(q:Nat)(hq:q<c.nodes)(z:Int):
  WAt w0 o0 c W {x with bound:=x.bound.set q z} asn (w.setCell ⟨g,q,none⟩ (.int .i64 z)) o r:=by
 have hd:=h.wd
 have hog:o g=cl 16 2:=hd.bndo g (by rw[hg];rfl)
 have G:=chg1 w g q (.int .i64 z)
 obtain⟨n0,nj,nm⟩:=part_no (S:=λk=>k=g) (o:=o) (m:=2) (by omega) (λk hk=>by rw[hk];exact hog)
 have hb:=hd.bnd
 rw[hg] at hb
 have hb2:=vq hb q (.int .i64 z) hq
 refine h.next ⟨Chg.keep G hd.blk (nj 0 (by omega) (by omega) _ hd.ob),hd.ob,hd.near.step (Ext.refl _ _) G n0,hd.hops.step (Ext.refl _ _) G n0,qY hd.row G (λk hk=>nj 1 (by omega) (by omega) k (hd.rowo k hk)),hd.rowo,
  ?_,hd.bndo,hd.inj.step (Ext.refl _ _) G (nj 3 (by omega) (by omega) _ hd.injo) n0,hd.injo,hd.ev.step (Ext.refl _ _) G (λk hk=>hk.elim (n0 k) (nj 4 (by omega) (by omega) k)),hd.nl,hd.nds (Ext.refl _ _) G n0 nm hc⟩ (h.z.more G.size) (Ext.refl _ _)
  (G.mono (λk _ hk=>by unfold WdS;rw[hk,hog];exact⟨qP 16 2,by unfold cl;omega⟩))
 rw[hg]
 have e:List.map VI (x.bound.set q z)=(List.map VI x.bound).set q (.int .i64 z):=by rw[List.map_set];rfl
 show World.ownsRow _ 0 2 1 _ c.nodes (List.map VI (x.bound.set q z))
 rw[e];exact hb2
theorem WAt.tolds(h:WAt w0 o0 c W x asn w o r)(hc:c.nodes≤16){ks:List (Ev×Value×Value)}{l:List Ev}(v':Value)(w5:World)(n:Nat)(hn:n=x.ev.length)(ps:List (Ev×Value×Value))(e4:x.ev=ps.map Prod.fst)
  (hps:∀p∈ps,RV VI w o p.2.1 p.1.p.path∧BO w o p.2.2 p.1.p.data) (hks:∀p∈ks,RV VI w o p.2.1 p.1.p.path∧BO w o p.2.2 p.1.p.data) (hl:l=ks.map Prod.fst)
  (G:Chg (λk=>r.ev.ownBlock=some k) w w5) (hrow:w5.ownsRow 0 44 10 v' (n+ks.length) (ps.flatMap z6++ks.flatMap z6)) (hat:v'.ownBlock=r.ev.ownBlock∨v'.ownBlock=some w.heap.size):
  ∃o',WAt w0 o0 c W {x with ev:=x.ev++l} asn (w5.setCell ⟨W,13,none⟩ v') o' {r with ev:=v'}:=by
 have hd:=h.wd
 obtain⟨ps0,r1,r2,r3,r4⟩:=hd.ev
 have hlen:ps.length=n:=by rw[hn,e4,List.length_map]
 have hWl:=qX hd.blk
 have hWN:∀k,r.ev.ownBlock=some k→k≠W:=λk hk e=>by
  subst e;have h1:=r2 k hk;rw[hd.ob] at h1;have:=(qy h1 (by omega) (by omega)).2;omega
 have gs:=chg1 w5 W 13 v'
 have G2:Chg (λq=>r.ev.ownBlock=some q∨q=W) w (w5.setCell ⟨W,13,none⟩ v'):=
  (G.mono (λk _ hk=>(.inl hk:r.ev.ownBlock=some k∨k=W))).trans (gs.mono (λk _ hk=> .inr hk))
 have n0:∀k,o k=0→¬(r.ev.ownBlock=some k∨k=W):=λk hk hs=>by
  rcases hs with hs|hs
  ·have:=r2 k hs;rw[hk] at this;exact qP 16 4 this.symm
  ·subst hs;rw[hd.ob] at hk;exact qP 16 0 hk
 have nj:∀j,j≠4→j≠0→j≤15→∀k,o k=cl 16 j→¬(r.ev.ownBlock=some k∨k=W):=λj h4 h0 h15 k hk hs=>by
  rcases hs with hs|hs
  ·exact h4 (qy (hk.symm.trans (r2 k hs)) (by omega) (by omega)).2
  ·subst hs;exact h0 (qy (hk.symm.trans hd.ob) (by omega) (by omega)).2
 have nm:∀i,i<16→∀k,NdS o i k→¬(r.ev.ownBlock=some k∨k=W):=λi hi k hk hs=>by
  obtain⟨j,hj,hk⟩:=hk
  rcases hs with hs|hs
  ·have:=(qy (hk.symm.trans (r2 k hs)) (by omega) (by omega)).1;omega
  ·subst hs;have:=(qy (hk.symm.trans hd.ob) (by omega) (by omega)).1;omega
 have hbk:(w5.setCell ⟨W,13,none⟩ v').heap[W]? =some (.cells (cellsW c {r with ev:=v'} asn) 61 (0,0)):=
  qB (Chg.keep G hd.blk (λe=>hWN W e rfl)) 13 _
 have hvW:∀k,v'.ownBlock=some k→k≠W:=λk hk=>by
  rcases hat with e|e
  ·rw[e] at hk;exact hWN k hk
  ·rw[e] at hk;cases hk;omega
 have hrw:(w5.setCell ⟨W,13,none⟩ v').ownsRow 0 44 10 v' (ps++ks).length ((ps++ks).flatMap z6):=by
  have:=qY hrow gs (λk hk e=>hvW k hk e)
  rw[List.flatMap_append,List.length_append,hlen];exact this
 have key:∀o',Ext w o o'→Z w5 o'→(∀k,v'.ownBlock=some k→o' k=cl 16 4)→∃o',WAt w0 o0 c W {x with ev:=x.ev++l} asn (w5.setCell ⟨W,13,none⟩ v') o' {r with ev:=v'}:=by
  intro o' hE hZ hv
  refine⟨o',h.next ⟨hbk,by rw[hE W hWl];exact hd.ob,hd.near.step hE G2 n0,hd.hops.step hE G2 n0,qY hd.row G2 (λk hk=>nj 1 (by omega) (by omega) (by omega) k (hd.rowo k hk)),
   λk hk=>by rw[hE k (qg hd.row hk).2];exact hd.rowo k hk,qY hd.bnd G2 (λk hk=>nj 2 (by omega) (by omega) (by omega) k (hd.bndo k hk)),λk hk=>by rw[hE k (qg hd.bnd hk).2];exact hd.bndo k hk,
   hd.inj.step hE G2 (nj 3 (by omega) (by omega) (by omega) _ hd.injo) n0,by rw[hE _ hd.inj.lt];exact hd.injo,
   ⟨ps++ks,hrw,hv,λp hp=>?_,by rw[List.map_append,←e4,←hl]⟩,hd.nl,hd.nds hE G2 n0 nm hc⟩ (hZ.more gs.size) hE (G2.mono (λk _ hk=>?_))⟩
  ·rcases List.mem_append.1 hp with hp|hp
   ·exact⟨(hps p hp).1.step hE G2 n0,(hps p hp).2.step hE G2 n0⟩
   ·exact⟨(hks p hp).1.step hE G2 n0,(hks p hp).2.step hE G2 n0⟩
  ·unfold WdS
   rcases hk with hk|hk
   ·rw[r2 k hk];exact⟨qP 16 4,by unfold cl;omega⟩
   ·rw[hk,hd.ob];exact⟨qP 16 0,by unfold cl;omega⟩
 rcases hat with e|e
 ·exact key o (Ext.refl _ _) (h.z.more G.size) (λk hk=>r2 k (e▸hk))
 ·refine key (cls o w.heap.size (cl 16 4)) (Ext.cls o _ _ (Nat.le_refl _)) ((h.z.more G.size).cls _ ?_) (λk hk=>by rw[e] at hk;cases hk;exact jX _ _ _)
  exact (qg hrow e).2
end
theorem info213:∃i,Tryz.prog.info? 213=some i∧i.size=2:=by
 obtain⟨i0,hi,hx⟩:=Option.map_eq_some_iff.1 (show (Tryz.prog.info? 213).map (λi=>i.size)=some 2 by kernel_rfl)
 exact⟨i0,hi,hx⟩
theorem zero213(w:World):(zeroValue 213).run Tryz.prog w= .ok (.agg #[.int .i64 0,.slice none 0 0]) w:=by kernel_rfl
theorem own_some{w:World}{base e size g n m cap:Nat}{xs:List Value}(h:w.ownsRow base e size (.slice (some ⟨g,0,none⟩) n cap) m xs)(k:Nat)(hk:k<cap*size):(w.cell? ⟨g,k,none⟩).isSome=true:=by
 rcases h.2 with ⟨h2,_⟩|⟨g',cap',cur,he,_,hg,_,_,hs,_⟩
 ·cases h2
 ·cases he
  rw[qJ hg,Array.getElem?_eq_getElem (by omega)]
  rfl
def PDel1(w:World)(v:Value)(qs:List QE)(en:Ending)(w':World):Prop:=
 ∃v',en= .returned v'∧w'.ownsRow 0 213 2 v' qs.length (qs.flatMap vY)∧Chg (λk=>v.ownBlock=some k) w w'∧v'.ownBlock=v.ownBlock
theorem qdel_any(w:World)(v:Value)(p:QE)(qs:List QE)(h:w.ownsRow 0 213 2 v (qs.length+1) ((p::qs).flatMap vY))(hn:qs.length≤1000)(hs:∀p∈qs,∃A n c,p.2.1= .slice A n c):
  Calls Tryz.prog 168 #[v,.int .i64 0,.int .i64 1] w (PDel1 w v qs):=by
 obtain⟨g,cap,rfl,hcap,hcm⟩:∃g cap,v= .slice (some ⟨g,0,none⟩) (qs.length+1) cap∧qs.length+1≤cap∧cap≤maxLen:=by
  rcases qD h with ⟨e,h1,_⟩|⟨g,cap,e,_,_,h4,h5⟩
  ·omega
  ·exact⟨g,cap,e,h4,h5⟩
 have hnews:∀(j:Nat) u,(qs.flatMap vY)[j]? =some u→w.cell? ⟨g,2+j,none⟩=some u:=λj u hu=>qM h (2+j) u (by
  rw[List.flatMap_cons,List.getElem?_append_right (by rw[vW];omega),vW,show 2+j-2=j by omega];exact hu)
 have h1:∀u∈qs.flatMap vY,u.oneCell'=true:=λu hu=>by
  obtain⟨q,hq,hm⟩:=List.mem_flatMap.1 hu
  obtain⟨A,n,c,e⟩:=hs q hq
  unfold vY at hm
  rw[e] at hm
  rcases List.mem_cons.1 hm with rfl|hm
  ·rfl
  ·rcases List.mem_cons.1 hm with rfl|hm
   ·rfl
   ·cases hm
 have hl:(qs.flatMap vY).length=qs.length*2:=by
  clear h hn hs hcap hnews h1
  induction qs with
  |nil=>rfl
  |cons q r ih=>rw[List.flatMap_cons,List.length_append,ih,vW,List.length_cons];omega
 have h0:=own_less h (Nat.zero_le _)
 simp only[Nat.zero_mul,List.take_zero] at h0
 obtain⟨X,hX⟩:∃X,qs.flatMap vY=X:=⟨_,rfl⟩
 rw[hX] at hnews h1 hl
 unfold PDel1
 rw[hX]
 obtain⟨n,hnn⟩:∃n,qs.length=n:=⟨_,rfl⟩
 rw[hnn] at hl hcap hn ⊢
 have HX:=qQ (And.intro h0 (And.intro hl (And.intro hnews h1)))
 unfold maxLen at hcm
 have i1:(n:Int)≤1000:=by omega
 have i2:((n+1:Nat):Int)≤(cap:Int):=by omega
 have i3:(1:Int)≤((n+1:Nat):Int):=by omega
 clear h hs hX hnn h0 hl hnews h1
 go_enter Tryz.func168,Tryz.ntmps168
 go_upto_region 5 with fail
 obtain⟨inf,hi1,hi2⟩:=info213
 obtain⟨ad,had,hna⟩:∃ad,(if cap=1 then some (⟨g,0,none⟩:Addr) else some ⟨g,2,none⟩)=some ad∧∀(j:Nat) u,X[j]? =some u→w.drew.cell? (ad.add j)=some u:=by
  by_cases hc:cap=1
  ·refine⟨⟨g,0,none⟩,if_pos hc,λj u hu=>?_⟩
   have h0:X=[]:=List.eq_nil_of_length_eq_zero (by rw[HX.out.2.1];omega)
   rw[h0] at hu;cases hu
  ·refine⟨⟨g,2,none⟩,if_neg hc,λj u hu=>?_⟩
   have:=HX.out.2.2.1 j u hu
   rcases Nat.eq_zero_or_pos j with rfl|h0
   ·simpa [Addr.add] using this
   ·simpa [Addr.add,Nat.ne_of_gt h0] using this
 have HN:=qQ hna
 clear hna
 have i4:(n:Int)+1≤(cap:Int):=by omega
 have i5:(1:Int)≤(n:Int)+1:=by omega
 have i6:1≤n+1:=by omega
 go_still_tail 6,(by kernel_rfl)
 change wpList _ _ _ _ _ w.drew
 clear had
 refine wpList_append_own_spare (w:=w.drew) rfl (.tmp 22) (.tmp 25) 164 rfl 0 213 inf 2 Tryz.underlying164 hi1 hi2 g 0 cap [] rfl (qY HX.out.1 (Chg.drew (λ_=>False) w) (λ_ _ e=>e)) ad n (cap-1) X rfl HX.out.2.1 HN.out HX.out.2.2.2 (by omega) (λw2 hown hgr=>?_)
 rw[Nat.zero_add,List.nil_append] at hown
 rw[Nat.zero_add]
 clear hi1 hi2 HN
 have hcl:∀j:Nat,j<1*2→(w2.cell? ⟨g,n*2+j,none⟩).isSome=true:=λj hj=>own_some hown _ (by omega)
 have hfr:∀o:Nat,o<1*2→w2.frozen? ⟨g,n*2+o,none⟩=false:=λo _=>qw hown _
 obtain⟨zs,hzl,hrun⟩:=run_clearS (P:=Tryz.prog) w2 164 213 0 (.agg #[.int .i64 0,.slice none 0 0]) 2 Tryz.underlying164 zero213 rfl (by omega) (by intro u hu;simp[Value.cells] at hu;rcases hu with rfl|rfl <;> rfl) g (n*2) 1 (cap-n) (by omega) hcl hfr
 have hcut:=own_cut hown (Nat.le_refl n) zs
 rw[List.take_of_length_le (by rw[HX.out.2.1];exact Nat.le_refl _)] at hcut
 have HC:=qQ hcut
 have HG:=qQ (((Chg.drew (λk=>k=g) w).trans (qH (S:=λk=>k=g) hgr (λk e=>by cases e;rfl))).trans (jw g zs (n*2) w2))
 have j1:¬cap=n:=by omega
 have j2:¬cap≤n:=by omega
 have j3:(n:Int)≤(n:Int)+1:=by omega
 clear hcl hfr hcut hown hgr HX
 go_wp2_with fail
 go_ret
 exact⟨_,rfl,HC.out,HG.out.mono (λk _ e=>by rw[show k=g from e];rfl),rfl⟩
def PQTake(w:World)(b:Nat)(most lost:Int)(v:Value)(qs:List QE)(L:List Int)(en:Ending)(w':World):Prop:=
 ∃x v',en= .returned (.tuple #[x,.bool true])∧w'.ownsRow w.heap.size 5 1 x L.length (L.map V8)∧Qb w' b most v' lost qs∧v'.ownBlock=v.ownBlock∧Chg (λk=>k=b∨v.ownBlock=some k) w w'
theorem qtake_any(w:World)(b:Nat)(most lost:Int)(v:Value)(p:QE)(ps:List QE)(h:Qb w b most v lost (p::ps))(hn:ps.length≤900)(hb:∀q∈p::ps,BS w w.heap.size q.2.1 q.2.2)(hL:p.2.2.length≤100000):
  Calls Tryz.prog 117 #[.pointer (some ⟨b,0,none⟩),.int .i64 0] w (PQTake w b most lost v ps p.2.2):=by
 have HA:=qQ (qat_any w b most lost v p ps h (by simp;omega) (hb p (List.mem_cons_self ..)) hL)
 have HS:=qQ (show∀q∈ps,∃A n c,q.2.1= .slice A n c from λq hq=>by
  obtain⟨A,c,e,_⟩:=hb q (List.mem_cons_of_mem _ hq)
  exact⟨A,_,c,e⟩)
 have H:=qQ h
 have HN:=qQ hn
 obtain⟨L,hLe⟩:∃L,p.2.2=L:=⟨_,rfl⟩
 rw[hLe] at HA ⊢
 clear h hn hb hL hLe
 go_enter Tryz.func117,Tryz.ntmps117
 go_wp2_with fail
 with_reducible refine HA.out.mono ?_
 rintro en w1 ⟨x,rfl,hO,G⟩
 obtain⟨A1,n1,c1,rfl⟩:∃A n c,x= .slice A n c:=by rcases qD hO with ⟨e,_⟩|⟨g,cap,e,_⟩ <;> exact⟨_,_,_,e⟩
 have HO:=qQ (And.intro hO G)
 have H1:=qQ (H.out.kept G)
 have hc:=H1.out.c1
 have hf:=H1.out.f 1
 have hv:=H1.out.val
 have HD:=qQ (qdel_any w1 v p ps H1.out.row (by have:=HN.out;omega) HS.out)
 obtain⟨vA,vc,hv⟩:=hv
 obtain⟨n,hnn⟩:∃n,(p::ps).length=n:=⟨_,rfl⟩
 rw[hnn] at hv
 have HV:=qQ hv
 rw[hv] at hc HD
 clear hO G HA hv hnn
 go_wp2_with fail
 with_reducible refine HD.out.mono ?_
 rintro en w2 ⟨v',rfl,hR,G2,hvb⟩
 obtain⟨A',n',c',rfl⟩:∃A n c,v'= .slice A n c:=by rcases qD hR with ⟨e,_⟩|⟨g,cap,e,_⟩ <;> exact⟨_,_,_,e⟩
 have hne:∀k,(Value.slice vA n vc).ownBlock=some k→k≠b:=λk hk=>H.out.ne (by rw[HV.out];exact hk)
 have hbk:=Chg.keep G2 H1.out.blk (λe=>hne b e rfl)
 have hf2:w2.frozen? ⟨b,1,none⟩=false:=qK hbk 1
 have hc2:=qJ hbk 1
 have hc2:w2.cell? ⟨b,1,none⟩=some v:=hc2
 have HX:=qQ (And.intro hR (And.intro G2 (And.intro hvb (And.intro hne hbk))))
 clear hR G2 hvb hne hbk HD hc hf
 go_wp2_with fail
 go_ret2
 have gs:=chg1 w2 b 1 (.slice A' n' c')
 have hvb':(Value.slice A' n' c').ownBlock=v.ownBlock:=by rw[HV.out];exact HX.out.2.2.1
 refine⟨_,_,rfl,qY (qY HO.out.1 HX.out.2.1 (λj hj e=>?_)) gs (λj hj e=>?_),⟨qB HX.out.2.2.2.2 1 (.slice A' n' c'),qY HX.out.1 gs (λj hj e=>?_)⟩,hvb',(HO.out.2.none.trans (HX.out.2.1.mono (λk _ e=> .inr (by rw[HV.out];exact e)))).trans (gs.mono (λk _ e=> .inl e))⟩
 ·have h1:=(qS HO.out.1 hj).1
  have h2:=(qg H.out.row (show v.ownBlock=some j by rw[HV.out];exact e)).2
  omega
 ·have h1:=(qS HO.out.1 hj).1
  have h2:=qX H.out.blk
  have e:j=b:=e
  omega
 ·have e:j=b:=e
  exact H.out.ne (hvb'▸hj) e
theorem cell10{w:World}{b:Nat}{t:TypeId}{v0 v1 v2 v3 v4 v5 v6 v7 v8 v9:Value}(h:w.heap[b]? =some (.cells #[v0,v1,v2,v3,v4,v5,v6,v7,v8,v9] t (0,0))):
  w.cell? ⟨b,0,none⟩=some v0∧w.cell? ⟨b,1,none⟩=some v1∧w.cell? ⟨b,2,none⟩=some v2∧w.cell? ⟨b,3,none⟩=some v3∧w.cell? ⟨b,4,none⟩=some v4∧w.cell? ⟨b,5,none⟩=some v5∧w.cell? ⟨b,6,none⟩=some v6∧w.cell? ⟨b,7,none⟩=some v7∧w.cell? ⟨b,8,none⟩=some v8∧w.cell? ⟨b,9,none⟩=some v9:=by
 refine⟨?_,?_,?_,?_,?_,?_,?_,?_,?_,?_⟩ <;> rw[qJ h] <;> rfl
theorem evAt{w:World}{g cap n:Nat}{ps:List (Ev×Value×Value)}(h:w.ownsRow 0 44 10 (.slice (some ⟨g,0,none⟩) n cap) n (ps.flatMap z6)){k:Nat}{p:Ev×Value×Value}(hk:ps[k]? =some p):
  w.cell? ⟨g,k*10,none⟩=some (.int .i64 p.1.kind)∧w.cell? ⟨g,k*10+1,none⟩=some (.int .i64 p.1.i)∧w.cell? ⟨g,k*10+2,none⟩=some (.int .i64 p.1.src)∧w.cell? ⟨g,k*10+3,none⟩=some (.int .i64 p.1.code)∧
  w.cell? ⟨g,k*10+4,none⟩=some (.int .i64 p.1.p.src)∧w.cell? ⟨g,k*10+5,none⟩=some (.int .i64 p.1.p.dst)∧w.cell? ⟨g,k*10+6,none⟩=some (.int .i64 p.1.p.n)∧w.cell? ⟨g,k*10+7,none⟩=some (.int .i64 p.1.p.life)∧
  w.cell? ⟨g,k*10+8,none⟩=some p.2.1∧w.cell? ⟨g,k*10+9,none⟩=some p.2.2:=by
 have hc:∀j u,j<10→(z6 p)[j]? =some u→w.cell? ⟨g,k*10+j,none⟩=some u:=λj u hj hu=>
  qM h (k*10+j) u (by rw[jz cellsV_len ps k j p hk hj];exact hu)
 exact⟨hc 0 _ (by omega) rfl,hc 1 _ (by omega) rfl,hc 2 _ (by omega) rfl,hc 3 _ (by omega) rfl,hc 4 _ (by omega) rfl,hc 5 _ (by omega) rfl,hc 6 _ (by omega) rfl,hc 7 _ (by omega) rfl,hc 8 _ (by omega) rfl,hc 9 _ (by omega) rfl⟩
theorem foldl_snoc{α β:Type}(f:β→α→β)(b:β)(L:List α)(k:Nat)(z:α)(h:L[k]? =some z):(L.take (k+1)).foldl f b=f ((L.take k).foldl f b) z:=by
 rw[List.take_add_one,h,List.foldl_append];rfl
section
variable {w0 w w':World}{o0 o o':Cls}{c:Cfg}{W:Nat}{x x':WM}{asn:Int}{r r':WR}
theorem WAt.bndval(h:WAt w0 o0 c W x asn w o r)(hc:0<c.nodes):∃g cap,r.bv= .slice (some ⟨g,0,none⟩) c.nodes cap:=by
 obtain⟨g,cap,cur,e,_⟩:=vL h.wd.bnd hc
 exact⟨g,cap,e⟩
theorem WAt.blen(h:WAt w0 o0 c W x asn w o r):x.bound.length=c.nodes:=by have:=h.wd.bnd.1;simpa using this
theorem WAt.bcell(h:WAt w0 o0 c W x asn w o r){g cap:Nat}(hg:r.bv= .slice (some ⟨g,0,none⟩) c.nodes cap)(q:Nat)(hq:q<c.nodes):w.cell? ⟨g,q,none⟩=some (.int .i64 (atL x.bound q)):=by
 have hb:=h.wd.bnd
 rw[hg] at hb
 refine qp hb q _ ?_
 rw[List.getElem?_map,List.getElem?_eq_getElem (by rw[h.blen];exact hq)]
 unfold atL
 rw[List.getD_eq_getElem?_getD,List.getElem?_eq_getElem (by rw[h.blen];exact hq)]
 rfl
theorem WAt.bfr(h:WAt w0 o0 c W x asn w o r){g cap:Nat}(hg:r.bv= .slice (some ⟨g,0,none⟩) c.nodes cap)(q:Nat):w.frozen? ⟨g,q,none⟩=false:=by
 have hb:=h.wd.bnd
 rw[hg] at hb
 rcases hb.2 with ⟨e,_⟩|⟨g2,c2,cur,e,_,hb2,_⟩
 ·cases e
 ·cases e;exact qK hb2 q
theorem WAt.lowb(h:WAt w0 o0 c W x asn w o r)(hc:0<c.nodes)(kv:Value)(known:List Int)(hk:RV VI w o kv known){w5:World}(g:Chg (λq=>r.bv.ownBlock=some q) w w5):RV VI w5 o kv known:=
 hk.keep g (λj hj e=>by have:=h.wd.bndo j e;rw[hj] at this;exact qP 16 2 this.symm)
theorem j8(hc:CfgOk c)(h:WAt w0 o0 c W x asn w o r)(v:Value)(l:List Ev)(k:Nat)(hE:Eo w o k v l)(hk:k≠cl 16 0∧k≠cl 16 2∧k≠cl 16 4)(kv:Value)(known:List Int)
  (hkv:(RV VI w o kv known∧known.length=c.nodes∧∀z∈known,-1≤z∧z≤1000000000000)∨∀e∈l,e.kind≠7) (hok:∀e∈l,(e.kind=7∨e.kind=3→0≤e.i∧e.i<c.nodes)∧(e.kind=7→0≤e.src∧e.src<c.nodes))
  (hl:l.length≤1000) (hx:x.ev.length≤100000):
  Calls Tryz.prog 35 #[VP W,v,kv] w (PW w0 o0 c W (WM.tells c known x l) asn r (λv _ _=>v= .tuple #[])):=by
 have hn0:=hc.n0
 have hn1:=hc.n1
 have he0:=hc.e
 have H:=qQ h
 obtain⟨gb,bcap,hbv⟩:=h.bndval (by omega)
 obtain⟨ps,p1,p2,p3,p4⟩:=hE
 have hpl:ps.length=l.length:=by rw[p4,List.length_map]
 rw[hpl] at p1
 obtain⟨n,hn⟩:=qZ l.length
 rw[←hn] at p1 hl hpl
 obtain⟨A,cap,hv⟩:∃A cap,v= .slice A n cap:=by
  rcases qD p1 with ⟨e,h1,_⟩|⟨g,cap,e,_⟩
  ·exact⟨none,0,by rw[e,h1]⟩
  ·exact⟨_,_,e⟩
 have HE:=qQ (And.intro p1 (And.intro p2 (And.intro p3 (And.intro p4 hpl))))
 have HKV:=qQ hkv
 have HOK:=qQ hok
 have HN:=qQ hn
 have HBV:=qQ hbv
 have HV:=qQ hv
 obtain⟨F,hF⟩:=qZ (WM.tells c known x l)
 rw[←hF]
 have HF:=qQ hF
 subst hv
 have hl2:(n:Int)≤1000:=by omega
 clear h p1 p2 p3 p4 hpl hkv hok hn hbv hF
 unfold VP
 go_enter Tryz.func35,Tryz.ntmps35
 go_wp2_with fail
 go_loopw [11] (λi wr=>∃(k:Nat),k≤n∧i= .int .i64 k∧WAt w0 o0 c W {x with bound:=(l.take k).foldl (tellF c.err known) x.bound} asn wr o r∧Chg (λq=>r.bv.ownBlock=some q) w wr) (λi _=>n-(intOf i).toNat)
 case atStart=>exact⟨0,by omega,rfl,H.out,Chg.refl _ _⟩
 case round=>
  obtain⟨q,hq,rfl,hA,hG⟩:=hrel
  have HA:=qQ hA
  have HG:=qQ hG
  clear hA hG
  by_cases hlt:q<n
  ·obtain⟨⟨e,pv,dv⟩,hz⟩:∃z,ps[q]? =some z:=⟨_,List.getElem?_eq_getElem (by have:=HE.out.2.2.2.2;omega)⟩
   have hze:l[q]? =some e:=by rw[HE.out.2.2.2.1,List.getElem?_map,hz];rfl
   have i1:(q:Int)<(n:Int):=by omega
   obtain⟨g,cap2,hvv⟩:∃g cap2,A=some ⟨g,0,none⟩∧cap=cap2:=by
    rcases qD HE.out.1 with ⟨e,h1,_⟩|⟨g,cap2,e,_⟩
    ·omega
    ·cases e;exact⟨_,_,rfl,rfl⟩
   obtain⟨rfl,rfl⟩:=hvv
   have hrow:=qY HE.out.1 HG.out (λk2 hk2 e=>by
    have h1:=HE.out.2.1 k2 hk2
    have h2:=H.out.wd.bndo k2 e
    rw[h1] at h2
    exact hk.2.1 h2)
   obtain⟨d0,d1,d2,d3,d4,d5,d6,d7,d8,d9⟩:=evAt hrow hz
   obtain⟨ok1,ok2⟩:=HOK.out e (List.mem_of_getElem? hze)
   have hnx:=foldl_snoc (tellF c.err known) x.bound l q e hze
   have hpv:∃A n c,pv= .slice A n c:=by
    obtain⟨⟨A,c,e,_⟩,_⟩:=HE.out.2.2.1 _ (List.mem_of_getElem? hz)
    exact⟨_,_,_,e⟩
   have hdv:∃A n c,dv= .slice A n c:=by
    obtain⟨_,⟨A,c,e,_⟩,_⟩:=HE.out.2.2.1 _ (List.mem_of_getElem? hz)
    exact⟨_,_,_,e⟩
   obtain⟨pA,pn,pc,rfl⟩:=hpv
   obtain⟨dA,dn,dc,rfl⟩:=hdv
   have HZ:=qQ (List.mem_of_getElem? hze)
   dsimp only at d0 d1 d2 d3 d4 d5 d6 d7 d8 d9
   clear hz hze hrow
   obtain⟨X,hX⟩:∃X:WM,X= {x with bound:=(l.take q).foldl (tellF c.err known) x.bound}:=⟨_,rfl⟩
   have HX:Hid (X= {x with bound:=(l.take q).foldl (tellF c.err known) x.bound}):=qQ hX
   rw[←hX] at HA
   have hX2: {x with bound:=(l.take (q+1)).foldl (tellF c.err known) x.bound}= {X with bound:=tellF c.err known X.bound e}:=by rw[hnx,hX]
   have HX2:=qQ hX2
   clear hX hX2 hnx
   by_cases h7:e.kind=7
   ·obtain⟨oi0,oi1⟩:=ok1 (.inl h7)
    obtain⟨os0,os1⟩:=ok2 h7
    obtain⟨i',hi'⟩:=Int.eq_ofNat_of_zero_le oi0
    obtain⟨s',hs'⟩:=Int.eq_ofNat_of_zero_le os0
    have HI:=qQ (And.intro hi' hs')
    rw[hi'] at d1 oi1
    rw[hs'] at d2 os1
    have hin:i'<c.nodes:=by omega
    have hsn:s'<c.nodes:=by omega
    have b7:(e.kind==7)=true:=by simp[h7]
    rcases HKV.out with ⟨hk1,hk2,hk3⟩|hno
    ·have HH7:=qQ h7
     have HKW:=qQ (show∀W5,Chg (λq=>r.bv.ownBlock=some q) w W5→RV VI W5 o kv known from λW5 g5=>H.out.lowb (by omega) kv known hk1 g5)
     obtain⟨kA,kc,hkve,_⟩:=hk1
     rw[hk2] at hkve
     subst hkve
     obtain⟨z,hz⟩:∃z,known[s']? =some z:=⟨_,List.getElem?_eq_getElem (by omega)⟩
     obtain⟨z0,z1⟩:=hk3 z (List.mem_of_getElem? hz)
     have hza:atL known s'=z:=by unfold atL;rw[List.getD_eq_getElem?_getD,hz];rfl
     obtain⟨kp,hkp⟩:∃kp,kA=some kp:=by
      obtain⟨A2,c2,e2,hr2,_⟩:=HKW.out wr HG.out
      rw[hk2] at e2 hr2
      cases e2
      obtain⟨p2,z2,hp2,_⟩:=hr2.at (i:=s') (by omega)
      exact⟨p2,hp2⟩
     subst hkp
     have HKB:=qQ (show¬kp.block=gb from by
      obtain⟨A2,c2,e2,hr2,_⟩:=HKW.out w (Chg.refl _ _)
      rw[hk2] at e2 hr2
      cases e2
      obtain⟨x2,e3,h0,_⟩:=hr2.2 s' (by rw[hk2];exact hsn)
      cases e3
      intro e
      have h2:=H.out.wd.bndo gb (by rw[HBV.out];rfl)
      rw[←e,h0] at h2
      exact qP 16 2 h2.symm)
     have HWG:=qQ (show¬W=gb from λe=>by
      have h2:=H.out.wd.bndo gb (by rw[HBV.out];rfl)
      rw[←e,H.out.wd.ob] at h2
      have:=(qy h2 (by omega) (by omega)).2
      omega)
     have HZC:=qQ (show∀W5,Chg (λq=>r.bv.ownBlock=some q) w W5→W5.cell? (kp.add s')=some (.int .i64 z) from λW5 g5=>by
      obtain⟨A2,c2,e2,hr2,_⟩:=HKW.out W5 g5
      rw[hk2] at e2 hr2
      cases e2
      obtain⟨p2,z2,hp2,hz2,hc2⟩:=hr2.at (i:=s') (by omega)
      cases hp2
      rw[hz] at hz2
      cases hz2
      exact hc2)
     have ht:tellF c.err known X.bound e=X.bound.set i' (if 0≤z then z+c.err else-1):=by
      unfold tellF;rw[if_pos h7,hi',hs',Int.toNat_natCast,Int.toNat_natCast,hza]
     have HT:=qQ ht
     have HAE:=qQ (HA.out.kept hn1 ((Chg.alloc (λ_=>False) wr (.cells #[.int .i64 e.kind,.int .i64 (i':Int),.int .i64 (s':Int),.int .i64 e.code,.int .i64 e.p.src,.int .i64 e.p.dst,.int .i64 e.p.n,.int .i64 e.p.life,.slice pA pn pc,.slice dA dn dc] 44)).trans (Chg.drew _ _)))
     have c11:(wr.alloc (.cells #[.int .i64 e.kind,.int .i64 (i':Int),.int .i64 (s':Int),.int .i64 e.code,.int .i64 e.p.src,.int .i64 e.p.dst,.int .i64 e.p.n,.int .i64 e.p.life,.slice pA pn pc,.slice dA dn dc] 44)).cell? ⟨W,11,none⟩=some (.slice (some ⟨gb,0,none⟩) c.nodes bcap):=by rw[←HBV.out];exact (HA.out.kept hn1 (Chg.alloc (λ_=>False) wr (.cells #[.int .i64 e.kind,.int .i64 (i':Int),.int .i64 (s':Int),.int .i64 e.code,.int .i64 e.p.src,.int .i64 e.p.dst,.int .i64 e.p.n,.int .i64 e.p.life,.slice pA pn pc,.slice dA dn dc] 44))).cell 11
     have HGE:=qQ (HG.out.trans ((Chg.alloc _ wr (.cells #[.int .i64 e.kind,.int .i64 (i':Int),.int .i64 (s':Int),.int .i64 e.code,.int .i64 e.p.src,.int .i64 e.p.dst,.int .i64 e.p.n,.int .i64 e.p.life,.slice pA pn pc,.slice dA dn dc] 44)).trans (Chg.drew _ _)))
     have bc:=HAE.out.bcell HBV.out i' hin
     have bf:=HAE.out.bfr HBV.out i'
     have hgl:gb<wr.heap.size:=by have:=qG (HA.out.bcell HBV.out i' hin);exact this
     have HEB:=qQ (show (wr.alloc (.cells #[.int .i64 e.kind,.int .i64 (i':Int),.int .i64 (s':Int),.int .i64 e.code,.int .i64 e.p.src,.int .i64 e.p.dst,.int .i64 e.p.n,.int .i64 e.p.life,.slice pA pn pc,.slice dA dn dc] 44)).drew.heap[wr.heap.size]? =some (Obj.cells #[Value.int .i64 e.kind,.int .i64 (i':Int),.int .i64 (s':Int),.int .i64 e.code,.int .i64 e.p.src,.int .i64 e.p.dst,.int .i64 e.p.n,.int .i64 e.p.life,.slice pA pn pc,.slice dA dn dc] 44 (0,0)) from qV wr (.cells #[.int .i64 e.kind,.int .i64 (i':Int),.int .i64 (s':Int),.int .i64 e.code,.int .i64 e.p.src,.int .i64 e.p.dst,.int .i64 e.p.n,.int .i64 e.p.life,.slice pA pn pc,.slice dA dn dc] 44))
     obtain⟨x0,x1,_⟩:=cell10 (qV wr (.cells #[.int .i64 e.kind,.int .i64 (i':Int),.int .i64 (s':Int),.int .i64 e.code,.int .i64 e.p.src,.int .i64 e.p.dst,.int .i64 e.p.n,.int .i64 e.p.life,.slice pA pn pc,.slice dA dn dc] 44))
     clear h7 hi' hs' ok1 ok2 ht hz hza hk2 hk3 HKV HKW
     go_wp2_with fail
     generalize wr.alloc (.cells #[.int .i64 e.kind,.int .i64 (i':Int),.int .i64 (s':Int),.int .i64 e.code,.int .i64 e.p.src,.int .i64 e.p.dst,.int .i64 e.p.n,.int .i64 e.p.life,.slice pA pn pc,.slice dA dn dc] 44)=we at *
     obtain⟨eb,heb⟩:=qZ wr.heap.size
     rw[←heb] at x0 x1 HEB hgl ⊢
     clear heb
     go_still_tail 7,(by kernel_rfl)
     change wpList _ _ _ _ _ we.drew
     generalize we.drew=wd at *
     obtain⟨y0,y1,y2,_⟩:=cell10 HEB.out
     have hbn1:¬eb=gb:=by omega
     have hbn2:¬gb=eb:=by omega
     have zc:=HZC.out wd HGE.out
     have hkb:=HKB.out
     have hkb2:¬gb=kp.block:=λe=>hkb e.symm
     have hadd:=zJ kp s'
     have c11d:wd.cell? ⟨W,11,none⟩=some (.slice (some ⟨gb,0,none⟩) c.nodes bcap):=by rw[←HBV.out];exact HAE.out.cell 11
     have c4:wd.cell? ⟨W,4,none⟩=some (.int .i64 c.err):=HAE.out.cell 4
     have hwn:¬W=gb:=HWG.out
     have hwn2:¬gb=W:=λe=>HWG.out e.symm
     have e1:IntKind.i64.wrap (z+c.err)=z+c.err:=IntWalk.i64_in _ (by omega)
     have HEB2:=qQ (show∀x:Value,(wd.setCell ⟨gb,i',none⟩ x).heap[eb]? =wd.heap[eb]? from λx=>by
      rw[HEB.out];exact Chg.keep (chg1 wd gb i' x) HEB.out hbn1)
     have HGF:=qQ (HGE.out.trans (Chg.set wd ⟨gb,i',none⟩ (.int .i64 (-1)) (show r.bv.ownBlock=some gb by rw[HBV.out];rfl)))
     have HA2:=qQ (HAE.out.bset hn1 HBV.out i' hin (-1))
     have zc2:=HZC.out _ HGF.out
     have hna:¬((⟨gb,i',none⟩:Addr)=kp.add s'):=λe=>hkb2 (by have:=congrArg Addr.block e;rw[hadd] at this;exact this)
     have hna2:¬(kp.add s'=(⟨gb,i',none⟩:Addr)):=λe=>hna e.symm
     by_cases hz:0≤z
     ·have hT:=HT.out
      rw[if_pos hz] at hT
      have HT:=qQ hT
      clear hT x0 x1 c11
      go_wp2_with fail
      have hb2:(wd.setCell ⟨gb,i',none⟩ (.int .i64 (-1))).heap[eb]? =_:=(HEB2.out _).trans HEB.out
      have c11:(wd.setCell ⟨gb,i',none⟩ (.int .i64 (-1))).cell? ⟨W,11,none⟩=some (.slice (some ⟨gb,0,none⟩) c.nodes bcap):=by rw[←HBV.out];exact HA2.out.cell 11
      have c4':(wd.setCell ⟨gb,i',none⟩ (.int .i64 (-1))).cell? ⟨W,4,none⟩=some (.int .i64 c.err):=HA2.out.cell 4
      have HAD:=qQ (HA2.out.kept hn1 (Chg.drew _ _))
      have HGD:=qQ (HGF.out.trans (Chg.drew _ _))
      have bc':=HAD.out.bcell HBV.out i' hin
      have bf':=HAD.out.bfr HBV.out i'
      clear bc bf c11d c4 y0 y1 y2 zc zc2 hna hna2 HEB HEB2 HA2 HGF HAE HGE
      generalize wd.setCell ⟨gb,i',none⟩ (.int .i64 (-1))=w2 at *
      obtain⟨y0,y1,y2,_⟩:=cell10 hb2
      go_still_tail 14,(by kernel_rfl)
      change wpList _ _ _ _ _ w2.drew
      generalize w2.drew=w3 at *
      go_wp2_with fail
      go_roundw
      case measure=>simp[intOf];omega
      case rel=>
       refine⟨q+1,by omega,by go_num,?_,HGD.out.trans (Chg.set _ _ _ ?_)⟩
       ·have:=HAD.out.bset hn1 HBV.out i' hin (z+c.err)
        rw[HX2.out,HT.out]
        simp only[List.set_set] at this
        exact this
       ·show r.bv.ownBlock=some gb;rw[HBV.out];rfl
     ·have hT:=HT.out
      rw[if_neg hz] at hT
      have HT:=qQ hT
      have bz:decide (0≤z)=false:=by simpa using hz
      clear hT hz x0 x1 c11
      go_wp2_with fail
      go_roundw
      case measure=>simp[intOf];omega
      case rel=>
       refine⟨q+1,by omega,by go_num,?_,HGF.out⟩
       rw[HX2.out,HT.out]
       exact HA2.out
    ·exact absurd h7 (hno e HZ.out)
   ·have b7:(e.kind==7)=false:=by simpa using h7
    by_cases h3:e.kind=3
    ·obtain⟨oi0,oi1⟩:=ok1 (.inr h3)
     obtain⟨i',hi'⟩:=Int.eq_ofNat_of_zero_le oi0
     rw[hi'] at d1 oi1
     have hin:i'<c.nodes:=by omega
     have b3:(e.kind==3)=true:=by simp[h3]
     have ht:tellF c.err known X.bound e=X.bound.set i' (-1):=by
      unfold tellF;rw[if_neg h7,if_pos h3,hi',Int.toNat_natCast]
     have HT:=qQ ht
     have HAE:=qQ (HA.out.kept hn1 ((Chg.alloc (λ_=>False) wr (.cells #[.int .i64 e.kind,.int .i64 (i':Int),.int .i64 e.src,.int .i64 e.code,.int .i64 e.p.src,.int .i64 e.p.dst,.int .i64 e.p.n,.int .i64 e.p.life,.slice pA pn pc,.slice dA dn dc] 44)).trans (Chg.drew _ _)))
     have c11:(wr.alloc (.cells #[.int .i64 e.kind,.int .i64 (i':Int),.int .i64 e.src,.int .i64 e.code,.int .i64 e.p.src,.int .i64 e.p.dst,.int .i64 e.p.n,.int .i64 e.p.life,.slice pA pn pc,.slice dA dn dc] 44)).cell? ⟨W,11,none⟩=some (.slice (some ⟨gb,0,none⟩) c.nodes bcap):=by rw[←HBV.out];exact (HA.out.kept hn1 (Chg.alloc (λ_=>False) wr (.cells #[.int .i64 e.kind,.int .i64 (i':Int),.int .i64 e.src,.int .i64 e.code,.int .i64 e.p.src,.int .i64 e.p.dst,.int .i64 e.p.n,.int .i64 e.p.life,.slice pA pn pc,.slice dA dn dc] 44))).cell 11
     have HGE:=qQ (HG.out.trans ((Chg.alloc _ wr (.cells #[.int .i64 e.kind,.int .i64 (i':Int),.int .i64 e.src,.int .i64 e.code,.int .i64 e.p.src,.int .i64 e.p.dst,.int .i64 e.p.n,.int .i64 e.p.life,.slice pA pn pc,.slice dA dn dc] 44)).trans (Chg.drew _ _)))
     have bc:=HAE.out.bcell HBV.out i' hin
     have bf:=HAE.out.bfr HBV.out i'
     obtain⟨x0,x1,_⟩:=cell10 (qV wr (.cells #[.int .i64 e.kind,.int .i64 (i':Int),.int .i64 e.src,.int .i64 e.code,.int .i64 e.p.src,.int .i64 e.p.dst,.int .i64 e.p.n,.int .i64 e.p.life,.slice pA pn pc,.slice dA dn dc] 44))
     clear h7 h3 hi' ok1 ok2 ht
     go_wp2_with fail
     generalize wr.alloc (.cells #[.int .i64 e.kind,.int .i64 (i':Int),.int .i64 e.src,.int .i64 e.code,.int .i64 e.p.src,.int .i64 e.p.dst,.int .i64 e.p.n,.int .i64 e.p.life,.slice pA pn pc,.slice dA dn dc] 44)=we at *
     go_still_tail 7,(by kernel_rfl)
     change wpList _ _ _ _ _ we.drew
     generalize we.drew=wd at *
     go_wp2_with fail
     go_roundw
     case measure=>simp[intOf];omega
     case rel=>
      refine⟨q+1,by omega,by go_num,?_,HGE.out.trans (Chg.set _ _ _ ?_)⟩
      ·rw[HX2.out,HT.out];exact HAE.out.bset hn1 HBV.out i' hin (-1)
      ·show r.bv.ownBlock=some gb;rw[HBV.out];rfl
    ·have b3:(e.kind==3)=false:=by simpa using h3
     have ht:tellF c.err known X.bound e=X.bound:=by
      unfold tellF;rw[if_neg h7,if_neg h3]
     have HT:=qQ ht
     have HAE:=qQ (And.intro (HA.out.kept hn1 (Chg.alloc (λ_=>False) wr (.cells #[.int .i64 e.kind,.int .i64 e.i,.int .i64 e.src,.int .i64 e.code,.int .i64 e.p.src,.int .i64 e.p.dst,.int .i64 e.p.n,.int .i64 e.p.life,.slice pA pn pc,.slice dA dn dc] 44))) (HG.out.trans (Chg.alloc _ wr (.cells #[.int .i64 e.kind,.int .i64 e.i,.int .i64 e.src,.int .i64 e.code,.int .i64 e.p.src,.int .i64 e.p.dst,.int .i64 e.p.n,.int .i64 e.p.life,.slice pA pn pc,.slice dA dn dc] 44))))
     clear h7 h3 ht ok1 ok2
     go_wp2_with fail
     go_roundw
     case measure=>simp[intOf];omega
     case rel=>
      refine⟨q+1,by omega,by go_num,?_,HAE.out.2⟩
      rw[HX2.out,HT.out]
      exact HAE.out.1
  ·obtain rfl:q=n:=by omega
   have hfin:=HA.out
   have hG:=HG.out
   rw[List.take_of_length_le (by rw[←HN.out];exact Nat.le_refl _)] at hfin
   have c13:wr.cell? ⟨W,13,none⟩=some r.ev:=hfin.cell 13
   have f13:=hfin.f 13
   obtain⟨qs,q1,q2,q3,q4⟩:=hfin.wd.ev
   have hrow:=qY HE.out.1 hG (λk2 hk2 e=>by
    have h1:=HE.out.2.1 k2 hk2
    have h2:=H.out.wd.bndo k2 e
    rw[h1] at h2
    exact hk.2.1 h2)
   obtain⟨eA,ecap,hev⟩:∃A cap,r.ev= .slice A qs.length cap:=by
    rcases qD q1 with ⟨e,h1,_⟩|⟨g,cap,e,_⟩
    ·exact⟨none,0,by rw[e,h1]⟩
    ·exact⟨_,_,e⟩
   have hql:qs.length=x.ev.length:=by
    have:x.ev=qs.map Prod.fst:=q4
    rw[this,List.length_map]
   have hone:∀(rs:List (Ev×Value×Value)),(∀p∈rs,RV VI w o p.2.1 p.1.p.path∧BO w o p.2.2 p.1.p.data)→∀u∈rs.flatMap z6,u.oneCell'=true:=by
    intro rs hrs u hu
    obtain⟨p,hp,hup⟩:=List.mem_flatMap.1 hu
    obtain⟨⟨A,c,e,_⟩,⟨A2,c2,e2,_⟩,_⟩:=hrs p hp
    obtain⟨pe,pv,dv⟩:=p
    dsimp only at e e2
    subst e e2
    simp[z6] at hup
    rcases hup with rfl|rfl|rfl|rfl|rfl|rfl|rfl|rfl|rfl|rfl <;> rfl
   have h1:=hone ps HE.out.2.2.1
   rw[hev] at c13 q1
   obtain⟨qn,hqn⟩:=qZ qs.length
   rw[←hqn] at c13 q1 hql hev
   have HQ:=qQ (And.intro q1 (And.intro q2 (And.intro q3 (And.intro q4 (And.intro hev (And.intro hql hqn))))))
   have HROW:=qQ (And.intro hrow h1)
   have HKS:=qQ (show∀p∈ps,RV VI wr o p.2.1 p.1.p.path∧BO wr o p.2.2 p.1.p.data from λp hp=>by
    have h0:∀j,o j=0→¬(r.bv.ownBlock=some j):=λj hj e=>by have:=H.out.wd.bndo j e;rw[hj] at this;exact qP 16 2 this.symm
    exact⟨(HE.out.2.2.1 p hp).1.keep hG h0,(HE.out.2.2.1 p hp).2.keep hG h0⟩)
   have HFIN:=qQ hfin
   have hqle:qn+q≤1000000:=by omega
   clear hone h1 hrow q1 q2 q3 q4 hev hql hqn hfin hG HA HG hx hl hl2 hlt hq
   go_wp2_with (at_builtin;go_loud (refine appRow ElV rfl (.tmp 61) (.tmp 62) rfl 0 (.slice eA qn ecap) qn (qs.flatMap z6) rfl HQ.out.1 0 _ q (ps.flatMap z6) rfl HROW.out.1 HROW.out.2 (by omega) (by omega) (Nat.zero_le _) ?grow))
   case grow=>
    intro v' w5 hown hgr hat
    obtain⟨A5,cap5,rfl⟩:∃A5 cap5,v'= .slice A5 (qn+q) cap5:=by
     rcases qD hown with ⟨e,h1,_⟩|⟨g,cap,e,_⟩
     ·exact⟨none,0,by rw[e,h1]⟩
     ·exact⟨_,_,e⟩
    obtain⟨y1,y2,y3,y4,y5,y6,y7⟩:=HQ.out
    have G:Chg (λk=>r.ev.ownBlock=some k) wr w5:=qH hgr (λj e=>by rw[y5];exact e)
    have hWN:¬(r.ev.ownBlock=some W):=λe=>by
     have h1:=y2 W e
     rw[HFIN.out.wd.ob] at h1
     have:=(qy h1 (by omega) (by omega)).2
     omega
    have hb5:=Chg.keep G HFIN.out.wd.blk hWN
    have c13':w5.cell? ⟨W,13,none⟩=some (.slice eA qn ecap):=by rw[qJ hb5];exact congrArg some y5
    have f13':=qK hb5 13
    obtain⟨o',hT⟩:=HFIN.out.tolds hn1 (ks:=ps) (l:=l) (.slice A5 (qn+q) cap5) w5 qn y6 qs y4 y3 HKS.out HE.out.2.2.2.1 G (by rw[HE.out.2.2.2.2];exact hown) (by rw[y5];exact hat)
    have HT:=qQ hT
    clear y1 y2 y3 y4 y5 y6 y7 G hWN hb5 hT hown hgr hat HFIN HQ HKS HROW c13 f13
    go_wp2_with fail
    go_end0
    rw[HF.out]
    exact⟨_,o',_,rfl,HT.out,⟨rfl,rfl,rfl,rfl,rfl,rfl⟩,rfl⟩
end
end Go.Proofs.YtnpihllannobgaaGreatDoor
