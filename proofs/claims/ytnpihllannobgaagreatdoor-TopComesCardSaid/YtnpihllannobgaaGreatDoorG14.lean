/- Steps of the proof, part G14. No condition. -/
import Derived.Test.YtnpihllannobgaaGreatDoorG13
namespace Go.Proofs.YtnpihllannobgaaGreatDoor
set_option linter.unusedVariables false
set_option linter.unusedSimpArgs false
set_option maxRecDepth 100000
set_option maxHeartbeats 32000000
open Go.ChangeShapes Go.WideShapes Go.ChangeAt Go.RowKit
theorem nin_any(n a b:Int)(w:World):Calls Tryz.prog 48 #[.int .i64 n,.int .i64 a,.int .i64 b] w λe w'=>e= .returned (.bool (inR n a b))∧w'=w:=by
 by_cases h0:a≤n
 ·by_cases h1:n≤b
  ·have e:inR n a b=true:=jG h0 (by omega)
   rw[e]
   clear e
   go_enter Tryz.func48,Tryz.ntmps48
   go_wp2_with fail
   go_ret
   exact⟨rfl,rfl⟩
  ·have e:inR n a b=false:=jw (by omega)
   have h1:b<n:=by omega
   rw[e]
   clear e
   go_enter Tryz.func48,Tryz.ntmps48
   go_wp2_with fail
   go_ret
   exact⟨rfl,rfl⟩
 ·have e:inR n a b=false:=kK (by omega)
  have h0:n<a:=by omega
  rw[e]
  clear e
  go_enter Tryz.func48,Tryz.ntmps48
  go_wp2_with fail
  go_ret
  exact⟨rfl,rfl⟩
theorem jt(n:Int)(h0:0≤n)(h1:n<1099511627776)(w:World):Calls Tryz.prog 56 #[.int .i64 n] w λe w'=>e= .returned (.bool true)∧w'=w:=by
 go_enter Tryz.func56,Tryz.ntmps56
 go_wp2_with fail
 go_ret
 exact⟨rfl,rfl⟩
def PN(w0:World)(o0:Cls)(c:Cfg)(i b:Nat)(s:NSt)(V:Value→World→Cls→Prop)(en:Ending)(w':World):Prop:=
 ∃v o r,en= .returned v∧NAt w0 o0 c i b s w' o r∧V v w' o
def PV0(v:Value)(w:World)(e:Ending)(w':World):Prop:=e= .returned v∧w'=w
section
variable {w0 w:World}{o0 o:Cls}{c:Cfg}{i b:Nat}{s:NSt}{r:NR}
theorem nhas_any(h:NAt w0 o0 c i b s w o r)(q:Int)(hc:c.nodes≤16):Calls Tryz.prog 78 #[.pointer (some ⟨b,0,none⟩),.int .i64 q] w (PV0 (.bool (inR q 0 ((c.nodes:Int)-1))) w):=by
 have c0:w.cell? ⟨b,0,none⟩=some (.int .i64 c.nodes):=h.cell 0
 have HI:=qQ (λa b w=>nin_any q a b w)
 obtain⟨M,hM⟩:=qZ (inR q 0 ((c.nodes:Int)-1))
 have HM:=qQ hM
 rw[←hM]
 generalize c.nodes=n at *
 have hn:(n:Int)≤16:=by omega
 clear h hM hc
 go_enter Tryz.func78,Tryz.ntmps78
 go_wp2_with fail
 (with_reducible refine (HI.out _ _ _).mono ?_)
 rintro en w1 ⟨rfl,rfl⟩
 go_wp2_with fail
 have hm:=HM.out
 subst hm
 go_ret
 exact⟨rfl,rfl⟩
def clkN(s:NSt)(x y z:Int):NSt:={s with base:=x,sum:=y,slots:=z}
def lisN(s:NSt)(x:Int):NSt:={s with listened:=x}
theorem NAt.clk{w':World}{x y z:Int}(h:NAt w0 o0 c i b s w o r)(k:Ck w' r.clk x y z)(g0:Chg (· =r.clk) w w'):NAt w0 o0 c i b (clkN s x y z) w' o r:=by
 have ho:=h.nd.np.2.2.1.2
 have g:Chg (Of o (cl i 1)) w w':=g0.mono (λk _ e=>by subst e;exact ho)
 refine h.part 1 (by omega) (Ext.refl _ _) (h.z.more g.size) g rfl (λo0 o=>?_)
 obtain⟨p1,p2,p3,p4,p5,p6,p7,p8,p9,pa,pb⟩:=h.nd.np
 exact⟨p1.step (Ext.refl _ _) g o0,p2.step (Ext.refl _ _) g o0,⟨k,ho⟩,p4.step (Ext.refl _ _) g (o 2 (by omega) (by omega)),p5.step (Ext.refl _ _) g (o 3 (by omega) (by omega)),
  p6.step (Ext.refl _ _) g (o 4 (by omega) (by omega)),p7.step (Ext.refl _ _) g (o 5 (by omega) (by omega)),p8.step (Ext.refl _ _) g (o 6 (by omega) (by omega)),
  p9.step (Ext.refl _ _) g (o 7 (by omega) (by omega)),pa.step (Ext.refl _ _) g (o 8 (by omega) (by omega)),pb.step (Ext.refl _ _) g (o 9 (by omega) (by omega))⟩
theorem NAt.lis(h:NAt w0 o0 c i b s w o r)(x:Int):NAt w0 o0 c i b (lisN s x) (w.setCell ⟨b,21,none⟩ (.int .i64 x)) o r:=h.set 21 _ rfl h.nd.np
def vy(i:Nat)(p:Int)(s:NSt):NSt:=
 lisN (clkN s s.base (s.sum+cutf (if i=0 then 0 else p) 100*10000) (s.slots+1)) (if s.synced then s.listened else s.listened+1)
theorem nslot_any(h:NAt w0 o0 c i b s w o r)(now p:Int)(h0:0≤now)(h1:now<1099511627776)(hs: -1000000000000≤s.sum∧s.sum≤1000000000000)(hz:0≤s.slots∧s.slots≤1000000)(hl:0≤s.listened∧s.listened≤1000000):
  Calls Tryz.prog 53 #[.pointer (some ⟨b,0,none⟩),.int .i64 now,.int .i64 p] w (PN w0 o0 c i b (vy i p s) (λv _ _=>v= .tuple #[])):=by
 have HA:=qQ (λw=>jt now h0 h1 w)
 have c1:w.cell? ⟨b,9,none⟩=some (.int .i64 i):=h.cell 9
 have c2:w.cell? ⟨b,10,none⟩=some (.pointer (some ⟨r.clk,0,none⟩)):=h.cell 10
 obtain⟨q,hq⟩:=qZ ((if i=0 then 0 else p))
 obtain⟨y,hy⟩:=qZ (s.sum+cutf q 100*10000)
 have hk:=ckslot_any w r.clk s.base s.sum s.slots q h.nd.np.2.2.1.1 hs hz
 have hg:vy i p s=lisN (clkN s s.base y (s.slots+1)) (if s.synced then s.listened else s.listened+1):=by rw[hy,hq];rfl
 rw[←hy] at hk
 have HH:=qQ (λw'=>h.clk (w':=w') (x:=s.base) (y:=y) (z:=s.slots+1))
 have HK:=qQ hk
 obtain⟨ck,hck⟩:=qZ r.clk
 rw[←hck] at c2 HH HK
 obtain⟨X,hX⟩:=qZ (clkN s s.base y (s.slots+1))
 rw[←hX] at HH hg
 have hsy:X.synced=s.synced:=by rw[hX];rfl
 have hli:X.listened=s.listened:=by rw[hX];rfl
 obtain⟨l0,l1⟩:=hl
 have e1:IntKind.i64.wrap (s.listened+1)=s.listened+1:=IntWalk.i64_in _ (by omega)
 obtain⟨F,hF⟩:=qZ (vy i p s)
 rw[←hF] at hg ⊢
 have HG:=qQ hg
 clear hX hg hck hk hy h hF
 by_cases hi:i=0
 ·subst hi
  rw[if_pos rfl] at hq
  subst hq
  go_enter Tryz.func53,Tryz.ntmps53
  go_wp2_with fail
  (with_reducible refine (HA.out _).mono ?_)
  rintro en w1 ⟨rfl,rfl⟩
  go_wp2_with fail
  with_reducible refine HK.out.mono ?_
  rintro en w1 ⟨rfl,k1,k2⟩
  have K:=HH.out _ k1 k2
  have HKK:=qQ K
  have d1:w1.cell? ⟨b,18,none⟩=some (.bool s.synced):=(K.cell 18).trans (by rw[←hsy];rfl)
  have d2:w1.cell? ⟨b,21,none⟩=some (.int .i64 s.listened):=(K.cell 21).trans (by rw[←hli];rfl)
  have f2:=K.f 21
  clear k1 k2 K HH HK
  cases hsb:s.synced with
  |true=>
   rw[hsb] at d1 hsy
   go_wp2_with fail
   go_end0
   refine⟨_,o,r,rfl,?_,rfl⟩
   have hg:=HG.out
   rw[hsb,if_pos rfl,←hli] at hg
   rw[hg]
   exact HKK.out
  |false=>
   rw[hsb] at d1 hsy
   go_wp2_with fail
   go_end0
   refine⟨_,o,r,rfl,?_,rfl⟩
   have hg:=HG.out
   rw[hsb,if_neg (by decide)] at hg
   rw[hg]
   exact HKK.out.lis _
 ·rw[if_neg hi] at hq
  subst hq
  have hi':((i:Int)==0)=false:=by simp;omega
  go_enter Tryz.func53,Tryz.ntmps53
  go_wp2_with fail
  (with_reducible refine (HA.out _).mono ?_)
  rintro en w1 ⟨rfl,rfl⟩
  go_wp2_with fail
  with_reducible refine HK.out.mono ?_
  rintro en w1 ⟨rfl,k1,k2⟩
  have K:=HH.out _ k1 k2
  have HKK:=qQ K
  have d1:w1.cell? ⟨b,18,none⟩=some (.bool s.synced):=(K.cell 18).trans (by rw[←hsy];rfl)
  have d2:w1.cell? ⟨b,21,none⟩=some (.int .i64 s.listened):=(K.cell 21).trans (by rw[←hli];rfl)
  have f2:=K.f 21
  clear k1 k2 K HH HK
  cases hsb:s.synced with
  |true=>
   rw[hsb] at d1 hsy
   go_wp2_with fail
   go_end0
   refine⟨_,o,r,rfl,?_,rfl⟩
   have hg:=HG.out
   rw[hsb,if_pos rfl,←hli] at hg
   rw[hg]
   exact HKK.out
  |false=>
   rw[hsb] at d1 hsy
   go_wp2_with fail
   go_end0
   refine⟨_,o,r,rfl,?_,rfl⟩
   have hg:=HG.out
   rw[hsb,if_neg (by decide)] at hg
   rw[hg]
   exact HKK.out.lis _
end
def rankN(i:Nat)(s:NSt):Int:=
 if s.synced then (if i=0 then 0 else match s.p with|none=>255|some x=>x.1) else 255
def qM(s:NSt):Int:=match s.p with|some (_,p::_)=>p.node|_=>64
def pktN(s:NSt):List Int×Int×Bool:=
 match s.q with
 |[]=>([],0,false)
 |(d,L)::_=>(L,if d=64 then qM s else d,decide ((if d=64 then qM s else d)≠64))
def syncE(i:Nat)(s:NSt)(now:Int):El:=⟨1,now,rankN i s,0,[]⟩
section
variable {w0 w:World}{o0 o:Cls}{c:Cfg}{i b:Nat}{s:NSt}{r:NR}
theorem nrank_any(h:NAt w0 o0 c i b s w o r)(hp:s.synced=true→i≠0→s.p≠none):Calls Tryz.prog 134 #[.pointer (some ⟨b,0,none⟩)] w (PV0 (.int .i64 (rankN i s)) w):=by
 have c1:w.cell? ⟨b,9,none⟩=some (.int .i64 i):=h.cell 9
 have c2:w.cell? ⟨b,18,none⟩=some (.bool s.synced):=h.cell 18
 have c3:w.cell? ⟨b,19,none⟩=some r.pv:=h.cell 19
 have hpo:=h.nd.np.2.2.2.2.2.2.2.1
 clear h
 unfold rankN
 cases hs:s.synced with
 |false=>
  rw[hs] at c2
  rw[if_neg (by decide)]
  clear hpo c3 hp
  go_enter Tryz.func134,Tryz.ntmps134
  go_wp2_with fail
  go_ret
  exact⟨rfl,rfl⟩
 |true=>
  rw[hs] at c2
  rw[if_pos rfl]
  by_cases hi:i=0
  ·subst hi
   rw[if_pos rfl]
   clear hpo c3 hp
   go_enter Tryz.func134,Tryz.ntmps134
   go_wp2_with fail
   go_ret
   exact⟨rfl,rfl⟩
  ·rw[if_neg hi]
   have hi':((i:Int)==0)=false:=by simp;omega
   cases hsp:s.p with
   |none=>exact absurd hsp (hp hs hi)
   |some x=>
    rw[hsp] at hpo
    obtain⟨rank,L⟩:=x
    obtain⟨pb,row,e1,hP,_⟩:=hpo
    rw[e1] at c3
    have HR:=qQ (prank_any w pb row i rank L hP)
    clear hP hp
    go_enter Tryz.func134,Tryz.ntmps134
    go_wp2_with fail
    with_reducible refine HR.out.mono ?_
    rintro en w1 ⟨rfl,rfl⟩
    go_wp2_with fail
    go_ret
    exact⟨rfl,rfl⟩
theorem zZ(h:NAt w0 o0 c i b s w o r):Calls Tryz.prog 73 #[.pointer (some ⟨b,0,none⟩)] w (PV (.int .i64 (qM s)) w):=by
 have c3:w.cell? ⟨b,19,none⟩=some r.pv:=h.cell 19
 have hpo:=h.nd.np.2.2.2.2.2.2.2.1
 clear h
 unfold qM
 cases hsp:s.p with
 |none=>
  rw[hsp] at hpo
  have e1:r.pv= .pointer none:=hpo
  rw[e1] at c3
  have HR:=qQ (first_nil w)
  clear hpo
  go_enter Tryz.func73,Tryz.ntmps73
  go_wp2_with fail
  with_reducible refine HR.out.mono ?_
  rintro en w1 ⟨rfl,hG⟩
  have HG:=qQ hG
  clear hG
  go_wp2_with fail
  go_ret
  exact⟨rfl,HG.out⟩
 |some x=>
  rw[hsp] at hpo
  obtain⟨rank,L⟩:=x
  obtain⟨pb,row,e1,hP,_,_,_,_,hL,_⟩:=hpo
  rw[e1] at c3
  have HR:=qQ (first_any w pb row i rank L hP (by omega))
  clear hP
  cases L with
  |nil=>
   have HR:=qQ (show Calls Tryz.prog 119 #[.pointer (some ⟨pb,0,none⟩)] w (PV (.tuple #[.int .i64 0,.bool false]) w) from HR.out)
   clear hL
   go_enter Tryz.func73,Tryz.ntmps73
   go_wp2_with fail
   with_reducible refine HR.out.mono ?_
   rintro en w1 ⟨rfl,hG⟩
   have HG:=qQ hG
   clear hG
   go_wp2_with fail
   go_ret
   exact⟨rfl,HG.out⟩
  |cons p t=>
   have HR:=qQ (show Calls Tryz.prog 119 #[.pointer (some ⟨pb,0,none⟩)] w (PV (.tuple #[.int .i64 p.node,.bool true]) w) from HR.out)
   clear hL
   go_enter Tryz.func73,Tryz.ntmps73
   go_wp2_with fail
   with_reducible refine HR.out.mono ?_
   rintro en w1 ⟨rfl,hG⟩
   have HG:=qQ hG
   clear hG
   go_wp2_with fail
   go_ret
   exact⟨rfl,HG.out⟩
theorem nsync_any(h:NAt w0 o0 c i b s w o r)(now:Int)(hp:s.synced=true→i≠0→s.p≠none):
  Calls Tryz.prog 95 #[.pointer (some ⟨b,0,none⟩),.int .i64 now] w (PV (elV (syncE i s now) (.slice none 0 0)) w):=by
 have HR:=qQ (λw1 (h1:NAt w0 o0 c i b s w1 o r)=>nrank_any h1 hp)
 have H:=qQ h
 obtain⟨P,hP⟩:=qZ (PV (elV (syncE i s now) (.slice none 0 0)) w)
 rw[←hP]
 have HP:=qQ hP
 clear h hP
 go_enter Tryz.func95,Tryz.ntmps95
 go_wp2_with fail
 (with_reducible refine (HR.out _ (H.out.kept (Chg.alloc _ w _))).mono ?_)
 rintro en w1 ⟨rfl,rfl⟩
 go_wp2_with fail
 have k0:(w.alloc (Obj.cells #[Value.int .i64 1,Value.int .i64 now,Value.int .i64 (rankN i s),Value.int .i64 0,Value.slice none 0 0] 172)).heap[w.heap.size]? =_:=qV _ _
 obtain⟨k0,k1,k2,k3,k4⟩:=zN k0
 refine bodyPost_ret (v:=elV (syncE i s now) (.slice none 0 0)) (by simp[results,Tryz.results95,go_sem,k0,k1,k2,k3,k4];rfl) rfl ?_
 rw[HP.out]
 exact⟨rfl,Chg.alloc _ _ _⟩
def PPkt(x:List Int×Int×Bool)(w:World)(o:Cls)(en:Ending)(w':World):Prop:=
 ∃v,en= .returned (.tuple #[v,.int .i64 x.2.1,.bool x.2.2])∧BO w' o v x.1∧Chg (λ_=>False) w w'
theorem npacket_any(h:NAt w0 o0 c i b s w o r)(hq:s.q.length≤1000)(hl:∀p∈s.q,p.2.length≤1000):
  Calls Tryz.prog 96 #[.pointer (some ⟨b,0,none⟩)] w (PPkt (pktN s) w o):=by
 have c3:w.cell? ⟨b,11,none⟩=some (.pointer (some ⟨r.q,0,none⟩)):=h.cell 11
 obtain⟨v,lost,ps,q1,q2,q3,q4,q5,q6,q7,q8⟩:=h.nd.np.2.2.2.1
 have hb:Qb w r.q c.queue v lost ps:=⟨q1,q5⟩
 have H:=qQ h
 obtain⟨qb,hqb⟩:∃q,q=r.q:=⟨_,rfl⟩
 rw[←hqb] at c3 hb
 cases ps with
 |nil=>
  have e:pktN s=([],0,false):=by unfold pktN;rw[q8];rfl
  rw[e]
  have HQ:=qQ (qat_nil w qb c.queue lost v hb)
  clear e hb q1 q2 q3 q4 q5 q6 q7 q8 h hq hl hqb
  go_enter Tryz.func96,Tryz.ntmps96
  go_wp2_with fail
  with_reducible refine HQ.out.mono ?_
  rintro en w1 ⟨rfl,rfl⟩
  go_wp2_with fail
  go_ret3
  exact⟨_,rfl,BO.nil _ _,Chg.refl _ _⟩
 |cons p ps=>
  obtain⟨d,pv,L⟩:=p
  obtain⟨F,hF⟩:=qZ (pktN s)
  have e:F=(L,if d=64 then qM s else d,decide ((if d=64 then qM s else d)≠64)):=by rw[hF];unfold pktN;rw[q8];rfl
  rw[←hF]
  have hB:BO w o pv L:=q7 (d,pv,L) (by simp)
  have hl1:L.length≤1000:=by have:=hl (d,L) (by rw[q8];simp);exact this
  have hn:(((d,pv,L):QE)::ps).length≤1000:=by rw[q8] at hq;simpa using hq
  have HQ:=qQ (qat_any w qb c.queue lost v (d,pv,L) ps hb hn hB.bs (by show L.length≤_;omega))
  have hsl:∀p∈((d,pv,L):QE)::ps,∃A n c,p.2.1= .slice A n c:=λp hp=>by
   obtain⟨⟨A,c,e,_⟩,_⟩:=q7 p hp
   exact⟨A,_,c,e⟩
  have HT:=qQ (λw1 (g:Chg (λ_=>False) w w1)=>qto_any w1 qb c.queue lost v ((d,pv,L)::ps) (hb.kept g) hn hsl)
  have HE:=qQ (And.intro e hB)
  have HF:=qQ (λw1 (g:Chg (λ_=>False) w w1)=>zZ (h.kept g))
  have HZ:=qQ h.z
  have hcb:=hb
  clear hF e hb q1 q2 q3 q4 q5 q6 q7 q8 h hq hl hqb hB hn hsl hl1 hcb
  go_enter Tryz.func96,Tryz.ntmps96
  go_wp2_with fail
  with_reducible refine HQ.out.mono ?_
  rintro en w1 ⟨v1,rfl,hO,hG⟩
  have c3:w1.cell? ⟨b,11,none⟩=some (.pointer (some ⟨qb,0,none⟩)):=by rw[hG.cell (qP c3) (λe=>e),c3]
  have HB1:=qQ (And.intro (BO.of_own (own:=o) hO HE.out.2.2 HZ.out) hG)
  clear hO hG
  go_wp2_with fail
  (with_reducible refine (HT.out _ HB1.out.2).mono ?_)
  rintro en w2 ⟨v2,rfl,hO,hG⟩
  obtain⟨g,cap,cur,rfl,_,_,_,_⟩:=kZ hO (by simp)
  have d0:w2.cell? ⟨g,0,none⟩=some (.int .i64 d):=qr hO 0 _ rfl
  obtain⟨m,hm⟩:=qZ ((List.map Prod.fst (((d,pv,L):QE)::ps)).length)
  have hm0:0<m:=by rw[hm];simp
  rw[←hm]
  have HB2:=qQ (And.intro (HB1.out.1.keep hG (λ_ _ e=>e)) (HB1.out.2.trans hG))
  clear hO hG hm HB1
  by_cases h64:d=64
  ·subst h64
   go_wp2_with fail
   (with_reducible refine (HF.out _ HB2.out.2).mono ?_)
   rintro en w3 ⟨rfl,hG⟩
   have HB3:=qQ (And.intro (HB2.out.1.keep hG (λ_ _ e=>e)) (HB2.out.2.trans hG))
   clear hG HB2
   obtain⟨t,ht⟩:=qZ (qM s)
   have HE2:=qQ (And.intro HE.out.1 ht)
   rw[←ht]
   clear ht
   go_wp2_with fail
   have he:F=(L,t,!(t==64)):=by
    have e1:=HE2.out.1
    simp only[if_true] at e1
    rw[e1,←HE2.out.2]
    by_cases q:t=64 <;> simp[q]
   subst he
   go_ret3
   exact⟨_,rfl,HB3.out⟩
  ·have h64':(d==64)=false:=by simpa using h64
   go_wp2_with fail
   have he:F=(L,d,d != 64):=by
    rw[HE.out.1,if_neg h64]
    simp[h64]
   subst he
   go_ret3
   exact⟨_,rfl,HB2.out⟩
end
theorem ElV:ElS 29 44 10 112:=ElS.of (z:= .agg #[.int .i64 0,.int .i64 0,.int .i64 0,.int .i64 0,.int .i64 0,.int .i64 0,.int .i64 0,.int .i64 0,.slice none 0 0,.slice none 0 0]) (by kernel_rfl) (by kernel_rfl) (by decide+kernel) (by decide)
def evN(s:NSt)(e:Ev):NSt:={s with ev:=s.ev++[e]}
def noEv(s:NSt):NSt:={s with ev:=[]}
section
variable {w0 w w':World}{o0 o o':Cls}{c:Cfg}{i b:Nat}{s s':NSt}{r r':NR}
theorem NAt.upd(h:NAt w0 o0 c i b s w o r)(j:Nat)(hj:1≤j∧j≤9)(e:Ext w o o')(z:Z w' o')(g:Chg (λq=>o q=cl i j∨q=b) w w')(hc:w'.heap[b]? =some (.cells (vt c i r' s') 75 (0,0)))
  (hp:(∀k,o k=0→¬(o k=cl i j∨k=b))→(∀m,1≤m→m≠j→m<16→Off o (cl i m) (λq=>o q=cl i j∨q=b))→Np w' o' c i r' s'):NAt w0 o0 c i b s' w' o' r':=by
 have hb:=h.nd.ob
 have h0:∀k,o k=0→¬(o k=cl i j∨k=b):=λk h1 h2=>by
  rcases h2 with h2|h2
  ·rw[h1] at h2;exact qf i j h2.symm
  ·subst h2;rw[hb] at h1;exact qf i 0 h1
 refine h.next ⟨hc,?_,hp h0 ?_⟩ z e (g.mono (λq _ e=>?_))
 ·rw[e b (qX h.nd.blk)];exact hb
 ·intro m h1 hm h16 k hk h2
  rcases hk with hk|hk
  ·exact h0 k hk h2
  ·rcases h2 with h2|h2
   ·exact hm (zK (hk.symm.trans h2) (by omega) (by omega)).2
   ·subst h2;have:=(zK (hb.symm.trans hk) (by omega) (by omega)).2;omega
 ·rcases e with e|e
  ·exact⟨j,by omega,e⟩
  ·exact⟨0,by omega,by rw[e];exact hb⟩
theorem NAt.told(h:NAt w0 o0 c i b s w o r)(e:Ev)(pv dv:Value)(g cap n:Nat)(w5:World)(G:Chg (λk=>r.ev.ownBlock=some k) w w5)(hn:n=s.ev.length)
  (ps:List (Ev×Value×Value)) (e3:∀p∈ps,RV VI w o p.2.1 p.1.p.path∧BO w o p.2.2 p.1.p.data) (e4:s.ev=ps.map Prod.fst)
  (hrow:w5.ownsRow 0 44 10 (.slice (some ⟨g,0,none⟩) (n+1) cap) (n+1) (ps.flatMap jP++jP (e,pv,dv)))
  (hat:r.ev.ownBlock=some g∨w.heap.size≤g) (hlt:g<w5.heap.size) (hpd:RV VI w o pv e.p.path∧BO w o dv e.p.data):
  ∃o' r',NAt w0 o0 c i b (evN s e) (w5.setCell ⟨b,31,none⟩ (.slice (some ⟨g,0,none⟩) (n+1) cap)) o' r':=by
 obtain⟨p1,p2,p3,p4,p5,p6,p7,p8,p9,pa,_,_,e2,_,_⟩:=h.nd.np
 have hlen:ps.length=n:=by rw[hn,e4,List.length_map]
 have hbN:∀k,r.ev.ownBlock=some k→k≠b:=λk hk e=>by
  subst e;have h1:=e2 k hk;rw[h.nd.ob] at h1;have:=(zK h1 (by omega) (by omega)).2;omega
 have hlb:=qX h.nd.blk
 have hgb:g≠b:=by
  rcases hat with h1|h1
  ·exact hbN g h1
  ·omega
 have gs:=chg1 w5 b 31 (.slice (some ⟨g,0,none⟩) (n+1) cap)
 have G2:Chg (λq=>o q=cl i 9∨q=b) w (w5.setCell ⟨b,31,none⟩ (.slice (some ⟨g,0,none⟩) (n+1) cap)):=
  (G.mono (λk _ hk=>(.inl (e2 k hk):o k=cl i 9∨k=b))).trans (gs.mono (λk _ hk=> .inr hk))
 have hbk:(w5.setCell ⟨b,31,none⟩ (.slice (some ⟨g,0,none⟩) (n+1) cap)).heap[b]? =some (.cells (vt c i {r with ev:= .slice (some ⟨g,0,none⟩) (n+1) cap} (evN s e)) 75 (0,0)):=
  qB (Chg.keep G h.nd.blk (λe=>hbN b e rfl)) 31 _
 have hrw:(w5.setCell ⟨b,31,none⟩ (.slice (some ⟨g,0,none⟩) (n+1) cap)).ownsRow 0 44 10 (.slice (some ⟨g,0,none⟩) (n+1) cap) (ps++[(e,pv,dv)]).length ((ps++[(e,pv,dv)]).flatMap jP):=by
  have:=qY hrow gs (λk hk e=>by cases hk;exact hgb e)
  rw[List.flatMap_append,List.length_append,hlen]
  simpa using this
 have key:∀o',Ext w o o'→Z w5 o'→o' g=cl i 9→∃o' r',NAt w0 o0 c i b (evN s e) (w5.setCell ⟨b,31,none⟩ (.slice (some ⟨g,0,none⟩) (n+1) cap)) o' r':=by
  intro o' hE hZ hg
  refine⟨o',_,h.upd 9 (by omega) hE (hZ.more gs.size) G2 hbk (λa0 a=>?_)⟩
  have hob:o' b=cl i 0:=by rw[hE b hlb];exact h.nd.ob
  have hz0:∀j,o' j=0→¬j=b:=λj hj e=>by subst e;rw[hob] at hj;exact qf i 0 hj
  exact⟨p1.step hE G2 a0,p2.step hE G2 a0,p3.step hE G2 (a 1 (by omega) (by omega) (by omega)),p4.step hE G2 (a 2 (by omega) (by omega) (by omega)),p5.step hE G2 (a 3 (by omega) (by omega) (by omega)),
   p6.step hE G2 (a 4 (by omega) (by omega) (by omega)),p7.step hE G2 (a 5 (by omega) (by omega) (by omega)),p8.step hE G2 (a 6 (by omega) (by omega) (by omega)),
   p9.step hE G2 (a 7 (by omega) (by omega) (by omega)),pa.step hE G2 (a 8 (by omega) (by omega) (by omega)),
   ps++[(e,pv,dv)],hrw,λk hk=>by cases hk;exact hg,λp hp=>by
    rcases List.mem_append.1 hp with hp|hp
    ·exact⟨(e3 p hp).1.step hE G2 a0,(e3 p hp).2.step hE G2 a0⟩
    ·simp at hp;subst hp
     exact⟨hpd.1.step hE G2 a0,hpd.2.step hE G2 a0⟩,by simp[evN,e4]⟩
 rcases hat with h1|h1
 ·exact key o (Ext.refl _ _) (h.z.more G.size) (e2 g h1)
 ·exact key (cls o g (cl i 9)) (Ext.cls o g (cl i 9) h1) ((h.z.more G.size).cls _ hlt) (jp _ _ _)
theorem NAt.evrow(h:NAt w0 o0 c i b s w o r):∃A cap,r.ev= .slice A s.ev.length cap:=by
 obtain⟨p1,p2,p3,p4,p5,p6,p7,p8,p9,pa,ps,e1,e2,e3,e4⟩:=h.nd.np
 have hl:ps.length=s.ev.length:=by rw[e4,List.length_map]
 rcases qD e1 with ⟨e,h1,_⟩|⟨g,cap,e,_⟩
 ·exact⟨none,0,by rw[e,←hl,h1]⟩
 ·exact⟨_,_,by rw[e,hl]⟩
theorem jC(h:NAt w0 o0 c i b s w o r)(k q:Int)(hn:s.ev.length≤1000):Calls Tryz.prog 76 #[.pointer (some ⟨b,0,none⟩),.int .i64 k,.int .i64 q] w (PN w0 o0 c i b (evN s ⟨k,i,q,0,pk0⟩) (λv _ _=>v= .tuple #[])):=by
 have c1:w.cell? ⟨b,9,none⟩=some (.int .i64 i):=h.cell 9
 have c2:w.cell? ⟨b,31,none⟩=some r.ev:=h.cell 31
 have f2:w.frozen? ⟨b,31,none⟩=false:=h.f 31
 have H:=qQ h
 have hlb:=qX h.nd.blk
 obtain⟨A,cap,hev⟩:=h.evrow
 rw[hev] at c2
 obtain⟨F,hF⟩:=qZ (evN s ⟨k,i,q,0,pk0⟩)
 rw[←hF]
 have HF:=qQ hF
 obtain⟨n,hln⟩:=qZ s.ev.length
 rw[←hln] at c2 hn hev
 have HV:=qQ (And.intro hev hln)
 obtain⟨ps,e1,e2,e3,e4⟩:=h.nd.np.2.2.2.2.2.2.2.2.2.2
 have hpl:ps.length=n:=by rw[hln,e4,List.length_map]
 rw[hpl,hev] at e1
 have HROW:=qQ e1
 have HPL:=qQ (And.intro e3 e4)
 have hnb:∀k,(Value.slice A n cap).ownBlock=some k→k≠b:=λk hk e=>by
  rw[←hev] at hk
  have h1:=e2 k hk;rw[e,h.nd.ob] at h1;have:=(zK h1 (by omega) (by omega)).2;omega
 have HNB:=qQ hnb
 obtain⟨ei,z,i1,i2,i3,i4,i5,i6⟩:=ElV.2
 have hEI:=qQ (And.intro i1 (And.intro i2 (And.intro i3 (And.intro i4 (And.intro i5 i6)))))
 clear i1 i2 i3 i4 i5 i6
 obtain⟨ob,hob⟩:=qZ (Obj.cells #[Value.int .i64 k,.int .i64 i,.int .i64 q,.int .i64 0,.int .i64 0,.int .i64 0,.int .i64 0,.int .i64 0,.slice none 0 0,.slice none 0 0] 44)
 have HONE:=qQ (show∀u∈[Value.int .i64 k,.int .i64 i,.int .i64 q,.int .i64 0,.int .i64 0,.int .i64 0,.int .i64 0,.int .i64 0,.slice none 0 0,.slice none 0 0],u.oneCell'=true by intro u hu;simp at hu;rcases hu with rfl|rfl|rfl|rfl|rfl <;> rfl)
 have HLN:=qQ (show n+1≤maxLen∧(n+1)*112≤140737488355328 by unfold maxLen;omega)
 have c2a:=qN c2 ob
 rw[hob] at c2a
 clear h hev hln e1 e2 e3 e4 hF hpl hob ob hnb
 go_enter Tryz.func76,Tryz.ntmps76
 go_region_law
  ((
   refine step_append_lies (P:=Tryz.prog) _ (by rfl) (.tmp 10) (.tmp 18) 29 (by rfl) 0 44 ei z 10 112 Tryz.underlying29 hEI.out.1 hEI.out.2.1 hEI.out.2.2.1 hEI.out.2.2.2.1 hEI.out.2.2.2.2.1 hEI.out.2.2.2.2.2 (.slice A n cap) n (ps.flatMap jP) rfl (qY HROW.out ((Chg.alloc (λ_=>False) w (.cells #[.int .i64 k,.int .i64 i,.int .i64 q,.int .i64 0,.int .i64 0,.int .i64 0,.int .i64 0,.int .i64 0,.slice none 0 0,.slice none 0 0] 44)).trans (Chg.drew _ _)) (λ_ _ e=>e)) ⟨w.heap.size,0,none⟩ 1 1 [.int .i64 k,.int .i64 i,.int .i64 q,.int .i64 0,.int .i64 0,.int .i64 0,.int .i64 0,.int .i64 0,.slice none 0 0,.slice none 0 0] rfl rfl (World.news_of_block (w:=(w.alloc (.cells #[.int .i64 k,.int .i64 i,.int .i64 q,.int .i64 0,.int .i64 0,.int .i64 0,.int .i64 0,.int .i64 0,.slice none 0 0,.slice none 0 0] 44)).drew) (qV w (.cells #[.int .i64 k,.int .i64 i,.int .i64 q,.int .i64 0,.int .i64 0,.int .i64 0,.int .i64 0,.int .i64 0,.slice none 0 0,.slice none 0 0] 44))) HONE.out (by omega) HLN.out.1 HLN.out.2 (Nat.zero_le _) (w.heap.size+1) (by simp) ?_
   intro g5 cap5 w5 hown5 hgr5 hat5 hlt5
   have G5:Chg (λk=>(Value.slice A n cap).ownBlock=some k) w w5:=((Chg.alloc _ w (.cells #[.int .i64 k,.int .i64 i,.int .i64 q,.int .i64 0,.int .i64 0,.int .i64 0,.int .i64 0,.int .i64 0,.slice none 0 0,.slice none 0 0] 44)).trans (Chg.drew _ _)).trans (qH hgr5 (λj e=>e.symm▸rfl))
   have kb:=Chg.keep G5 H.out.nd.blk (λe=>HNB.out b e rfl)
   have k2:w5.cell? ⟨b,31,none⟩=some (.slice A n cap):=by rw[qJ kb];exact congrArg some HV.out.1
   have kf:w5.frozen? ⟨b,31,none⟩=false:=qK kb 31
   have HKB:=qQ kb
   have HG5:=qQ G5
   have HO5:=qQ (And.intro hown5 (And.intro hat5 hlt5))
   clear kb G5 hown5 hgr5 hat5 hlt5))
 all_goals
  go_wp2_with fail
  go_end0
  obtain⟨o',r',hN⟩:=H.out.told ⟨k,i,q,0,pk0⟩ (.slice none 0 0) (.slice none 0 0) g5 cap5 n w5 (by rw[HV.out.1];exact HG5.out) HV.out.2 ps HPL.out.1 HPL.out.2 HO5.out.1
   (by rw[HV.out.1];rcases HO5.out.2.1 with h|h;exact .inl h;right;omega) HO5.out.2.2 ⟨RV.nil _ _ _,BO.nil _ _⟩
  refine⟨_,o',r',rfl,?_,rfl⟩
  rw[HF.out]
  exact hN
theorem zk(h:NAt w0 o0 c i b s w o r):Calls Tryz.prog 70 #[.pointer (some ⟨b,0,none⟩)] w (PN w0 o0 c i b (noEv s) (λv w' o'=>Eo w' o' (cl i 9) v s.ev)):=by
 have c2:w.cell? ⟨b,31,none⟩=some r.ev:=h.cell 31
 have f2:w.frozen? ⟨b,31,none⟩=false:=h.f 31
 have hE:=h.nd.np.2.2.2.2.2.2.2.2.2.2
 obtain⟨A,cap,hev⟩:=h.evrow
 have h1:NAt w0 o0 c i b (noEv s) (w.setCell ⟨b,31,none⟩ (.slice none 0 0)) o {r with ev:= .slice none 0 0}:=by
  obtain⟨p1,p2,p3,p4,p5,p6,p7,p8,p9,pa,pb⟩:=h.nd.np
  exact h.set 31 _ rfl ⟨p1,p2,p3,p4,p5,p6,p7,p8,p9,pa,[],World.ownsRow_nil _ _ _ _,λk hk=>by (cases hk),λp hp=>by (cases hp),rfl⟩
 have h2:Eo (w.setCell ⟨b,31,none⟩ (.slice none 0 0)) o (cl i 9) r.ev s.ev:=hE.step (Ext.refl _ _) (chg1 w b 31 _) (λk hk e=>by
  subst e
  rw[h.nd.ob] at hk
  rcases hk with hk|hk
  ·exact qf i 0 hk
  ·have:=(zK hk (by omega) (by omega)).2;omega)
 have H1:=qQ (And.intro h1 h2)
 obtain⟨F,hF⟩:=qZ (noEv s)
 rw[←hF] at H1 ⊢
 obtain⟨E,hE2⟩:=qZ s.ev
 rw[←hE2] at H1 hev ⊢
 rw[hev] at c2 H1
 obtain⟨n,hn⟩:=qZ E.length
 rw[←hn] at c2 H1
 clear h hE h1 h2 hF hE2 hev hn
 go_enter Tryz.func70,Tryz.ntmps70
 go_wp2_with fail
 go_ret
 exact⟨_,o,_,rfl,H1.out.1,H1.out.2⟩
end
def kN(s:NSt)(x:Option Int):NSt:={s with k:=x}
def pN(s:NSt)(x:Option (Int×List Pa)):NSt:={s with p:=x}
def moveN(s:NSt)(n:Int):NSt:=clkN s (cutf (s.base+cutf n 1000000) 1000000000000) s.sum s.slots
def movesN(i:Nat)(s:NSt)(src n:Int):NSt:=evN (kN (moveN s n) (some 0)) ⟨7,i,src,0,pk0⟩
def qz(i:Nat)(s:NSt)(was:Int):NSt:=if qM s=was∨qM s=64 then s else evN s ⟨6,i,qM s,0,pk0⟩
def zR(s:NSt)(src rank now:Int):NSt:=pN s (match s.p with|none=>none|some (R,L)=>some (qy R L src rank now))
def zT(i:Nat)(s:NSt)(src ticks:Int):NSt:=if qM s=src then movesN i s src ticks else s
def qq(i:Nat)(s:NSt)(src rank now ticks:Int):NSt:=qz i (zT i (zR s src rank now) src ticks) (qM s)
theorem hearL_len(R:Int)(L:List Pa)(node rank now:Int)(h:L.length≤3):(qy R L node rank now).2.length≤3:=by
 unfold qy
 simp only[]
 split
 ·exact Nat.le_trans (List.length_filter_le _ _) h
 ·simp only[List.length_take];omega
theorem hearL_srt(R:Int)(L:List Pa)(node rank now:Int)(h:PSrt L):PSrt (qy R L node rank now).2:=by
 unfold qy
 simp only[]
 split
 ·exact h.filter _
 ·exact ((insP_srt _ _ (h.filter _)).filter _).take 3
theorem hearL_R(R:Int)(L:List Pa)(node rank now:Int)(h:0≤R∧R≤255)(hr:0≤rank):0≤(qy R L node rank now).1∧(qy R L node rank now).1≤255:=by
 unfold qy
 simp only[]
 split
 ·exact h
 ·simp only[];omega
section
variable {w0 w w':World}{o0 o o':Cls}{c:Cfg}{i b:Nat}{s s':NSt}{r r':NR}
theorem NAt.kset(h:NAt w0 o0 c i b s w o r){q:Nat}{x:Int}(hk:r.kv= .pointer (some ⟨q,0,none⟩))(hq:o q=cl i 7)(k:Kp w' q c.keep x)(hx:0≤x∧x≤1000000)(g0:Chg (· =q) w w'):NAt w0 o0 c i b (kN s (some x)) w' o r:=by
 have g:Chg (Of o (cl i 7)) w w':=g0.mono (λk _ e=>by subst e;exact hq)
 refine h.part 7 (by omega) (Ext.refl _ _) (h.z.more g.size) g rfl (λo0 o=>?_)
 obtain⟨p1,p2,p3,p4,p5,p6,p7,p8,p9,pa,pb⟩:=h.nd.np
 exact⟨p1.step (Ext.refl _ _) g o0,p2.step (Ext.refl _ _) g o0,p3.step (Ext.refl _ _) g (o 1 (by omega) (by omega)),p4.step (Ext.refl _ _) g (o 2 (by omega) (by omega)),p5.step (Ext.refl _ _) g (o 3 (by omega) (by omega)),
  p6.step (Ext.refl _ _) g (o 4 (by omega) (by omega)),p7.step (Ext.refl _ _) g (o 5 (by omega) (by omega)),p8.step (Ext.refl _ _) g (o 6 (by omega) (by omega)),
  ⟨q,hk,k,hq,hx⟩,pa.step (Ext.refl _ _) g (o 8 (by omega) (by omega)),pb.step (Ext.refl _ _) g (o 9 (by omega) (by omega))⟩
theorem NAt.pset(h:NAt w0 o0 c i b s w o r){q:Nat}{v v':Value}{R':Int}{L':List Pa}(hv:r.pv= .pointer (some ⟨q,0,none⟩))(hq:o q=cl i 6)(hvo:∀k,v.ownBlock=some k→o k=cl i 6)
  (g0:Chg (PsS q v) w w') (P:Ps w' q v' i R' L') (hn:∀k,v'.ownBlock=some k→v.ownBlock=some k∨w.heap.size≤k) (hR:0≤R'∧R'≤255) (hL:L'.length≤3) (hS:PSrt L'):
  ∃o',NAt w0 o0 c i b (pN s (some (R',L'))) w' o' r:=by
 have g:Chg (Of o (cl i 6)) w w':=g0.mono (λk _ e=>by
  rcases e with e|e
  ·subst e;exact hq
  ·exact hvo k e)
 have hlq:=h.nd.np.2.2.2.2.2.2.2.1
 have key:∀o',Ext w o o'→Z w' o'→(∀k,v'.ownBlock=some k→o' k=cl i 6)→o' q=cl i 6→NAt w0 o0 c i b (pN s (some (R',L'))) w' o' r:=by
  intro o' E Zz hk hq'
  refine h.part 6 (by omega) E Zz g rfl (λo0 o=>?_)
  obtain⟨p1,p2,p3,p4,p5,p6,p7,p8,p9,pa,pb⟩:=h.nd.np
  exact⟨p1.step E g o0,p2.step E g o0,p3.step E g (o 1 (by omega) (by omega)),p4.step E g (o 2 (by omega) (by omega)),p5.step E g (o 3 (by omega) (by omega)),
   p6.step E g (o 4 (by omega) (by omega)),p7.step E g (o 5 (by omega) (by omega)),⟨q,v',hv,P,hq',hk,hR.1,hR.2,hL,hS⟩,
   p9.step E g (o 7 (by omega) (by omega)),pa.step E g (o 8 (by omega) (by omega)),pb.step E g (o 9 (by omega) (by omega))⟩
 by_cases hcase:∃k,v'.ownBlock=some k∧w.heap.size≤k
 ·obtain⟨k,hk1,hk2⟩:=hcase
  have hkl:k<w'.heap.size:=(qg P.row hk1).2
  have hqk:q≠k:=λe=>P.ne hk1 e.symm
  exact⟨_,key (cls o k (cl i 6)) (Ext.cls o k _ hk2) ((h.z.more g.size).cls _ hkl) (λk' hk'=>by rw[hk1] at hk';cases hk';exact jp _ _ _) (by rw[cls_ne _ _ _ hqk];exact hq)⟩
 ·exact⟨_,key o (Ext.refl _ _) (h.z.more g.size) (λk hk=>by
   rcases hn k hk with h1|h1
   ·exact hvo k h1
   ·exact absurd ⟨k,hk,h1⟩ hcase) hq⟩
theorem nmoves_any(h:NAt w0 o0 c i b s w o r)(src n:Int)(hn:s.ev.length≤1000)(hb: -1000000000000000≤s.base∧s.base≤1000000000000000)(hk:s.k≠none):
  Calls Tryz.prog 159 #[.pointer (some ⟨b,0,none⟩),.int .i64 src,.int .i64 n] w (PN w0 o0 c i b (movesN i s src n) (λv _ _=>v= .tuple #[])):=by
 have c1:w.cell? ⟨b,10,none⟩=some (.pointer (some ⟨r.clk,0,none⟩)):=h.cell 10
 have hm:=ckmove_any w r.clk s.base s.sum s.slots n h.nd.np.2.2.1.1 hb
 have HM:=qQ hm
 have HC:=qQ (λw' k g=>h.clk (w':=w') (x:=cutf (s.base+cutf n 1000000) 1000000000000) (y:=s.sum) (z:=s.slots) k g)
 have H:=qQ h
 obtain⟨x,hx⟩:=Option.ne_none_iff_exists'.1 hk
 obtain⟨q,hq⟩:=qZ r.clk
 rw[←hq] at c1 HM HC
 have HX:=qQ hx
 obtain⟨F,hF⟩:=qZ (movesN i s src n)
 rw[←hF]
 have HF:=qQ hF
 clear h hm hk hx hq hF
 go_enter Tryz.func159,Tryz.ntmps159
 go_wp2_with fail
 with_reducible refine HM.out.mono ?_
 rintro en w1 ⟨rfl,k1,k2⟩
 have h1:=HC.out _ k1 k2
 have H1:=qQ (show NAt w0 o0 c i b (moveN s n) w1 o r from h1)
 clear h1 k1 k2 HC HM c1
 have hko:=H1.out.nd.np.2.2.2.2.2.2.2.2.1
 have e:(moveN s n).k=some x:=HX.out
 rw[e] at hko
 obtain⟨kb,hk1,hk2,hk3,hk4⟩:=hko
 have c3:w1.cell? ⟨b,20,none⟩=some r.kv:=H1.out.cell 20
 rw[hk1] at c3
 have HK:=qQ (kpheard_any w1 kb c.keep x hk2)
 have HK2:=qQ (λw' k g=>H1.out.kset (w':=w') (x:=0) hk1 hk3 k (by omega) g)
 clear e hk1 hk2 hk3 hk4
 go_wp2_with fail
 with_reducible refine HK.out.mono ?_
 rintro en w2 ⟨rfl,k1,k2⟩
 have H2:=qQ (HK2.out _ k1 k2)
 clear k1 k2 HK HK2 H1 c3
 have HV:=qQ (jC H2.out 7 src hn)
 go_wp2_with fail
 with_reducible refine HV.out.mono ?_
 rintro en w3 ⟨v,o3,r3,rfl,h3,rfl⟩
 have H3:=qQ h3
 clear h3 H2
 go_wp2_with fail
 go_end0
 refine⟨_,o3,r3,rfl,?_,rfl⟩
 rw[HF.out]
 exact H3.out
theorem nfollows_any(h:NAt w0 o0 c i b s w o r)(was:Int)(hn:s.ev.length≤1000):
  Calls Tryz.prog 75 #[.pointer (some ⟨b,0,none⟩),.int .i64 was] w (PN w0 o0 c i b (qz i s was) (λv _ _=>v= .tuple #[])):=by
 have HN:=qQ (zZ h)
 have HK:=qQ (λw' g=>h.kept (w':=w') g)
 obtain⟨F,hF⟩:=qZ (qz i s was)
 rw[←hF]
 unfold qz at hF
 obtain⟨f,hf⟩:=qZ (qM s)
 rw[←hf] at hF HN
 have HF:=qQ hF
 clear h hF hf
 by_cases h1:f=was
 ·subst h1
  go_enter Tryz.func75,Tryz.ntmps75
  go_wp2_with fail
  with_reducible refine HN.out.mono ?_
  rintro en w1 ⟨rfl,g⟩
  have H1:=qQ (HK.out _ g)
  clear g
  go_wp2_with fail
  go_end0
  refine⟨_,o,r,rfl,?_,rfl⟩
  rw[HF.out,if_pos (by simp)]
  exact H1.out
 ·have e1:(f != was)=true:=by simpa using h1
  by_cases h2:f=64
  ·subst h2
   go_enter Tryz.func75,Tryz.ntmps75
   go_wp2_with fail
   with_reducible refine HN.out.mono ?_
   rintro en w1 ⟨rfl,g⟩
   have H1:=qQ (HK.out _ g)
   clear g
   go_wp2_with fail
   go_end0
   refine⟨_,o,r,rfl,?_,rfl⟩
   rw[HF.out,if_pos (by simp)]
   exact H1.out
  ·have e2:(f != 64)=true:=by simpa using h2
   go_enter Tryz.func75,Tryz.ntmps75
   go_wp2_with fail
   with_reducible refine HN.out.mono ?_
   rintro en w1 ⟨rfl,g⟩
   have H1:=qQ (HK.out _ g)
   clear g
   go_wp2_with fail
   (with_reducible refine (jC H1.out 6 f hn).mono ?_)
   rintro en w3 ⟨v,o3,r3,rfl,h3,rfl⟩
   have H3:=qQ h3
   clear h3
   go_wp2_with fail
   go_end0
   refine⟨_,o3,r3,rfl,?_,rfl⟩
   rw[HF.out,if_neg (by intro h;rcases h with h|h;exact h1 h;exact h2 h)]
   exact H3.out
theorem hears1_ev(i:Nat)(s:NSt)(src ticks:Int):(zT i s src ticks).ev.length≤s.ev.length+1:=by
 unfold zT
 split
 ·show (s.ev++_).length≤_;simp
 ·omega
theorem nhears_any(h:NAt w0 o0 c i b s w o r)(src rank now ticks:Int)(hn:s.ev.length≤900)(hb: -1000000000000000≤s.base∧s.base≤1000000000000000)(hk:s.k≠none)(hp:s.p≠none)
  (hs:0≤src∧src≤15) (hm:src≠i) (hr:0≤rank∧rank≤255) (ht:0≤now):
  Calls Tryz.prog 107 #[.pointer (some ⟨b,0,none⟩),.int .i64 src,.int .i64 rank,.int .i64 now,.int .i64 ticks] w (PN w0 o0 c i b (qq i s src rank now ticks) (λv _ _=>v= .tuple #[])):=by
 have HN:=qQ (zZ h)
 have HK:=qQ (λw' g=>h.kept (w':=w') g)
 obtain⟨⟨R,L⟩,hx⟩:=Option.ne_none_iff_exists'.1 hp
 obtain⟨F,hF⟩:=qZ (qq i s src rank now ticks)
 rw[←hF]
 unfold qq at hF
 obtain⟨was,hw⟩:∃f,f=qM s:=⟨_,rfl⟩
 rw[←hw] at hF HN
 have hs1:zR s src rank now=pN s (some (qy R L src rank now)):=by unfold zR;rw[hx]
 rw[hs1] at hF
 have HF:=qQ hF
 clear h hF hw hs1 hp
 go_enter Tryz.func107,Tryz.ntmps107
 go_wp2_with fail
 with_reducible refine HN.out.mono ?_
 rintro en w1 ⟨rfl,g⟩
 have H1:=qQ (HK.out _ g)
 clear g HK HN
 have hpo:=H1.out.nd.np.2.2.2.2.2.2.2.1
 rw[hx] at hpo
 obtain⟨pb,row,e1,hP,hq1,hq2,hR0,hR1,hL,hS⟩:=hpo
 have c3:w1.cell? ⟨b,19,none⟩=some r.pv:=H1.out.cell 19
 rw[e1] at c3
 have HH:=qQ (pshear_any w1 pb row i R L src rank now hP hL hS hs hm hr ht ⟨hR0,hR1⟩)
 have HS:=qQ (λw' v' g P hn=>H1.out.pset (w':=w') (v':=v') e1 hq1 hq2 g P hn (hearL_R R L src rank now ⟨hR0,hR1⟩ hr.1) (hearL_len R L src rank now hL) (hearL_srt R L src rank now hS))
 clear e1 hP hq1 hq2 hR0 hR1 hL hS
 go_wp2_with fail
 with_reducible refine HH.out.mono ?_
 rintro en w2 ⟨t,v',rfl,hP2,hg2,hv2⟩
 obtain⟨o2,h2⟩:=HS.out w2 v' hg2 hP2 hv2
 have H2:=qQ h2
 clear h2 hP2 hg2 hv2 HS HH H1 c3
 obtain⟨s1,hs1⟩:=qZ (pN s (some (qy R L src rank now)))
 have hn1:s1.ev.length≤900:=by rw[hs1];exact hn
 have hb1: -1000000000000000≤s1.base∧s1.base≤1000000000000000:=by rw[hs1];exact hb
 have hk1:s1.k≠none:=by rw[hs1];exact hk
 have HF1:=qQ HF.out
 have H2:=qQ (show NAt w0 o0 c i b (pN s (some (qy R L src rank now))) w2 o2 r from H2.out)
 rw[←hs1] at H2 HF1
 clear hs1 hn hb hk hx HF
 have HN2:=qQ (zZ H2.out)
 have HK2:=qQ (λw' g=>H2.out.kept (w':=w') g)
 obtain⟨f,hf⟩:=qZ (qM s1)
 rw[←hf] at HN2
 have HFS:=qQ hf
 clear H2 hf
 have hev:=hears1_ev i s1 src ticks
 by_cases hfs:f=src
 ·subst hfs
  have e0:(f==f)=true:=by simp
  go_wp2_with fail
  with_reducible refine HN2.out.mono ?_
  rintro en w3 ⟨rfl,g⟩
  have H3:=qQ (HK2.out _ g)
  have HM:=qQ (nmoves_any H3.out f ticks (by omega) hb1 hk1)
  clear g HK2 HN2
  go_wp2_with fail
  with_reducible refine HM.out.mono ?_
  rintro en w4 ⟨v,o4,r4,rfl,h4,rfl⟩
  have hs2:zT i s1 f ticks=movesN i s1 f ticks:=by unfold zT;rw[←HFS.out];simp
  rw[←hs2] at h4
  have HW:=qQ (nfollows_any h4 was (by omega))
  clear h4 HM H3
  go_wp2_with fail
  with_reducible refine HW.out.mono ?_
  rintro en w5 ⟨v,o5,r5,rfl,h5,rfl⟩
  have H5:=qQ h5
  clear h5 HW
  go_wp2_with fail
  go_end0
  refine⟨_,o5,r5,rfl,?_,rfl⟩
  rw[HF1.out]
  exact H5.out
 ·have e0:(f==src)=false:=by simpa using hfs
  go_wp2_with fail
  with_reducible refine HN2.out.mono ?_
  rintro en w3 ⟨rfl,g⟩
  have h3:=HK2.out _ g
  have hs2:zT i s1 src ticks=s1:=by unfold zT;rw[←HFS.out,if_neg hfs]
  rw[←hs2] at h3
  have HW:=qQ (nfollows_any h3 was (by omega))
  clear h3 g HK2 HN2
  go_wp2_with fail
  with_reducible refine HW.out.mono ?_
  rintro en w5 ⟨v,o5,r5,rfl,h5,rfl⟩
  have H5:=qQ h5
  clear h5 HW
  go_wp2_with fail
  go_end0
  refine⟨_,o5,r5,rfl,?_,rfl⟩
  rw[HF1.out]
  exact H5.out
end
def zV(f:Fr)(now:Int):Int×Bool:=match zH f.ies 1 with|none=>(0,false)|some e=>(e.rank,e.asn==now)
theorem nrankf_any(w:World)(own:Cls)(f:Fr)(iv:Value)(B:Option Addr)(m cb:Nat)(now:Int)(hi:IeO w own iv f.ies)(hE:f.ies.length≤100000)(hll:∀e∈f.ies,e.list.length≤100000):
  Calls Tryz.prog 66 #[frV f iv (.slice B m cb),.int .i64 now] w (PV (.tuple #[.int .i64 (zV f now).1,.bool (zV f now).2]) w):=by
 have ga:=Chg.alloc (λ_=>False) w (.cells #[.int .i64 f.kind,.int .i64 f.src,.int .i64 f.dst,.int .i64 f.seq,iv,.slice B m cb] 71)
 have hba:=qV w (.cells #[.int .i64 f.kind,.int .i64 f.src,.int .i64 f.dst,.int .i64 f.seq,iv,.slice B m cb] 71)
 have hf:=zQ _ own iv f.ies 1 (hi.keep ga (λ_ _ e=>e)) hE hll
 obtain⟨A,c,e⟩:=hi.val
 obtain⟨P,hP⟩:=qZ (PV (.tuple #[.int .i64 (zV f now).1,.bool (zV f now).2]) w)
 rw[←hP]
 have HP:=qQ hP
 obtain⟨E,hE2⟩:=qZ (zH f.ies 1)
 rw[←hE2] at hf
 have HEE:=qQ hE2
 obtain⟨n,hn⟩:=qZ f.ies.length
 rw[←hn] at e
 subst e
 have HF:=qQ hf
 have HG:=qQ ga
 unfold frV
 clear hf ga hi hE hll hE2 hn hP
 have key:∀(x:El) (t:Bool),E.getD el0=x→E.isSome=t→Calls Tryz.prog 66 #[.agg #[.int .i64 f.kind,.int .i64 f.src,.int .i64 f.dst,.int .i64 f.seq,.slice A n c,.slice B m cb],.int .i64 now] w
   (PV (.tuple #[.int .i64 x.rank,.bool (t&&x.asn==now)]) w):=by
  intro x t hx ht
  have HF2:=qQ HF.out
  unfold PFind at HF2
  rw[hx,ht] at HF2
  obtain⟨b0,b1,b2,b3,b4,b5⟩:=qC hba
  clear hx ht HEE HF HP
  go_enter Tryz.func66,Tryz.ntmps66
  go_wp2_with fail
  with_reducible refine HF2.out.mono ?_
  rintro en w1 ⟨lv,rfl,hO,hG⟩
  have HG1:=qQ (HG.out.trans hG)
  obtain⟨lA,ln,lc,rfl⟩:∃A n c,lv= .slice A n c:=by
   rcases qD hO with ⟨e,_⟩|⟨g,cap,e,_⟩
   ·exact⟨_,_,_,e⟩
   ·exact⟨_,_,_,e⟩
  unfold elV
  clear hO hG b0 b1 b2 b3 b4 b5 HF2 HG
  go_wp2_with fail
  have hgb:=Chg.alloc (λ_=>False) w1 (.cells #[.int .i64 x.kind,.int .i64 x.asn,.int .i64 x.rank,.int .i64 x.ticks,.slice lA ln lc] 172)
  obtain⟨d0,d1,d2,d3,d4⟩:=zN (qV w1 (.cells #[.int .i64 x.kind,.int .i64 x.asn,.int .i64 x.rank,.int .i64 x.ticks,.slice lA ln lc] 172))
  have HG2:=qQ (HG1.out.trans hgb)
  generalize hW:w1.alloc (.cells #[.int .i64 x.kind,.int .i64 x.asn,.int .i64 x.rank,.int .i64 x.ticks,.slice lA ln lc] 172)=W at d0 d1 d2 d3 d4 HG2 hgb ⊢
  obtain⟨I,F,hI,hF,hFA⟩:=clsF W
  have c1:=qF hF d1
  have c2:=qF hF d2
  have HFF:=qQ hF
  have HFA:=qQ (hFA _ (Chg.drew _ _))
  clear hF hFA hba HG1 hgb d0 d1 d2 d3 d4 hW
  with_reducible refine qW F (by kernel_rfl) (by kernel_rfl) HFA.out ?_
  cases t with
  |true=>
   repeat (with_reducible refine wpQuiet_step (λK hK=>?_);go_simp;(with_reducible refine hK _ ?_;clear hK K))
   with_reducible refine wpQuiet_nil ?_
   intro _ hw'
   obtain⟨nq,rfl⟩:=hw'
   have G:=qQ (HG2.out.trans (HFF.out nq))
   clear c1 c2 HFF HFA hI HG2
   generalize F nq=w2 at *
   go_wp2_with fail
   go_ret2
   refine⟨?_,G.out⟩
   by_cases hq:x.asn=now <;> simp[hq]
  |false=>
   repeat (with_reducible refine wpQuiet_step (λK hK=>?_);go_simp;(with_reducible refine hK _ ?_;clear hK K))
   with_reducible refine wpQuiet_nil ?_
   intro _ hw'
   obtain⟨nq,rfl⟩:=hw'
   have G:=qQ (HG2.out.trans (HFF.out nq))
   clear c1 c2 HFF HFA hI HG2
   generalize F nq=w2 at *
   go_wp2_with fail
   go_ret2
   exact⟨rfl,G.out⟩
 rw[HP.out]
 unfold zV
 rw[←HEE.out]
 cases hEE:E with
 |none=>exact (key el0 false (by rw[hEE];rfl) (by rw[hEE];rfl)).mono (λe w' h=>h)
 |some x=>
  have:=key x true (by rw[hEE];rfl) (by rw[hEE];rfl)
  simpa using this
end Go.Proofs.YtnpihllannobgaaGreatDoor
