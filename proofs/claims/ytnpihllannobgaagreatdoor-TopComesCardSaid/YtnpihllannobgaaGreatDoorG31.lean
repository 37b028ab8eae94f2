/- Steps of the proof, part G31. No condition. -/
import Derived.Test.YtnpihllannobgaaGreatDoorG30
import Derived.Test.YtnpihllannobgaaGreatDoorG18
import Derived.Test.YtnpihllannobgaaGreatDoorG19
import Derived.Test.YtnpihllannobgaaGreatDoorG29
import Derived.Test.YtnpihllannobgaaGreatDoorG27
import Derived.Test.YtnpihllannobgaaGreatDoorG21
import Derived.Test.YtnpihllannobgaaGreatDoorG28
namespace Go.Proofs.YtnpihllannobgaaGreatDoor
set_option linter.unusedVariables false
set_option linter.unusedSimpArgs false
set_option maxRecDepth 100000
set_option maxHeartbeats 32000000
open Go.ChangeShapes Go.WideShapes Go.ChangeAt Go.RowKit
section
variable {w0 w w':World}{o0 o o':Cls}{c:Cfg}{i b:Nat}{s s':NSt}{r r':NR}
theorem next_lens(c:Cfg)(i:Nat)(s:NSt)(now:Int)(hh:c.hops.length≤16)(hl:∀p∈s.q,p.2.length≤1000):(nextN c i s now).ies.length≤100000∧(nextN c i s now).data.length≤100000∧∀e∈(nextN c i s now).ies,e.list.length≤100000:=by
 have hE:(syncE i s now).list=[]:=rfl
 have hp:(pktN s).1.length≤1000:=by
  unfold pktN
  cases hq:s.q with
  |nil=>simp
  |cons p t=>
   obtain⟨d,L⟩:=p
   exact hl (d,L) (by rw[hq];simp)
 unfold nextN
 split
 ·refine⟨by simp,by simp only[];omega,λe he=>?_⟩
  simp at he;subst he;rw[hE];simp
 ·split
  ·refine⟨by simp,by simp,λe he=>?_⟩
   simp at he;subst he;rw[hE];simp
  ·refine⟨by simp,by simp,λe he=>?_⟩
   simp at he
   rcases he with rfl|rfl
   ·rw[hE];simp
   ·simp only[];omega
theorem sendAt(h:NAt w0 o0 c i b s w o r)(sq now:Int)(f:Fr)(iA:Option Addr)(il ic:Nat)(dA:Option Addr)(dl dc:Nat):
  NAt w0 o0 c i b {s with seq:=sq,sasn:=now,skind:=f.kind,ssrc:=f.src,sdst:=f.dst,sseq:=f.seq,sopen:=f.kind != 3}
   (((((((((w.setCell ⟨b,15,none⟩ (.int .i64 sq)).setCell ⟨b,23,none⟩ (.int .i64 now)).setCell ⟨b,24,none⟩ (.int .i64 f.kind)).setCell ⟨b,25,none⟩ (.int .i64 f.src)).setCell ⟨b,26,none⟩ (.int .i64 f.dst)).setCell ⟨b,27,none⟩ (.int .i64 f.seq)).setCell ⟨b,28,none⟩ (.slice iA il ic)).setCell ⟨b,29,none⟩ (.slice dA dl dc)).setCell ⟨b,30,none⟩ (.bool (f.kind != 3)))
   o {r with ia:=iA,il:=il,ic:=ic,da:=dA,dl:=dl,dc:=dc}:=by
 have h1:=h.set (s':={s with seq:=sq}) (r':=r) 15 (.int .i64 sq) rfl h.nd.np
 have h2:=h1.set (s':={s with seq:=sq,sasn:=now}) (r':=r) 23 (.int .i64 now) rfl h1.nd.np
 have h3:=h2.set (s':={s with seq:=sq,sasn:=now,skind:=f.kind}) (r':=r) 24 (.int .i64 f.kind) rfl h2.nd.np
 have h4:=h3.set (s':={s with seq:=sq,sasn:=now,skind:=f.kind,ssrc:=f.src}) (r':=r) 25 (.int .i64 f.src) rfl h3.nd.np
 have h5:=h4.set (s':={s with seq:=sq,sasn:=now,skind:=f.kind,ssrc:=f.src,sdst:=f.dst}) (r':=r) 26 (.int .i64 f.dst) rfl h4.nd.np
 have h6:=h5.set (s':={s with seq:=sq,sasn:=now,skind:=f.kind,ssrc:=f.src,sdst:=f.dst,sseq:=f.seq}) (r':=r) 27 (.int .i64 f.seq) rfl h5.nd.np
 have h7:=h6.set (s':={s with seq:=sq,sasn:=now,skind:=f.kind,ssrc:=f.src,sdst:=f.dst,sseq:=f.seq}) (r':={r with ia:=iA,il:=il,ic:=ic}) 28 (.slice iA il ic) rfl h6.nd.np
 have h8:=h7.set (s':={s with seq:=sq,sasn:=now,skind:=f.kind,ssrc:=f.src,sdst:=f.dst,sseq:=f.seq}) (r':={r with ia:=iA,il:=il,ic:=ic,da:=dA,dl:=dl,dc:=dc}) 29 (.slice dA dl dc) rfl h7.nd.np
 exact h8.set (s':={s with seq:=sq,sasn:=now,skind:=f.kind,ssrc:=f.src,sdst:=f.dst,sseq:=f.seq,sopen:=f.kind != 3}) 30 (.bool (f.kind != 3)) rfl h8.nd.np
theorem chg9(W:World)(b:Nat)(v15 v0 v1 v2 v3 v4 v5 v6 v7:Value):
  Chg (· =b) W (((((((((W.setCell ⟨b,15,none⟩ v15).setCell ⟨b,23,none⟩ v0).setCell ⟨b,24,none⟩ v1).setCell ⟨b,25,none⟩ v2).setCell ⟨b,26,none⟩ v3).setCell ⟨b,27,none⟩ v4).setCell ⟨b,28,none⟩ v5).setCell ⟨b,29,none⟩ v6).setCell ⟨b,30,none⟩ v7):=
 ((((((((chg1 _ _ _ _).trans (chg1 _ _ _ _)).trans (chg1 _ _ _ _)).trans (chg1 _ _ _ _)).trans (chg1 _ _ _ _)).trans (chg1 _ _ _ _)).trans (chg1 _ _ _ _)).trans (chg1 _ _ _ _)).trans (chg1 _ _ _ _)
theorem nplan_send(hc:CfgOk c)(h:NAt w0 o0 c i b s w o r)(now:Int)(h0:0≤now)(h1:now<1099511627776)(hs:s.synced=true)(heq:now % (c.nodes:Int)=i)(hp:i≠0→s.p≠none)(hk:qM s≠64→s.k≠none)
  (hq:s.q.length≤1000) (hl:∀p∈s.q,p.2.length≤1000) (hsq:0≤s.seq∧s.seq≤255):
  Calls Tryz.prog 32 #[.pointer (some ⟨b,0,none⟩),.int .i64 now] w (PPlan w0 o0 c i b (jK c i s now)):=by
 have HA:=qQ (λw=>jt now h0 h1 w)
 have c18:w.cell? ⟨b,18,none⟩=some (.bool true):=by rw[←hs];exact h.cell 18
 have c2:w.cell? ⟨b,2,none⟩=some r.hv:=h.cell 2
 have HC:=qQ (show∀W,Chg (λ_=>False) w W→W.cell? ⟨b,0,none⟩=some (.int .i64 c.nodes)∧W.cell? ⟨b,9,none⟩=some (.int .i64 i) from λW g=>⟨(h.kept g).cell 0,(h.kept g).cell 9⟩)
 have H:=qQ h
 obtain⟨A,cap,hv,hro,hA,hcap,hmx⟩:=h.nd.np.2.1
 have hn0:=hc.n0
 have hn1:=hc.n1
 have HN:=qQ (λW (g:Chg (λ_=>False) w W)=>nnext_any (h.kept g) now (λ_=>hp) hk hq hl)
 obtain⟨m,hm⟩:∃m:Int,m=now % (c.nodes:Int):=⟨_,rfl⟩
 have e1:now.tmod (c.nodes:Int)=m:=by rw[hm];exact Int.tmod_eq_emod_of_nonneg h0
 have e2:IntKind.i64.wrap m=m:=IntWalk.i64_in _ (by rw[hm];have:=Int.emod_nonneg now (show (c.nodes:Int)≠0 by omega);have:=Int.emod_lt_of_pos now (show (0:Int)<c.nodes by omega);omega)
 have e4:¬c.nodes=0:=by omega
 have e5:(m != (i:Int))=false:=by rw[hm,heq];simp
 obtain⟨sq,hsqe⟩:∃x,x=(s.seq+1) % 256:=⟨_,rfl⟩
 have e6:IntKind.i64.wrap (s.seq+1)=s.seq+1:=IntWalk.i64_in _ (by omega)
 have e7:(s.seq+1).tmod 256=sq:=by rw[hsqe];exact Int.tmod_eq_emod_of_nonneg (by omega)
 have e8:IntKind.i64.wrap sq=sq:=IntWalk.i64_in _ (by omega)
 obtain⟨f,hf⟩:=qZ (nextN c i s now)
 have hlen:=next_lens c i s now hc.hops.2.2.2 hl
 rw[←hf] at HN hlen
 have HL:=qQ hlen
 obtain⟨P,hP⟩:=qZ (jK c i s now)
 have hP2:P=(sendN s f now,jW c.hops now,encO f):=by
  rw[hP];unfold jK vK;rw[hs,decide_eq_true heq,hf];rfl
 rw[←hP]
 have HP:=qQ hP2
 have HCH:=qQ (channel_any w A c.hops.length cap c.hops now (show Ro VI w o A _ c.hops from hro).rs hA hcap hmx hc.hops h0 h1)
 obtain⟨hl,hhl⟩:∃n,n=c.hops.length:=⟨_,rfl⟩
 rw[hv] at c2
 rw[←hhl] at c2 HCH
 obtain⟨ca,hca⟩:∃x,x=jW c.hops now:=⟨_,rfl⟩
 rw[←hca] at HCH HP
 have HSQ:=qQ hsqe
 clear h hro hP hP2 hm hhl hca heq hlen hf hsqe
 go_enter Tryz.func32,Tryz.ntmps32
 go_wp2_with fail
 (with_reducible refine (HA.out _).mono ?_)
 rintro en w1 ⟨rfl,rfl⟩
 go_wp2_with fail
 with_reducible refine HCH.out.mono ?_
 rintro en w2 ⟨rfl,hG⟩
 obtain⟨c0,c9⟩:=HC.out _ hG
 have HG2:=qQ hG
 clear hG c2 c18 HC HCH
 go_wp2_with fail
 obtain⟨I,F1,hI,hF1,hFA⟩:=clsF w2
 have k1:=qF hF1 c0
 have k2:=qF hF1 c9
 have HFF:=qQ hF1
 have HFA:=qQ (hFA _ (Chg.drew _ _))
 clear hF1 hFA c0 c9
 with_reducible refine qW F1 (by kernel_rfl) (by kernel_rfl) HFA.out ?_
 repeat ((with_reducible refine wpQuiet_step (λK hK=>?_));go_simp;(try (rw[if_neg];rotate_left;(intro h;cases h)));(with_reducible refine hK _ ?_);clear hK K)
 with_reducible refine wpQuiet_nil ?_
 intro _ hw'
 obtain⟨nq,rfl⟩:=hw'
 have HG3:=qQ (HG2.out.trans (HFF.out nq))
 have HN3:=qQ (HN.out _ HG3.out)
 clear k1 k2 HFF HFA hI HN HG2
 generalize F1 nq=w3 at *
 go_wp2_with fail
 with_reducible refine HN3.out.mono ?_
 rintro en w4 ⟨iv,dv,rfl,hI4,hD4,hG4⟩
 obtain⟨iA,ic,hiv⟩:=hI4.val
 obtain⟨⟨dA,dc,hdv,_⟩,_⟩:=id hD4
 obtain⟨il,hil⟩:∃n,n=f.ies.length:=⟨_,rfl⟩
 obtain⟨dl,hdl⟩:∃n,n=f.data.length:=⟨_,rfl⟩
 rw[←hil] at hiv
 rw[←hdl] at hdv
 subst hiv hdv
 have ga:=Chg.alloc (λ_=>False) w4 (.cells #[.int .i64 f.kind,.int .i64 f.src,.int .i64 f.dst,.int .i64 f.seq,.slice iA il ic,.slice dA dl dc] 71)
 have HB5:=qQ (qV w4 (.cells #[.int .i64 f.kind,.int .i64 f.src,.int .i64 f.dst,.int .i64 f.seq,.slice iA il ic,.slice dA dl dc] 71))
 have HG5:=qQ ((HG3.out.trans hG4).trans ga)
 have HZ:=qQ H.out.z
 have hfs:w1.heap.size≤w4.heap.size:=(HG3.out.trans hG4).size
 have HE:=qQ (fencode_any _ o (HZ.out.more HG5.out.size) f (.slice iA il ic) (.slice dA dl dc) (hI4.keep ga (λ_ _ e=>e)) (hD4.keep ga (λ_ _ e=>e)) HL.out.1 HL.out.2.1 HL.out.2.2)
 unfold frV at HE
 have HDB:=qQ hD4.2
 clear hil hdl hI4 hD4 hG4 HN3 ga HG3
 unfold frV
 go_wp2_with fail
 generalize w4.alloc (.cells #[.int .i64 f.kind,.int .i64 f.src,.int .i64 f.dst,.int .i64 f.seq,.slice iA il ic,.slice dA dl dc] 71)=w5 at *
 obtain⟨fb,hfb⟩:∃x,x=w4.heap.size:=⟨_,rfl⟩
 rw[←hfb] at HB5 hfs ⊢
 have HFS:=qQ hfs
 clear hfb hfs
 have HE2:=qQ (HE.out.mono (R':=λen w'=>∃y er,en= .returned (.tuple #[y,.int .i64 er])∧BO w' o y (encO f)∧Chg (λ_=>False) w5 w') (λen w' hpe=>by
  rcases hpe with ⟨hm1,y,he,hown,gq⟩|⟨hm1,he,gq⟩
  ·refine⟨y,0,he,?_,gq⟩
   unfold encO
   rw[if_pos hm1]
   exact BO.of_own hown (encF_byte f hm1 HDB.out) (λk hk=>HZ.out k (Nat.le_trans HG5.out.size hk))
  ·refine⟨_,1,he,?_,gq⟩
   unfold encO
   rw[if_neg (by simp[hm1])]
   exact BO.nil _ _))
 clear HE
 with_reducible refine HE2.out.mono ?_
 rintro en w6 ⟨y,er,rfl,hy,hG6⟩
 have H6:=qQ (H.out.kept (HG5.out.trans hG6))
 have hb6:=Chg.keep hG6 HB5.out (λe=>e)
 obtain⟨d0,d1,d2,d3,d4,d5⟩:=qC hb6
 have c15:w6.cell? ⟨b,15,none⟩=some (.int .i64 s.seq):=H6.out.cell 15
 have f15:=H6.out.f 15
 have c23:w6.cell? ⟨b,23,none⟩=some (.int .i64 s.sasn):=H6.out.cell 23
 have f23:=H6.out.f 23
 have c24:w6.cell? ⟨b,24,none⟩=some (.int .i64 s.skind):=H6.out.cell 24
 have f24:=H6.out.f 24
 have c25:w6.cell? ⟨b,25,none⟩=some (.int .i64 s.ssrc):=H6.out.cell 25
 have f25:=H6.out.f 25
 have c26:w6.cell? ⟨b,26,none⟩=some (.int .i64 s.sdst):=H6.out.cell 26
 have f26:=H6.out.f 26
 have c27:w6.cell? ⟨b,27,none⟩=some (.int .i64 s.sseq):=H6.out.cell 27
 have f27:=H6.out.f 27
 have c28:w6.cell? ⟨b,28,none⟩=some (.slice r.ia r.il r.ic):=H6.out.cell 28
 have f28:=H6.out.f 28
 have c29:w6.cell? ⟨b,29,none⟩=some (.slice r.da r.dl r.dc):=H6.out.cell 29
 have f29:=H6.out.f 29
 have c30:w6.cell? ⟨b,30,none⟩=some (.bool s.sopen):=H6.out.cell 30
 have f30:=H6.out.f 30
 have hne:¬fb=b:=by have:=qX H.out.nd.blk;have:=HFS.out;omega
 have hne2:¬b=fb:=λe=>hne e.symm
 have HY:=qQ hy
 clear hb6 hG6 hy HE2
 go_wp2_with fail
 have h7:=sendAt H6.out sq now f iA il ic dA dl dc
 have hch:=chg9 w6 b (.int .i64 sq) (.int .i64 now) (.int .i64 f.kind) (.int .i64 f.src) (.int .i64 f.dst) (.int .i64 f.seq) (.slice iA il ic) (.slice dA dl dc) (.bool (f.kind != 3))
 have H7:=qQ (And.intro h7 (HY.out.keep hch (λj hj e=>by have e:j=b:=e;subst e;rw[H6.out.nd.ob] at hj;exact qf i 0 hj)))
 clear hch h7
 go_ret2
 have he:sendN s f now= {s with seq:=sq,sasn:=now,skind:=f.kind,ssrc:=f.src,sdst:=f.dst,sseq:=f.seq,sopen:=f.kind != 3}:=by rw[HSQ.out];rfl
 rw[HP.out,he]
 exact⟨_,o,{r with ia:=iA,il:=il,ic:=ic,da:=dA,dl:=dl,dc:=dc},rfl,H7.out.1,y,rfl,H7.out.2⟩
end
structure PlanOk(i:Nat)(s:NSt):Prop where
 p:s.synced=true→i≠0→s.p≠none
 k:qM s≠64→s.k≠none
 q:s.q.length≤1000∧∀p∈s.q,p.2.length≤1000
 seq:0≤s.seq∧s.seq≤255
 slots:0≤s.slots∧s.slots≤1000000
 base: -1000000000000000≤s.base∧s.base≤1000000000000000
 sum: -1000000000000000≤s.sum∧s.sum≤1000000000000000
structure AckOk(c:Cfg)(i:Nat)(s:NSt)(L:List Int)(now:Int):Prop where
 ev:s.ev=[]
 len:L.length≤100000
 c:(s.synced=false∨s.sopen=false∨s.sasn≠now)∨
  (s.skind≠1∧(-1000000000000000≤s.base∧s.base≤1000000000000000)∧(s.p≠none→s.k≠none)∧(0≤s.sdst∧s.sdst<c.nodes)∧s.sdst≠i)
structure EndOk(c:Cfg)(i:Nat)(s:NSt)(now:Int):Prop where
 ev:s.ev=[]
 c:(i=0∨s.synced=false)∨∃R L x,s.p=some (R,L)∧s.k=some x∧qM (pN (kN s (some (vR x))) (some (R,keptL L now c.loss)))≠64
section
variable {w0 w w':World}{o0 o o':Cls}{c:Cfg}{i b:Nat}{s s':NSt}{r r':NR}
theorem nplan_all(hc:CfgOk c)(h:NAt w0 o0 c i b s w o r)(now:Int)(h0:0≤now)(h1:now<1099511627776)(hk:PlanOk i s):
  Calls Tryz.prog 32 #[.pointer (some ⟨b,0,none⟩),.int .i64 now] w (PPlan w0 o0 c i b (jK c i s now)):=by
 by_cases hs:s.synced=true
 ·by_cases hm:now % (c.nodes:Int)=i
  ·exact nplan_send hc h now h0 h1 hs hm (hk.p hs) hk.k hk.q.1 hk.q.2 hk.seq
  ·exact nplan_idle hc h now h0 h1 hs hm
 ·exact nplan_off hc h now h0 h1 (by simpa using hs) hk.slots
theorem nack_all(hc:CfgOk c)(h:NAt w0 o0 c i b s w o r)(now m:Int)(v:Value)(L:List Int)(hv:BO w o v L)(hk:AckOk c i s L now)(h0:0≤now):
  Calls Tryz.prog 36 #[.pointer (some ⟨b,0,none⟩),.int .i64 now,v,.int .i64 m] w (PN w0 o0 c i b (noEv (ackN i s L now)) (λv w' o'=>Eo w' o' (cl i 9) v (ackN i s L now).ev)):=by
 by_cases hcl:s.synced=false∨s.sopen=false∨s.sasn≠now
 ·have e:ackN i s L now=s:=by
   unfold ackN
   rcases hcl with h|h|h
   ·rw[h];simp
   ·rw[h];simp
   ·rw[decide_eq_false h];simp
  rw[e]
  refine (nack_closed h now m v hcl).mono (λen w' hp=>?_)
  obtain⟨rfl,rfl⟩:=hp
  rw[jM hk.ev,hk.ev]
  exact⟨_,o,r,rfl,h,Eo.nil _ _ _⟩
 ·rcases hk.c with hx|⟨k1,k2,k3,k4,k5⟩
  ·exact absurd hx hcl
  ·simp only[not_or,ne_eq,Classical.not_not] at hcl
   have hn:=hc.n1
   exact nack_any h now m v L hv hk.len ⟨by simpa using hcl.1,by simpa using hcl.2.1,hcl.2.2⟩ k1 hk.ev k2 k3 ⟨k4.1,by omega⟩ k5 h0
theorem nend_all(hc:CfgOk c)(h:NAt w0 o0 c i b s w o r)(now:Int)(h0:0≤now)(h1:now<1099511627776)(hk:EndOk c i s now):
  Calls Tryz.prog 38 #[.pointer (some ⟨b,0,none⟩),.int .i64 now] w (PN w0 o0 c i b (noEv (endS c i s now)) (λv w' o'=>Eo w' o' (cl i 9) v (endS c i s now).ev)):=by
 by_cases ho:i=0∨s.synced=false
 ·have e:endS c i s now=s:=by unfold endS;rw[if_pos ho]
  rw[e]
  refine (nend_off h now h0 h1 ho).mono (λen w' hp=>?_)
  obtain⟨rfl,rfl⟩:=hp
  rw[jM hk.ev,hk.ev]
  exact⟨_,o,r,rfl,h,Eo.nil _ _ _⟩
 ·rcases hk.c with hx|⟨R,L,x,k1,k2,k3⟩
  ·exact absurd hx ho
  ·have e:endS c i s now=endN i s R L x now c.loss:=by unfold endS;rw[if_neg ho,k1,k2]
   rw[e]
   simp only[not_or] at ho
   exact nend_keep hc h now h0 h1 ho.1 (by simpa using ho.2) R L x k1 k2 (by rw[hk.ev];simp) k3
theorem end_evp{now:Int}(hk:EndOk c i s now):EvP i c.nodes (endS c i s now).ev∧(endS c i s now).ev.length≤10:=by
 unfold endS
 split
 ·rw[hk.ev];exact⟨EvP.nil _ _,by simp⟩
 ·split
  ·unfold endN qz
   split
   ·show EvP i c.nodes s.ev∧s.ev.length≤10
    rw[hk.ev];exact⟨EvP.nil _ _,by simp⟩
   ·show EvP i c.nodes (s.ev++[_])∧(s.ev++[_]).length≤10
    rw[hk.ev]
    exact⟨EvP.snoc (EvP.nil _ _) _ (λe=>by rcases e with e|e <;> cases e) (λe=>by cases e),by simp⟩
  ·rw[hk.ev];exact⟨EvP.nil _ _,by simp⟩
end
section
variable {w0 w w':World}{o0 o o':Cls}{c:Cfg}{i b:Nat}{s s':NSt}{r r':NR}
def qmeas(b:Nat)(w:World):Nat:=
 match w.cell? ⟨b,11,none⟩ with
 |some (.pointer (some p))=>(match w.cell? ⟨p.block,1,none⟩ with|some (.slice _ n _)=>n|_=>0)
 |_=>0
theorem NAt.qm(h:NAt w0 o0 c i b s w o r):qmeas b w=s.q.length:=by
 have c11:w.cell? ⟨b,11,none⟩=some (.pointer (some ⟨r.q,0,none⟩)):=h.cell 11
 obtain⟨v,lost,ps,q1,q2,q3,q4,q5,q6,q7,q8⟩:=h.nd.np.2.2.2.1
 have hQ:Qb w r.q c.queue v lost ps:=⟨q1,q5⟩
 obtain⟨A,cp,e⟩:=hQ.val
 have c1:=hQ.c1
 rw[e] at c1
 unfold qmeas
 rw[c11]
 dsimp only
 rw[c1]
 dsimp only
 rw[q8,List.length_map]
theorem lostAt(h:NAt w0 o0 c i b s w o r):
  NAt w0 o0 c i b (lost0N s)
   ((((((((((((w.setCell ⟨b,18,none⟩ (.bool false)).setCell ⟨b,21,none⟩ (.int .i64 0)).setCell ⟨b,19,none⟩ (.pointer none)).setCell ⟨b,20,none⟩ (.pointer none)).setCell ⟨b,23,none⟩ (.int .i64 0)).setCell ⟨b,24,none⟩ (.int .i64 0)).setCell ⟨b,25,none⟩ (.int .i64 0)).setCell ⟨b,26,none⟩ (.int .i64 0)).setCell ⟨b,27,none⟩ (.int .i64 0)).setCell ⟨b,28,none⟩ (.slice none 0 0)).setCell ⟨b,29,none⟩ (.slice none 0 0)).setCell ⟨b,30,none⟩ (.bool false))
   o {r with pv:= .pointer none,kv:= .pointer none,ia:=none,il:=0,ic:=0,da:=none,dl:=0,dc:=0}:=by
 have h1:=h.set (s':={s with synced:=false}) (r':=r) 18 (.bool false) rfl h.nd.np
 have h2:=h1.set (s':={s with synced:=false,listened:=0}) (r':=r) 21 (.int .i64 0) rfl h1.nd.np
 have h3:=h2.set (s':={s with synced:=false,listened:=0,p:=none}) (r':={r with pv:= .pointer none}) 19 (.pointer none) rfl (by
  obtain⟨p1,p2,p3,p4,p5,p6,p7,p8,p9,pa,pb⟩:=h2.nd.np
  exact⟨p1,p2,p3,p4,p5,p6,p7,rfl,p9,pa,pb⟩)
 have h4:=h3.set (s':={s with synced:=false,listened:=0,p:=none,k:=none}) (r':={r with pv:= .pointer none,kv:= .pointer none}) 20 (.pointer none) rfl (by
  obtain⟨p1,p2,p3,p4,p5,p6,p7,p8,p9,pa,pb⟩:=h3.nd.np
  exact⟨p1,p2,p3,p4,p5,p6,p7,p8,rfl,pa,pb⟩)
 have h5:=h4.set (s':={s with synced:=false,listened:=0,p:=none,k:=none,sasn:=0}) (r':={r with pv:= .pointer none,kv:= .pointer none}) 23 (.int .i64 0) rfl h4.nd.np
 have h6:=h5.set (s':={s with synced:=false,listened:=0,p:=none,k:=none,sasn:=0,skind:=0}) (r':={r with pv:= .pointer none,kv:= .pointer none}) 24 (.int .i64 0) rfl h5.nd.np
 have h7:=h6.set (s':={s with synced:=false,listened:=0,p:=none,k:=none,sasn:=0,skind:=0,ssrc:=0}) (r':={r with pv:= .pointer none,kv:= .pointer none}) 25 (.int .i64 0) rfl h6.nd.np
 have h8:=h7.set (s':={s with synced:=false,listened:=0,p:=none,k:=none,sasn:=0,skind:=0,ssrc:=0,sdst:=0}) (r':={r with pv:= .pointer none,kv:= .pointer none}) 26 (.int .i64 0) rfl h7.nd.np
 have h9:=h8.set (s':={s with synced:=false,listened:=0,p:=none,k:=none,sasn:=0,skind:=0,ssrc:=0,sdst:=0,sseq:=0}) (r':={r with pv:= .pointer none,kv:= .pointer none}) 27 (.int .i64 0) rfl h8.nd.np
 have ha:=h9.set (s':={s with synced:=false,listened:=0,p:=none,k:=none,sasn:=0,skind:=0,ssrc:=0,sdst:=0,sseq:=0}) (r':={r with pv:= .pointer none,kv:= .pointer none,ia:=none,il:=0,ic:=0}) 28 (.slice none 0 0) rfl h9.nd.np
 have hb:=ha.set (s':={s with synced:=false,listened:=0,p:=none,k:=none,sasn:=0,skind:=0,ssrc:=0,sdst:=0,sseq:=0}) (r':={r with pv:= .pointer none,kv:= .pointer none,ia:=none,il:=0,ic:=0,da:=none,dl:=0,dc:=0}) 29 (.slice none 0 0) rfl ha.nd.np
 exact hb.set (s':=lost0N s) 30 (.bool false) rfl hb.nd.np
theorem nend_lost(hc:CfgOk c)(h:NAt w0 o0 c i b s w o r)(hin:i<c.nodes)(now:Int)(h0:0≤now)(h1:now<1099511627776)(hi:i≠0)(hsy:s.synced=true)(R:Int)(L:List Pa)(x:Int)(hp:s.p=some (R,L))(hk:s.k=some x)(hev:s.ev.length≤90)
  (hq:s.q.length≤800) (hql:∀p∈s.q,p.2.length≤100000)
  (hne:qM (pN (kN s (some (vR x))) (some (R,keptL L now c.loss)))=64):
  Calls Tryz.prog 38 #[.pointer (some ⟨b,0,none⟩),.int .i64 now] w (PN w0 o0 c i b (noEv (endLN i s)) (λv w' o'=>Eo w' o' (cl i 9) v (endLN i s).ev)):=by
 have HA:=qQ (λw=>jt now h0 h1 w)
 have c18:w.cell? ⟨b,18,none⟩=some (.bool true):=by rw[←hsy];exact h.cell 18
 have c9:w.cell? ⟨b,9,none⟩=some (.int .i64 i):=h.cell 9
 have c20:w.cell? ⟨b,20,none⟩=some r.kv:=h.cell 20
 have hi16:i<16:=by have:=hc.n1;omega
 have hko:=h.nd.np.2.2.2.2.2.2.2.2.1
 rw[hk] at hko
 obtain⟨kb,hk1,hk2,hk3,hk4⟩:=hko
 rw[hk1] at c20
 have HK:=qQ (kpslot_any w kb c.keep x (vR x) hk2 (by omega) (by omega) rfl)
 have HK2:=qQ (λw' k g=>h.kset (w':=w') (x:=vR x) hk1 hk3 k (by unfold vR;omega) g)
 have i0:((i:Int)==0)=false:=by simp;omega
 obtain⟨F,hF⟩:=qZ (endLN i s)
 rw[←hF]
 have HF0:=qQ hF
 have HQ:=qQ (And.intro hq (And.intro hql hev))
 clear h hk hk1 hk2 hk3 hk4 hsy hF hq hql hev
 go_enter Tryz.func38,Tryz.ntmps38
 go_wp2_with fail
 (with_reducible refine (HA.out _).mono ?_)
 rintro en w1 ⟨rfl,rfl⟩
 go_wp2_with fail
 with_reducible refine HK.out.mono ?_
 rintro en w2 ⟨rfl,k1,k2⟩
 have H2:=qQ (HK2.out _ k1 k2)
 clear k1 k2 HK HK2
 have HF:=qQ (zZ H2.out)
 go_wp2_with fail
 with_reducible refine HF.out.mono ?_
 rintro en w3 ⟨rfl,g3⟩
 have H3:=qQ (H2.out.kept g3)
 have hpo:=H3.out.nd.np.2.2.2.2.2.2.2.1
 obtain⟨pb,row,e1,hP,hq1,hq2,hR0,hR1,hL,hS⟩:=(show Po w3 o (cl i 6) r.pv i (some (R,L)) from hp▸hpo)
 have c19:w3.cell? ⟨b,19,none⟩=some (.pointer (some ⟨pb,0,none⟩)):=e1▸H3.out.cell 19
 have c6:w3.cell? ⟨b,6,none⟩=some (.int .i64 c.loss):=H3.out.cell 6
 have HO:=qQ (λW (g:Chg (λ_=>False) w3 W)=>psold_any W pb row i R L now c.loss (hP.kept g) hL h0 (by omega) (by have:=hc.l;omega) hc.l.2)
 have HPS:=qQ (λW (g:Chg (λ_=>False) w3 W) w' v' g2 P hn=>(H3.out.kept g).pset (w':=w') (v':=v') (R':=R) (L':=keptL L now c.loss) e1 hq1 hq2 g2 P hn ⟨hR0,hR1⟩ (Nat.le_trans (List.length_filter_le _ _) hL) (hS.filter _))
 clear g3 HF H2 hpo hP hq1 hq2 hR0 hR1 hL hS e1
 go_wp2_with fail
 go_still_tail 10,(by kernel_rfl)
 change wpList _ _ _ _ _ w3.drew
 go_wp2_with fail
 (with_reducible refine (HO.out _ (Chg.drew _ w3)).mono ?_)
 rintro en w4 ⟨vo,v',rfl,hP4,g4,hv4⟩
 obtain⟨o4,h4⟩:=HPS.out _ (Chg.drew _ w3) w4 v' g4 hP4 (λk hk=> .inl (by rw[←hv4];exact hk))
 have H4:=qQ h4
 have HF:=qQ (zZ h4)
 clear hP4 g4 hv4 h4 HPS HO c19 c6
 obtain⟨t,ht⟩:=qZ (qM (pN (kN s (some (vR x))) (some (R,keptL L now c.loss))))
 rw[←ht] at HF hne
 have t64:(t != 64)=false:=by simpa using hne
 obtain⟨was,hw⟩:∃f,f=qM (kN s (some (vR x))):=⟨_,rfl⟩
 rw[←hw]
 clear ht hw hne
 go_wp2_with fail
 with_reducible refine HF.out.mono ?_
 rintro en w5 ⟨rfl,g5⟩
 have h5:=H4.out.kept g5
 have f18:=h5.f 18
 have f19:=h5.f 19
 have f20:=h5.f 20
 have f21:=h5.f 21
 have f23:=h5.f 23
 have f24:=h5.f 24
 have f25:=h5.f 25
 have f26:=h5.f 26
 have f27:=h5.f 27
 have f28:=h5.f 28
 have f29:=h5.f 29
 have f30:=h5.f 30
 have d18:w5.cell? ⟨b,18,none⟩=some (.bool s.synced):=h5.cell 18
 have d19:w5.cell? ⟨b,19,none⟩=some (r.pv):=h5.cell 19
 have d20:w5.cell? ⟨b,20,none⟩=some (r.kv):=h5.cell 20
 have d21:w5.cell? ⟨b,21,none⟩=some (.int .i64 s.listened):=h5.cell 21
 have d23:w5.cell? ⟨b,23,none⟩=some (.int .i64 s.sasn):=h5.cell 23
 have d24:w5.cell? ⟨b,24,none⟩=some (.int .i64 s.skind):=h5.cell 24
 have d25:w5.cell? ⟨b,25,none⟩=some (.int .i64 s.ssrc):=h5.cell 25
 have d26:w5.cell? ⟨b,26,none⟩=some (.int .i64 s.sdst):=h5.cell 26
 have d27:w5.cell? ⟨b,27,none⟩=some (.int .i64 s.sseq):=h5.cell 27
 have d28:w5.cell? ⟨b,28,none⟩=some (.slice r.ia r.il r.ic):=h5.cell 28
 have d29:w5.cell? ⟨b,29,none⟩=some (.slice r.da r.dl r.dc):=h5.cell 29
 have d30:w5.cell? ⟨b,30,none⟩=some (.bool s.sopen):=h5.cell 30
 have H6:=qQ (lostAt h5)
 clear g5 HF H4 h5
 go_upto_region 11 with fail
 clear d18 d19 d20 d21 d23 d24 d25 d26 d27 d28 d29 d30 f18 f19 f20 f21 f23 f24 f25 f26 f27 f28 f29 f30
 generalize (((((((((((w5.setCell ⟨b,18,none⟩ (.bool false)).setCell ⟨b,21,none⟩ (.int .i64 0)).setCell ⟨b,19,none⟩ (.pointer none)).setCell ⟨b,20,none⟩ (.pointer none)).setCell ⟨b,23,none⟩ (.int .i64 0)).setCell ⟨b,24,none⟩ (.int .i64 0)).setCell ⟨b,25,none⟩ (.int .i64 0)).setCell ⟨b,26,none⟩ (.int .i64 0)).setCell ⟨b,27,none⟩ (.int .i64 0)).setCell ⟨b,28,none⟩ (.slice none 0 0)).setCell ⟨b,29,none⟩ (.slice none 0 0)).setCell ⟨b,30,none⟩ (.bool false)=w6 at *
 have h6':=H6.out
 generalize hr6:({r with pv:= .pointer none,kv:= .pointer none,ia:=none,il:=0,ic:=0,da:=none,dl:=0,dc:=0}:NR)=r6 at h6'
 have h6:NAt w0 o0 c i b (lost0N s) w6 o4 r6:=h6'
 have HE:=qQ (jC h6 3 0 (show s.ev.length≤1000 by have:=HQ.out.2.2;omega))
 clear H6 h6' h6 hr6
 go_wp2_with fail
 with_reducible refine HE.out.mono ?_
 rintro en w7 ⟨v7,o7,r7,rfl,h7,rfl⟩
 have HS:Hid (∃s2 o2 r2,NAt w0 o0 c i b s2 w7 o2 r2∧dropsN i s2.q s2=F∧s2.q.length≤800∧(∀p∈s2.q,p.2.length≤100000)∧s2.ev.length+s2.q.length≤900):=qQ
  ⟨_,o7,r7,h7,HF0.out.symm,HQ.out.1,HQ.out.2.1,by
   show (s.ev++[_]).length+s.q.length≤900
   have:=HQ.out
   rw[List.length_append]
   simp
   omega⟩
 clear h7 HE
 go_wp2_with fail
 go_loopw [] (λwr=>∃s2 o2 r2,NAt w0 o0 c i b s2 wr o2 r2∧dropsN i s2.q s2=F∧s2.q.length≤800∧(∀p∈s2.q,p.2.length≤100000)∧s2.ev.length+s2.q.length≤900) (λwr=>qmeas b wr)
 case atStart=>exact HS.out
 case round=>
  clear HS
  obtain⟨s2,o2,r2,h2,hF2,hq2,hql2,hev2⟩:=hrel
  have hqm:=h2.qm
  have c11:wr.cell? ⟨b,11,none⟩=some (.pointer (some ⟨r2.q,0,none⟩)):=h2.cell 11
  obtain⟨qv,lost,ps,q1,q2,q3,q4,q5,q6,q7,q8⟩:=h2.nd.np.2.2.2.1
  have HL:=qQ (qlen_any wr r2.q c.queue lost qv ps ⟨q1,q5⟩)
  have hlp:ps.length=s2.q.length:=by rw[q8,List.length_map]
  rw[hlp] at HL
  have H2:=qQ (And.intro h2 (And.intro hF2 (And.intro hq2 (And.intro hql2 (And.intro hev2 hqm)))))
  clear h2 hF2 hq2 hql2 hev2 hqm q1 q2 q3 q4 q5 q6 q7 q8 hlp
  cases hsq:s2.q with
  |nil=>
   rw[hsq] at HL
   have HTL:=qQ (zk H2.out.1)
   have hFs:F=s2:=by have:=H2.out.2.1;rw[hsq] at this;exact this.symm
   have HFS:=qQ hFs
   clear hFs hsq
   rw[show (([]:List (Int×List Int)).length:Int)=0 from rfl] at HL
   go_wp2_with fail
   with_reducible refine HL.out.mono ?_
   rintro en w8 ⟨rfl,rfl⟩
   go_wp2_with fail
   with_reducible refine HTL.out.mono ?_
   rintro en w9 ⟨v9,o9,r9,rfl,h9,hE9⟩
   have H9:=qQ (And.intro h9 hE9)
   clear h9 hE9 HTL
   go_wp2_with fail
   go_ret
   rw[HFS.out]
   exact⟨_,o9,r9,rfl,H9.out.1,H9.out.2⟩
  |cons p rest=>
   obtain⟨tt,LL⟩:=p
   rw[hsq] at HL
   obtain⟨k,hk⟩:∃k:Int,k=((((tt,LL)::rest).length:Nat):Int):=⟨_,rfl⟩
   rw[←hk] at HL
   have k0:(0:Int)<k:=by rw[hk];simp only[List.length_cons];omega
   have hx:=H2.out
   have hrl:rest.length≤800:=by have:=hx.2.2.1;rw[hsq] at this;simp only[List.length_cons] at this;omega
   have HLV:=qQ (nleaves_any hx.1 tt LL rest hsq hi16 hrl (hx.2.2.2.1 (tt,LL) (by rw[hsq];simp)))
   have HSQ:=qQ hsq
   clear hsq hk hx
   go_wp2_with fail
   with_reducible refine HL.out.mono ?_
   rintro en w8 ⟨rfl,rfl⟩
   go_wp2_with fail
   with_reducible refine HLV.out.mono ?_
   rintro en w9 ⟨v9,o9,r9,rfl,h9,lv2,dv2,rfl,hPO2⟩
   have hl9:NAt w0 o0 c i b (qh s2) w9 o9 r9:=by
    have e1:qh s2= {s2 with q:=rest,tries:=0}:=by unfold qh;rw[HSQ.out];rfl
    rw[e1];exact h9
   obtain⟨lA2,lc2,e',_⟩:=hPO2.1
   obtain⟨⟨dA2,dc2,e'',_⟩,_⟩:=hPO2.2
   have HN9:=qQ hl9
   have HPO9:=qQ hPO2
   subst e' e''
   have hFn:dropsN i rest (if (decP LL).1==0 then evN (qh s2) ⟨5,i,0,3,(decP LL).2⟩ else qh s2)=F:=by
    have:=H2.out.2.1;rw[HSQ.out] at this;exact this
   have HFN:=qQ hFn
   clear h9 hl9 hPO2 HLV HL hFn
   generalize (decP LL).2=pq at *
   generalize ((decP LL).1==0)=be at *
   obtain⟨pS,pD,pN,pL,pP,pT⟩:=pq
   unfold pkV
   dsimp only at *
   generalize hppn:pP.length=ppn at *
   generalize hptn:pT.length=ptn at *
   go_upto_region 14 with fail
   have ga:=Chg.alloc (λ_=>False) w9 (.cells #[.int .i64 pS,.int .i64 pD,.int .i64 pN,.int .i64 pL,.slice lA2 ppn lc2,.slice dA2 ptn dc2] 42)
   have hba:=qV w9 (.cells #[.int .i64 pS,.int .i64 pD,.int .i64 pN,.int .i64 pL,.slice lA2 ppn lc2,.slice dA2 ptn dc2] 42)
   have HN7:=qQ (HN9.out.kept ga)
   have HPO7:=qQ (HPO9.out.keep ga (λ_ _ e=>e))
   generalize w9.alloc (.cells #[.int .i64 pS,.int .i64 pD,.int .i64 pN,.int .i64 pL,.slice lA2 ppn lc2,.slice dA2 ptn dc2] 42)=wa at *
   obtain⟨d0,d1,d2,d3,d4,d5⟩:=qC hba
   clear ga hba HN9 HPO9
   have hqr:(qh s2).q=rest:=by unfold qh;rw[HSQ.out];rfl
   have hev3:(qh s2).ev.length+rest.length+1≤900:=by
    have:=H2.out.2.2.2.2.1
    rw[HSQ.out] at this
    simp only[List.length_cons] at this
    show s2.ev.length+rest.length+1≤900
    omega
   have HQR:=qQ (And.intro hqr (And.intro hev3 (show∀p∈rest,p.2.length≤100000 from λp hp=>H2.out.2.2.2.1 p (by rw[HSQ.out];exact List.mem_cons_of_mem _ hp))))
   have hm0:qmeas b w8=rest.length+1:=by
    rw[H2.out.2.2.2.2.2,HSQ.out];rfl
   have HM0:=qQ (And.intro hm0 hrl)
   clear hqr hev3 hm0 hrl
   cases be with
   |false=>
    clear d0 d1 d2 d3 d4 d5
    go_wp2_with fail
    refine⟨⟨qh s2,o9,r9,HN7.out,?_,?_,?_,?_⟩,?_⟩
    ·have:=HFN.out
     rw[if_neg (by simp)] at this
     rw[HQR.out.1];exact this
    ·rw[HQR.out.1];exact HM0.out.2
    ·rw[HQR.out.1];exact HQR.out.2.2
    ·rw[HQR.out.1];have:=HQR.out.2.1;omega
    ·rw[HM0.out.1,HN7.out.qm,HQR.out.1];omega
   |true=>
    have hDR:=jZ HN7.out ⟨pS,pD,pN,pL,pP,pT⟩ _ _ 3 HPO7.out (by have:=HQR.out.2.1;omega)
    unfold pkV at hDR
    have HDR:=qQ hDR
    clear hDR
    go_wp2_with fail
    with_reducible refine HDR.out.mono ?_
    rintro en wb ⟨vb,ob,rb,rfl,hb,rfl⟩
    have HB:=qQ hb
    clear hb d0 d1 d2 d3 d4 d5 HDR
    go_wp2_with fail
    refine⟨⟨evN (qh s2) ⟨5,i,0,3,⟨pS,pD,pN,pL,pP,pT⟩⟩,ob,rb,HB.out,?_,?_,?_,?_⟩,?_⟩
    ·have:=HFN.out
     rw[if_pos trivial] at this
     show dropsN i (qh s2).q _=F
     rw[HQR.out.1];exact this
    ·show (qh s2).q.length≤800
     rw[HQR.out.1];exact HM0.out.2
    ·show∀p∈(qh s2).q,p.2.length≤100000
     rw[HQR.out.1];exact HQR.out.2.2
    ·show ((qh s2).ev++[_]).length+(qh s2).q.length≤900
     rw[HQR.out.1,List.length_append];have:=HQR.out.2.1;simp;omega
    ·rw[HM0.out.1,HB.out.qm]
     show (qh s2).q.length<rest.length+1
     rw[HQR.out.1];omega
end
structure AckOkV(c:Cfg)(i:Nat)(s:NSt)(L:List Int)(now:Int):Prop where
 ev:s.ev=[]
 len:L.length≤100000
 c:(s.synced=false∨s.sopen=false∨s.sasn≠now)∨
  ((-1000000000000000≤s.base∧s.base≤1000000000000000)∧(s.p≠none→s.k≠none)∧(0≤s.sdst∧s.sdst<c.nodes)∧s.sdst≠i∧
   (s.skind=1→s.q≠[]∧s.q.length≤800∧(∀p∈s.q,p.2.length≤100000)∧(0≤s.tries∧s.tries≤1000)))
theorem ackDN_eq{i:Nat}{s:NSt}{L:List Int}{now:Int}(hk:s.skind≠1):vJ i s L now=ackN i s L now:=by
 unfold vJ ackN
 split
 ·split
  ·unfold acksN
   rw[if_neg (show (opnN s false).skind≠1 from hk)]
   unfold vm
   rfl
  ·unfold failN
   rw[if_neg (show (opnN s false).skind≠1 from hk)]
 ·rfl
theorem ackDN_closed{i:Nat}{s:NSt}{L:List Int}{now:Int}(h:s.synced=false∨s.sopen=false∨s.sasn≠now):vJ i s L now=s:=by
 unfold vJ
 rcases h with h|h|h
 ·rw[h];simp
 ·rw[h];simp
 ·rw[decide_eq_false h];simp
section
variable {w0 w w':World}{o0 o o':Cls}{c:Cfg}{i b:Nat}{s s':NSt}{r r':NR}
theorem nackV_all(hc:CfgOk c)(h:NAt w0 o0 c i b s w o r)(hi:i<c.nodes)(now m:Int)(v:Value)(L:List Int)(hv:BO w o v L)(hk:AckOkV c i s L now)(h0:0≤now):
  Calls Tryz.prog 36 #[.pointer (some ⟨b,0,none⟩),.int .i64 now,v,.int .i64 m] w (PN w0 o0 c i b (noEv (vJ i s L now)) (λv w' o'=>Eo w' o' (cl i 9) v (vJ i s L now).ev)):=by
 by_cases hcl:s.synced=false∨s.sopen=false∨s.sasn≠now
 ·rw[ackDN_closed hcl]
  refine (nack_closed h now m v hcl).mono (λen w' hp=>?_)
  obtain⟨rfl,rfl⟩:=hp
  rw[jM hk.ev,hk.ev]
  exact⟨_,o,r,rfl,h,Eo.nil _ _ _⟩
 ·rcases hk.c with hx|⟨k2,k3,k4,k5,k6⟩
  ·exact absurd hx hcl
  ·simp only[not_or,ne_eq,Classical.not_not] at hcl
   have hn:=hc.n1
   have hs:s.synced=true∧s.sopen=true∧s.sasn=now:=⟨by simpa using hcl.1,by simpa using hcl.2.1,hcl.2.2⟩
   by_cases h1:s.skind=1
   ·obtain⟨a1,a2,a3,a4⟩:=k6 h1
    exact nackd_any h now m v L hv hk.len hs h1 a1 (by omega) a2 a3 a4 hk.ev k2 k3 ⟨k4.1,by omega⟩ k5 h0
   ·rw[ackDN_eq h1]
    exact nack_any h now m v L hv hk.len hs h1 hk.ev k2 k3 ⟨k4.1,by omega⟩ k5 h0
theorem doneN_evp{s:NSt}{f:Fr}{tt rk now:Int}(hs:EvP i c.nodes s.ev)(ht:0≤tt∧tt<c.nodes):EvP i c.nodes (vm i s f tt rk now).ev∧(vm i s f tt rk now).ev.length≤s.ev.length+2:=by
 unfold vm
 split
 ·exact hearsN_evp hs _ _ _ _ ht
 ·exact⟨hs,by omega⟩
theorem ackV_evp{L:List Int}{now:Int}(hk:AckOkV c i s L now):EvP i c.nodes (vJ i s L now).ev∧(vJ i s L now).ev.length≤10:=by
 by_cases hcl:s.synced=false∨s.sopen=false∨s.sasn≠now
 ·rw[ackDN_closed hcl,hk.ev];exact⟨EvP.nil _ _,by simp⟩
 ·rcases hk.c with hx|⟨k2,k3,k4,k5,k6⟩
  ·exact absurd hx hcl
  ·have hE:EvP i c.nodes s.ev:=by rw[hk.ev];exact EvP.nil _ _
   have h0:s.ev.length=0:=by rw[hk.ev];rfl
   unfold vJ
   split
   ·split
    ·unfold acksN
     split
     ·obtain⟨a1,a2⟩:=doneN_evp (i:=i) (c:=c) (s:=qh (opnN s false)) (f:=(decF L).2) (tt:=s.sdst) (rk:=(zV (decF L).2 now).1) (now:=now) hE k4
      exact⟨a1,by have:(qh (opnN s false)).ev.length=0:=h0;omega⟩
     ·obtain⟨a1,a2⟩:=doneN_evp (i:=i) (c:=c) (s:=opnN s false) (f:=(decF L).2) (tt:=s.sdst) (rk:=(zV (decF L).2 now).1) (now:=now) hE k4
      exact⟨a1,by have:(opnN s false).ev.length=0:=h0;omega⟩
    ·unfold failN
     split
     ·split
      ·split
       ·refine⟨EvP.snoc (l:=s.ev) hE _ (λe=>by rcases e with e|e <;> cases e) (λe=>by cases e),?_⟩
        show (s.ev++[_]).length≤10
        rw[List.length_append];simp;omega
       ·exact⟨hE,by show s.ev.length≤10;omega⟩
      ·exact⟨hE,by show s.ev.length≤10;omega⟩
     ·exact⟨hE,by show s.ev.length≤10;omega⟩
   ·exact⟨hE,by omega⟩
theorem endDS_eq{now:Int}(hk:EndOk c i s now):jx c i s now=endS c i s now:=by
 unfold jx endS
 split
 ·rfl
 ·rename_i ho
  rcases hk.c with hx|⟨R,L,x,k1,k2,k3⟩
  ·exact absurd hx ho
  ·rw[k1,k2]
   dsimp only
   rw[if_neg k3]
theorem dropsN_evp{n:Nat}(L:List (Int×List Int)):∀s:NSt,EvP i n s.ev→EvP i n (dropsN i L s).ev∧(dropsN i L s).ev.length≤s.ev.length+L.length:=by
 induction L with
 |nil=>intro s h;exact⟨h,by show s.ev.length≤_;omega⟩
 |cons p rest ih=>
  intro s h
  unfold dropsN
  split
  ·obtain⟨a,b⟩:=ih (evN (qh s) ⟨5,i,0,3,(decP p.2).2⟩) (EvP.snoc (l:=s.ev) h _ (λe=>by rcases e with e|e <;> cases e) (λe=>by cases e))
   refine⟨a,?_⟩
   have:(evN (qh s) ⟨5,i,0,3,(decP p.2).2⟩).ev.length=s.ev.length+1:=by show (s.ev++[_]).length=_;simp
   simp only[List.length_cons]
   omega
  ·obtain⟨a,b⟩:=ih (qh s) h
   refine⟨a,?_⟩
   have:(qh s).ev.length=s.ev.length:=rfl
   simp only[List.length_cons]
   omega
structure EndOkV(c:Cfg)(i:Nat)(s:NSt)(now:Int):Prop where
 ev:s.ev=[]
 c:(i=0∨s.synced=false)∨∃R L x,s.p=some (R,L)∧s.k=some x∧(qM (pN (kN s (some (vR x))) (some (R,keptL L now c.loss)))≠64∨(s.q.length≤800∧∀p∈s.q,p.2.length≤100000))
theorem EndOk.v{now:Int}(h:EndOk c i s now):EndOkV c i s now:=⟨h.ev,h.c.elim .inl (λ⟨R,L,x,a,b,e⟩=> .inr ⟨R,L,x,a,b,.inl e⟩)⟩
theorem EndOkV.cases{now:Int}(h:EndOkV c i s now):EndOk c i s now∨(i≠0∧s.synced=true∧∃R L x,s.p=some (R,L)∧s.k=some x∧qM (pN (kN s (some (vR x))) (some (R,keptL L now c.loss)))=64∧s.q.length≤800∧(∀p∈s.q,p.2.length≤100000)∧jx c i s now=endLN i s):=by
 by_cases h0:i=0∨s.synced=false
 ·exact .inl ⟨h.ev,.inl h0⟩
 ·rcases h.c with hx|⟨R,L,x,k1,k2,k3⟩
  ·exact absurd hx h0
  ·by_cases hf:qM (pN (kN s (some (vR x))) (some (R,keptL L now c.loss)))=64
   ·rcases k3 with k3|⟨k3,k4⟩
    ·exact absurd hf k3
    ·refine .inr ⟨λe=>h0 (.inl e),?_,R,L,x,k1,k2,hf,k3,k4,?_⟩
     ·cases hs:s.synced with
      |true=>rfl
      |false=>exact absurd (.inr hs) h0
     ·unfold jx
      rw[if_neg h0,k1,k2]
      dsimp only
      rw[if_pos hf]
   ·exact .inl ⟨h.ev,.inr ⟨R,L,x,k1,k2,hf⟩⟩
theorem nendV_all(hc:CfgOk c)(h:NAt w0 o0 c i b s w o r)(hi:i<c.nodes)(now:Int)(h0:0≤now)(h1:now<1099511627776)(hk:EndOkV c i s now):
  Calls Tryz.prog 38 #[.pointer (some ⟨b,0,none⟩),.int .i64 now] w (PN w0 o0 c i b (noEv (jx c i s now)) (λv w' o'=>Eo w' o' (cl i 9) v (jx c i s now).ev)):=by
 rcases hk.cases with ho|⟨a1,a2,R,L,x,a3,a4,a5,a6,a7,a8⟩
 ·rw[endDS_eq ho]
  exact nend_all hc h now h0 h1 ho
 ·rw[a8]
  exact nend_lost hc h hi now h0 h1 a1 a2 R L x a3 a4 (by rw[hk.ev];simp) a6 a7 a5
theorem endV_evpO{now:Int}(hk:EndOk c i s now):EvP i c.nodes (jx c i s now).ev∧(jx c i s now).ev.length≤10:=by
 rw[endDS_eq hk]
 exact end_evp hk
theorem endV_evp{now:Int}(hk:EndOkV c i s now):EvP i c.nodes (jx c i s now).ev∧(jx c i s now).ev.length≤1000:=by
 rcases hk.cases with ho|⟨a1,a2,R,L,x,a3,a4,a5,a6,a7,a8⟩
 ·obtain⟨b1,b2⟩:=endV_evpO ho
  exact⟨b1,by omega⟩
 ·rw[a8]
  unfold endLN
  obtain⟨b1,b2⟩:=dropsN_evp (i:=i) (n:=c.nodes) s.q (evN (lost0N s) ⟨3,i,0,0,pk0⟩) (by
   show EvP i c.nodes (s.ev++[_])
   rw[hk.ev]
   exact EvP.snoc (EvP.nil _ _) _ (λ_=>rfl) (λe=>by cases e))
  refine⟨b1,?_⟩
  have:(evN (lost0N s) ⟨3,i,0,0,pk0⟩).ev.length=1:=by show (s.ev++[_]).length=1;rw[hk.ev];rfl
  omega
end
theorem own_setS{w:World}{base e s n cap g:Nat}{xs:List Value}(h:w.ownsRow base e s (.slice (some ⟨g,0,none⟩) n cap) n xs)(i:Nat)(x:Value)(hi:i<n*s):
  (w.setCell ⟨g,i,none⟩ x).ownsRow base e s (.slice (some ⟨g,0,none⟩) n cap) n (xs.set i x):=by
 rcases h.2 with ⟨e1,_⟩|⟨g2,c2,cur,e1,h1,h2,h3,h4,h5,h6⟩
 ·cases e1
 ·cases e1
  refine⟨by rw[List.length_set];exact h.1,.inr ⟨g,cap,cur.setIfInBounds i x,rfl,h1,qB h2 i x,h3,h4,by simp[h5],?_⟩⟩
  rw[Array.toList_setIfInBounds,List.take_set,h6]
theorem flat_set(ps:List (Snd×Value))(i:Nat)(p:Snd×Value)(hi:i<ps.length):
  ((((ps.flatMap cellsS).set (i*3) (.int .i64 p.1.1)).set (i*3+1) p.2).set (i*3+2) (.int .i64 p.1.2.2))=(ps.set i p).flatMap cellsS:=by
 induction ps generalizing i with
 |nil=>simp at hi
 |cons a t ih=>
  cases i with
  |zero=>simp[cellsS]
  |succ i=>
   have:=ih i (by simpa using hi)
   rw[List.set_cons_succ,List.flatMap_cons,List.flatMap_cons,←this]
   have e:cellsS a=[.int .i64 a.1.1,a.2,.int .i64 a.1.2.2]:=rfl
   rw[e]
   rw[show (i+1)*3=i*3+1+1+1 by omega]
   simp[List.set_cons_succ]
section
variable {w0 w w':World}{o0 o o':Cls}{c:Cfg}{W:Nat}{x x':WM}{asn:Int}{r r':WR}{d:Dr}{dr lo ac er da:Value}{S:Nat→Prop}
theorem WAt.seta(h:WAt w0 o0 c W x asn w o r)(hc:c.nodes≤16){g n cap:Nat}{air:List Snd}(hb:Ao w o (.slice (some ⟨g,0,none⟩) n cap) air)(hg:w0.heap.size≤g)(i:Nat)(hi:i<air.length)(ch off:Int)(L:List Int)(u:Value)(ha:BO w o u L):
  WAt w0 o0 c W x asn (((w.setCell ⟨g,i*3,none⟩ (.int .i64 ch)).setCell ⟨g,i*3+1,none⟩ u).setCell ⟨g,i*3+2,none⟩ (.int .i64 off)) o r∧
  Ao (((w.setCell ⟨g,i*3,none⟩ (.int .i64 ch)).setCell ⟨g,i*3+1,none⟩ u).setCell ⟨g,i*3+2,none⟩ (.int .i64 off)) o (.slice (some ⟨g,0,none⟩) n cap) (air.set i (ch,L,off))∧
  Chg (λk=>k=g) w (((w.setCell ⟨g,i*3,none⟩ (.int .i64 ch)).setCell ⟨g,i*3+1,none⟩ u).setCell ⟨g,i*3+2,none⟩ (.int .i64 off))∧o g=cl 16 5:=by
 obtain⟨ps,h1,h2,h3,h4⟩:=hb
 have hog:o g=cl 16 5:=h2 g rfl
 have G:Chg (λk=>k=g) w (((w.setCell ⟨g,i*3,none⟩ (.int .i64 ch)).setCell ⟨g,i*3+1,none⟩ u).setCell ⟨g,i*3+2,none⟩ (.int .i64 off)):=((chg1 _ _ _ _).trans (chg1 _ _ _ _)).trans (chg1 _ _ _ _)
 have hl:ps.length=air.length:=by rw[h4,List.length_map]
 have hn:n=ps.length:=by
  rcases qD h1 with ⟨e,_⟩|⟨g2,c2,e,_⟩
  ·cases e
  ·cases e;rfl
 have n0:∀k,o k=0→¬(k=g):=λk hk e=>by subst e;rw[hog] at hk;exact qf 16 5 hk
 refine⟨h.other (Ext.refl _ _) (h.z.more G.size) G hc (λk hk=>⟨by rw[hk,hog];unfold cl;omega,by rw[hk];exact hg⟩),⟨ps.set i ((ch,L,off),u),?_,h2,λp hp=>?_,by rw[List.map_set,←h4]⟩,G,hog⟩
 ·rw[hn] at h1 ⊢
  have k1:=own_setS (own_setS (own_setS h1 (i*3) (.int .i64 ch) (by omega)) (i*3+1) u (by omega)) (i*3+2) (.int .i64 off) (by omega)
  rw[List.length_set,←flat_set ps i ((ch,L,off),u) (by omega)]
  exact k1
 ·rcases List.mem_or_eq_of_mem_set hp with hp|hp
  ·exact (h3 p hp).step (Ext.refl _ _) G n0
  ·subst hp;exact ha.step (Ext.refl _ _) G n0
theorem WAt.aset(h:WAt w0 o0 c W x asn w o r)(hc:c.nodes≤16)(a:Int):WAt w0 o0 c W x a (w.setCell ⟨W,10,none⟩ (.int .i64 a)) o r:=by
 have hd:=h.wd
 have G:=chg1 w W 10 (.int .i64 a)
 obtain⟨n0,nj,nm⟩:=part_no (S:=λk=>k=W) (o:=o) (m:=0) (by omega) (λk hk=>by rw[hk];exact hd.ob)
 refine⟨⟨qB hd.blk 10 _,hd.ob,hd.near.step (Ext.refl _ _) G n0,hd.hops.step (Ext.refl _ _) G n0,qY hd.row G (λk hk=>nj 1 (by omega) (by omega) k (hd.rowo k hk)),hd.rowo,
  qY hd.bnd G (λk hk=>nj 2 (by omega) (by omega) k (hd.bndo k hk)),hd.bndo,hd.inj.step (Ext.refl _ _) G (nj 3 (by omega) (by omega) _ hd.injo) n0,hd.injo,hd.ev.step (Ext.refl _ _) G (λk hk=>hk.elim (n0 k) (nj 4 (by omega) (by omega) k)),hd.nl,hd.nds (Ext.refl _ _) G n0 nm hc⟩,
  h.z.more G.size,h.ext,h.chg.extW h.ext (G.mono (λk _ hk=>by unfold WdS;rw[hk,hd.ob];exact⟨qf 16 0,by unfold cl;omega⟩))⟩
theorem WAt.iset(h:WAt w0 o0 c W x asn w o r)(hc:c.nodes≤16):∃o',WAt w0 o0 c W x asn ((w.alloc (.map #[] 0)).setCell ⟨W,12,none⟩ (.map (some w.heap.size))) o' {r with inj:=w.heap.size,ij:=qG}:=by
 have hd:=h.wd
 have ga:=Chg.alloc (λ_=>False) w (.map #[] 0)
 have hWl:=qX hd.blk
 have hsz:(w.alloc (.map #[] 0)).heap.size=w.heap.size+1:=by simp
 have G:=chg1 (w.alloc (.map #[] 0)) W 12 (.map (some w.heap.size))
 have G2:Chg (λk=>k=W) w ((w.alloc (.map #[] 0)).setCell ⟨W,12,none⟩ (.map (some w.heap.size))):=ga.none.trans G
 obtain⟨n0,nj,nm⟩:=part_no (S:=λk=>k=W) (o:=o) (m:=0) (by omega) (λk hk=>by rw[hk];exact hd.ob)
 have hE:=Ext.cls (w:=w) o w.heap.size (cl 16 3) (Nat.le_refl _)
 refine⟨cls o w.heap.size (cl 16 3),⟨qB (Chg.keep ga hd.blk (λe=>e)) 12 _,by rw[hE W hWl];exact hd.ob,hd.near.step hE G2 n0,hd.hops.step hE G2 n0,qY hd.row G2 (λk hk=>nj 1 (by omega) (by omega) k (hd.rowo k hk)),
  λk hk=>by rw[hE k (qg hd.row hk).2];exact hd.rowo k hk,qY hd.bnd G2 (λk hk=>nj 2 (by omega) (by omega) k (hd.bndo k hk)),λk hk=>by rw[hE k (qg hd.bnd hk).2];exact hd.bndo k hk,
  Ij.nil ((Mp.made w).keep G (by omega)),jp _ _ _,hd.ev.step hE G2 (λk hk=>hk.elim (n0 k) (nj 4 (by omega) (by omega) k)),hd.nl,hd.nds hE G2 n0 nm hc⟩,
  (h.z.more G2.size).cls _ (by have:=G.size;omega),h.ext.trans hE h.chg.size,h.chg.extW h.ext (G2.mono (λk _ hk=>by unfold WdS;rw[hk,hd.ob];exact⟨qf 16 0,by unfold cl;omega⟩))⟩
end
end Go.Proofs.YtnpihllannobgaaGreatDoor
