/- Steps of the proof, part H31. No condition. -/
import Derived.Test.YtnpihllannobgaaGreatDoorH28
import Derived.Test.YtnpihllannobgaaGreatDoorH08
import Derived.Deep.MidRow
namespace Go.Proofs.YtnpihllannobgaaGreatDoor
set_option linter.unusedVariables false
set_option linter.unusedSimpArgs false
set_option maxRecDepth 100000
set_option maxHeartbeats 32000000
open Go.ChangeShapes Go.WideShapes Go.ChangeAt Go.RowKit
theorem vz(b:Nat)(t:TypeId):∀(vs:List Value) (o:Nat) (w:World) (cur:Array Value),w.heap[b]? =some (.cells cur t (0,0))→o+vs.length≤cur.size→
  ∃cur',(w.setCells b o vs).heap[b]? =some (.cells cur' t (0,0))∧cur'.size=cur.size∧(∀k,k<o→cur'[k]? =cur[k]?)∧∀k,k<vs.length→cur'[o+k]? =vs[k]?
 |[],o,w,cur,h,_=>⟨cur,h,rfl,λ_ _=>rfl,λk hk=>by simp at hk⟩
 |v::r,o,w,cur,h,hs=>by
  simp only[List.length_cons] at hs
  obtain⟨cur',h1,h2,h3,h4⟩:=vz b t r (o+1) (w.setCell ⟨b,o,none⟩ v) _ (qB h o v) (by simp;omega)
  refine⟨cur',h1,by simpa using h2,λk hk=>by rw[h3 k (by omega),Array.getElem?_setIfInBounds];simp;omega,λk hk=>?_⟩
  cases k with
  |zero=>rw[Nat.add_zero,h3 o (by omega),Array.getElem?_setIfInBounds];simp;omega
  |succ k=>
   have:=h4 k (by simpa using hk)
   rw[show o+(k+1)=o+1+k by omega,this];rfl
theorem block_setAll{w:World}{b:Nat}{t:TypeId}{cur vs:Array Value}(h:w.heap[b]? =some (.cells cur t (0,0))) (hs:vs.size=cur.size):(w.setCells b 0 vs.toList).heap[b]? =some (.cells vs t (0,0)):=by
 obtain⟨cur',h1,h2,h3,h4⟩:=vz b t vs.toList 0 w cur h (by simp[hs])
 rw[h1]
 have:cur'=vs:=by
  apply Array.ext_getElem?
  intro k
  by_cases hk:k<vs.size
  ·have:=h4 k (by simpa using hk)
   rw[Nat.zero_add] at this
   rw[this,Array.getElem?_toList]
  ·rw[Array.getElem?_eq_none (by omega),Array.getElem?_eq_none (by omega)]
 rw[this]
theorem rangeAt_block{w:World}{b:Nat}{t:TypeId}{cur:Array Value}(h:w.heap[b]? =some (.cells cur t (0,0))):w.rangeAt b 0 cur.toList:=λj v hj=>by
 rw[Nat.zero_add,qJ h]
 simpa using hj
theorem there_block{w:World}{b:Nat}{t:TypeId}{cur:Array Value}{n:Nat}(h:w.heap[b]? =some (.cells cur t (0,0))) (hn:n=cur.size):w.there b 0 n:=λj hj=>by
 rw[Nat.zero_add,qJ h]
 exact⟨by simp;omega,qK h j⟩
theorem sz75(n:Nat)(h:n=32):(Tryz.prog.info? 75).map (·.size)=some n:=by subst h;kernel_rfl
theorem wp_load75{op:Oper}{a:Act}{w:World}{K:Act→World→Prop}{Q:Exit→Act→World→Prop}(x:Operand)(ho:op.op= .load 75 x){b:Nat}(hx:a.eval x= .pointer (some ⟨b,0,none⟩)){cs:Array Value}
  (h:w.heap[b]? =some (.cells cs 75 (0,0))) (hn:cs.size=32) (hk:K (a.put op.dst (.agg cs)) w):op.wp Tryz.prog a w K Q:=by
 have h1:(Tryz.prog.underlying 75).any TypeDesc.isRow=true:=by kernel_rfl
 obtain⟨d,hd⟩:∃d,Tryz.prog.underlying 75=some d:=by
  cases hq:Tryz.prog.underlying 75 with
  |none=>rw[hq] at h1;cases h1
  |some d=>exact⟨d,rfl⟩
 rw[hd] at h1
 exact wp_load_mid 75 x ho b 0 hx cs.toList d (rangeAt_block h) hd h1 (sz75 _ (by simpa using hn)) hk
theorem wp_store75{op:Oper}{a:Act}{w:World}{K:Act→World→Prop}{Q:Exit→Act→World→Prop}(x y:Operand)(ho:op.op= .store 75 x y){b:Nat}(hx:a.eval x= .pointer (some ⟨b,0,none⟩)){cs cur:Array Value}
  (hy:a.eval y= .agg cs) (h:w.heap[b]? =some (.cells cur 75 (0,0))) (hm:cur.size=32) (hn:cs.size=32) (h1:cs.all (·.oneCell')=true) (hk:K (a.put op.dst undef) (w.setCells b 0 cs.toList)):op.wp Tryz.prog a w K Q:=
 wp_store_mid 75 x y ho b 0 cs hx hy (there_block h (by omega)) (sz75 _ hn) h1 hk
def vF(i:Nat)(s:NSt):NSt:=clkN (newN i) (cutf (offN s) 1000000000000) 0 0
section
variable {w0 w w':World}{o0 o o':Cls}{c:Cfg}{i b:Nat}{s:NSt}{r:NR}
theorem Nd.ones{nb:Nat}{q:NR}(h:Nd w o c i nb q (newN i)):(zr c i q (newN i)).all (·.oneCell')=true:=by
 obtain⟨A1,c1,h1,_⟩:=h.np.1
 obtain⟨A2,c2,h2,_⟩:=h.np.2.1
 have h3:q.pv= .pointer none:=h.np.2.2.2.2.2.2.2.1
 have h4:q.kv= .pointer none:=h.np.2.2.2.2.2.2.2.2.1
 obtain⟨ps,h5,_⟩:=h.np.2.2.2.2.2.2.2.2.2.2
 obtain⟨A3,l3,c3,h6⟩:∃A l cc,q.ev= .slice A l cc:=by rcases qD h5 with ⟨e,_⟩|⟨g,cap,e,_⟩ <;> exact⟨_,_,_,e⟩
 unfold zr
 rw[h1,h2,h3,h4,h6]
 simp[Value.oneCell']
theorem NAt.reborn{wp:World}{nb:Nat}{q:NR}(h:NAt w0 o0 c i b s w o r)(he:Ext w o o')(hz:Z wp o')(hd:Nd wp o' c i nb q (newN i))(hp:Chg (λ_=>False) w wp):
  NAt w0 o0 c i b (newN i) (wp.setCells b 0 (zr c i q (newN i)).toList) o' q:=by
 have hob:o' b=cl i 0:=by rw[he b (qX h.nd.blk)];exact h.nd.ob
 have g:=jw b (zr c i q (newN i)).toList 0 wp
 have hb:=block_setAll (vs:=zr c i q (newN i)) (hp.keep h.nd.blk (λe=>e)) rfl
 refine h.next ⟨hb,hob,hd.np.step (Ext.refl _ _) g (λk hk e=>?_) (λj h1 h2 k hk e=>?_)⟩ (hz.more g.size) he ((hp.none).trans (g.mono (λk _ e=>⟨0,by omega,by rw[e];exact h.nd.ob⟩)))
 ·subst e;rw[hob] at hk;exact qP i 0 hk
 ·subst e;rw[hob] at hk;have:=(qy hk (by omega) (by omega)).2;omega
theorem nreboot_any(h:NAt w0 o0 c i b s w o r)(hc:CfgOk c)(hi:i<c.nodes)(hi0:i≠0)(hx: -1000000000000000≤s.base∧s.base≤1000000000000000)(hy: -1000000000000000≤s.sum∧s.sum≤1000000000000000):
  Calls Tryz.prog 40 #[.pointer (some ⟨b,0,none⟩)] w λen w'=>en= .returned (.tuple #[])∧∃o' r',NAt w0 o0 c i b (vF i s) w' o' r':=by
 have HH:=qQ h
 have HC:=qQ hc
 have c9:w.cell? ⟨b,9,none⟩=some (.int .i64 i):=h.cell 9
 have c10:w.cell? ⟨b,10,none⟩=some (.pointer (some ⟨r.clk,0,none⟩)):=h.cell 10
 have HM:=qQ (ckoff_quiet w r.clk s.base s.sum s.slots h.nd.np.2.2.1.1 hx hy)
 obtain⟨q,hq⟩:=qZ r.clk
 rw[←hq] at c10 HM
 unfold vF offN
 obtain⟨t,ht⟩:=qZ (s.base+downf s.sum)
 rw[←ht] at HM ⊢
 have hne:¬(i:Int)=0:=by omega
 clear h hq ht hc
 go_enter Tryz.func40,Tryz.ntmps40
 go_wp2_with fail
 with_reducible refine HM.out.mono ?_
 rintro en w1 ⟨rfl,m,hm⟩
 have HG:=qQ (show Chg (λ_=>False) w w1 from hm▸Chg.drewN _ _ _)
 clear hm HM c9 c10
 go_wp2_with fail
 have h1:=HH.out.kept HG.out
 have HS:=qQ (show∀W,Chg (λ_=>False) w1 W→W.cell? ⟨b,0,none⟩=some (.int .i64 c.nodes)∧W.cell? ⟨b,1,none⟩=some r.nv∧W.cell? ⟨b,2,none⟩=some r.hv∧W.cell? ⟨b,3,none⟩=some (.int .i64 c.guard)∧W.cell? ⟨b,4,none⟩=some (.int .i64 c.err)∧W.cell? ⟨b,5,none⟩=some (.int .i64 c.keep)∧W.cell? ⟨b,6,none⟩=some (.int .i64 c.loss)∧W.cell? ⟨b,7,none⟩=some (.int .i64 c.queue)∧W.cell? ⟨b,8,none⟩=some (.int .i64 c.life)∧W.cell? ⟨b,9,none⟩=some (.int .i64 i) from λW g=>by
  have k:=h1.kept g
  exact⟨k.cell 0,k.cell 1,k.cell 2,k.cell 3,k.cell 4,k.cell 5,k.cell 6,k.cell 7,k.cell 8,k.cell 9⟩)
 have HN:=qQ (show∀W,Chg (λ_=>False) w1 W→Calls Tryz.prog 30 #[cfgV c r.nv r.hv,.int .i64 i] W (PNode W o c i) from λW g=>by
  have k:=h1.kept g
  exact nnew_any HC.out i hi k.z r.nv r.hv k.nd.np.1 k.nd.np.2.1)
 unfold cfgV at HN
 have H1:=qQ h1
 clear h1 HH HG
 obtain⟨a0,a1,a2,a3,a4,a5,a6,a7,a8,a9⟩:=HS.out _ (Chg.drew _ _)
 go_cut [] (λwx=>∃o' r',NAt w0 o0 c i b (newN i) wx o' r')
 case first=>
  refine wp_region_any (by kernel_rfl) ?_
  change wpAny _ _ _ _ _ _ _ (World.drew _)
  refine wpAny_take (i:=0) (v:= .pointer (some ⟨b,0,none⟩)) rfl (by kernel_rfl) (by kernel_rfl) (by kernel_rfl) (λ_ _ _ h=>h) (Or.inl ⟨by rfl,λw=>by go_simp⟩) ?_
  refine wpAny_take (i:=1) (v:= .pointer (some ⟨b,0,none⟩)) rfl (by kernel_rfl) (by kernel_rfl) (by kernel_rfl) (λ_ _ _ h=>h) (Or.inl ⟨by rfl,λw=>by go_simp⟩) ?_
  refine wpAny_take (i:=2) (v:= .pointer (some ⟨b,0,none⟩)) rfl (by kernel_rfl) (by kernel_rfl) (by kernel_rfl) (λ_ _ _ h=>h) (Or.inl ⟨by rfl,λw=>by go_simp⟩) ?_
  refine wpAny_take (i:=3) (v:= .pointer (some ⟨b,0,none⟩)) rfl (by kernel_rfl) (by kernel_rfl) (by kernel_rfl) (λ_ _ _ h=>h) (Or.inl ⟨by rfl,λw=>by go_simp⟩) ?_
  refine wpAny_take (i:=5) (v:= .pointer (some ⟨b,0,none⟩)) rfl (by kernel_rfl) (by kernel_rfl) (by kernel_rfl) (λ_ _ _ h=>h) (Or.inl ⟨by rfl,λw=>by go_simp⟩) ?_
  refine wpAny_take (i:=6) (v:= .pointer (some ⟨b,0,none⟩)) rfl (by kernel_rfl) (by kernel_rfl) (by kernel_rfl) (λ_ _ _ h=>h) (Or.inl ⟨by rfl,λw=>by go_simp⟩) ?_
  refine wpAny_take (i:=7) (v:= .pointer (some ⟨b,9,none⟩)) rfl (by kernel_rfl) (by kernel_rfl) (by kernel_rfl) (λ_ _ _ h=>h) (Or.inl ⟨by rfl,λw=>by go_simp⟩) ?_
  refine wpAny_ready (rs:=[4,8]) (by kernel_rfl) (by simp) ?_
  refine AllReady.cons rfl (λK hK=>?_) (AllReady.cons rfl (λK hK=>?_) AllReady.nil)
  ·go_simp
   with_reducible refine hK _ _ ?_
   clear hK K
   refine wpAny_ready (rs:=[8]) (by kernel_rfl) (by simp) ?_
   refine AllReady.cons rfl (λK hK=>?_) AllReady.nil
   go_simp
   with_reducible refine hK _ _ ?_
   clear hK K
   clear a0 a1 a2 a3 a4 a5 a6 a7 a8 a9
   refine wpAny_ready (rs:=[9]) (by kernel_rfl) (by simp) ?_
   refine AllReady.cons rfl (λK hK=>?_) AllReady.nil
   go_simp
   (with_reducible refine (HN.out _ (Chg.drew _ _)).mono ?_)
   rintro en wp ⟨nb,o2,r2,hen,hlo,he,hz,hnd,g5,hcl⟩
   unfold VP at hen
   subst hen
   dsimp only
   with_reducible refine hK _ _ ?_
   clear hK K
   have HR:=qQ (H1.out.reborn he hz hnd ((Chg.drew (λ_=>False) w1).trans g5))
   have HB:=qQ (H1.out.kept ((Chg.drew (λ_=>False) w1).trans g5)).nd.blk
   have HE:=qQ hnd
   clear hlo he hz hnd hcl g5
   refine wpAny_take (i:=10) (v:= .pointer (some ⟨nb,0,none⟩)) rfl (by kernel_rfl) (by kernel_rfl) (by kernel_rfl) (λ_ _ _ h=>h) (Or.inl ⟨by rfl,λw=>by go_simp⟩) ?_
   refine wpAny_ready (rs:=[11]) (by kernel_rfl) (by simp) ?_
   refine AllReady.cons rfl (λK hK=>?_) AllReady.nil
   rw[if_pos (by rfl)]
   with_reducible refine wp_load75 (.tmp 27) rfl rfl HE.out.blk rfl (hK _ _ ?_)
   clear hK K
   refine wpAny_take (i:=12) (v:= .pointer (some ⟨b,0,none⟩)) rfl (by kernel_rfl) (by kernel_rfl) (by kernel_rfl) (λ_ _ _ h=>h) (Or.inl ⟨by rfl,λw=>by go_simp⟩) ?_
   refine wpAny_ready (rs:=[13]) (by kernel_rfl) (by simp) ?_
   refine AllReady.cons rfl (λK hK=>?_) AllReady.nil
   rw[if_pos (by rfl)]
   with_reducible refine wp_store75 (.tmp 29) (.tmp 28) rfl rfl rfl HB.out rfl rfl HE.out.ones (hK _ _ ?_)
   clear hK K
   refine wpAny_done (by kernel_rfl) ?_ _
   go_wp2_with fail
   go_meet
   exact⟨_,_,HR.out⟩
  ·go_simp
   with_reducible refine hK _ _ ?_
   clear hK K
   refine wpAny_ready (rs:=[4]) (by kernel_rfl) (by simp) ?_
   refine AllReady.cons rfl (λK hK=>?_) AllReady.nil
   go_simp
   with_reducible refine hK _ _ ?_
   clear hK K
   clear a0 a1 a2 a3 a4 a5 a6 a7 a8 a9
   refine wpAny_ready (rs:=[9]) (by kernel_rfl) (by simp) ?_
   refine AllReady.cons rfl (λK hK=>?_) AllReady.nil
   go_simp
   (with_reducible refine (HN.out _ (Chg.drew _ _)).mono ?_)
   rintro en wp ⟨nb,o2,r2,hen,hlo,he,hz,hnd,g5,hcl⟩
   unfold VP at hen
   subst hen
   dsimp only
   with_reducible refine hK _ _ ?_
   clear hK K
   have HR:=qQ (H1.out.reborn he hz hnd ((Chg.drew (λ_=>False) w1).trans g5))
   have HB:=qQ (H1.out.kept ((Chg.drew (λ_=>False) w1).trans g5)).nd.blk
   have HE:=qQ hnd
   clear hlo he hz hnd hcl g5
   refine wpAny_take (i:=10) (v:= .pointer (some ⟨nb,0,none⟩)) rfl (by kernel_rfl) (by kernel_rfl) (by kernel_rfl) (λ_ _ _ h=>h) (Or.inl ⟨by rfl,λw=>by go_simp⟩) ?_
   refine wpAny_ready (rs:=[11]) (by kernel_rfl) (by simp) ?_
   refine AllReady.cons rfl (λK hK=>?_) AllReady.nil
   rw[if_pos (by rfl)]
   with_reducible refine wp_load75 (.tmp 27) rfl rfl HE.out.blk rfl (hK _ _ ?_)
   clear hK K
   refine wpAny_take (i:=12) (v:= .pointer (some ⟨b,0,none⟩)) rfl (by kernel_rfl) (by kernel_rfl) (by kernel_rfl) (λ_ _ _ h=>h) (Or.inl ⟨by rfl,λw=>by go_simp⟩) ?_
   refine wpAny_ready (rs:=[13]) (by kernel_rfl) (by simp) ?_
   refine AllReady.cons rfl (λK hK=>?_) AllReady.nil
   rw[if_pos (by rfl)]
   with_reducible refine wp_store75 (.tmp 29) (.tmp 28) rfl rfl rfl HB.out rfl rfl HE.out.ones (hK _ _ ?_)
   clear hK K
   refine wpAny_done (by kernel_rfl) ?_ _
   go_wp2_with fail
   go_meet
   exact⟨_,_,HR.out⟩
 case rest=>
  obtain⟨o3,r3,h3⟩:=hcut
  have c10:wc.cell? ⟨b,10,none⟩=some (.pointer (some ⟨r3.clk,0,none⟩)):=h3.cell 10
  have HM:=qQ (ckput_any wc r3.clk _ _ _ t h3.nd.np.2.2.1.1)
  have HN3:=qQ h3
  clear h3 HS HN H1 a0 a1 a2 a3 a4 a5 a6 a7 a8 a9
  go_wp2_with fail
  with_reducible refine HM.out.mono ?_
  rintro en w3 ⟨rfl,hk,hg⟩
  have HF:=qQ (HN3.out.clk hk hg)
  clear hk hg HM HN3
  go_wp2_with fail
  go_end0
  exact⟨rfl,_,_,HF.out⟩
end
end Go.Proofs.YtnpihllannobgaaGreatDoor
