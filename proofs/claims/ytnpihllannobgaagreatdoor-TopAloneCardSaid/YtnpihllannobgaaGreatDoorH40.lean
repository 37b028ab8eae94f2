/- Steps of the proof, part H40. No condition. -/
import Derived.Test.YtnpihllannobgaaGreatDoorH37
import Derived.Test.YtnpihllannobgaaGreatDoorH23
namespace Go.Proofs.YtnpihllannobgaaGreatDoor
set_option linter.unusedVariables false
set_option linter.unusedSimpArgs false
set_option maxRecDepth 100000
set_option maxHeartbeats 32000000
open Go.ChangeShapes Go.WideShapes Go.ChangeAt Go.RowKit
theorem appRun1{t e bytes:Nat}(he:ElS t e 1 bytes)(ty:TypeId)(wp:World)(u:Value)(v:Value)(n:Nat)(xs:List Value)(hown:(wp.alloc (.cells #[u] e)).ownsRow 0 e 1 v n xs)(h1:u.oneCell'=true)(hby:bytes≤100)(hn:n≤1000):
  ∃v' w',(Builtin.append_ #[t,t] ty #[v,.slice (some ⟨wp.heap.size,0,none⟩) 1 1]).run Tryz.prog (wp.alloc (.cells #[u] e))= .ok v' w'∧w'.ownsRow 0 e 1 v' (n+1) (xs++[u])∧(wp.alloc (.cells #[u] e)).grownBy w' v.ownBlock∧
   (v'.ownBlock=v.ownBlock∨v'.ownBlock=some (wp.heap.size+1)):=by
 obtain⟨ht,i,z,h1i,h2i,h3i,h4i,h5i,h6i⟩:=he
 have h7:(n+1)*bytes≤(n+1)*100:=Nat.mul_le_mul_left _ hby
 obtain⟨v',w',a1,a2,a3,_,a5⟩:=run_append_own_at (P:=Tryz.prog) (wp.alloc (.cells #[u] e)) 0 t ty e i z 1 bytes ht h1i h2i h3i h4i h5i h6i v n xs hown ⟨wp.heap.size,0,none⟩ 1 1 [u] rfl (cell_one_new _ _ _) (λx hx=>by simp at hx;subst hx;exact h1)
  (by unfold maxLen;omega) (by omega) (Nat.zero_le _)
 exact⟨v',w',a1,a2,a3,by simpa using a5⟩
section
variable {w0 w w':World}{o0 o o':Cls}{c:Cfg}{W cb k m:Nat}{r r':WR}{S:Nat→Prop}
theorem wp_app1N{o:Oper}{a:Act}{w w':World}{K:Act→World→Prop}{Q:Exit→Act→World→Prop}{t:TypeId}(s x:Operand)(ho:o.op= .call {callee:= .builtin .append,args:=#[s,x],argTypes:=#[t,t]}){v u v':Value}(hs:a.eval s=v)(hx:a.eval x=u)
  (hr:(Builtin.append_ #[t,t] o.type #[v,u]).run Tryz.prog w= .ok v' w') (h:K (a.put o.dst v') w'):o.wp Tryz.prog a w K Q:=by
 unfold Oper.wp execOp
 simp only[ho,resolve,invoke,builtin,Sem.run_bind,Sem.run_pure,Result.andThen_ok,List.map_toArray,List.map_cons,List.map_nil,hs,hx,hr]
 exact h
def objW(c:Cfg)(nv hv:Value)(mb:Nat):Obj:=
 .cells #[.int .i64 c.nodes,nv,hv,.int .i64 c.guard,.int .i64 c.err,.int .i64 c.keep,.int .i64 c.loss,.int .i64 c.queue,.int .i64 c.life,.slice none 0 0,.int .i64 0,.slice none 0 0,.map (some mb),.slice none 0 0] 61
theorem Wb.start{wx:World}{nv hv:Value}(hz:Z w o)(hb:wx.heap[cb]? =some (.cells #[.int .i64 c.nodes,nv,hv,.int .i64 c.guard,.int .i64 c.err,.int .i64 c.keep,.int .i64 c.loss,.int .i64 c.queue,.int .i64 c.life] 26 (0,0)))
  (hcb:w.heap.size≤cb) (hn:RV VU wx o nv c.near) (hh:RV VI wx o hv c.hops) (g:Chg (λ_=>False) w wx):
  ∃o',Wb w o c (wx.heap.size+1) cb ⟨nv,hv,.slice none 0 0,.slice none 0 0,wx.heap.size,.slice none 0 0,[],qh⟩ 0 0 ((wx.alloc (.map #[] 0)).alloc (objW c nv hv wx.heap.size)) o':=by
 have g1:=Chg.alloc (λ_=>False) wx (.map #[] 0)
 have g2:=Chg.alloc (λ_=>False) (wx.alloc (.map #[] 0)) (objW c nv hv wx.heap.size)
 have hsz:(wx.alloc (.map #[] 0)).heap.size=wx.heap.size+1:=by simp
 have hsz2:((wx.alloc (.map #[] 0)).alloc (objW c nv hv wx.heap.size)).heap.size=wx.heap.size+2:=by simp
 have hs:=g.size
 have hl:=qX hb
 have e1:=Ext.cls (w:=w) o wx.heap.size (cl 16 3) hs
 have e2:=Ext.cls (w:=w) (cls o wx.heap.size (cl 16 3)) (wx.heap.size+1) (cl 16 0) (by omega)
 have f1:=Ext.cls (w:=wx) o wx.heap.size (cl 16 3) (Nat.le_refl _)
 have f2:=Ext.cls (w:=wx) (cls o wx.heap.size (cl 16 3)) (wx.heap.size+1) (cl 16 0) (by omega)
 have fE:=f1.trans f2 (Nat.le_refl _)
 have G:=g1.trans g2
 refine⟨cls (cls o wx.heap.size (cl 16 3)) (wx.heap.size+1) (cl 16 0),?_,jX _ _ _,by omega,Chg.keep G hb (λe=>e),?_,hn.step fE G (λ_ _ e=>e),hh.step fE G (λ_ _ e=>e),World.ownsRow_nil _ _ _ _,
  λj hj=>by (cases hj),World.ownsRow_nil _ _ _ _,λj hj=>by (cases hj),(Mp.made wx).keep g2 (λe=>e),?_,rfl,rfl,λi hi=>absurd hi (Nat.not_lt_zero _),?_,e1.trans e2 (Nat.le_refl _),g.trans G⟩
 ·have:=qV (wx.alloc (.map #[] 0)) (objW c nv hv wx.heap.size)
  rw[hsz] at this
  exact this
 ·rw[cls_ne _ _ _ (by omega),cls_ne _ _ _ (by omega)];exact hz cb hcb
 ·show cls (cls o wx.heap.size (cl 16 3)) (wx.heap.size+1) (cl 16 0) wx.heap.size=cl 16 3
  rw[cls_ne _ _ _ (by omega)];exact jX _ _ _
 ·refine Z.cls (Z.cls (hz.more (by omega)) _ (by omega)) _ (by omega)
def PWNew(w:World)(o:Cls)(c:Cfg)(en:Ending)(w':World):Prop:=
 ∃W o' r,en= .returned (.tuple #[VP W,.int .i64 0])∧Wd w' o' c W r (newW c) 0∧Z w' o'∧Ext w o o'∧Chg (λ_=>False) w w'∧r.ij=qh
theorem wnew_any(hc:CfgOk c)(hz:Z w o)(nv hv:Value)(hn:RV VU w o nv c.near)(hh:RV VI w o hv c.hops):Calls Tryz.prog 17 #[cfgV c nv hv] w (PWNew w o c):=by
 have ga:=Chg.alloc (λ_=>False) w (cfgB c nv hv)
 have hb:=qV w (cfgB c nv hv)
 unfold cfgB at hb ga
 have HM:=qQ (nmay_any hc nv hv (hn.keep ga (λ_ _ e=>e)) (hh.keep ga (λ_ _ e=>e)))
 obtain⟨d0,d1,d2,d3,d4,d5,d6,d7,d8⟩:=vd hb
 have HW:=qQ (show∀W,Chg (λ_=>False) w W→RV VU W o nv c.near∧RV VI W o hv c.hops from λW g=>⟨hn.keep g (λ_ _ e=>e),hh.keep g (λ_ _ e=>e)⟩)
 have HB:=qQ (And.intro hb ga)
 have HZ:=qQ hz
 have HC:=qQ hc
 have hn1:=hc.n1
 have hn0:=hc.n0
 obtain⟨nA,ncap,hnv,_⟩:=hn
 obtain⟨hA,hcap,hhv,_⟩:=hh
 obtain⟨nl,hnl⟩:∃n,n=c.near.length:=⟨_,rfl⟩
 obtain⟨hl,hhl⟩:∃n,n=c.hops.length:=⟨_,rfl⟩
 rw[←hnl] at hnv
 rw[←hhl] at hhv
 subst hnv hhv
 clear hnl hhl
 unfold cfgV at HM ⊢
 clear hb ga hz hc
 go_enter Tryz.func17,Tryz.ntmps17
 go_wp2_with fail
 with_reducible refine HM.out.mono ?_
 rintro en w1 ⟨rfl,hG⟩
 have hb2:=Chg.keep hG HB.out.1 (λe=>e)
 have HG2:=qQ (HB.out.2.trans hG)
 obtain⟨cb,hcb⟩:∃x,x=w.heap.size:=⟨_,rfl⟩
 rw[←hcb] at hb2 ⊢
 have HCB:=qQ hcb
 clear d0 d1 d2 d3 d4 d5 d6 d7 d8 hG HB HM hcb
 obtain⟨d0,d1,d2,d3,d4,d5,d6,d7,d8⟩:=vd hb2
 have HB2:=qQ hb2
 clear hb2
 go_wp2_with fail
 have HF1:=qQ (show∀W,Chg (λ_=>False) w1 W→W.heap[cb]? =some (.cells #[.int .i64 c.nodes,.slice nA nl ncap,.slice hA hl hcap,.int .i64 c.guard,.int .i64 c.err,.int .i64 c.keep,.int .i64 c.loss,.int .i64 c.queue,.int .i64 c.life] 26 (0,0)) from λW g=>Chg.keep (S:=λ_=>False) g HB2.out (λe=>e))
 have HCU:=qQ (show∀W,Chg (λ_=>False) w1 W→Calls Tryz.prog 28 #[.slice nA nl ncap] W (PNew VU 23 W c.near) from λW g=>by
  obtain⟨A,cc,e,h1,h2,_⟩:=(HW.out W (HG2.out.trans g)).1
  cases e
  exact cloneU_any W nA c.near.length ncap c.near h1.rs h2 (by rw[HC.out.near];omega))
 have HCI:=qQ (show∀W,Chg (λ_=>False) w1 W→Calls Tryz.prog 29 #[.slice hA hl hcap] W (PNew VI 3 W c.hops) from λW g=>by
  obtain⟨A,cc,e,h1,h2,_⟩:=(HW.out W (HG2.out.trans g)).2
  cases e
  exact jF W hA c.hops.length hcap c.hops h1.rs h2 (by have:=HC.out.hops.2.2.2;omega))
 go_cut [] (λwx=>NBox w w1 o c cb wx)
 case first=>
  go_region_with (first
   |(go_at_call 28;refine (HCU.out _ (Chg.drew _ w1)).mono ?_;rintro en wp ⟨v1,rfl,O1,g1⟩
     obtain⟨A1,n1,c1,rfl⟩:∃A n c,v1= .slice A n c:=by rcases qD O1 with ⟨e,_⟩|⟨g,cap,e,_⟩ <;> exact⟨_,_,_,e⟩
     have O1:=qQ O1
     have HG3:=qQ ((Chg.drew (λ_=>False) w1).trans g1)
     have hbp:=HF1.out _ HG3.out
     obtain⟨d0,d1,d2,d3,d4,d5,d6,d7,d8⟩:=vd hbp
     have fp1:=qK hbp 1
     have fp2:=qK hbp 2)
   |(go_at_call 29;refine (HCI.out _ HG3.out).mono ?_;rintro en wq ⟨v2,rfl,O2,g2⟩
     obtain⟨A2,n2,c2,rfl⟩:∃A n c,v2= .slice A n c:=by rcases qD O2 with ⟨e,_⟩|⟨g,cap,e,_⟩ <;> exact⟨_,_,_,e⟩
     have O2:=qQ O2
     have HG4:=qQ (HG3.out.trans g2)
     have hbq:=HF1.out _ HG4.out
     obtain⟨d0,d1,d2,d3,d4,d5,d6,d7,d8⟩:=vd hbq
     have fq1:=qK hbq 1
     have fq2:=qK hbq 2))
  all_goals
   go_wp2_with fail
   go_meet
   exact NBox.mk' HZ.out HG2.out HB2.out HG3.out g2 O1.out O2.out hbq (by rw[HCB.out];exact Nat.le_refl _)
 case rest=>
  obtain⟨v1,v2,hb3,hn3,hh3,hG3⟩:=hcut
  obtain⟨o1,hW⟩:=Wb.start HZ.out hb3 (by rw[HCB.out];exact Nat.le_refl _) hn3 hh3 hG3
  obtain⟨⟨A1,c1,hv1,_⟩,⟨A2,c2,hv2,_⟩⟩:=And.intro hn3 hh3
  obtain⟨n1,hn1'⟩:∃n,n=c.near.length:=⟨_,rfl⟩
  obtain⟨n2,hn2'⟩:∃n,n=c.hops.length:=⟨_,rfl⟩
  rw[←hn1'] at hv1
  rw[←hn2'] at hv2
  subst hv1 hv2
  obtain⟨d0,d1,d2,d3,d4,d5,d6,d7,d8⟩:=vd hb3
  have hlc:=qX hb3
  have HWb:=qQ hW
  have hmm:=@run_makeMap Tryz.prog
  have d0':((wc.alloc (.map #[] 0)).alloc (objW c (.slice A1 n1 c1) (.slice A2 n2 c2) wc.heap.size)).cell? ⟨cb,0,none⟩=some (.int .i64 c.nodes):=(vd hW.box).1
  unfold objW at d0'
  clear hb3 hn3 hh3 hG3 HF1 HCU HCI HB2 HG2 HW hn1' hn2' hW
  go_wp2_with fail
  have ho:objW c (.slice A1 n1 c1) (.slice A2 n2 c2) wc.heap.size= .cells #[.int .i64 c.nodes,.slice A1 n1 c1,.slice A2 n2 c2,.int .i64 c.guard,.int .i64 c.err,.int .i64 c.keep,.int .i64 c.loss,.int .i64 c.queue,.int .i64 c.life,.slice none 0 0,.int .i64 0,.slice none 0 0,.map (some wc.heap.size),.slice none 0 0] 61:=rfl
  rw[ho] at HWb
  generalize ((wc.alloc (.map #[] 0)).alloc (.cells #[.int .i64 c.nodes,.slice A1 n1 c1,.slice A2 n2 c2,.int .i64 c.guard,.int .i64 c.err,.int .i64 c.keep,.int .i64 c.loss,.int .i64 c.queue,.int .i64 c.life,.slice none 0 0,.int .i64 0,.slice none 0 0,.map (some wc.heap.size),.slice none 0 0] 61))=ws at *
  obtain⟨W,hWe⟩:=qZ (wc.heap.size+1)
  rw[←hWe] at HWb ⊢
  clear d0 d1 d2 d3 d4 d5 d6 d7 d8 hlc d0' ho hWe
  go_loopw [23] (λi wr=>∃(q:Nat),q≤c.nodes∧i= .int .i64 q∧∃o' r',Wb w o c W cb r' q q wr o') (λi _=>c.nodes-(intOf i).toNat)
  case atStart=>exact⟨0,by omega,rfl,o1,_,HWb.out⟩
  case round=>
   obtain⟨q,hq,rfl,o2,r2,hA⟩:=hrel
   by_cases hlt:q<c.nodes
   ·have i1:(q:Int)<(c.nodes:Int):=by omega
    obtain⟨lA,lcap,hlv⟩:=hA.lval
    obtain⟨bA,bcap,hbv⟩:=hA.bval
    have HA:=qQ (And.intro hA (And.intro hlv hbv))
    have hD:=hA.kept (Chg.drew _ wr)
    have c9:wr.drew.cell? ⟨W,9,none⟩=some (.slice lA q lcap):=by rw[←hlv];exact hD.cell 9
    obtain⟨e0,e1,e2,e3,e4,e5,e6,e7,e8⟩:=vd hD.box
    have HN:=qQ (nnew_any HC.out q hlt hD.z r2.nv r2.hv hD.near hD.hops)
    unfold cfgV at HN
    clear hA hlv hbv hD
    go_wp2_with fail
    refine wp_region_any (by kernel_rfl) ?_
    change wpAny _ _ _ _ _ _ _ (World.drew _)
    refine wpAny_take (i:=0) (v:= .pointer (some ⟨W,0,none⟩)) rfl (by kernel_rfl) (by kernel_rfl) (by kernel_rfl) (λ_ _ _ h=>h) (Or.inl ⟨by rfl,λw=>by go_simp⟩) ?_
    refine wpAny_take (i:=1) (v:= .pointer (some ⟨W,0,none⟩)) rfl (by kernel_rfl) (by kernel_rfl) (by kernel_rfl) (λ_ _ _ h=>h) (Or.inl ⟨by rfl,λw=>by go_simp⟩) ?_
    refine wpAny_take (i:=2) (v:= .pointer (some ⟨W,0,none⟩)) rfl (by kernel_rfl) (by kernel_rfl) (by kernel_rfl) (λ_ _ _ h=>h) (Or.inl ⟨by rfl,λw=>by go_simp⟩) ?_
    refine wpAny_take (i:=3) (v:= .pointer (some ⟨W,9,none⟩)) rfl (by kernel_rfl) (by kernel_rfl) (by kernel_rfl) (λ_ _ _ h=>h) (Or.inl ⟨by rfl,λw=>by go_simp⟩) ?_
    refine wpAny_take (i:=6) (v:= .int .i64 q) rfl (by kernel_rfl) (by kernel_rfl) (by kernel_rfl) (λ_ _ _ h=>h) (Or.inl ⟨by rfl,λw=>by go_simp⟩) ?_
    refine wpAny_ready (rs:=[4,5]) (by kernel_rfl) (by simp) ?_
    refine AllReady.cons rfl (λK hK=>?_) (AllReady.cons rfl (λK hK=>?_) AllReady.nil)
    ·go_simp
     with_reducible refine hK _ _ ?_
     clear hK K
     refine wpAny_ready (rs:=[5]) (by kernel_rfl) (by simp) ?_
     refine AllReady.cons rfl (λK hK=>?_) AllReady.nil
     go_simp
     with_reducible refine hK _ _ ?_
     clear hK K
     refine wpAny_ready (rs:=[7]) (by kernel_rfl) (by simp) ?_
     refine AllReady.cons rfl (λK hK=>?_) AllReady.nil
     go_simp
     with_reducible refine HN.out.mono ?_
     rintro en wp ⟨nb,o3,nr,hen,hlo,he,hz,hnd,g5,hcl⟩
     unfold VP at hen
     subst hen
     dsimp only
     with_reducible refine hK _ _ ?_
     clear hK K
     have hP:=(HA.out.1.kept (Chg.drew _ wr)).same he hz g5
     have hPa:=hP.kept (Chg.alloc (λ_=>False) wp (.cells #[.pointer (some ⟨nb,0,none⟩)] 36))
     have hNa:=hnd.kept (Chg.alloc (λ_=>False) wp (.cells #[.pointer (some ⟨nb,0,none⟩)] 36))
     have p9:wp.cell? ⟨W,9,none⟩=some (.slice lA q lcap):=by rw[←HA.out.2.1];exact hP.cell 9
     have q9:(wp.alloc (.cells #[.pointer (some ⟨nb,0,none⟩)] 36)).cell? ⟨W,9,none⟩=some (.slice lA q lcap):=by rw[←HA.out.2.1];exact hPa.cell 9
     obtain⟨v5,w5,k1,k2,k3,k4⟩:=appRun1 ElN 57 wp (.pointer (some ⟨nb,0,none⟩)) (.slice lA q lcap) q (r2.bs.map VP) (by rw[←HA.out.2.1];exact hPa.row) rfl (by decide) (by omega)
     obtain⟨vA,vcap,rfl⟩:∃A cap,v5= .slice A (q+1) cap:=by
      rcases qD k2 with ⟨e,h1,_⟩|⟨g,cap,e,_⟩
      ·omega
      ·exact⟨_,_,e⟩
     have G5:Chg (λj=>r2.lv.ownBlock=some j) (wp.alloc (.cells #[.pointer (some ⟨nb,0,none⟩)] 36)) w5:=qH k3 (λj e=>by rw[HA.out.2.1];exact e)
     have hb5:=Chg.keep G5 hPa.blk hPa.rowW
     have c9':w5.cell? ⟨W,9,none⟩=some (.slice lA q lcap):=by rw[qJ hb5,←HA.out.2.1];rfl
     have f9':=qK hb5 9
     have HX:=qQ (hPa.node hn1 hlt hNa (v:= .slice vA (q+1) vcap) (w5:=w5) G5 k2 (by rw[HA.out.2.1];simpa using k4))
     clear hlo he hz hnd g5 hcl hP hPa hNa k2 k3 k4 G5 hb5 c9 e0 e1 e2 e3 e4 e5 e6 e7 e8
     refine wpAny_ready (rs:=[8]) (by kernel_rfl) (by simp) ?_
     refine AllReady.cons rfl (λK hK=>?_) AllReady.nil
     go_simp
     with_reducible refine hK _ _ ?_
     clear hK K
     refine wpAny_ready (rs:=[9]) (by kernel_rfl) (by simp) ?_
     refine AllReady.cons rfl (λK hK=>?_) AllReady.nil
     rw[if_pos (by rfl)]
     with_reducible refine wp_app1N (.tmp 30) (.tmp 34) rfl rfl rfl k1 (hK _ _ ?_)
     clear hK K
     refine wpAny_take (i:=10) (v:= .pointer (some ⟨W,0,none⟩)) rfl (by kernel_rfl) (by kernel_rfl) (by kernel_rfl) (λ_ _ _ h=>h) (Or.inl ⟨by rfl,λw=>by go_simp⟩) ?_
     refine wpAny_take (i:=11) (v:= .pointer (some ⟨W,9,none⟩)) rfl (by kernel_rfl) (by kernel_rfl) (by kernel_rfl) (λ_ _ _ h=>h) (Or.inl ⟨by rfl,λw=>by go_simp⟩) ?_
     refine wpAny_ready (rs:=[12]) (by kernel_rfl) (by simp) ?_
     refine AllReady.cons rfl (λK hK=>?_) AllReady.nil
     go_simp
     with_reducible refine hK _ _ ?_
     clear hK K
     refine wpAny_done (by kernel_rfl) ?_ _
     obtain⟨o6,h6⟩:=HX.out
     have c11:(w5.setCell ⟨W,9,none⟩ (.slice vA (q+1) vcap)).cell? ⟨W,11,none⟩=some (.slice bA q bcap):=by rw[←HA.out.2.2];exact h6.cell 11
     have H6:=qQ h6
     clear HX HN p9 q9 k1 c9' f9' h6
     generalize w5.setCell ⟨W,9,none⟩ (.slice vA (q+1) vcap)=w6 at *
     go_wp2_with (at_builtin;go_loud (refine app1S ElI8 rfl (.tmp 42) (.tmp 43) rfl 0 (.slice bA q bcap) q ((List.replicate q (-1:Int)).map VI) rfl (by rw[←HA.out.2.2];exact (H6.out.kept (Chg.alloc _ _ _)).bnd) w6.heap.size [.int .i64 (-1)] rfl (qV w6 _) rfl (by decide) (by decide) (by omega) (Nat.zero_le _) ?grow))
     case grow=>
      intro v7 w7 k2 k3 k4
      obtain⟨yA,ycap,rfl⟩:∃A cap,v7= .slice A (q+1) cap:=by
       rcases qD k2 with ⟨e,h1,_⟩|⟨g,cap,e,_⟩
       ·omega
       ·exact⟨_,_,e⟩
      have hPa:=H6.out.kept (Chg.alloc (λ_=>False) w6 (.cells #[.int .i64 (-1)] 2))
      have G5:Chg (λj=>r2.bv.ownBlock=some j) (w6.alloc (.cells #[.int .i64 (-1)] 2)) w7:=qH k3 (λj e=>by rw[HA.out.2.2];exact e)
      have hb5:=Chg.keep G5 hPa.blk hPa.bndW
      have c11':w7.cell? ⟨W,11,none⟩=some (.slice bA q bcap):=by rw[qJ hb5,←HA.out.2.2];rfl
      have f11':=qK hb5 11
      have HX:=qQ (hPa.bound hn1 (by omega) (v:= .slice yA (q+1) ycap) (w5:=w7) G5 (by simpa using k2) (by rw[HA.out.2.2];simpa using k4))
      clear hPa G5 hb5 k2 k3 k4 c11
      go_wp2_with fail
      go_roundw
      case measure=>simp[intOf];omega
      case rel=>
       obtain⟨o7,h7⟩:=HX.out
       exact⟨q+1,by omega,by go_num,o7,_,h7⟩
    ·go_simp
     with_reducible refine hK _ _ ?_
     clear hK K
     refine wpAny_ready (rs:=[4,7]) (by kernel_rfl) (by simp) ?_
     refine AllReady.cons rfl (λK hK=>?_) (AllReady.cons rfl (λK hK=>?_) AllReady.nil)
     ·go_simp
      with_reducible refine hK _ _ ?_
      clear hK K
      refine wpAny_ready (rs:=[7]) (by kernel_rfl) (by simp) ?_
      refine AllReady.cons rfl (λK hK=>?_) AllReady.nil
      go_simp
      with_reducible refine HN.out.mono ?_
      rintro en wp ⟨nb,o3,nr,hen,hlo,he,hz,hnd,g5,hcl⟩
      unfold VP at hen
      subst hen
      dsimp only
      with_reducible refine hK _ _ ?_
      clear hK K
      have hP:=(HA.out.1.kept (Chg.drew _ wr)).same he hz g5
      have hPa:=hP.kept (Chg.alloc (λ_=>False) wp (.cells #[.pointer (some ⟨nb,0,none⟩)] 36))
      have hNa:=hnd.kept (Chg.alloc (λ_=>False) wp (.cells #[.pointer (some ⟨nb,0,none⟩)] 36))
      have p9:wp.cell? ⟨W,9,none⟩=some (.slice lA q lcap):=by rw[←HA.out.2.1];exact hP.cell 9
      have q9:(wp.alloc (.cells #[.pointer (some ⟨nb,0,none⟩)] 36)).cell? ⟨W,9,none⟩=some (.slice lA q lcap):=by rw[←HA.out.2.1];exact hPa.cell 9
      obtain⟨v5,w5,k1,k2,k3,k4⟩:=appRun1 ElN 57 wp (.pointer (some ⟨nb,0,none⟩)) (.slice lA q lcap) q (r2.bs.map VP) (by rw[←HA.out.2.1];exact hPa.row) rfl (by decide) (by omega)
      obtain⟨vA,vcap,rfl⟩:∃A cap,v5= .slice A (q+1) cap:=by
       rcases qD k2 with ⟨e,h1,_⟩|⟨g,cap,e,_⟩
       ·omega
       ·exact⟨_,_,e⟩
      have G5:Chg (λj=>r2.lv.ownBlock=some j) (wp.alloc (.cells #[.pointer (some ⟨nb,0,none⟩)] 36)) w5:=qH k3 (λj e=>by rw[HA.out.2.1];exact e)
      have hb5:=Chg.keep G5 hPa.blk hPa.rowW
      have c9':w5.cell? ⟨W,9,none⟩=some (.slice lA q lcap):=by rw[qJ hb5,←HA.out.2.1];rfl
      have f9':=qK hb5 9
      have HX:=qQ (hPa.node hn1 hlt hNa (v:= .slice vA (q+1) vcap) (w5:=w5) G5 k2 (by rw[HA.out.2.1];simpa using k4))
      clear hlo he hz hnd g5 hcl hP hPa hNa k2 k3 k4 G5 hb5 c9 e0 e1 e2 e3 e4 e5 e6 e7 e8
      refine wpAny_ready (rs:=[8]) (by kernel_rfl) (by simp) ?_
      refine AllReady.cons rfl (λK hK=>?_) AllReady.nil
      go_simp
      with_reducible refine hK _ _ ?_
      clear hK K
      refine wpAny_ready (rs:=[9]) (by kernel_rfl) (by simp) ?_
      refine AllReady.cons rfl (λK hK=>?_) AllReady.nil
      rw[if_pos (by rfl)]
      with_reducible refine wp_app1N (.tmp 30) (.tmp 34) rfl rfl rfl k1 (hK _ _ ?_)
      clear hK K
      refine wpAny_take (i:=10) (v:= .pointer (some ⟨W,0,none⟩)) rfl (by kernel_rfl) (by kernel_rfl) (by kernel_rfl) (λ_ _ _ h=>h) (Or.inl ⟨by rfl,λw=>by go_simp⟩) ?_
      refine wpAny_take (i:=11) (v:= .pointer (some ⟨W,9,none⟩)) rfl (by kernel_rfl) (by kernel_rfl) (by kernel_rfl) (λ_ _ _ h=>h) (Or.inl ⟨by rfl,λw=>by go_simp⟩) ?_
      refine wpAny_ready (rs:=[12]) (by kernel_rfl) (by simp) ?_
      refine AllReady.cons rfl (λK hK=>?_) AllReady.nil
      go_simp
      with_reducible refine hK _ _ ?_
      clear hK K
      refine wpAny_done (by kernel_rfl) ?_ _
      obtain⟨o6,h6⟩:=HX.out
      have c11:(w5.setCell ⟨W,9,none⟩ (.slice vA (q+1) vcap)).cell? ⟨W,11,none⟩=some (.slice bA q bcap):=by rw[←HA.out.2.2];exact h6.cell 11
      have H6:=qQ h6
      clear HX HN p9 q9 k1 c9' f9' h6
      generalize w5.setCell ⟨W,9,none⟩ (.slice vA (q+1) vcap)=w6 at *
      go_wp2_with (at_builtin;go_loud (refine app1S ElI8 rfl (.tmp 42) (.tmp 43) rfl 0 (.slice bA q bcap) q ((List.replicate q (-1:Int)).map VI) rfl (by rw[←HA.out.2.2];exact (H6.out.kept (Chg.alloc _ _ _)).bnd) w6.heap.size [.int .i64 (-1)] rfl (qV w6 _) rfl (by decide) (by decide) (by omega) (Nat.zero_le _) ?grow))
      case grow=>
       intro v7 w7 k2 k3 k4
       obtain⟨yA,ycap,rfl⟩:∃A cap,v7= .slice A (q+1) cap:=by
        rcases qD k2 with ⟨e,h1,_⟩|⟨g,cap,e,_⟩
        ·omega
        ·exact⟨_,_,e⟩
       have hPa:=H6.out.kept (Chg.alloc (λ_=>False) w6 (.cells #[.int .i64 (-1)] 2))
       have G5:Chg (λj=>r2.bv.ownBlock=some j) (w6.alloc (.cells #[.int .i64 (-1)] 2)) w7:=qH k3 (λj e=>by rw[HA.out.2.2];exact e)
       have hb5:=Chg.keep G5 hPa.blk hPa.bndW
       have c11':w7.cell? ⟨W,11,none⟩=some (.slice bA q bcap):=by rw[qJ hb5,←HA.out.2.2];rfl
       have f11':=qK hb5 11
       have HX:=qQ (hPa.bound hn1 (by omega) (v:= .slice yA (q+1) ycap) (w5:=w7) G5 (by simpa using k2) (by rw[HA.out.2.2];simpa using k4))
       clear hPa G5 hb5 k2 k3 k4 c11
       go_wp2_with fail
       go_roundw
       case measure=>simp[intOf];omega
       case rel=>
        obtain⟨o7,h7⟩:=HX.out
        exact⟨q+1,by omega,by go_num,o7,_,h7⟩
     ·go_simp
      with_reducible refine HN.out.mono ?_
      rintro en wp ⟨nb,o3,nr,hen,hlo,he,hz,hnd,g5,hcl⟩
      unfold VP at hen
      subst hen
      dsimp only
      with_reducible refine hK _ _ ?_
      clear hK K
      have hP:=(HA.out.1.kept (Chg.drew _ wr)).same he hz g5
      have hPa:=hP.kept (Chg.alloc (λ_=>False) wp (.cells #[.pointer (some ⟨nb,0,none⟩)] 36))
      have hNa:=hnd.kept (Chg.alloc (λ_=>False) wp (.cells #[.pointer (some ⟨nb,0,none⟩)] 36))
      have p9:wp.cell? ⟨W,9,none⟩=some (.slice lA q lcap):=by rw[←HA.out.2.1];exact hP.cell 9
      have q9:(wp.alloc (.cells #[.pointer (some ⟨nb,0,none⟩)] 36)).cell? ⟨W,9,none⟩=some (.slice lA q lcap):=by rw[←HA.out.2.1];exact hPa.cell 9
      obtain⟨v5,w5,k1,k2,k3,k4⟩:=appRun1 ElN 57 wp (.pointer (some ⟨nb,0,none⟩)) (.slice lA q lcap) q (r2.bs.map VP) (by rw[←HA.out.2.1];exact hPa.row) rfl (by decide) (by omega)
      obtain⟨vA,vcap,rfl⟩:∃A cap,v5= .slice A (q+1) cap:=by
       rcases qD k2 with ⟨e,h1,_⟩|⟨g,cap,e,_⟩
       ·omega
       ·exact⟨_,_,e⟩
      have G5:Chg (λj=>r2.lv.ownBlock=some j) (wp.alloc (.cells #[.pointer (some ⟨nb,0,none⟩)] 36)) w5:=qH k3 (λj e=>by rw[HA.out.2.1];exact e)
      have hb5:=Chg.keep G5 hPa.blk hPa.rowW
      have c9':w5.cell? ⟨W,9,none⟩=some (.slice lA q lcap):=by rw[qJ hb5,←HA.out.2.1];rfl
      have f9':=qK hb5 9
      have HX:=qQ (hPa.node hn1 hlt hNa (v:= .slice vA (q+1) vcap) (w5:=w5) G5 k2 (by rw[HA.out.2.1];simpa using k4))
      clear hlo he hz hnd g5 hcl hP hPa hNa k2 k3 k4 G5 hb5 c9 e0 e1 e2 e3 e4 e5 e6 e7 e8
      refine wpAny_ready (rs:=[4,8]) (by kernel_rfl) (by simp) ?_
      refine AllReady.cons rfl (λK hK=>?_) (AllReady.cons rfl (λK hK=>?_) AllReady.nil)
      ·go_simp
       with_reducible refine hK _ _ ?_
       clear hK K
       refine wpAny_ready (rs:=[8]) (by kernel_rfl) (by simp) ?_
       refine AllReady.cons rfl (λK hK=>?_) AllReady.nil
       go_simp
       with_reducible refine hK _ _ ?_
       clear hK K
       refine wpAny_ready (rs:=[9]) (by kernel_rfl) (by simp) ?_
       refine AllReady.cons rfl (λK hK=>?_) AllReady.nil
       rw[if_pos (by rfl)]
       with_reducible refine wp_app1N (.tmp 30) (.tmp 34) rfl rfl rfl k1 (hK _ _ ?_)
       clear hK K
       refine wpAny_take (i:=10) (v:= .pointer (some ⟨W,0,none⟩)) rfl (by kernel_rfl) (by kernel_rfl) (by kernel_rfl) (λ_ _ _ h=>h) (Or.inl ⟨by rfl,λw=>by go_simp⟩) ?_
       refine wpAny_take (i:=11) (v:= .pointer (some ⟨W,9,none⟩)) rfl (by kernel_rfl) (by kernel_rfl) (by kernel_rfl) (λ_ _ _ h=>h) (Or.inl ⟨by rfl,λw=>by go_simp⟩) ?_
       refine wpAny_ready (rs:=[12]) (by kernel_rfl) (by simp) ?_
       refine AllReady.cons rfl (λK hK=>?_) AllReady.nil
       go_simp
       with_reducible refine hK _ _ ?_
       clear hK K
       refine wpAny_done (by kernel_rfl) ?_ _
       obtain⟨o6,h6⟩:=HX.out
       have c11:(w5.setCell ⟨W,9,none⟩ (.slice vA (q+1) vcap)).cell? ⟨W,11,none⟩=some (.slice bA q bcap):=by rw[←HA.out.2.2];exact h6.cell 11
       have H6:=qQ h6
       clear HX HN p9 q9 k1 c9' f9' h6
       generalize w5.setCell ⟨W,9,none⟩ (.slice vA (q+1) vcap)=w6 at *
       go_wp2_with (at_builtin;go_loud (refine app1S ElI8 rfl (.tmp 42) (.tmp 43) rfl 0 (.slice bA q bcap) q ((List.replicate q (-1:Int)).map VI) rfl (by rw[←HA.out.2.2];exact (H6.out.kept (Chg.alloc _ _ _)).bnd) w6.heap.size [.int .i64 (-1)] rfl (qV w6 _) rfl (by decide) (by decide) (by omega) (Nat.zero_le _) ?grow))
       case grow=>
        intro v7 w7 k2 k3 k4
        obtain⟨yA,ycap,rfl⟩:∃A cap,v7= .slice A (q+1) cap:=by
         rcases qD k2 with ⟨e,h1,_⟩|⟨g,cap,e,_⟩
         ·omega
         ·exact⟨_,_,e⟩
        have hPa:=H6.out.kept (Chg.alloc (λ_=>False) w6 (.cells #[.int .i64 (-1)] 2))
        have G5:Chg (λj=>r2.bv.ownBlock=some j) (w6.alloc (.cells #[.int .i64 (-1)] 2)) w7:=qH k3 (λj e=>by rw[HA.out.2.2];exact e)
        have hb5:=Chg.keep G5 hPa.blk hPa.bndW
        have c11':w7.cell? ⟨W,11,none⟩=some (.slice bA q bcap):=by rw[qJ hb5,←HA.out.2.2];rfl
        have f11':=qK hb5 11
        have HX:=qQ (hPa.bound hn1 (by omega) (v:= .slice yA (q+1) ycap) (w5:=w7) G5 (by simpa using k2) (by rw[HA.out.2.2];simpa using k4))
        clear hPa G5 hb5 k2 k3 k4 c11
        go_wp2_with fail
        go_roundw
        case measure=>simp[intOf];omega
        case rel=>
         obtain⟨o7,h7⟩:=HX.out
         exact⟨q+1,by omega,by go_num,o7,_,h7⟩
      ·go_simp
       with_reducible refine hK _ _ ?_
       clear hK K
       refine wpAny_ready (rs:=[4]) (by kernel_rfl) (by simp) ?_
       refine AllReady.cons rfl (λK hK=>?_) AllReady.nil
       go_simp
       with_reducible refine hK _ _ ?_
       clear hK K
       refine wpAny_ready (rs:=[9]) (by kernel_rfl) (by simp) ?_
       refine AllReady.cons rfl (λK hK=>?_) AllReady.nil
       rw[if_pos (by rfl)]
       with_reducible refine wp_app1N (.tmp 30) (.tmp 34) rfl rfl rfl k1 (hK _ _ ?_)
       clear hK K
       refine wpAny_take (i:=10) (v:= .pointer (some ⟨W,0,none⟩)) rfl (by kernel_rfl) (by kernel_rfl) (by kernel_rfl) (λ_ _ _ h=>h) (Or.inl ⟨by rfl,λw=>by go_simp⟩) ?_
       refine wpAny_take (i:=11) (v:= .pointer (some ⟨W,9,none⟩)) rfl (by kernel_rfl) (by kernel_rfl) (by kernel_rfl) (λ_ _ _ h=>h) (Or.inl ⟨by rfl,λw=>by go_simp⟩) ?_
       refine wpAny_ready (rs:=[12]) (by kernel_rfl) (by simp) ?_
       refine AllReady.cons rfl (λK hK=>?_) AllReady.nil
       go_simp
       with_reducible refine hK _ _ ?_
       clear hK K
       refine wpAny_done (by kernel_rfl) ?_ _
       obtain⟨o6,h6⟩:=HX.out
       have c11:(w5.setCell ⟨W,9,none⟩ (.slice vA (q+1) vcap)).cell? ⟨W,11,none⟩=some (.slice bA q bcap):=by rw[←HA.out.2.2];exact h6.cell 11
       have H6:=qQ h6
       clear HX HN p9 q9 k1 c9' f9' h6
       generalize w5.setCell ⟨W,9,none⟩ (.slice vA (q+1) vcap)=w6 at *
       go_wp2_with (at_builtin;go_loud (refine app1S ElI8 rfl (.tmp 42) (.tmp 43) rfl 0 (.slice bA q bcap) q ((List.replicate q (-1:Int)).map VI) rfl (by rw[←HA.out.2.2];exact (H6.out.kept (Chg.alloc _ _ _)).bnd) w6.heap.size [.int .i64 (-1)] rfl (qV w6 _) rfl (by decide) (by decide) (by omega) (Nat.zero_le _) ?grow))
       case grow=>
        intro v7 w7 k2 k3 k4
        obtain⟨yA,ycap,rfl⟩:∃A cap,v7= .slice A (q+1) cap:=by
         rcases qD k2 with ⟨e,h1,_⟩|⟨g,cap,e,_⟩
         ·omega
         ·exact⟨_,_,e⟩
        have hPa:=H6.out.kept (Chg.alloc (λ_=>False) w6 (.cells #[.int .i64 (-1)] 2))
        have G5:Chg (λj=>r2.bv.ownBlock=some j) (w6.alloc (.cells #[.int .i64 (-1)] 2)) w7:=qH k3 (λj e=>by rw[HA.out.2.2];exact e)
        have hb5:=Chg.keep G5 hPa.blk hPa.bndW
        have c11':w7.cell? ⟨W,11,none⟩=some (.slice bA q bcap):=by rw[qJ hb5,←HA.out.2.2];rfl
        have f11':=qK hb5 11
        have HX:=qQ (hPa.bound hn1 (by omega) (v:= .slice yA (q+1) ycap) (w5:=w7) G5 (by simpa using k2) (by rw[HA.out.2.2];simpa using k4))
        clear hPa G5 hb5 k2 k3 k4 c11
        go_wp2_with fail
        go_roundw
        case measure=>simp[intOf];omega
        case rel=>
         obtain⟨o7,h7⟩:=HX.out
         exact⟨q+1,by omega,by go_num,o7,_,h7⟩
   ·obtain rfl:q=c.nodes:=by omega
    obtain⟨g,cap,cur,hbv,_⟩:=vL hA.bnd (by omega)
    have c11:wr.cell? ⟨W,11,none⟩=some (.slice (some ⟨g,0,none⟩) c.nodes cap):=by rw[←hbv];exact hA.cell 11
    have hbn:=hA.bnd
    rw[hbv] at hbn
    have cg:wr.cell? ⟨g,0,none⟩=some (.int .i64 (-1)):=qp hbn 0 _ (by
     rw[List.getElem?_map,List.getElem?_replicate,if_pos (by omega)];rfl)
    have fg:=zw hbn 0
    have i0:(0:Int)<(c.nodes:Int):=by omega
    have HD:=qQ (hA.done HC.out hbv)
    clear hA hbv hbn hq hlt
    go_wp2_with fail
    go_ret2
    obtain⟨h1,h2,h3,h4⟩:=HD.out
    exact⟨W,o2,r2,rfl,h1,h2,h3,h4⟩
end
def PMade(w:World)(o:Cls)(c:Cfg)(en:Ending)(w':World):Prop:=
 ∃W o' r,en= .returned (VP W)∧Wd w' o' c W r (newW c) 0∧Z w' o'∧Ext w o o'∧Chg (λ_=>False) w w'∧r.ij=qh
section
variable {w0 w w':World}{o0 o o':Cls}{c:Cfg}{W cb k m:Nat}{r r':WR}{S:Nat→Prop}
theorem made_any(hc:CfgOk c)(hz:Z w o)(nv hv:Value)(hn:RV VU w o nv c.near)(hh:RV VI w o hv c.hops):Calls Tryz.prog 6 #[cfgV c nv hv] w (PMade w o c):=by
 have ga:=Chg.alloc (λ_=>False) w (cfgB c nv hv)
 have hb:=qV w (cfgB c nv hv)
 have HM:=qQ (wnew_any hc (hz.more ga.size) nv hv (hn.keep ga (λ_ _ e=>e)) (hh.keep ga (λ_ _ e=>e)))
 unfold cfgB at hb ga HM
 have HG:=qQ ga
 obtain⟨d0,d1,d2,d3,d4,d5,d6,d7,d8⟩:=vd hb
 obtain⟨nA,ncap,hnv,_⟩:=hn
 obtain⟨hA,hcap,hhv,_⟩:=hh
 obtain⟨nl,hnl⟩:∃n,n=c.near.length:=⟨_,rfl⟩
 obtain⟨hl,hhl⟩:∃n,n=c.hops.length:=⟨_,rfl⟩
 rw[←hnl] at hnv
 rw[←hhl] at hhv
 subst hnv hhv
 clear hnl hhl
 unfold cfgV at HM ⊢
 clear hb ga hz hc
 go_enter Tryz.func6,Tryz.ntmps6
 go_wp2_with fail
 with_reducible refine HM.out.mono ?_
 rintro en w1 ⟨W,o1,r1,rfl,h1,h2,h3,h4⟩
 have H1:=qQ (And.intro h1 (And.intro h2 (And.intro h3 h4)))
 clear h1 h2 h3 h4 d0 d1 d2 d3 d4 d5 d6 d7 d8 HM
 unfold VP
 go_wp2_with fail
 go_ret
 obtain⟨h1,h2,h3,h4⟩:=H1.out
 have hs:=HG.out.size
 exact⟨W,o1,r1,rfl,h1,h2,λk hk=>h3 k (by omega),HG.out.trans h4.1,h4.2⟩
end
theorem encF_len(f:Fr)(h:mayF f=true):(encF f).length≤1000:=by
 obtain⟨m1,m2,m3,_⟩:=vN h
 have hi:(encI f.ies).length≤18*f.ies.length+1:=by
  have:=encI_len m2
  unfold encI
  simp only[List.length_cons]
  omega
 unfold encF bodyF headF jJ
 simp only[List.length_append,qq,List.length_cons,List.length_nil]
 omega
section
variable {c:Cfg}{d:Dr}{t:Int}{x:WM}{j:Nat}
theorem backA_len{i:Nat}{f:Fr}{now ms:Int}{s:NSt}:((kQ i f now ms s).getD []).length≤1000:=by
 unfold kQ
 split
 ·split
  ·rename_i h;exact encF_len _ h
  ·simp
 ·simp
theorem ansN_len{i:Nat}{s:NSt}{X:Int×Fr}{now ms:Int}{f:Fr}:((ansN i c s X now ms (kQ i f now ms)).getD []).length≤1000:=by
 unfold ansN
 split
 ·split
  ·exact backA_len
  ·split
   ·simp
   ·exact backA_len
 ·simp
end
end Go.Proofs.YtnpihllannobgaaGreatDoor
