/- Steps of the proof, part H39. No condition. -/
import Derived.Test.YtnpihllannobgaaGreatDoorH36
import Derived.BigRegion
namespace Go.Proofs.YtnpihllannobgaaGreatDoor
set_option linter.unusedVariables false
set_option linter.unusedSimpArgs false
set_option maxRecDepth 100000
set_option maxHeartbeats 32000000
open Go.ChangeShapes Go.WideShapes Go.ChangeAt Go.RowKit
def vG(c:Cfg)(i:Nat)(s:NSt)(now tw:Int)(T:List Int)(L:List Int):Pk:=⟨i,tw,max (s.last+1) (now*64),c.life,L,T⟩
def zR(c:Cfg)(s:NSt)(p:Pk)(goes:Int):NSt×Int×Int:=
 if 70368744177663<p.n∨mayP p=false∨c.queue≤s.q.length then (s,0,5) else ({s with q:=s.q++[(goes,encP p)],last:=p.n},p.n,0)
def postN(c:Cfg)(i:Nat)(s:NSt)(now tw:Int)(T:List Int):NSt×Int×Int:=
 if hasB c tw=false∨tw=i∨inR T.length 1 24=false then (s,0,1) else
 if s.synced=false∨(i≠0∧qR s=64) then (s,0,7) else
 if i=0 then (match s.paths tw with|none=>(s,0,6)|some L=>zR c s (vG c i s now tw T L) (L.getD 1 0))
 else zR c s (vG c i s now tw T [(i:Int)]) 64
def PPost(x:NSt×Int×Int)(v:Value)(w:World)(o:Cls):Prop:=v= .tuple #[.int .i64 x.2.1,.int .i64 x.2.2]
section
variable {w0 w w':World}{o0 o o':Cls}{c:Cfg}{i b:Nat}{s s':NSt}{r r':NR}
theorem jZ(w:World)(c1 c2:Array Value)(t1 t2:TypeId):((w.alloc (.cells c1 t1)).alloc (.cells c2 t2)).drew.heap[w.heap.size]? =some (.cells c1 t1 (0,0))∧((w.alloc (.cells c1 t1)).alloc (.cells c2 t2)).drew.heap[w.heap.size+1]? =some (.cells c2 t2 (0,0))∧Chg (λ_=>False) w ((w.alloc (.cells c1 t1)).alloc (.cells c2 t2)).drew:=by
 refine⟨Chg.keep ((Chg.alloc (λ_=>False) _ _).trans (Chg.drew _ _)) (qV w _) (λe=>e),?_,((Chg.alloc _ _ _).trans (Chg.alloc _ _ _)).trans (Chg.drew _ _)⟩
 have:=qV (w.alloc (.cells c1 t1)) (.cells c2 t2)
 rw[show (w.alloc (.cells c1 t1)).heap.size=w.heap.size+1 from by simp] at this
 exact Chg.keep (Chg.drew (λ_=>False) _) this (λe=>e)
theorem RV.one{w:World}{o:Cls}{pb:Nat}{x:Int}(h:w.heap[pb]? =some (.cells #[.int .i64 x] 3 (0,0))) (ho:o pb=0):RV VI w o (.slice (some ⟨pb,0,none⟩) 1 1) [x]:=
 ⟨some ⟨pb,0,none⟩,1,rfl,⟨rfl,λk hk=>⟨_,rfl,ho,by
  have:k=0:=by simp at hk;exact hk
  subst this
  rw[add_mk];rw[qJ h];rfl⟩⟩,(λe=>by cases e),Nat.le_refl _,by decide⟩
theorem npost_any(hc:CfgOk c)(h:NAt w0 o0 c i b s w o r)(hi:i<c.nodes)(now tw:Int)(v:Value)(T:List Int)(hv:BO w o v T)(h0:0≤now)(h1:now<1099511627776)(hl: -1≤s.last∧s.last≤140737488355328)
  (hpl:∀n L,s.paths n=some L→2≤L.length∧L.length≤100000) (hq:s.q.length≤900):
  Calls Tryz.prog 39 #[.pointer (some ⟨b,0,none⟩),.int .i64 now,.int .i64 tw,v] w (PN w0 o0 c i b (postN c i s now tw T).1 (PPost (postN c i s now tw T))):=by
 obtain⟨FS,hFS⟩:∃FS,postN c i s now tw T=FS:=⟨_,rfl⟩
 rw[hFS]
 unfold postN at hFS
 obtain⟨vA,vc,rfl,hvr,hvn,_⟩:=hv.1
 obtain⟨tn,htn⟩:∃n,n=T.length:=⟨_,rfl⟩
 rw[←htn] at hvr hFS ⊢
 have hc16:c.nodes≤16:=hc.n1
 have HASN:=qQ (λw=>jB now h0 h1 w)
 have HHAS:=nhas_any h tw hc16
 have HIN:=qQ (λW=>nin_any (tn:Int) 1 24 W)
 have HFI:=qt h
 obtain⟨B1,hB1⟩:∃B,B=hasB c tw:=⟨_,rfl⟩
 change Calls Tryz.prog 78 _ _ (PV0 (.bool (hasB c tw)) w) at HHAS
 rw[←hB1] at HHAS hFS
 obtain⟨B2,hB2⟩:∃B,B=inR (tn:Int) 1 24:=⟨_,rfl⟩
 rw[←hB2] at HIN hFS
 obtain⟨t,ht⟩:=qZ (qR s)
 rw[←ht] at HFI hFS
 have HHAS:=qQ HHAS
 have HFI:=qQ HFI
 have H:=qQ h
 have HFS:=qQ hFS
 have HV:=qQ (show BO w o (.slice vA tn vc) T from by rw[htn];exact hv)
 have HB2:=qQ (And.intro hB2 htn)
 have HPL:=qQ hpl
 have hT:inR (T.length:Int) 1 24=true→T.length≤100000:=λe=>by
  unfold inR at e
  simp only[Bool.and_eq_true,decide_eq_true_eq] at e
  omega
 have HC:=qQ (And.intro hc (And.intro hi (And.intro hT hq)))
 have c9:w.cell? ⟨b,9,none⟩=some (.int .i64 i):=h.cell 9
 have c18:w.cell? ⟨b,18,none⟩=some (.bool s.synced):=h.cell 18
 have c16:w.cell? ⟨b,16,none⟩=some (.int .i64 s.last):=h.cell 16
 have c8:w.cell? ⟨b,8,none⟩=some (.int .i64 c.life):=h.cell 8
 clear h hc hi hv hT hpl hq hFS hB1 hB2 hc16 ht hvr hvn htn
 go_enter Tryz.func39,Tryz.ntmps39
 go_wp2_with fail
 (with_reducible refine (HASN.out _).mono ?_)
 rintro en w1 ⟨rfl,rfl⟩
 go_wp2_with fail
 with_reducible refine HHAS.out.mono ?_
 rintro en w2 ⟨rfl,hw2⟩
 subst hw2
 cases B1 with
 |false=>
  have HF:=qQ (show FS=(s,0,1) from by rw[←HFS.out,if_pos (.inl rfl)])
  go_wp2_with fail
  go_ret2
  rw[HF.out]
  exact⟨_,o,r,rfl,H.out,rfl⟩
 |true=>
 by_cases hti:tw=(i:Int)
 ·have t35:(tw==(i:Int))=true:=by simpa using hti
  have HF:=qQ (show FS=(s,0,1) from by rw[←HFS.out,if_pos (.inr (.inl hti))])
  clear hti
  go_wp2_with fail
  go_ret2
  rw[HF.out]
  exact⟨_,o,r,rfl,H.out,rfl⟩
 have t35:(tw==(i:Int))=false:=by simpa using hti
 have HTI:=qQ hti
 clear hti
 go_wp2_with fail
 (with_reducible refine (HIN.out _).mono ?_)
 rintro en w2 ⟨rfl,hw2⟩
 subst hw2
 cases B2 with
 |false=>
  have HF:=qQ (show FS=(s,0,1) from by rw[←HFS.out,if_pos (.inr (.inr rfl))])
  go_wp2_with fail
  go_ret2
  rw[HF.out]
  exact⟨_,o,r,rfl,H.out,rfl⟩
 |true=>
 have HFS1:=qQ (show FS=if s.synced=false∨(i≠0∧t=64) then (s,0,7) else if i=0 then (match s.paths tw with|none=>(s,0,6)|some L=>zR c s (vG c i s now tw T L) (L.getD 1 0)) else zR c s (vG c i s now tw T [(i:Int)]) 64 from by
  rw[←HFS.out,if_neg (λe=>by rcases e with e|e|e;cases e;exact HTI.out e;cases e)])
 clear HFS
 cases hsy:s.synced with
 |false=>
  have HF:=qQ (show FS=(s,0,7) from by rw[HFS1.out,if_pos (.inl hsy)])
  rw[hsy] at c18
  clear hsy
  go_wp2_with fail
  go_ret2
  rw[HF.out]
  exact⟨_,o,r,rfl,H.out,rfl⟩
 |true=>
 rw[hsy] at c18
 have HSY:=qQ hsy
 clear hsy
 obtain⟨dead,hdead⟩:=qZ (decide (i≠0∧t=64))
 have HDEAD:=qQ hdead
 clear hdead
 go_upto_region 3 with fail
 go_cut [59] (λu wx=>u= .bool dead∧Chg (λ_=>False) w2 wx)
 case first=>
  by_cases hi0:i=0
  ·have t53:((i:Int) != 0)=false:=by simp;omega
   have HI0:=qQ (show dead=false from by rw[HDEAD.out];simp[hi0])
   clear hi0
   go_wp2_with fail
   go_meet
   exact⟨by rw[HI0.out],Chg.refl _ _⟩
  ·have t53:((i:Int) != 0)=true:=by simp;omega
   have HI0:=qQ (show dead=(t==64) from by rw[HDEAD.out];simp only[hi0,ne_eq,not_false_eq_true,true_and];rfl)
   clear hi0
   go_wp2_with fail
   with_reducible refine HFI.out.mono ?_
   rintro en w3 ⟨rfl,g2⟩
   have HG2:=qQ g2
   clear g2
   go_wp2_with fail
   go_meet
   exact⟨by rw[HI0.out],HG2.out⟩
 case rest=>
  obtain⟨rfl,hG⟩:=hcut
  have HN:=qQ (H.out.kept hG)
  have HVV:=qQ (HV.out.keep hG (λ_ _ e=>e))
  clear c9 c18 c16 c8 H HV HHAS HFI hG
  cases dead with
  |true=>
   have HF:=qQ (show FS=(s,0,7) from by rw[HFS1.out,if_pos (.inr (of_decide_eq_true HDEAD.out.symm))])
   go_wp2_with fail
   go_ret2
   rw[HF.out]
   exact⟨_,o,r,rfl,HN.out,rfl⟩
  |false=>
  have HFS2:=qQ (show FS=if i=0 then (match s.paths tw with|none=>(s,0,6)|some L=>zR c s (vG c i s now tw T L) (L.getD 1 0)) else zR c s (vG c i s now tw T [(i:Int)]) 64 from by
   rw[HFS1.out,if_neg (λe=>by rcases e with e|e;(rw[HSY.out] at e;cases e);exact of_decide_eq_false HDEAD.out.symm e)])
  clear HFS1 HDEAD
  obtain⟨wB,rfl⟩:=qZ wc
  have c9:wB.cell? ⟨b,9,none⟩=some (.int .i64 i):=HN.out.cell 9
  have c16:wB.cell? ⟨b,16,none⟩=some (.int .i64 s.last):=HN.out.cell 16
  have c8:wB.cell? ⟨b,8,none⟩=some (.int .i64 c.life):=HN.out.cell 8
  obtain⟨num,hnum⟩:=qZ (max (s.last+1) (now*64))
  have HNUM:=qQ hnum
  have e1:IntKind.i64.wrap (s.last+1)=s.last+1:=IntWalk.i64_in _ (by omega)
  have e2:IntKind.i64.wrap (now*64)=now*64:=IntWalk.i64_in _ (by omega)
  go_upto_region 5 with fail
  go_cut [10] (λu10 wx=>∃a pb,u10= .pointer (some ⟨a,0,none⟩)∧wx.heap[a]? =some (.cells #[.int .i64 i,.int .i64 tw,.int .i64 num,.int .i64 c.life,.slice (some ⟨pb,0,none⟩) 1 1,.slice vA tn vc] 42 (0,0))∧wx.heap[pb]? =some (.cells #[.int .i64 i] 3 (0,0))∧wB.heap.size≤a∧wB.heap.size≤pb∧Chg (λ_=>False) wB wx)
  case first=>
   have c9a:=qL c9 (.cells #[.int .i64 0,.int .i64 0,.int .i64 0,.int .i64 0,.slice none 0 0,.slice none 0 0] 42)
   have c9b:=qL c9 (.cells #[.int .i64 i] 3)
   have c9c:=qL c9a (.cells #[.int .i64 i] 3)
   have c9d:=qL c9b (.cells #[.int .i64 0,.int .i64 0,.int .i64 0,.int .i64 0,.slice none 0 0,.slice none 0 0] 42)
   have c16a:=qL c16 (.cells #[.int .i64 0,.int .i64 0,.int .i64 0,.int .i64 0,.slice none 0 0,.slice none 0 0] 42)
   have c16b:=qL c16 (.cells #[.int .i64 i] 3)
   have c16c:=qL c16a (.cells #[.int .i64 i] 3)
   have c16d:=qL c16b (.cells #[.int .i64 0,.int .i64 0,.int .i64 0,.int .i64 0,.slice none 0 0,.slice none 0 0] 42)
   have c8a:=qL c8 (.cells #[.int .i64 0,.int .i64 0,.int .i64 0,.int .i64 0,.slice none 0 0,.slice none 0 0] 42)
   have c8b:=qL c8 (.cells #[.int .i64 i] 3)
   have c8c:=qL c8a (.cells #[.int .i64 i] 3)
   have c8d:=qL c8b (.cells #[.int .i64 0,.int .i64 0,.int .i64 0,.int .i64 0,.slice none 0 0,.slice none 0 0] 42)
   have HNM:=HNUM.out
   by_cases hlt:s.last+1<now*64
   ·have hnm:num=now*64:=by rw[hnum];omega
    clear hnum HNM
    subst hnm
    go_region
    all_goals
     go_wp2_with fail
     go_meet
     first
      |exact⟨_,_,rfl,(jZ wB _ _ _ _).2.1,(jZ wB _ _ _ _).1,by omega,Nat.le_refl _,(jZ wB _ _ _ _).2.2⟩
      |exact⟨_,_,rfl,(jZ wB _ _ _ _).1,(jZ wB _ _ _ _).2.1,Nat.le_refl _,by omega,(jZ wB _ _ _ _).2.2⟩
   ·have hnm:num=s.last+1:=by rw[hnum];omega
    clear hnum HNM
    subst hnm
    go_region
    all_goals
     go_wp2_with fail
     go_meet
     first
      |exact⟨_,_,rfl,(jZ wB _ _ _ _).2.1,(jZ wB _ _ _ _).1,by omega,Nat.le_refl _,(jZ wB _ _ _ _).2.2⟩
      |exact⟨_,_,rfl,(jZ wB _ _ _ _).1,(jZ wB _ _ _ _).2.1,Nat.le_refl _,by omega,(jZ wB _ _ _ _).2.2⟩
  case rest=>
   obtain⟨a,pb,rfl,hA,hB,ha,hb,hX⟩:=hcut
   obtain⟨wD,rfl⟩:=qZ wc
   have HNW:=qQ (HN.out.kept hX)
   have HVN:=qQ (HVV.out.keep hX (λ_ _ e=>e))
   have HOA:=qQ (show o a=0 from HN.out.z _ ha)
   have HRP:=qQ (RV.one hB (HN.out.z _ hb))
   have HBA:=qQ hA
   have HNB:=qQ (And.intro HN.out (And.intro HVV.out (And.intro hX ha)))
   clear hA hB ha hb hX c9 c16 c8 HN HVV e1 e2 hnum
   obtain⟨d0,d1,d2,d3,d4,d5⟩:=qC HBA.out
   have c9:wD.cell? ⟨b,9,none⟩=some (.int .i64 i):=HNW.out.cell 9
   by_cases hi0:i=0
   ·have t89:((i:Int)==0)=true:=by simp;omega
    have HFS2:=qQ (show FS=(match s.paths tw with|none=>(s,0,6)|some L=>zR c s (vG c i s now tw T L) (L.getD 1 0)) from by rw[HFS2.out,if_pos hi0])
    have c22:wD.cell? ⟨b,22,none⟩=some (.map (some r.paths)):=HNW.out.cell 22
    obtain⟨v,hv,hlk⟩:=HNB.out.1.nd.np.2.2.2.2.2.2.2.2.2.1.look tw
    have hlk:=hlk wD HNB.out.2.2.1
    obtain⟨y,hy⟩:=qZ (s.paths tw)
    have HY:=qQ hy
    rw[←hy] at hv hlk HFS2
    have HV0:=qQ hv
    obtain⟨pA,pc,hvv,hro,_⟩:=hv
    cases y with
    |none=>
     have HF:=qQ (show FS=(s,0,6) from HFS2.out)
     simp only[Option.getD_none,List.length_nil] at hvv
     subst hvv
     clear hi0 hro HFS2 hy
     go_wp2_with fail
     go_ret2
     rw[HF.out]
     exact⟨_,o,r,rfl,HNW.out,rfl⟩
    |some L=>
     have HFS2:=qQ (show FS=zR c s (vG c i s now tw T L) (L.getD 1 0) from HFS2.out)
     have hpl:=HPL.out tw L HY.out.symm
     have HLL:=qQ hpl.2
     simp only[Option.getD_some] at hvv hro
     obtain⟨x,z,hpx,hz,hcx⟩:=hro.at (i:=1) (by omega)
     have hzz:L.getD 1 0=z:=by rw[List.getD_eq_getElem?_getD,hz];rfl
     have hlt:=qG hcx
     have hcx:wD.cell? (x.add 1)=some (.int .i64 z):=by rw[HNB.out.2.2.1.cell hlt (λe=>e)];exact hcx
     have HV0:=qQ (show RV VI wB o v L from HV0.out)
     obtain⟨kL,hkL⟩:∃k,k=L.length:=⟨_,rfl⟩
     rw[←hkL] at hvv
     subst hpx hvv
     have i1:(1:Int)<(kL:Int):=by omega
     have i2:1<kL:=by omega
     have hxa:¬(x.add 1).block=a:=by have:=HNB.out.2.2.2;rw[zJ] at hlt ⊢;omega
     have hxa2:¬x.block=a:=by rw[zJ] at hxa;exact hxa
     have f4:=qK HBA.out 4
     obtain⟨xg,xo,xs⟩:=x
     have hga:¬xg=a:=hxa2
     have hag:¬a=xg:=λe=>hga e.symm
     have hcx2:wD.cell? ⟨xg,xo+1,none⟩=some (.int .i64 z):=hcx
     have hcx3:(wD.setCell ⟨a,4,none⟩ (.slice (some ⟨xg,xo,xs⟩) kL pc)).cell? ⟨xg,xo+1,none⟩=some (.int .i64 z):=cell_st hcx2 hga 4 _
     clear hi0 hro hy hpl hz hlt hkL
     go_upto_region 11 with fail
     go_cut [11] (λu11 wx=>u11= .int .i64 z∧wx.heap[a]? =some (.cells #[.int .i64 i,.int .i64 tw,.int .i64 num,.int .i64 c.life,.slice (some ⟨xg,xo,xs⟩) kL pc,.slice vA tn vc] 42 (0,0))∧Chg (· =a) wD wx)
     case first=>
      go_region_with fail
      all_goals
       go_wp2_with fail
       go_meet
       exact⟨rfl,Chg.keep (Chg.drew (λ_=>False) _) (by have:=qB HBA.out 4 (.slice (some ⟨xg,xo,xs⟩) kL pc);simpa using this) (λe=>e),(chg1 wD a 4 _).trans (Chg.drew _ _)⟩
     case rest=>
      obtain⟨rfl,hA,hX⟩:=hcut
      obtain⟨wE,rfl⟩:=qZ wc
      have G0:Chg (λ_=>False) wB wE:=(HNB.out.2.2.1.none.trans (hX.mono (λk _ e=>by rw[show k=a from e];exact HNB.out.2.2.2))).fresh
      have HNW:=qQ (HNB.out.1.kept G0)
      have HVN:=qQ (HNB.out.2.1.keep G0 (λ_ _ e=>e))
      have HRV:=qQ (HV0.out.keep G0 (λ_ _ e=>e))
      have HBA:=qQ hA
      clear d0 d1 d2 d3 d4 d5 c9 c22 hcx hcx2 hcx3 hga hag hxa hxa2 f4 hX hA G0 hlk
      obtain⟨d0,d1,d2,d3,d4,d5⟩:=qC HBA.out
      rw[hzz] at HFS2
      clear hzz
      have HPO:=qQ (show PO wE o (.slice (some ⟨xg,xo,xs⟩) kL pc) (.slice vA tn vc) (vG c i s now tw T L) from ⟨HRV.out,HVN.out⟩)
      have HENC:=pencode_any wE o (vG c i s now tw T L) _ _ HPO.out (by show List.length (L)≤100000;exact HLL.out) (by show T.length≤100000;exact HC.out.2.2.1 (by rw[←HB2.out.2];exact HB2.out.1.symm))
      unfold pkV vG at HENC
      rw[←HNUM.out] at HENC
      have HENC:=qQ HENC
      go_wp2_with fail
      with_reducible refine HENC.out.mono ?_
      rintro en w5 hP
      obtain⟨pk,hpk⟩:=qZ (vG c i s now tw T L)
      have hpn:pk.n=num:=by rw[hpk];exact HNUM.out.symm
      have hpke:(⟨i,tw,num,c.life,L,T⟩:Pk)=pk:=by rw[hpk,HNUM.out];rfl
      rw[hpke] at hP
      have HFS3:=qQ (show FS=zR c s pk z from by rw[HFS2.out,hpk])
      have HDB:=qQ (show∀x∈pk.data,0≤x∧x<256 from by rw[hpk];exact HVN.out.2)
      have HPN:=qQ hpn
      clear hpk hpn hpke HENC
      rcases hP with ⟨hmay,y,rfl,hO,G⟩|⟨hmay,rfl,G⟩
      ·obtain⟨A1,n1,c1,rfl⟩:∃A n c,y= .slice A n c:=by rcases qD hO with ⟨e,_⟩|⟨g,cap,e,_⟩ <;> exact⟨_,_,_,e⟩
       have hN5:=HNW.out.kept G
       have hb5:=Chg.keep G HBA.out (λe=>e)
       have hnn:num≤70368744177663:=by rw[←HPN.out];exact (zm hmay).2.2.2.1.2
       have t113:decide (num>70368744177663)=false:=by simp;omega
       have c11:w5.cell? ⟨b,11,none⟩=some (.pointer (some ⟨r.q,0,none⟩)):=hN5.cell 11
       obtain⟨v,lost,ps,q1,q2,q3,q4,q5,q6,q7,q8⟩:=hN5.nd.np.2.2.2.1
       have HQB:=qQ (show Qb w5 r.q c.queue v lost ps from ⟨q1,q5⟩)
       have HQO:=qQ (And.intro q3 (And.intro q4 (And.intro q6 (And.intro q7 q8))))
       have hsq:s.q.length=ps.length:=by rw[q8,List.length_map]
       have HSQ:=qQ hsq
       have HBS:=qQ (show BS w5 w5.heap.size (.slice A1 n1 c1) (encP pk) from BS.of_own hO (vV hmay HDB.out))
       have HLEN:=qQ (encP_len hmay)
       have HMAY:=qQ hmay
       have HN5:=qQ hN5
       have HB5:=qQ hb5
       clear d0 d1 d2 d3 d4 d5
       obtain⟨d0,d1,d2,d3,d4,d5⟩:=qC hb5
       clear q1 q2 q3 q4 q5 q6 q7 q8 hsq hmay hN5 hb5 hO G
       by_cases hlt:(ps.length:Int)<c.queue
       ·have HP:=qQ (qput_any w5 r.q c.queue lost v (.slice A1 n1 c1) ps z (encP pk) HQB.out hlt HBS.out (by have:=HLEN.out;omega) (by have:=HC.out.2.2.2;have:=HSQ.out;omega))
        have HF:=qQ (show FS=({s with q:=s.q++[(z,encP pk)],last:=num},num,0) from by
         rw[HFS3.out];unfold zR;rw[if_neg (λe=>by rcases e with e|e|e;(rw[HPN.out] at e;omega);(rw[HMAY.out] at e;cases e);(rw[HSQ.out] at e;omega)),HPN.out])
        clear hlt
        go_wp2_with fail
        with_reducible refine HP.out.mono ?_
        rintro en w6 ⟨rfl,x',v',h1,h2,h3,h4⟩
        obtain⟨o6,hE6,hN6,_⟩:=HN5.out.qset HQB.out HQO.out.2.2.1 HQO.out.2.2.2.1 h2 ⟨HQO.out.1,HQO.out.2.1⟩ h3 h4 (λq hq=>by
         rcases List.mem_append.1 hq with hq|hq
         ·exact .inl hq
         ·simp at hq;subst hq;exact .inr ⟨h1,vV HMAY.out HDB.out⟩)
        rw[List.map_append,←HQO.out.2.2.2.2] at hN6
        have hb6:=Chg.keep h4 HB5.out (λe=>by
         have hoa:=HOA.out
         have hoq:=HN5.out.nd.np.2.2.2.1
         obtain⟨_,_,_,_,hoq,_⟩:=hoq
         rcases e with e|e
         ·rw[show a=r.q from e,hoq] at hoa;exact qP i 2 hoa
         ·rw[HQO.out.2.2.1 a e] at hoa;exact qP i 2 hoa)
        clear d0 d1 d2 d3 d4 d5
        obtain⟨d0,d1,d2,d3,d4,d5⟩:=qC hb6
        have HX:=qQ hN6
        have c16:w6.cell? ⟨b,16,none⟩=some (.int .i64 s.last):=HX.out.cell 16
        have f16:=HX.out.f 16
        have hab:¬a=b:=λe=>by have hoa:=HOA.out;have:=HN5.out.nd.ob;rw[←e,hoa] at this;exact qP i 0 this.symm
        have hab2:¬b=a:=λe=>hab e.symm
        clear h1 h2 h3 h4 hN6 hE6 hb6 HP c11
        go_wp2_with fail
        go_ret2
        rw[HF.out]
        exact⟨_,o6,r,rfl,HX.out.set 16 (.int .i64 num) rfl HX.out.nd.np,rfl⟩
       ·have HP:=qQ (qput_full w5 r.q c.queue lost v (.slice A1 n1 c1) ps z HQB.out (by omega) ⟨HQO.out.1,HQO.out.2.1⟩ (by have:=HC.out.2.2.2;have:=HSQ.out;omega))
        have HF:=qQ (show FS=(s,0,5) from by
         rw[HFS3.out];unfold zR;rw[if_pos (.inr (.inr (by rw[HSQ.out];omega)))])
        clear hlt
        go_wp2_with fail
        with_reducible refine HP.out.mono ?_
        rintro en w6 ⟨rfl,lost',l1,l2,h2,h4⟩
        have g4:Chg (λk=>k=r.q∨v.ownBlock=some k) w5 w6:=h4.mono (λk _ e=> .inl e)
        obtain⟨o6,hE,hN6,_⟩:=HN5.out.qset HQB.out HQO.out.2.2.1 HQO.out.2.2.2.1 h2 ⟨l1,l2⟩ (.inl rfl) g4 (λq hq=> .inl hq)
        rw[←HQO.out.2.2.2.2] at hN6
        have HX:=qQ hN6
        clear h2 h4 g4 hE hN6 l1 l2 HP c11 d0 d1 d2 d3 d4 d5
        go_wp2_with fail
        go_ret2
        rw[HF.out]
        exact⟨_,o6,r,rfl,HX.out,rfl⟩
      ·have HF:=qQ (show FS=(s,0,5) from by rw[HFS3.out];unfold zR;rw[if_pos (.inr (.inl hmay))])
       have HX:=qQ (HNW.out.kept G)
       have hb5:=Chg.keep G HBA.out (λe=>e)
       clear hmay G d0 d1 d2 d3 d4 d5
       obtain⟨d0,d1,d2,d3,d4,d5⟩:=qC hb5
       clear hb5
       by_cases hnn:num>70368744177663
       ·have t113:decide (num>70368744177663)=true:=by simp;omega
        clear hnn
        go_wp2_with fail
        go_ret2
        rw[HF.out]
        exact⟨_,o,r,rfl,HX.out,rfl⟩
       ·have t113:decide (num>70368744177663)=false:=by simp;omega
        clear hnn
        go_wp2_with fail
        go_ret2
        rw[HF.out]
        exact⟨_,o,r,rfl,HX.out,rfl⟩
   ·have t89:((i:Int)==0)=false:=by simp;omega
    have HFS2:=qQ (show FS=zR c s (vG c i s now tw T [(i:Int)]) 64 from by rw[HFS2.out,if_neg hi0])
    have HRV:=HRP
    have HLL:=qQ (show List.length [(i:Int)]≤100000 by simp)
    clear hi0
    have HPO:=qQ (show PO wD o (.slice (some ⟨pb,0,none⟩) 1 1) (.slice vA tn vc) (vG c i s now tw T [(i:Int)]) from ⟨HRV.out,HVN.out⟩)
    have HENC:=pencode_any wD o (vG c i s now tw T [(i:Int)]) _ _ HPO.out (by show List.length ([(i:Int)])≤100000;exact HLL.out) (by show T.length≤100000;exact HC.out.2.2.1 (by rw[←HB2.out.2];exact HB2.out.1.symm))
    unfold pkV vG at HENC
    rw[←HNUM.out] at HENC
    have HENC:=qQ HENC
    go_wp2_with fail
    with_reducible refine HENC.out.mono ?_
    rintro en w5 hP
    obtain⟨pk,hpk⟩:=qZ (vG c i s now tw T [(i:Int)])
    have hpn:pk.n=num:=by rw[hpk];exact HNUM.out.symm
    have hpke:(⟨i,tw,num,c.life,[(i:Int)],T⟩:Pk)=pk:=by rw[hpk,HNUM.out];rfl
    rw[hpke] at hP
    have HFS3:=qQ (show FS=zR c s pk 64 from by rw[HFS2.out,hpk])
    have HDB:=qQ (show∀x∈pk.data,0≤x∧x<256 from by rw[hpk];exact HVN.out.2)
    have HPN:=qQ hpn
    clear hpk hpn hpke HENC
    rcases hP with ⟨hmay,y,rfl,hO,G⟩|⟨hmay,rfl,G⟩
    ·obtain⟨A1,n1,c1,rfl⟩:∃A n c,y= .slice A n c:=by rcases qD hO with ⟨e,_⟩|⟨g,cap,e,_⟩ <;> exact⟨_,_,_,e⟩
     have hN5:=HNW.out.kept G
     have hb5:=Chg.keep G HBA.out (λe=>e)
     have hnn:num≤70368744177663:=by rw[←HPN.out];exact (zm hmay).2.2.2.1.2
     have t113:decide (num>70368744177663)=false:=by simp;omega
     have c11:w5.cell? ⟨b,11,none⟩=some (.pointer (some ⟨r.q,0,none⟩)):=hN5.cell 11
     obtain⟨v,lost,ps,q1,q2,q3,q4,q5,q6,q7,q8⟩:=hN5.nd.np.2.2.2.1
     have HQB:=qQ (show Qb w5 r.q c.queue v lost ps from ⟨q1,q5⟩)
     have HQO:=qQ (And.intro q3 (And.intro q4 (And.intro q6 (And.intro q7 q8))))
     have hsq:s.q.length=ps.length:=by rw[q8,List.length_map]
     have HSQ:=qQ hsq
     have HBS:=qQ (show BS w5 w5.heap.size (.slice A1 n1 c1) (encP pk) from BS.of_own hO (vV hmay HDB.out))
     have HLEN:=qQ (encP_len hmay)
     have HMAY:=qQ hmay
     have HN5:=qQ hN5
     have HB5:=qQ hb5
     clear d0 d1 d2 d3 d4 d5 c9
     obtain⟨d0,d1,d2,d3,d4,d5⟩:=qC hb5
     clear q1 q2 q3 q4 q5 q6 q7 q8 hsq hmay hN5 hb5 hO G
     by_cases hlt:(ps.length:Int)<c.queue
     ·have HP:=qQ (qput_any w5 r.q c.queue lost v (.slice A1 n1 c1) ps 64 (encP pk) HQB.out hlt HBS.out (by have:=HLEN.out;omega) (by have:=HC.out.2.2.2;have:=HSQ.out;omega))
      have HF:=qQ (show FS=({s with q:=s.q++[(64,encP pk)],last:=num},num,0) from by
       rw[HFS3.out];unfold zR;rw[if_neg (λe=>by rcases e with e|e|e;(rw[HPN.out] at e;omega);(rw[HMAY.out] at e;cases e);(rw[HSQ.out] at e;omega)),HPN.out])
      clear hlt
      go_wp2_with fail
      with_reducible refine HP.out.mono ?_
      rintro en w6 ⟨rfl,x',v',h1,h2,h3,h4⟩
      obtain⟨o6,hE6,hN6,_⟩:=HN5.out.qset HQB.out HQO.out.2.2.1 HQO.out.2.2.2.1 h2 ⟨HQO.out.1,HQO.out.2.1⟩ h3 h4 (λq hq=>by
       rcases List.mem_append.1 hq with hq|hq
       ·exact .inl hq
       ·simp at hq;subst hq;exact .inr ⟨h1,vV HMAY.out HDB.out⟩)
      rw[List.map_append,←HQO.out.2.2.2.2] at hN6
      have hb6:=Chg.keep h4 HB5.out (λe=>by
       have hoa:=HOA.out
       have hoq:=HN5.out.nd.np.2.2.2.1
       obtain⟨_,_,_,_,hoq,_⟩:=hoq
       rcases e with e|e
       ·rw[show a=r.q from e,hoq] at hoa;exact qP i 2 hoa
       ·rw[HQO.out.2.2.1 a e] at hoa;exact qP i 2 hoa)
      clear d0 d1 d2 d3 d4 d5
      obtain⟨d0,d1,d2,d3,d4,d5⟩:=qC hb6
      have HX:=qQ hN6
      have c16:w6.cell? ⟨b,16,none⟩=some (.int .i64 s.last):=HX.out.cell 16
      have f16:=HX.out.f 16
      have hab:¬a=b:=λe=>by have hoa:=HOA.out;have:=HN5.out.nd.ob;rw[←e,hoa] at this;exact qP i 0 this.symm
      have hab2:¬b=a:=λe=>hab e.symm
      clear h1 h2 h3 h4 hN6 hE6 hb6 HP c11
      go_wp2_with fail
      go_ret2
      rw[HF.out]
      exact⟨_,o6,r,rfl,HX.out.set 16 (.int .i64 num) rfl HX.out.nd.np,rfl⟩
     ·have HP:=qQ (qput_full w5 r.q c.queue lost v (.slice A1 n1 c1) ps 64 HQB.out (by omega) ⟨HQO.out.1,HQO.out.2.1⟩ (by have:=HC.out.2.2.2;have:=HSQ.out;omega))
      have HF:=qQ (show FS=(s,0,5) from by
       rw[HFS3.out];unfold zR;rw[if_pos (.inr (.inr (by rw[HSQ.out];omega)))])
      clear hlt
      go_wp2_with fail
      with_reducible refine HP.out.mono ?_
      rintro en w6 ⟨rfl,lost',l1,l2,h2,h4⟩
      have g4:Chg (λk=>k=r.q∨v.ownBlock=some k) w5 w6:=h4.mono (λk _ e=> .inl e)
      obtain⟨o6,hE,hN6,_⟩:=HN5.out.qset HQB.out HQO.out.2.2.1 HQO.out.2.2.2.1 h2 ⟨l1,l2⟩ (.inl rfl) g4 (λq hq=> .inl hq)
      rw[←HQO.out.2.2.2.2] at hN6
      have HX:=qQ hN6
      clear h2 h4 g4 hE hN6 l1 l2 HP c11 d0 d1 d2 d3 d4 d5
      go_wp2_with fail
      go_ret2
      rw[HF.out]
      exact⟨_,o6,r,rfl,HX.out,rfl⟩
    ·have HF:=qQ (show FS=(s,0,5) from by rw[HFS3.out];unfold zR;rw[if_pos (.inr (.inl hmay))])
     have HX:=qQ (HNW.out.kept G)
     have hb5:=Chg.keep G HBA.out (λe=>e)
     clear hmay G d0 d1 d2 d3 d4 d5 c9
     obtain⟨d0,d1,d2,d3,d4,d5⟩:=qC hb5
     clear hb5
     by_cases hnn:num>70368744177663
     ·have t113:decide (num>70368744177663)=true:=by simp;omega
      clear hnn
      go_wp2_with fail
      go_ret2
      rw[HF.out]
      exact⟨_,o,r,rfl,HX.out,rfl⟩
     ·have t113:decide (num>70368744177663)=false:=by simp;omega
      clear hnn
      go_wp2_with fail
      go_ret2
      rw[HF.out]
      exact⟨_,o,r,rfl,HX.out,rfl⟩
end
end Go.Proofs.YtnpihllannobgaaGreatDoor
