/- Steps of the proof, part H33. No condition. -/
import Derived.Test.YtnpihllannobgaaGreatDoorH29
import Derived.Test.YtnpihllannobgaaGreatDoorH13
namespace Go.Proofs.YtnpihllannobgaaGreatDoor
set_option linter.unusedVariables false
set_option linter.unusedSimpArgs false
set_option maxRecDepth 100000
set_option maxHeartbeats 32000000
open Go.ChangeShapes Go.WideShapes Go.ChangeAt Go.RowKit
def learnB(i:Nat)(p:Pk):Bool:=decide (i=0)&&(match p.path with|[]=>false|x::_=>x==p.src)&& !p.path.contains 0&&decide (p.path.length<16)
def jS(i:Nat)(s:NSt)(p:Pk):NSt:=if learnB i p then {s with paths:=λn=>if n=p.src then some (0::p.path.reverse) else s.paths n} else s
theorem ty68:Tryz.prog.underlying 68=some (.map 3 22):=by kernel_rfl
theorem zero22(w:World):(zeroValue 22).run Tryz.prog w= .ok (.slice none 0 0) w:=by kernel_rfl
section
variable {w0 w w':World}{o0 o o':Cls}{c:Cfg}{i b:Nat}{s s':NSt}{r r':NR}
theorem learn_fin(h:NAt w0 o0 c i b s w o r){gm:Int→Option Value}{w5 w6:World}{v:Value}{S:Int}{P:List Int}{pn:Nat}(hmf:o r.paths=cl i 8∧∀n,match s.paths n with|none=>gm n=none|some L=>∃v,gm n=some v∧RV VI w o v L)
  (G5:Chg (λ_=>False) w w5) (mp6:Mp w6 r.paths (λm=>if m=S then some v else gm m)) (ch6:Chg (· =r.paths) w5 w6) (row:w5.ownsRow w.heap.size 3 1 v (1+pn) ([.int .i64 0]++P.reverse.map VI)) (hpn:pn=P.length):
  NAt w0 o0 c i b {s with paths:=λn=>if n=S then some (0::P.reverse) else s.paths n} w6 o r:=by
 have h5:=h.kept G5
 obtain⟨p1,p2,p3,p4,p5,p6,p7,p8,p9,pa,pb⟩:=h5.nd.np
 have G:Chg (Of o (cl i 8)) w5 w6:=ch6.mono (λk _ e=>by rw[show k=r.paths from e];exact hmf.1)
 refine h5.part 8 (by omega) (Ext.refl _ _) (h5.z.more G.size) G rfl (λa0 a=>?_)
 have hrow:w5.ownsRow w.heap.size 3 1 v (0::P.reverse).length ((0::P.reverse).map VI):=by
  have:(0::P.reverse).length=1+pn:=by simp[hpn];omega
  rw[this];exact row
 exact⟨p1.step (Ext.refl _ _) G a0,p2.step (Ext.refl _ _) G a0,p3.step (Ext.refl _ _) G (a 1 (by omega) (by omega)),p4.step (Ext.refl _ _) G (a 2 (by omega) (by omega)),p5.step (Ext.refl _ _) G (a 3 (by omega) (by omega)),
  p6.step (Ext.refl _ _) G (a 4 (by omega) (by omega)),p7.step (Ext.refl _ _) G (a 5 (by omega) (by omega)),p8.step (Ext.refl _ _) G (a 6 (by omega) (by omega)),
  p9.step (Ext.refl _ _) G (a 7 (by omega) (by omega)),⟨_,mp6,hmf.1,λn=>by
   by_cases e:n=S
   ·simp only[if_pos e]
    exact⟨v,rfl,(RV.of_own hrow (λk hk=>h.z k hk)).step (Ext.refl _ _) G a0⟩
   ·simp only[if_neg e]
    have h1:=hmf.2 n
    cases hp:s.paths n with
    |none=>rw[hp] at h1;exact h1
    |some L=>
     rw[hp] at h1
     obtain⟨u,h2,h3⟩:=h1
     exact⟨u,h2,(h3.keep G5 (λ_ _ e=>e)).step (Ext.refl _ _) G a0⟩⟩,pb.step (Ext.refl _ _) G (a 9 (by omega) (by omega))⟩
theorem nlearns_any(h:NAt w0 o0 c i b s w o r)(p:Pk)(lv dv:Value)(hp:PO w o lv dv p)(hm:mayP p=true):
  Calls Tryz.prog 209 #[.pointer (some ⟨b,0,none⟩),pkV p lv dv] w (PN w0 o0 c i b (jS i s p) (λv _ _=>v= .tuple #[])):=by
 have hpl:p.path.length≤16:=(zm hm).2.2.2.2.2.1.1
 have hpo:jP p.path=true:=by
  unfold mayP at hm
  simp only[Bool.and_eq_true] at hm
  exact hm.1.2
 obtain⟨FS,hFS⟩:∃FS,jS i s p=FS:=⟨_,rfl⟩
 rw[hFS]
 unfold jS at hFS
 obtain⟨S,D,N,Lf,P,T⟩:=p
 obtain⟨pA,pc,hlv,hro,hpn,hcap⟩:=hp.1
 obtain⟨⟨dA,dc,hdv,_⟩,_⟩:=hp.2
 obtain⟨pn,hpn'⟩:∃n,n=P.length:=⟨_,rfl⟩
 obtain⟨tn,htn⟩:∃n,n=T.length:=⟨_,rfl⟩
 dsimp only at hlv hdv hpl hpo hro hpn hcap
 rw[←hpn'] at hlv
 rw[←htn] at hdv
 subst hlv hdv
 have ga:=Chg.alloc (λ_=>False) w (.cells #[.int .i64 S,.int .i64 D,.int .i64 N,.int .i64 Lf,.slice pA pn pc,.slice dA tn dc] 42)
 have hba:=qV w (.cells #[.int .i64 S,.int .i64 D,.int .i64 N,.int .i64 Lf,.slice pA pn pc,.slice dA tn dc] 42)
 obtain⟨w1,hw1⟩:=qZ (w.alloc (.cells #[.int .i64 S,.int .i64 D,.int .i64 N,.int .i64 Lf,.slice pA pn pc,.slice dA tn dc] 42))
 obtain⟨a,hae⟩:=qZ w.heap.size
 rw[←hw1] at ga hba
 rw[←hae] at hba
 have hk:=h.kept ga
 have hp1:PO w1 o (.slice pA pn pc) (.slice dA tn dc) ⟨S,D,N,Lf,P,T⟩:=hp.keep ga (λ_ _ e=>e)
 have HP:=qQ hp1
 have H:=qQ hk
 have HB:=qQ hba
 have HW1:=qQ hw1
 have HAE:=qQ hae
 have HFS:=qQ hFS
 have HPO:=qQ hpo
 have HRO:=qQ (show Ro VI w1 o pA pn P from by rw[hpn'];exact hro.keep ga (λ_ _ e=>e))
 have HPN:=qQ (And.intro hpn' hpl)
 have HCON:=qQ (show∀W,Chg (λ_=>False) w1 W→Calls Tryz.prog 92 #[.slice pA pn pc,.int .i64 0] W (PV (.bool (P.contains 0)) W) from λW g=>by
  have hrv:=(hp1.1.keep g (λ_ _ e=>e)).rs
  obtain⟨Ax,cx,ex,hrs,_,_⟩:=hrv
  cases ex
  rw[hpn']
  exact (jD W pA P.length pc P 0 hrs (by omega)).mono (λe w' ⟨h1,h2⟩=>⟨h1,h2▸Chg.refl _ _⟩))
 have HBACK:=qQ (show∀W,Chg (λ_=>False) w1 W→Calls Tryz.prog 252 #[.slice pA pn pc] W (PNew VI 3 W P.reverse) from λW g=>by
  have:=pback_any W o (.slice pA pn pc) P (hp1.1.keep g (λ_ _ e=>e)) (by omega)
  rw[if_pos hpo] at this
  exact this)
 obtain⟨t,ht⟩:=qZ (learnB i ⟨S,D,N,Lf,P,T⟩)
 have HT:=qQ ht
 unfold pkV
 clear h hp ga hba hw1 hae hFS hpo hpn' hpl hp1 hk htn hro hpn hcap hm ht
 go_enter Tryz.func209,Tryz.ntmps209
 go_upto_region 1 with fail
 rw[←HW1.out,←HAE.out]
 clear HW1
 go_cut [35] (λu35 wx=>u35= .bool t∧Chg (λ_=>False) w1 wx)
 case first=>
  obtain⟨d0,d1,d2,d3,d4,d5⟩:=qC HB.out
  have c1:w1.cell? ⟨b,9,none⟩=some (.int .i64 i):=H.out.cell 9
  obtain⟨I,F1,hI,hF1,hFA⟩:=clsF w1
  have e0:=qF hF1 d0
  have e4:=qF hF1 d4
  have e1:=qF hF1 c1
  have HFF:=qQ hF1
  have HFA:=qQ (hFA _ (Chg.drew _ _))
  have HD92:=qQ (show∀n,Calls Tryz.prog 92 #[.slice pA pn pc,.int .i64 0] (F1 n) (λe w'=>e= .returned (.bool (P.contains 0))∧∃m,w'=F1 m) from λn=>PV.cls hF1 hFA (HCON.out _ (hF1 n)))
  clear d0 d1 d2 d3 d4 d5 c1
  by_cases hi:i=0
  ·subst hi
   have t8:(((0:Nat):Int)==0)=true:=rfl
   rcases P with _|⟨x0,P'⟩
   ·have hp0:pn=0:=HPN.out.1
    subst hp0
    have HTV:=qQ (show t=false from by rw[HT.out];rfl)
    clear hF1 hFA
    with_reducible refine qW F1 (by kernel_rfl) (by kernel_rfl) HFA.out ?_
    repeat ((with_reducible refine wpQuiet_step (λK hK=>?_));go_simp;(try (rw[if_neg];rotate_left;(intro h;cases h)));first|((with_reducible refine hK _ ?_);clear hK K)|(apply Exists.intro;(with_reducible refine⟨λ_=>?_,hK _ ?_⟩);(first|exact HD92.out _);clear hK K))
    with_reducible refine wpQuiet_nil ?_
    intro _ hw'
    obtain⟨nq,rfl⟩:=hw'
    have HX:=qQ (HFF.out nq)
    clear HFF HFA hI e0 e1 e4 HD92
    generalize F1 nq=w2 at *
    go_wp2_with fail
    go_meet
    exact⟨by rw[HTV.out],HX.out⟩
   ·have hps:=HPN.out.1
    rw[List.length_cons] at hps
    have t13:decide ((pn:Int)>0)=true:=by simp;omega
    have t13':(0:Int)<(pn:Int):=by omega
    have t13'':0<pn:=by omega
    clear hps
    obtain⟨Ax,z0,hAx,hz0,hcx⟩:=HRO.out.at t13''
    have hz1:z0=x0:=by simp at hz0;exact hz0.symm
    subst hAx hz1
    unfold VI at hcx
    have ex:=qF hF1 hcx
    have ex':∀n,(F1 n).cell? Ax=some (.int .i64 z0):=λn=>by have:=ex n;exact this
    clear hcx hz0 hF1 hFA
    by_cases hxs:z0=S
    ·have HXS:=qQ hxs
     have t22:(z0==S)=true:=by simpa using hxs
     clear hxs
     cases hcon:(z0::P').contains 0 with
     |true=>
      have HTV:=qQ (show t=false from by rw[HT.out];unfold learnB;simp only[hcon];simp)
      rw[hcon] at HD92
      clear hcon
      with_reducible refine qW F1 (by kernel_rfl) (by kernel_rfl) HFA.out ?_
      repeat ((with_reducible refine wpQuiet_step (λK hK=>?_));go_simp;(try (rw[if_neg];rotate_left;(intro h;cases h)));first|((with_reducible refine hK _ ?_);clear hK K)|(apply Exists.intro;(with_reducible refine⟨λ_=>?_,hK _ ?_⟩);(first|exact HD92.out _);clear hK K))
      with_reducible refine wpQuiet_nil ?_
      intro _ hw'
      obtain⟨nq,rfl⟩:=hw'
      have HX:=qQ (HFF.out nq)
      clear HFF HFA hI e0 e1 e4 HD92
      generalize F1 nq=w2 at *
      go_wp2_with fail
      go_meet
      exact⟨by rw[HTV.out],HX.out⟩
     |false=>
      rw[hcon] at HD92
      by_cases h16:pn<16
      ·have HTV:=qQ (show t=true from by
        rw[HT.out];unfold learnB;simp only[hcon]
        have:(z0::P').length<16:=by rw[←HPN.out.1];exact h16
        simp only[this,decide_true,Bool.and_true,Bool.not_false,t22])
       have t34:decide ((pn:Int)<16)=true:=by simp;omega
       clear hcon h16
       with_reducible refine qW F1 (by kernel_rfl) (by kernel_rfl) HFA.out ?_
       repeat ((with_reducible refine wpQuiet_step (λK hK=>?_));go_simp;(try (rw[if_neg];rotate_left;(intro h;cases h)));first|((with_reducible refine hK _ ?_);clear hK K)|(apply Exists.intro;(with_reducible refine⟨λ_=>?_,hK _ ?_⟩);(first|exact HD92.out _);clear hK K))
       with_reducible refine wpQuiet_nil ?_
       intro _ hw'
       obtain⟨nq,rfl⟩:=hw'
       have HX:=qQ (HFF.out nq)
       clear HFF HFA hI e0 e1 e4 HD92
       generalize F1 nq=w2 at *
       go_wp2_with fail
       go_meet
       exact⟨by rw[HTV.out],HX.out⟩
      ·have HTV:=qQ (show t=false from by
        rw[HT.out];unfold learnB
        have:¬(z0::P').length<16:=by rw[←HPN.out.1];exact h16
        simp only[this,decide_false,Bool.and_false])
       have t34:decide ((pn:Int)<16)=false:=by simp;omega
       clear hcon h16
       with_reducible refine qW F1 (by kernel_rfl) (by kernel_rfl) HFA.out ?_
       repeat ((with_reducible refine wpQuiet_step (λK hK=>?_));go_simp;(try (rw[if_neg];rotate_left;(intro h;cases h)));first|((with_reducible refine hK _ ?_);clear hK K)|(apply Exists.intro;(with_reducible refine⟨λ_=>?_,hK _ ?_⟩);(first|exact HD92.out _);clear hK K))
       with_reducible refine wpQuiet_nil ?_
       intro _ hw'
       obtain⟨nq,rfl⟩:=hw'
       have HX:=qQ (HFF.out nq)
       clear HFF HFA hI e0 e1 e4 HD92
       generalize F1 nq=w2 at *
       go_wp2_with fail
       go_meet
       exact⟨by rw[HTV.out],HX.out⟩
    ·have t22:(z0==S)=false:=by simpa using hxs
     have HTV:=qQ (show t=false from by rw[HT.out];unfold learnB;simp only[t22];simp)
     clear hxs
     with_reducible refine qW F1 (by kernel_rfl) (by kernel_rfl) HFA.out ?_
     repeat ((with_reducible refine wpQuiet_step (λK hK=>?_));go_simp;(try (rw[if_neg];rotate_left;(intro h;cases h)));first|((with_reducible refine hK _ ?_);clear hK K)|(apply Exists.intro;(with_reducible refine⟨λ_=>?_,hK _ ?_⟩);(first|exact HD92.out _);clear hK K))
     with_reducible refine wpQuiet_nil ?_
     intro _ hw'
     obtain⟨nq,rfl⟩:=hw'
     have HX:=qQ (HFF.out nq)
     clear HFF HFA hI e0 e1 e4 HD92
     generalize F1 nq=w2 at *
     go_wp2_with fail
     go_meet
     exact⟨by rw[HTV.out],HX.out⟩
  ·have t8:((i:Int)==0)=false:=by simp;omega
   have HTV:=qQ (show t=false from by rw[HT.out];unfold learnB;simp[hi])
   clear hi hF1 hFA
   with_reducible refine qW F1 (by kernel_rfl) (by kernel_rfl) HFA.out ?_
   repeat ((with_reducible refine wpQuiet_step (λK hK=>?_));go_simp;(try (rw[if_neg];rotate_left;(intro h;cases h)));first|((with_reducible refine hK _ ?_);clear hK K)|(apply Exists.intro;(with_reducible refine⟨λ_=>?_,hK _ ?_⟩);(first|exact HD92.out _);clear hK K))
   with_reducible refine wpQuiet_nil ?_
   intro _ hw'
   obtain⟨nq,rfl⟩:=hw'
   have HX:=qQ (HFF.out nq)
   clear HFF HFA hI e0 e1 e4 HD92
   generalize F1 nq=w2 at *
   go_wp2_with fail
   go_meet
   exact⟨by rw[HTV.out],HX.out⟩
 case rest=>
  obtain⟨rfl,hG⟩:=hcut
  cases t with
  |false=>
   have HF:=qQ (show FS=s from by rw[←HFS.out,if_neg (by rw[←HT.out];simp)])
   have HN:=qQ (H.out.kept hG)
   clear hG
   go_wp2_with fail
   go_end0
   exact⟨_,o,r,rfl,by rw[HF.out];exact HN.out,rfl⟩
  |true=>
   have HF:=qQ (show FS= {s with paths:=λn=>if n=S then some (0::P.reverse) else s.paths n} from by rw[←HFS.out,if_pos HT.out.symm])
   have hp0:0<pn:=by
    have:=HT.out
    unfold learnB at this
    rw[HPN.out.1]
    cases P with
    |nil=>simp at this
    |cons _ _=>simp
   have h2:=H.out.kept hG
   obtain⟨gm,hmp,hmo,hmf⟩:=h2.nd.np.2.2.2.2.2.2.2.2.2.1
   have HM:=qQ hmp
   have HMF:=qQ (And.intro hmo hmf)
   have H2:=qQ h2
   have hb2:=Chg.keep hG HB.out (λe=>e)
   have HB2:=qQ hb2
   have HG:=qQ hG
   have c22:wc.cell? ⟨b,22,none⟩=some (.map (some r.paths)):=h2.cell 22
   obtain⟨d0,d1,d2,d3,d4,d5⟩:=qC hb2
   have HREV:=qQ (show P.reverse.length=pn from by rw[List.length_reverse];exact HPN.out.1.symm)
   have HLR:=qQ (show (P.reverse.map VI).length=pn*1 from by rw[List.length_map,HREV.out,Nat.mul_one])
   have HONE:=qQ (show∀u∈P.reverse.map VI,u.oneCell'=true from by intro u hu;rw[List.mem_map] at hu;obtain⟨z,_,rfl⟩:=hu;rfl)
   have HLN:=qQ (show 1+pn≤maxLen∧(1+pn)*8≤140737488355328 from by have:=HPN.out.2;have:=HPN.out.1;unfold maxLen;omega)
   have HEI:=qQ info3
   have c22a:=qL c22 (.cells #[.int .i64 0] 3)
   have d0a:=qL d0 (.cells #[.int .i64 0] 3)
   have d4a:=qL d4 (.cells #[.int .i64 0] 3)
   clear hmp hmo hmf h2 hb2 hG HRO HCON
   go_upto_region 2 with fail
   go_region_law (first
   |(refine step_append_lies (P:=Tryz.prog) _ (by rfl) (.tmp 42) (.tmp 45) 22 (by rfl) wc.heap.size 3 HEI.out.choose (.int .i64 0) 1 8 Tryz.underlying22 HEI.out.choose_spec.1 HEI.out.choose_spec.2.1 HEI.out.choose_spec.2.2.1 HEI.out.choose_spec.2.2.2 rfl (by decide) (.slice (some ⟨wc.heap.size,0,none⟩) 1 1) 1 [.int .i64 0] rfl HOW.out ⟨g1b,0,none⟩ pn cp1 (P.reverse.map VI) rfl HLR.out (λj u hu=>by rw[add_mk,Nat.zero_add];exact qp (O1.out) j u hu) HONE.out hp0 HLN.out.1 HLN.out.2 (by have:=HG1.out.size;simp;omega) _ rfl ?_
     intro g5 cap5 w5 hown5 hgr5 hat5 hlt5
     have G5:Chg (λ_=>False) wc w5:=((HG1.out).none.trans (qH (S:=λk=>wc.heap.size≤k) hgr5 (λj e=>by cases e;exact Nat.le_refl _))).fresh
     obtain⟨w6,hmu,hmp6,hch6⟩:=(HM.out.keep G5 (λe=>e)).update ty68 ty3 S (.slice (some ⟨g5,0,none⟩) (1+pn) cap5)
     have hmu:(Instr.mapUpdate 68 (.map (some r.paths)) (.int .i64 S) (.slice (some ⟨g5,0,none⟩) (1+pn) cap5)).run Tryz.prog w5= .ok () w6:=hmu
     have hkb5:=Chg.keep G5 HB2.out (λe=>e)
     have kd5:w5.cell? ⟨a,0,none⟩=some (.int .i64 S):=qJ hkb5 0
     have k225:w5.cell? ⟨b,22,none⟩=some (.map (some r.paths)):=(H2.out.kept G5).cell 22
     have HG5:=qQ G5
     have HO5:=qQ hown5
     have HM6:=qQ (And.intro hmp6 hch6)
     clear G5 hown5 hgr5 hat5 hlt5 hmp6 hch6 hkb5)
   |(refine step_append_lies (P:=Tryz.prog) _ (by rfl) (.tmp 42) (.tmp 45) 22 (by rfl) wc.heap.size 3 HEI.out.choose (.int .i64 0) 1 8 Tryz.underlying22 HEI.out.choose_spec.1 HEI.out.choose_spec.2.1 HEI.out.choose_spec.2.2.1 HEI.out.choose_spec.2.2.2 rfl (by decide) (.slice (some ⟨wp.heap.size,0,none⟩) 1 1) 1 [.int .i64 0] rfl HOW.out ⟨g1b,0,none⟩ pn cp1 (P.reverse.map VI) rfl HLR.out (λj u hu=>by rw[add_mk,Nat.zero_add];exact qp (qY O1.out (Chg.alloc (λ_=>False) wp (.cells #[.int .i64 0] 3)) (λ_ _ e=>e)) j u hu) HONE.out hp0 HLN.out.1 HLN.out.2 (by have:=HG1.out.size;simp;omega) _ rfl ?_
     intro g5 cap5 w5 hown5 hgr5 hat5 hlt5
     have G5:Chg (λ_=>False) wc w5:=((HG1.out.trans (Chg.alloc _ _ _)).none.trans (qH (S:=λk=>wc.heap.size≤k) hgr5 (λj e=>by cases e;exact HG1.out.size))).fresh
     obtain⟨w6,hmu,hmp6,hch6⟩:=(HM.out.keep G5 (λe=>e)).update ty68 ty3 S (.slice (some ⟨g5,0,none⟩) (1+pn) cap5)
     have hmu:(Instr.mapUpdate 68 (.map (some r.paths)) (.int .i64 S) (.slice (some ⟨g5,0,none⟩) (1+pn) cap5)).run Tryz.prog w5= .ok () w6:=hmu
     have hkb5:=Chg.keep G5 HB2.out (λe=>e)
     have kd5:w5.cell? ⟨a,0,none⟩=some (.int .i64 S):=qJ hkb5 0
     have k225:w5.cell? ⟨b,22,none⟩=some (.map (some r.paths)):=(H2.out.kept G5).cell 22
     have HG5:=qQ G5
     have HO5:=qQ hown5
     have HM6:=qQ (And.intro hmp6 hch6)
     clear G5 hown5 hgr5 hat5 hlt5 hmp6 hch6 hkb5)
   |(go_simp;go_at_call 252;refine (HBACK.out (wc.alloc (.cells #[.int .i64 0] 3)).drew (HG.out.trans ((Chg.alloc _ _ _).trans (Chg.drew _ _)))).mono ?_;rintro en wp ⟨v1,rfl,O1,g1⟩
     rw[HREV.out] at O1
     obtain⟨g1b,cp1,cur1,rfl,hg1b,hg1c,_⟩:=vL O1 hp0
     have HG1:=qQ (show Chg (λ_=>False) wc wp from ((Chg.alloc _ _ _).trans (Chg.drew _ _)).trans g1)
     have HN1:=qQ (H2.out.kept HG1.out)
     have k22:wp.cell? ⟨b,22,none⟩=some (.map (some r.paths)):=HN1.out.cell 22
     have hkb:=Chg.keep HG1.out HB2.out (λe=>e)
     have kd0:wp.cell? ⟨a,0,none⟩=some (.int .i64 S):=qJ hkb 0
     have HOW:=qQ (show wp.ownsRow wc.heap.size 3 1 (.slice (some ⟨wc.heap.size,0,none⟩) 1 1) 1 [.int .i64 0] from ⟨rfl,.inr ⟨wc.heap.size,1,_,rfl,Nat.le_refl _,Chg.keep g1 (show (wc.alloc (.cells #[.int .i64 0] 3)).drew.heap[wc.heap.size]? =_ from qV wc (.cells #[.int .i64 0] 3)) (λe=>e),Nat.le_refl _,by decide,rfl,rfl⟩⟩)
     have O1:=qQ O1
     clear hkb hg1b hg1c)
   |(go_simp;go_at_call 252;refine (HBACK.out wc.drew (HG.out.trans (Chg.drew _ _))).mono ?_;rintro en wp ⟨v1,rfl,O1,g1⟩
     rw[HREV.out] at O1
     obtain⟨g1b,cp1,cur1,rfl,hg1b,hg1c,_⟩:=vL O1 hp0
     have HG1:=qQ (show Chg (λ_=>False) wc wp from (Chg.drew _ _).trans g1)
     have HN1:=qQ (H2.out.kept HG1.out)
     have k22:wp.cell? ⟨b,22,none⟩=some (.map (some r.paths)):=HN1.out.cell 22
     have hkb:=Chg.keep HG1.out HB2.out (λe=>e)
     have kd0:wp.cell? ⟨a,0,none⟩=some (.int .i64 S):=qJ hkb 0
     have HOW:=qQ (show (wp.alloc (.cells #[.int .i64 0] 3)).ownsRow wc.heap.size 3 1 (.slice (some ⟨wp.heap.size,0,none⟩) 1 1) 1 [.int .i64 0] from ⟨rfl,.inr ⟨wp.heap.size,1,_,rfl,HG1.out.size,qV wp (.cells #[.int .i64 0] 3),Nat.le_refl _,by decide,rfl,rfl⟩⟩)
     have k22a:=qL k22 (.cells #[.int .i64 0] 3)
     have kd0a:=qL kd0 (.cells #[.int .i64 0] 3)
     have O1:=qQ O1
     clear hkb hg1b hg1c))
   all_goals
    go_wp2_with fail
    go_end0
    exact⟨_,o,r,rfl,by rw[HF.out];exact learn_fin H2.out HMF.out HG5.out HM6.out.1 HM6.out.2 HO5.out HPN.out.1,rfl⟩
end
end Go.Proofs.YtnpihllannobgaaGreatDoor
