/- Steps of the proof, part H30. No condition. -/
import Derived.Test.YtnpihllannobgaaGreatDoorH26
import Derived.Test.YtnpihllannobgaaGreatDoorH24
import Derived.Laws.MakeOwn
namespace Go.Proofs.YtnpihllannobgaaGreatDoor
set_option linter.unusedVariables false
set_option linter.unusedSimpArgs false
set_option maxRecDepth 100000
set_option maxHeartbeats 32000000
open Go.ChangeShapes Go.WideShapes Go.ChangeAt Go.RowKit
theorem bitW_is0(near lost:Int)(n0:0≤near)(n1:near<18446744073709551616)(l0:0≤lost)(l1:lost<18446744073709551616)(j:Nat)(hj:j<64):
  (bits BinOp.and IntKind.u64 (bits BinOp.andNot IntKind.u64 near lost / 2^j) 1==0)= !bitW near lost j:=by
 have h:=bitW_is near lost n0 n1 l0 l1 j hj
 rw[←h]
 obtain⟨A,rfl⟩:=Int.eq_ofNat_of_zero_le n0
 obtain⟨B,rfl⟩:=Int.eq_ofNat_of_zero_le l0
 have h1:A&&& (18446744073709551615-B)≤A:=Nat.and_le_left
 rw[u64_andNot_nat A B (by omega) (by omega)]
 generalize A&&& (18446744073709551615-B)=N at *
 have e:((N:Int) / 2^j)=((N / 2^j:Nat):Int):=by push_cast;rfl
 have hl:N / 2^j≤N:=Nat.div_le_self _ _
 rw[e]
 generalize N / 2^j=q at *
 rw[and_one_u64 _ (by omega) (by omega)]
 by_cases h:(q:Int) % 2=0
 ·simp[h]
 ·have:(q:Int) % 2=1:=by omega
  simp[this]
section
variable {w0 w w':World}{o0 o o':Cls}{c:Cfg}{W:Nat}{x x':WM}{asn:Int}{r r':WR}{d:Dr}{dr lo ac er da:Value}{S:Nat→Prop}
theorem Bk.val{v:Value}{back:List (Option (List Int))}(h:Bk w o v back)(hn:0<back.length):∃g cap,v= .slice (some ⟨g,0,none⟩) back.length cap∧∀i,i<back.length→∃A n cp,w.cell? ⟨g,i,none⟩=some (.slice A n cp)∧AV (back.getD i none) (.slice A n cp) w o:=by
 obtain⟨vs,h1,h2,h3,h4⟩:=h
 rw[h3] at h1
 obtain⟨g,cap,cur,e,_⟩:=vL h1 hn
 subst e
 refine⟨g,cap,rfl,λi hi=>?_⟩
 obtain⟨u,hu⟩:∃u,vs[i]? =some u:=⟨_,List.getElem?_eq_getElem (by omega)⟩
 obtain⟨a,ha⟩:∃a,back[i]? =some a:=⟨_,List.getElem?_eq_getElem hi⟩
 have hav:=h4 i a u ha hu
 have e:back.getD i none=a:=by rw[List.getD_eq_getElem?_getD,ha];rfl
 obtain⟨A,n,cp,e2⟩:∃A n cp,u= .slice A n cp:=by
  cases a with
  |none=>exact⟨_,_,_,hav⟩
  |some l=>obtain⟨⟨A,cp,e,_⟩,_⟩:=hav;exact⟨_,_,_,e⟩
 subst e2
 exact⟨A,n,cp,qp h1 i _ hu,by rw[e];exact hav⟩
theorem wanswer_any(hc:CfgOk c)(h:WAt w0 o0 c W x asn w o r)(k i' t:Int)(hs:So w o d dr lo ac er da)(bv kv:Value)(L:List Int)(hbv:BO w o bv L)(hL:L.length≤100000)(i:Nat)(hi:i<c.nodes)(hLx:L=(x.snd i).2.1)(hbk:Bk w o kv x.back)(hkl:x.back.length=c.nodes):
  Calls Tryz.prog 37 #[VP W,stpV k i' t dr lo ac er da,.int .i64 i,bv,kv] w (PAV (jK c d x i) w o):=by
 have hn0:=hc.n0
 have hn1:=hc.n1
 have HSO:=qQ hs
 obtain⟨dA,dc,hdr,_⟩:=hs.drift
 obtain⟨lA,lc,hlo,_⟩:=hs.lost
 obtain⟨aA,acp,hac,_⟩:=hs.acks
 obtain⟨eA,ec,her,_⟩:=hs.err
 obtain⟨xA,xn,xc,hda⟩:=hs.da
 obtain⟨dn,hdn⟩:∃n,n=d.drift.length:=⟨_,rfl⟩
 obtain⟨ln,hln⟩:∃n,n=d.lost.length:=⟨_,rfl⟩
 obtain⟨an,han⟩:∃n,n=d.acks.length:=⟨_,rfl⟩
 obtain⟨en,hen⟩:∃n,n=d.err.length:=⟨_,rfl⟩
 rw[←hdn] at hdr
 rw[←hln] at hlo
 rw[←han] at hac
 rw[←hen] at her
 subst hdr hlo hac her hda
 obtain⟨kg,kcap,hkv,hkat⟩:=hbk.val (by omega)
 rw[hkl] at hkv hkat
 subst hkv
 have H:=qQ h
 have HK:=qQ hkat
 have HBK:=qQ hbk
 have HKL:=qQ hkl
 obtain⟨⟨bA,bc,hbe,_⟩,_⟩:=id hbv
 obtain⟨bl,hbl⟩:∃n,n=L.length:=⟨_,rfl⟩
 rw[←hbl] at hbe
 subst hbe
 have ga:=Chg.alloc (λ_=>False) w (.cells #[.int .i64 k,.int .i64 i',.int .i64 t,.slice dA dn dc,.slice lA ln lc,.slice aA an acp,.slice eA en ec,.slice xA xn xc] 35)
 have hba:=qV w (.cells #[.int .i64 k,.int .i64 i',.int .i64 t,.slice dA dn dc,.slice lA ln lc,.slice aA an acp,.slice eA en ec,.slice xA xn xc] 35)
 have HB:=qQ (And.intro hba ga)
 have HD:=qQ (vT _ (.slice bA bl bc) L (hbv.keep ga (λ_ _ e=>e)).bs hL)
 obtain⟨nA,ncap,hnv,hnr,_⟩:=h.wd.near
 have hnear:=hc.near
 have hnb:=hc.nearb
 rw[hnear] at hnv hnr
 have HNR:=qQ (And.intro hnv hnr)
 obtain⟨np,z,hnp,hz,hzc⟩:=hnr.at hi
 subst hnp
 obtain⟨z0,z1,_,_⟩:=hnb i z hz
 have hza:atL c.near i=z:=by unfold atL;rw[List.getD_eq_getElem?_getD,hz];rfl
 obtain⟨sl,hsl⟩:=qZ (atL d.acks i)
 have hslb:0≤sl∧sl<18446744073709551616:=by
  rw[hsl];unfold atL;rw[List.getD_eq_getElem?_getD]
  cases hh:d.acks[i]? with
  |none=>simp
  |some y=>exact HSO.out.ab y (List.mem_of_getElem? hh)
 have i1:(i:Int)<(c.nodes:Int):=by omega
 obtain⟨X,hX⟩:=qZ (decF L)
 rw[←hX] at HD
 have hcs:(X.1=0∧mayF X.2=true)∨(X.1≠0∧X.2=fr0):=by rw[hX];exact vK L
 obtain⟨a,ha⟩:=qZ (jK c d x i)
 have ha2:a=(if X.1==0&&inR X.2.dst 0 ((c.nodes:Int)-1)&&bitW z sl X.2.dst.toNat then x.back.getD X.2.dst.toNat none else none):=by
  rw[ha,hX,hLx,←hza,hsl];rfl
 rw[←ha]
 have HA:=qQ ha2
 obtain⟨e,f⟩:=X
 dsimp only at HA HD hcs
 have HCS:=qQ hcs
 have HZ:=qQ h.z
 have HSL:=qQ hsl
 have HZC:=qQ hzc
 have HC:=qQ hc
 clear h hs hdn hln han hen ga hba hnv hnr hnear hnb hz hza hsl hX ha ha2 hcs hbv hL hbl hLx hbk hkl hkat hzc
 unfold VP stpV
 go_enter Tryz.func37,Tryz.ntmps37
 go_wp2_with fail
 generalize w.alloc (.cells #[.int .i64 k,.int .i64 i',.int .i64 t,.slice dA dn dc,.slice lA ln lc,.slice aA an acp,.slice eA en ec,.slice xA xn xc] 35)=w1 at *
 obtain⟨sb,hsb⟩:=qZ w.heap.size
 rw[←hsb] at HB ⊢
 clear hsb
 with_reducible refine HD.out.mono ?_
 rintro en2 w2 ⟨iv,dv,rfl,hI,hDD,hG⟩
 obtain⟨iA,ic,hiv⟩:=(hI o (HZ.out.more HB.out.2.size)).val
 obtain⟨⟨ddA,ddc,hdv,_⟩,_⟩:=hDD o (HZ.out.more HB.out.2.size)
 obtain⟨il,hil⟩:∃n,n=f.ies.length:=⟨_,rfl⟩
 obtain⟨dl,hdl⟩:∃n,n=f.data.length:=⟨_,rfl⟩
 dsimp only at hiv hdv
 rw[←hil] at hiv
 rw[←hdl] at hdv
 subst hiv hdv
 have HG2:=qQ (HB.out.2.trans hG)
 have hb2:=Chg.keep hG HB.out.1 (λe=>e)
 have HB2:=qQ hb2
 clear hI hDD hG HD hil hdl hb2
 unfold frV
 go_wp2_with fail
 have ga3:=Chg.alloc (λ_=>False) w2 (.cells #[.int .i64 f.kind,.int .i64 f.src,.int .i64 f.dst,.int .i64 f.seq,.slice iA il ic,.slice ddA dl ddc] 71)
 have HB3:=qQ (And.intro (qV w2 (.cells #[.int .i64 f.kind,.int .i64 f.src,.int .i64 f.dst,.int .i64 f.seq,.slice iA il ic,.slice ddA dl ddc] 71)) (And.intro (Chg.keep ga3 HB2.out (λe=>e)) (HG2.out.trans ga3)))
 clear ga3
 generalize w2.alloc (.cells #[.int .i64 f.kind,.int .i64 f.src,.int .i64 f.dst,.int .i64 f.seq,.slice iA il ic,.slice ddA dl ddc] 71)=w3 at *
 obtain⟨fb,hfb⟩:=qZ w2.heap.size
 rw[←hfb] at HB3 ⊢
 clear hfb
 --REST
 have HC71:=qQ (show∀WX,Chg (λ_=>False) w3 WX→Calls Tryz.prog 71 #[.slice aA an acp,.int .i64 i] WX (PV0 (.int .u64 sl) WX) from λWX g=>by
  have:=at71_any (w:=WX) (o:=o) (.slice aA an acp) d.acks i (HSO.out.acks.keep (S:=λ_=>False) (HB3.out.2.2.trans g) (λ_ _ e=>e))
  rw[←HSL.out] at this
  exact this)
 have HC22:=qQ (show∀WX,Chg (λ_=>False) w3 WX→∀q,Calls Tryz.prog 22 #[.pointer (some ⟨W,0,none⟩),.int .i64 q] WX (PV0 (.bool (inR q 0 ((c.nodes:Int)-1))) WX) from λWX g q=>jj (H.out.kept hn1 (HB3.out.2.2.trans g)) (by omega) q)
 have HFB:=qQ (show∀WX,Chg (λ_=>False) w3 WX→WX.cell? ⟨fb,2,none⟩=some (.int .i64 f.dst)∧WX.cell? ⟨W,1,none⟩=some (.slice (some np) c.nodes ncap)∧WX.cell? (np.add i)=some (.int .u64 z)∧WX.cell? ⟨sb,5,none⟩=some (.slice aA an acp) from λWX g=>by
  have gw:=HB3.out.2.2.trans g
  have hw:=H.out.kept hn1 gw
  have hc1:=HZC.out
  unfold VU at hc1
  have ks:=Chg.keep g HB3.out.2.1 (λe=>e)
  have kf:=Chg.keep g HB3.out.1 (λe=>e)
  exact⟨by rw[qJ kf];rfl,by rw[←HNR.out.1];exact hw.cell 1,by rw[gw.cell (qG hc1) (λe=>e),hc1],by rw[qJ ks];rfl⟩)
 have HGX:=qQ (Chg.refl (λ_=>False) w3)
 by_cases he:e=0
 ·have t1:(e != 0)=false:=by simp[he]
  have HE0:=qQ he
  obtain⟨q,hq⟩:∃q:Nat,f.dst=(q:Int):=by
   rcases HCS.out with ⟨_,hm⟩|⟨hne,_⟩
   ·obtain⟨_,_,_,_,_,h6,_⟩:=vN hm
    exact Int.eq_ofNat_of_zero_le h6
   ·exact absurd he hne
  have HQ:=qQ hq
  have hA2:=HA.out
  rw[hq,he,Int.toNat_natCast] at hA2
  have HA:=qQ hA2
  clear he hq hA2
  by_cases hr:inR (q:Int) 0 ((c.nodes:Int)-1)=true
  ·have HB1:=qQ hr
   have hqn:q<c.nodes:=by simp only[inR,Bool.and_eq_true,decide_eq_true_eq] at hr;omega
   have iq:(q:Int)<(c.nodes:Int):=by omega
   have hbw:=bitW_is0 z sl z0 (by omega) hslb.1 hslb.2 q (by omega)
   obtain⟨B2,hB2⟩:∃B,B=bitW z sl q:=⟨_,rfl⟩
   rw[←hB2] at hbw HA
   clear hB2 hr
   cases B2 with
   |false=>
    obtain⟨I,F1,hI,hF1,hFA⟩:=clsF w3
    have HFF:=qQ hF1
    obtain⟨f1,f2,f3,f4⟩:=HFB.out w3 HGX.out
    rw[HQ.out] at f1
    have k1:=qF hF1 f1
    have k2:=qF hF1 f2
    have k3:=qF hF1 f3
    have k4:=qF hF1 f4
    have HD22:=qQ (show∀n,Calls Tryz.prog 22 #[.pointer (some ⟨W,0,none⟩),.int .i64 (q:Int)] (F1 n) (λe w'=>e= .returned (.bool true)∧∃m,w'=F1 m) from λn=>(by have:=HC22.out (F1 n) (HGX.out.trans (hF1 n)) (q:Int);rw[HB1.out] at this;exact this.mono (λe w' ⟨h1,h2⟩=>⟨h1,n,h2⟩)))
    have HD71:=qQ (show∀n,Calls Tryz.prog 71 #[.slice aA an acp,.int .i64 i] (F1 n) (λe w'=>e= .returned (.int .u64 sl)∧∃m,w'=F1 m) from λn=>(HC71.out (F1 n) (HGX.out.trans (hF1 n))).mono (λe w' ⟨h1,h2⟩=>⟨h1,n,h2⟩))
    have HFA:=qQ (hFA _ (Chg.drew _ _))
    clear hF1 hFA f1 f2 f3 f4
    with_reducible refine qW F1 (by kernel_rfl) (by kernel_rfl) HFA.out ?_
    repeat ((with_reducible refine wpQuiet_step (λK hK=>?_));go_simp;(try (rw[if_neg];rotate_left;(intro h;cases h)));first|((with_reducible refine hK _ ?_);clear hK K)|(apply Exists.intro;(with_reducible refine⟨λ_=>?_,hK _ ?_⟩);(first|exact HD22.out _|exact HD71.out _);clear hK K))
    with_reducible refine wpQuiet_nil ?_
    intro _ hw'
    obtain⟨nq,rfl⟩:=hw'
    have HGX:=qQ (HGX.out.trans (HFF.out nq))
    clear HFF HFA hI k1 k2 k3 k4 HD22 HD71
    generalize F1 nq=w4 at *
    go_wp2_with fail
    go_ret
    have ha:=HA.out
    rw[if_neg (by simp)] at ha
    rw[ha]
    exact⟨_,rfl,rfl,HB3.out.2.2.trans HGX.out⟩
   |true=>
    obtain⟨I,F1,hI,hF1,hFA⟩:=clsF w3
    have HFF:=qQ hF1
    obtain⟨f1,f2,f3,f4⟩:=HFB.out w3 HGX.out
    rw[HQ.out] at f1
    have k1:=qF hF1 f1
    have k2:=qF hF1 f2
    have k3:=qF hF1 f3
    have k4:=qF hF1 f4
    have HD22:=qQ (show∀n,Calls Tryz.prog 22 #[.pointer (some ⟨W,0,none⟩),.int .i64 (q:Int)] (F1 n) (λe w'=>e= .returned (.bool true)∧∃m,w'=F1 m) from λn=>(by have:=HC22.out (F1 n) (HGX.out.trans (hF1 n)) (q:Int);rw[HB1.out] at this;exact this.mono (λe w' ⟨h1,h2⟩=>⟨h1,n,h2⟩)))
    have HD71:=qQ (show∀n,Calls Tryz.prog 71 #[.slice aA an acp,.int .i64 i] (F1 n) (λe w'=>e= .returned (.int .u64 sl)∧∃m,w'=F1 m) from λn=>(HC71.out (F1 n) (HGX.out.trans (hF1 n))).mono (λe w' ⟨h1,h2⟩=>⟨h1,n,h2⟩))
    have HFA:=qQ (hFA _ (Chg.drew _ _))
    clear hF1 hFA f1 f2 f3 f4
    with_reducible refine qW F1 (by kernel_rfl) (by kernel_rfl) HFA.out ?_
    repeat ((with_reducible refine wpQuiet_step (λK hK=>?_));go_simp;(try (rw[if_neg];rotate_left;(intro h;cases h)));first|((with_reducible refine hK _ ?_);clear hK K)|(apply Exists.intro;(with_reducible refine⟨λ_=>?_,hK _ ?_⟩);(first|exact HD22.out _|exact HD71.out _);clear hK K))
    with_reducible refine wpQuiet_nil ?_
    intro _ hw'
    obtain⟨nq,rfl⟩:=hw'
    have HGX:=qQ (HGX.out.trans (HFF.out nq))
    clear HFF HFA hI k1 k2 k3 k4 HD22 HD71
    generalize F1 nq=w4 at *
    obtain⟨f1,_⟩:=HFB.out w4 HGX.out
    rw[HQ.out] at f1
    have gw:=HB3.out.2.2.trans HGX.out
    obtain⟨yA,yn,ycp,hyc,hya⟩:=HK.out q hqn
    have hyc2:w4.cell? ⟨kg,q,none⟩=some (.slice yA yn ycp):=by rw[gw.cell (qG hyc) (λe=>e),hyc]
    have HY:=qQ (And.intro (hya.step (Ext.refl _ _) gw (λ_ _ e=>e)) gw)
    clear hyc hya gw
    go_wp2_with fail
    go_ret
    have ha:=HA.out
    rw[HB1.out,if_pos (by simp)] at ha
    rw[ha]
    exact⟨_,rfl,HY.out⟩
  ·have hr:inR (q:Int) 0 ((c.nodes:Int)-1)=false:=by simpa using hr
   have HB1:=qQ hr
   clear hr
   obtain⟨I,F1,hI,hF1,hFA⟩:=clsF w3
   have HFF:=qQ hF1
   obtain⟨f1,f2,f3,f4⟩:=HFB.out w3 HGX.out
   rw[HQ.out] at f1
   have k1:=qF hF1 f1
   have k2:=qF hF1 f2
   have k3:=qF hF1 f3
   have k4:=qF hF1 f4
   have HD22:=qQ (show∀n,Calls Tryz.prog 22 #[.pointer (some ⟨W,0,none⟩),.int .i64 (q:Int)] (F1 n) (λe w'=>e= .returned (.bool false)∧∃m,w'=F1 m) from λn=>(by have:=HC22.out (F1 n) (HGX.out.trans (hF1 n)) (q:Int);rw[HB1.out] at this;exact this.mono (λe w' ⟨h1,h2⟩=>⟨h1,n,h2⟩)))
   have HFA:=qQ (hFA _ (Chg.drew _ _))
   clear hF1 hFA f1 f2 f3 f4
   with_reducible refine qW F1 (by kernel_rfl) (by kernel_rfl) HFA.out ?_
   repeat ((with_reducible refine wpQuiet_step (λK hK=>?_));go_simp;(try (rw[if_neg];rotate_left;(intro h;cases h)));first|((with_reducible refine hK _ ?_);clear hK K)|(apply Exists.intro;(with_reducible refine⟨λ_=>?_,hK _ ?_⟩);(first|exact HD22.out _);clear hK K))
   with_reducible refine wpQuiet_nil ?_
   intro _ hw'
   obtain⟨nq,rfl⟩:=hw'
   have HGX:=qQ (HGX.out.trans (HFF.out nq))
   clear HFF HFA hI k1 k2 k3 k4 HD22
   generalize F1 nq=w4 at *
   go_wp2_with fail
   go_ret
   have ha:=HA.out
   rw[if_neg (by rw[HB1.out];simp)] at ha
   rw[ha]
   exact⟨_,rfl,rfl,HB3.out.2.2.trans HGX.out⟩
 ·have t1:(e != 0)=true:=by simpa using he
  have HE0:=qQ he
  obtain⟨I,F1,hI,hF1,hFA⟩:=clsF w3
  have HFF:=qQ hF1
  obtain⟨f1,f2,f3,f4⟩:=HFB.out w3 HGX.out
  have k1:=qF hF1 f1
  have k2:=qF hF1 f2
  have k3:=qF hF1 f3
  have k4:=qF hF1 f4
  have HFA:=qQ (hFA _ (Chg.drew _ _))
  clear hF1 hFA f1 f2 f3 f4
  with_reducible refine qW F1 (by kernel_rfl) (by kernel_rfl) HFA.out ?_
  repeat ((with_reducible refine wpQuiet_step (λK hK=>?_));go_simp;(try (rw[if_neg];rotate_left;(intro h;cases h)));first|((with_reducible refine hK _ ?_);clear hK K)|(apply Exists.intro;(with_reducible refine⟨λ_=>?_,hK _ ?_⟩);(exact False.elim (by assumption));clear hK K))
  with_reducible refine wpQuiet_nil ?_
  intro _ hw'
  obtain⟨nq,rfl⟩:=hw'
  have HGX:=qQ (HGX.out.trans (HFF.out nq))
  clear HFF HFA hI k1 k2 k3 k4
  generalize F1 nq=w4 at *
  go_wp2_with fail
  go_ret
  have ha:=HA.out
  rw[if_neg (by have:=HE0.out;simp[this])] at ha
  rw[ha]
  exact⟨_,rfl,rfl,HB3.out.2.2.trans HGX.out⟩
end
theorem ElB:ElS 91 33 1 24:=ElS.of (z:= .slice none 0 0) (by kernel_rfl) (by kernel_rfl) (by decide+kernel) (by decide)
theorem ElA:ElS 86 90 3 40:=ElS.of (z:= .agg #[.int .i64 0,.slice none 0 0,.int .i64 0]) (by kernel_rfl) (by kernel_rfl) (by decide+kernel) (by decide)
theorem madeL(z:Array Value)(n:Nat):(madeCells z n).toList=(List.range n).map (λk=>z[k % z.size]!):=by
 unfold madeCells;simp
theorem made91(n:Nat)(hn:n≤16):(madeCells (Value.slice none 0 0).cells (n*1)).toList=List.replicate n (.slice none 0 0):=by
 rw[madeL]
 have:n=0∨n=1∨n=2∨n=3∨n=4∨n=5∨n=6∨n=7∨n=8∨n=9∨n=10∨n=11∨n=12∨n=13∨n=14∨n=15∨n=16:=by omega
 rcases this with rfl|rfl|rfl|rfl|rfl|rfl|rfl|rfl|rfl|rfl|rfl|rfl|rfl|rfl|rfl|rfl|rfl <;> exact rfl
theorem made86(n:Nat)(hn:n≤16):(madeCells (Value.agg #[.int .i64 0,.slice none 0 0,.int .i64 0]).cells (n*3)).toList=(List.replicate n (((0,[],0),.slice none 0 0):Snd×Value)).flatMap cellsS:=by
 rw[madeL]
 have:n=0∨n=1∨n=2∨n=3∨n=4∨n=5∨n=6∨n=7∨n=8∨n=9∨n=10∨n=11∨n=12∨n=13∨n=14∨n=15∨n=16:=by omega
 rcases this with rfl|rfl|rfl|rfl|rfl|rfl|rfl|rfl|rfl|rfl|rfl|rfl|rfl|rfl|rfl|rfl|rfl <;> exact rfl
def ob91(n:Nat):Obj:= .cells (madeCells (Value.slice none 0 0).cells (n*1)) 33
def ob86(n:Nat):Obj:= .cells (madeCells (Value.agg #[.int .i64 0,.slice none 0 0,.int .i64 0]).cells (n*3)) 90
theorem mk91(n:Nat)(hn:n≤16)(W:World):(Instr.makeSlice 91 (.int .i64 (n:Int)) (.int .i64 (n:Int))).run Tryz.prog W= .ok (.slice (some ⟨W.heap.size,0,none⟩) n n) (W.alloc (ob91 n)):=by
 obtain⟨i,hi⟩:∃i,Tryz.prog.info? 33=some i:=by obtain⟨_,i,z,h,_⟩:=ElB;exact⟨i,h⟩
 have hx:(Tryz.prog.info? 33).map (λi=>(i.zero,i.size,i.bytes))=some (some (.slice none 0 0),1,24):=by kernel_rfl
 rw[hi] at hx
 simp only[Option.map_some,Option.some.injEq,Prod.mk.injEq] at hx
 have:=run_make (P:=Tryz.prog) W 91 33 i (.slice none 0 0) ElB.1 hi hx.1 .i64 .i64 n n (by omega) (by omega) (by rw[hx.2.2];omega) (by omega)
 simp only[Int.toNat_natCast,hx.2.1] at this
 exact this
theorem mk86(n:Nat)(hn:n≤16)(W:World):(Instr.makeSlice 86 (.int .i64 (n:Int)) (.int .i64 (n:Int))).run Tryz.prog W= .ok (.slice (some ⟨W.heap.size,0,none⟩) n n) (W.alloc (ob86 n)):=by
 obtain⟨i,hi⟩:∃i,Tryz.prog.info? 90=some i:=by obtain⟨_,i,z,h,_⟩:=ElA;exact⟨i,h⟩
 have hx:(Tryz.prog.info? 90).map (λi=>(i.zero,i.size,i.bytes))=some (some (.agg #[.int .i64 0,.slice none 0 0,.int .i64 0]),3,40):=by kernel_rfl
 rw[hi] at hx
 simp only[Option.map_some,Option.some.injEq,Prod.mk.injEq] at hx
 have:=run_make (P:=Tryz.prog) W 86 90 i (.agg #[.int .i64 0,.slice none 0 0,.int .i64 0]) ElA.1 hi hx.1 .i64 .i64 n n (by omega) (by omega) (by rw[hx.2.2];omega) (by omega)
 simp only[Int.toNat_natCast,hx.2.1] at this
 exact this
section
variable {w0 w w':World}{o0 o o':Cls}{c:Cfg}{W:Nat}{x x':WM}{asn:Int}{r r':WR}{d:Dr}{dr lo ac er da:Value}{S:Nat→Prop}
theorem WAt.mkb(h:WAt w0 o0 c W x asn w o r)(hc:c.nodes≤16)(n:Nat)(hn:n≤16):∃o',WAt w0 o0 c W x asn (w.alloc (ob91 n)) o' r∧Ext w o o'∧Bk (w.alloc (ob91 n)) o' (.slice (some ⟨w.heap.size,0,none⟩) n n) (List.replicate n none):=by
 have g:=Chg.alloc (λ_=>False) w (ob91 n)
 have hsz:(w.alloc (ob91 n)).heap.size=w.heap.size+1:=by simp
 have e:=Ext.cls (w:=w) o w.heap.size (cl 16 6) (Nat.le_refl _)
 refine⟨cls o w.heap.size (cl 16 6),h.other e ((h.z.more g.size).cls _ (by omega)) g hc (λ_ e=>e.elim),e,List.replicate n (.slice none 0 0),?_,λk hk=>by cases hk;exact jX _ _ _,by simp,λi a u ha hu=>?_⟩
 ·refine⟨by simp,.inr ⟨w.heap.size,n,_,by simp,Nat.zero_le _,qV w (ob91 n),by simp,by unfold maxLen;omega,by simp[size_madeCells],?_⟩⟩
  rw[made91 n hn];simp
 ·rw[List.getElem?_replicate] at ha hu
  split at ha
  ·cases ha
   have hu2:u= .slice none 0 0:=by
    rw[if_pos (by assumption)] at hu
    cases hu;rfl
   subst hu2
   exact rfl
  ·cases ha
theorem WAt.mka(h:WAt w0 o0 c W x asn w o r)(hc:c.nodes≤16)(n:Nat)(hn:n≤16):∃o',WAt w0 o0 c W x asn (w.alloc (ob86 n)) o' r∧Ext w o o'∧Ao (w.alloc (ob86 n)) o' (.slice (some ⟨w.heap.size,0,none⟩) n n) (List.replicate n (0,[],0)):=by
 have g:=Chg.alloc (λ_=>False) w (ob86 n)
 have hsz:(w.alloc (ob86 n)).heap.size=w.heap.size+1:=by simp
 have e:=Ext.cls (w:=w) o w.heap.size (cl 16 5) (Nat.le_refl _)
 refine⟨cls o w.heap.size (cl 16 5),h.other e ((h.z.more g.size).cls _ (by omega)) g hc (λ_ e=>e.elim),e,List.replicate n ((0,[],0),.slice none 0 0),?_,λk hk=>by cases hk;exact jX _ _ _,λp hp=>?_,by simp⟩
 ·refine⟨?_,.inr ⟨w.heap.size,n,_,by simp,Nat.zero_le _,qV w (ob86 n),by simp,by unfold maxLen;omega,by simp[size_madeCells],?_⟩⟩
  ·have h1:=made86 n hn
   rw[←h1];simp[size_madeCells]
  ·rw[made86 n hn,List.take_of_length_le]
   rw[←made86 n hn];simp[size_madeCells]
 ·rw[List.mem_replicate] at hp
  rw[hp.2];exact BO.nil _ _
theorem WAt.setb(h:WAt w0 o0 c W x asn w o r)(hc:c.nodes≤16){g n cap:Nat}{back:List (Option (List Int))}(hb:Bk w o (.slice (some ⟨g,0,none⟩) n cap) back)(hg:w0.heap.size≤g)(i:Nat)(hi:i<back.length)(a:Option (List Int))(u:Value)(ha:AV a u w o):
  WAt w0 o0 c W x asn (w.setCell ⟨g,i,none⟩ u) o r∧Bk (w.setCell ⟨g,i,none⟩ u) o (.slice (some ⟨g,0,none⟩) n cap) (back.set i a):=by
 obtain⟨vs,h1,h2,h3,h4⟩:=hb
 have hog:o g=cl 16 6:=h2 g rfl
 have G:=chg1 w g i u
 have hn:n=vs.length:=by
  rcases h1.2 with ⟨e,_⟩|⟨g2,c2,_,e,_⟩
  ·cases e
  ·cases e;rfl
 have n0:∀k,o k=0→¬(k=g):=λk hk e=>by subst e;rw[hog] at hk;exact qP 16 6 hk
 refine⟨h.other (Ext.refl _ _) (h.z.more G.size) G hc (λk hk=>⟨by rw[hk,hog];unfold cl;omega,by rw[hk];exact hg⟩),vs.set i u,?_,h2,by simp[h3],λj b v hb hv=>?_⟩
 ·rw[List.length_set]
  rw[hn] at h1 ⊢
  exact vq h1 i u (by omega)
 ·rw[List.getElem?_set] at hb hv
  by_cases hj:i=j
  ·subst hj
   rw[if_pos rfl,if_pos hi] at hb
   rw[if_pos rfl,if_pos (by omega)] at hv
   cases hb;cases hv
   exact ha.step (Ext.refl _ _) G n0
  ·rw[if_neg hj] at hb hv
   exact (h4 j b v hb hv).step (Ext.refl _ _) G n0
end
end Go.Proofs.YtnpihllannobgaaGreatDoor
