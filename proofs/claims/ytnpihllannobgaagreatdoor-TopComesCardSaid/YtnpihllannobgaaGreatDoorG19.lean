/- Steps of the proof, part G19. No condition. -/
import Derived.Test.YtnpihllannobgaaGreatDoorG16
import Derived.Test.YtnpihllannobgaaGreatDoorG18
import Derived.Test.YtnpihllannobgaaGreatDoorG08
import Derived.Deep.RegionHeld3
import Derived.Laws.MakeOwn
namespace Go.Proofs.YtnpihllannobgaaGreatDoor
set_option linter.unusedVariables false
set_option linter.unusedSimpArgs false
set_option maxRecDepth 100000
set_option maxHeartbeats 32000000
open Go.ChangeShapes Go.WideShapes Go.ChangeAt Go.RowKit
theorem getc2(x0 x1 x2 x3 x4 y0 y1 y2 y3 y4:Value)(t:TypeId)(w:World)(g:Nat)(h:w.heap[g]? =some (.cells #[x0,x1,x2,x3,x4,y0,y1,y2,y3,y4] t (0,0))):
  w.ownsRow g t 5 (.slice (some ⟨g,0,none⟩) 2 2) 2 [x0,x1,x2,x3,x4,y0,y1,y2,y3,y4]:=
 ⟨rfl,.inr ⟨g,2,_,rfl,Nat.le_refl _,h,Nat.le_refl _,by decide,rfl,rfl⟩⟩
theorem IeO.twoT{w:World}{o:Cls}{g cap base:Nat}{e f:El}{lv mv:Value}
  (h:w.ownsRow base 172 5 (.slice (some ⟨g,0,none⟩) 2 cap) 2 [.int .i64 e.kind,.int .i64 e.asn,.int .i64 e.rank,.int .i64 e.ticks,lv,.int .i64 f.kind,.int .i64 f.asn,.int .i64 f.rank,.int .i64 f.ticks,mv])
  (ho:o g=0) (hl:RV VI w o lv e.list) (hm:RV VI w o mv f.list):IeO w o (.slice (some ⟨g,0,none⟩) 2 cap) [e,f]:=by
 rcases qD h with ⟨e1,_⟩|⟨g2,c2,e1,hb,hg,hc,hmx⟩
 ·cases e1
 ·cases e1
  refine .inr ⟨g,cap,rfl,ho,hc,hmx,hg,λi hi=>?_⟩
  have:i=0∨i=1:=by simp at hi;omega
  rcases this with rfl|rfl
  ·exact⟨lv,⟨qL h 0 _ rfl,qL h 1 _ rfl,qL h 2 _ rfl,qL h 3 _ rfl,qL h 4 _ rfl⟩,hl⟩
  ·exact⟨mv,⟨qL h 5 _ rfl,qL h 6 _ rfl,qL h 7 _ rfl,qL h 8 _ rfl,qL h 9 _ rfl⟩,hm⟩
section
variable {w0 w w':World}{o0 o o':Cls}{c:Cfg}{i b:Nat}{s s':NSt}{r r':NR}
def PEn(a:Option (List Int))(o:Cls)(w:World)(en:Ending)(w':World):Prop:=∃(y:Value) (e:Int),en= .returned (.tuple #[y,.int .i64 e])∧AV a y w' o∧Chg (λ_=>False) w w'
def PAV(a:Option (List Int))(w:World)(o:Cls)(en:Ending)(w':World):Prop:=∃v,en= .returned v∧AV a v w' o∧Chg (λ_=>False) w w'
theorem nback_keep(h:NAt w0 o0 c i b s w o r)(f:Fr)(iA:Option Addr)(il ic:Nat)(dA:Option Addr)(dl dc:Nat)(now ms:Int)(hd:f.dst=i)(hk:f.kind=4)(hp:s.synced=true→i≠0→s.p≠none)(hms: -30000≤ms∧ms≤30000):
  Calls Tryz.prog 108 #[.pointer (some ⟨b,0,none⟩),frV f (.slice iA il ic) (.slice dA dl dc),.int .i64 now,.int .i64 ms] w (PAV (vW i f now ms s) w o):=by
 obtain⟨a,ha⟩:=qZ (vW i f now ms s)
 have ha2:a=(if mayF (ackFr i s f now ms) then some (encF (ackFr i s f now ms)) else none):=by rw[ha];unfold vW;rw[if_pos ⟨hd,.inr hk⟩]
 rw[←ha]
 obtain⟨E,hE⟩:=qZ (syncE i s now)
 have hfr:ackFr i s f now ms=⟨2,i,f.src,f.seq,[E,⟨2,0,0,-ms,[]⟩],[]⟩:=by rw[hE];rfl
 rw[hfr] at ha2
 have hEl:E.list=[]:=by rw[hE];rfl
 have HA:=qQ ha2
 unfold frV
 have hba:=qV w (.cells #[.int .i64 f.kind,.int .i64 f.src,.int .i64 f.dst,.int .i64 f.seq,.slice iA il ic,.slice dA dl dc] 71)
 have ga:=Chg.alloc (λ_=>False) w (.cells #[.int .i64 f.kind,.int .i64 f.src,.int .i64 f.dst,.int .i64 f.seq,.slice iA il ic,.slice dA dl dc] 71)
 have HB:=qQ hba
 have H:=qQ (h.kept ga)
 have HG:=qQ ga
 have e1:IntKind.i64.wrap (-ms)= -ms:=IntWalk.i64_in _ (by omega)
 have HS:=qQ (λW (g:Chg (λ_=>False) w W)=>nsync_any (h.kept g) now hp)
 rw[←hE] at HS
 unfold elV at HS
 have HENC:=qQ (show∀W,Chg (λ_=>False) w W→Calls Tryz.prog 60 #[frV ⟨2,i,f.src,f.seq,[E,⟨2,0,0,-ms,[]⟩],[]⟩ (.slice (some ⟨W.heap.size,0,none⟩) 2 2) (.slice none 0 0)]
   (W.alloc (.cells #[.int .i64 E.kind,.int .i64 E.asn,.int .i64 E.rank,.int .i64 E.ticks,.slice none 0 0,.int .i64 2,.int .i64 0,.int .i64 0,.int .i64 (-ms),.slice none 0 0] 172)) (PEncF (W.alloc (.cells #[.int .i64 E.kind,.int .i64 E.asn,.int .i64 E.rank,.int .i64 E.ticks,.slice none 0 0,.int .i64 2,.int .i64 0,.int .i64 0,.int .i64 (-ms),.slice none 0 0] 172)) ⟨2,i,f.src,f.seq,[E,⟨2,0,0,-ms,[]⟩],[]⟩) from
  λW g=>by
   have gz:=h.z.more (Nat.le_trans g.size (Chg.alloc (λ_=>False) W (.cells #[.int .i64 E.kind,.int .i64 E.asn,.int .i64 E.rank,.int .i64 E.ticks,.slice none 0 0,.int .i64 2,.int .i64 0,.int .i64 0,.int .i64 (-ms),.slice none 0 0] 172)).size)
   refine fencode_any _ o gz _ _ _ (IeO.twoT (e:=E) (f:=⟨2,0,0,-ms,[]⟩) (getc2 _ _ _ _ _ _ _ _ _ _ 172 _ _ (qV W _)) (h.z _ g.size) (by rw[hEl];exact RV.nil _ _ _) (RV.nil _ _ _)) (BO.nil _ _) (by simp) (by simp) ?_
   intro e he
   simp at he
   rcases he with rfl|rfl
   ·rw[hEl];simp
   ·simp)
 have HENC2:=qQ (show∀W,Chg (λ_=>False) w W→Calls Tryz.prog 60 #[frV ⟨2,i,f.src,f.seq,[E,⟨2,0,0,-ms,[]⟩],[]⟩ (.slice (some ⟨W.heap.size,0,none⟩) 2 2) (.slice none 0 0)]
   (W.alloc (.cells #[.int .i64 E.kind,.int .i64 E.asn,.int .i64 E.rank,.int .i64 E.ticks,.slice none 0 0,.int .i64 2,.int .i64 0,.int .i64 0,.int .i64 (-ms),.slice none 0 0] 172)) (PEn a o (W.alloc (.cells #[.int .i64 E.kind,.int .i64 E.asn,.int .i64 E.rank,.int .i64 E.ticks,.slice none 0 0,.int .i64 2,.int .i64 0,.int .i64 0,.int .i64 (-ms),.slice none 0 0] 172))) from
  λW g=>(HENC.out W g).mono (λen wq hpe=>by
   have hA:=HA.out
   rcases hpe with ⟨hm1,y,he,hown,gq⟩|⟨hm1,he,gq⟩
   ·rw[if_pos hm1] at hA
    refine⟨y,0,he,?_,gq⟩
    rw[hA]
    exact BO.of_own hown (encF_byte _ hm1 (by intro x hx;cases hx)) (λk hk=>h.z k (Nat.le_trans (Nat.le_trans g.size (Chg.alloc (λ_=>False) W _).size) hk))
   ·rw[if_neg (by simp[hm1])] at hA
    refine⟨_,1,he,?_,gq⟩
    rw[hA];rfl))
 have HZ:=qQ h.z
 have t1:(f.dst != (i:Int))=false:=by simp[hd]
 have t2:(f.kind != 1)=true:=by simp[hk]
 have t3:(f.kind != 4)=false:=by simp[hk]
 have t4:(f.kind==1)=false:=by simp[hk]
 clear h hba ga ha ha2 hfr hE hEl hd hk
 unfold frV at HENC2
 clear HENC
 go_enter Tryz.func108,Tryz.ntmps108
 go_wp2_with fail
 generalize hW:w.alloc (.cells #[.int .i64 f.kind,.int .i64 f.src,.int .i64 f.dst,.int .i64 f.seq,.slice iA il ic,.slice dA dl dc] 71)=w1 at *
 obtain⟨d0,d1,d2,d3,d4,d5⟩:=qC HB.out
 have c1:w1.cell? ⟨b,9,none⟩=some (.int .i64 i):=H.out.cell 9
 obtain⟨I,F1,hI,hF1,hFA⟩:=clsF w1
 have e0:=qF hF1 d0
 have e2:=qF hF1 d2
 have e3:=qF hF1 c1
 have HFF:=qQ hF1
 have HFA:=qQ (hFA _ (Chg.drew _ _))
 clear hF1 hFA d0 d1 d2 d3 d4 d5 c1
 with_reducible refine qW F1 (by kernel_rfl) (by kernel_rfl) HFA.out ?_
 repeat ((with_reducible refine wpQuiet_step (λK hK=>?_));go_simp;(try (rw[if_neg];rotate_left;(intro h;cases h)));(with_reducible refine hK _ ?_);clear hK K)
 with_reducible refine wpQuiet_nil ?_
 intro _ hw'
 obtain⟨nq,rfl⟩:=hw'
 have hgq:=HFF.out nq
 have hbq:(F1 nq).heap[w.heap.size]? =_:=Chg.keep hgq HB.out (λe=>e)
 have HG2:=qQ (HG.out.trans hgq)
 have H2:=qQ (H.out.kept hgq)
 have HB2:=qQ hbq
 clear e0 e2 e3 HFF HFA hI HB HG H hgq hbq hW
 generalize F1 nq=w2 at *
 have HBW:=qQ (show∀W,Chg (λ_=>False) w2 W→W.heap[w.heap.size]? =some (.cells #[.int .i64 f.kind,.int .i64 f.src,.int .i64 f.dst,.int .i64 f.seq,.slice iA il ic,.slice dA dl dc] 71 (0,0))∧W.cell? ⟨b,9,none⟩=some (.int .i64 i) from
  λW g=>⟨Chg.keep g HB2.out (λe=>e),(H2.out.kept g).cell 9⟩)
 obtain⟨d0,d1,d2,d3,d4,d5⟩:=qC HB2.out
 have c1:w2.cell? ⟨b,9,none⟩=some (.int .i64 i):=H2.out.cell 9
 have HC:=qQ (Chg.refl (λ_=>False) w2)
 go_wp2_with fail
 have HSS:=qQ (show∀W,Chg (λ_=>False) w2 W→W.cell? ⟨b,9,none⟩=some (.int .i64 i)∧W.cell? ⟨w.heap.size,1,none⟩=some (.int .i64 f.src)∧W.cell? ⟨w.heap.size,3,none⟩=some (.int .i64 f.seq) from
  λW g=>by
   obtain⟨h1,h2⟩:=HBW.out W g
   exact⟨h2,by rw[qJ h1];rfl,by rw[qJ h1];rfl⟩)
 go_cut [9,10] (λt9 t10 wx=>∃y,t9=y∧AV a y wx o∧Chg (λ_=>False) w wx∧Chg (λ_=>False) w2 wx)
 case first=>
  go_region_held3 (λW=>W.cell? ⟨b,9,none⟩=some (.int .i64 i)∧W.cell? ⟨w.heap.size,1,none⟩=some (.int .i64 f.src)∧W.cell? ⟨w.heap.size,3,none⟩=some (.int .i64 f.seq))
   (((with_reducible refine HSS.out _ ?_);repeat (first|with_reducible exact Chg.drew _ _|with_reducible exact HGX.out|with_reducible exact HGW.out|(with_reducible refine Chg.trans ?_ (Chg.alloc _ _ _)))))
   (first
   |(go_at_call 95;refine (HS.out _ (HG2.out.trans (Chg.drew _ w2))).mono ?_;rintro en wp ⟨rfl,gp⟩
     have HGW:=qQ ((Chg.drew _ w2).trans gp))
   |(go_at_call 60;refine (HENC2.out _ (HG2.out.trans HGW.out)).mono ?_;rintro en wq ⟨y,er,rfl,hay,gq⟩
     have HGX:=qQ (HGW.out.trans ((Chg.alloc _ wp _).trans gq))))
  all_goals
   go_wp2_with fail
   go_meet
   exact⟨y,rfl,hay,HG2.out.trans HGX.out,HGX.out⟩
 case rest=>
  obtain⟨y,rfl,hy,hg,hg2⟩:=hcut
  obtain⟨hb3,_⟩:=HBW.out _ hg2
  obtain⟨d0,d1,d2,d3,d4,d5⟩:=qC hb3
  have HY:=qQ (And.intro hy hg)
  clear hy hg hg2 hb3
  go_wp2_with fail
  go_ret
  exact⟨_,rfl,HY.out⟩
end
theorem bitW_is0(near lost:Int)(n0:0≤near)(n1:near<18446744073709551616)(l0:0≤lost)(l1:lost<18446744073709551616)(j:Nat)(hj:j<64):
  (bits BinOp.and IntKind.u64 (bits BinOp.andNot IntKind.u64 near lost / 2^j) 1==0)= !bitW near lost j:=by
 have h:=bitW_is near lost n0 n1 l0 l1 j hj
 rw[←h]
 obtain⟨A,rfl⟩:=Int.eq_ofNat_of_zero_le n0
 obtain⟨B,rfl⟩:=Int.eq_ofNat_of_zero_le l0
 have h1:A&&& (18446744073709551615-B)≤A:=Nat.and_le_left
 rw[u64_andNot_nat A B (by omega) (by omega)]
 generalize A&&& (18446744073709551615-B)=N at *
 have e:((N:Int) / 2^j)=((N / 2^j:Nat):Int):=by push_cast;rfl
 have hl:N / 2^j≤N:=Nat.div_le_self _ _
 rw[e]
 generalize N / 2^j=q at *
 rw[and_one_u64 _ (by omega) (by omega)]
 by_cases h:(q:Int) % 2=0
 ·simp[h]
 ·have:(q:Int) % 2=1:=by omega
  simp[this]
section
variable {w0 w w':World}{o0 o o':Cls}{c:Cfg}{W:Nat}{x x':WM}{asn:Int}{r r':WR}{d:Dr}{dr lo ac er da:Value}{S:Nat→Prop}
theorem Bk.val{v:Value}{back:List (Option (List Int))}(h:Bk w o v back)(hn:0<back.length):∃g cap,v= .slice (some ⟨g,0,none⟩) back.length cap∧∀i,i<back.length→∃A n cp,w.cell? ⟨g,i,none⟩=some (.slice A n cp)∧AV (back.getD i none) (.slice A n cp) w o:=by
 obtain⟨vs,h1,h2,h3,h4⟩:=h
 rw[h3] at h1
 obtain⟨g,cap,cur,e,_⟩:=kZ h1 hn
 subst e
 refine⟨g,cap,rfl,λi hi=>?_⟩
 obtain⟨u,hu⟩:∃u,vs[i]? =some u:=⟨_,List.getElem?_eq_getElem (by omega)⟩
 obtain⟨a,ha⟩:∃a,back[i]? =some a:=⟨_,List.getElem?_eq_getElem hi⟩
 have hav:=h4 i a u ha hu
 have e:back.getD i none=a:=by rw[List.getD_eq_getElem?_getD,ha];rfl
 obtain⟨A,n,cp,e2⟩:∃A n cp,u= .slice A n cp:=by
  cases a with
  |none=>exact⟨_,_,_,hav⟩
  |some l=>obtain⟨⟨A,cp,e,_⟩,_⟩:=hav;exact⟨_,_,_,e⟩
 subst e2
 exact⟨A,n,cp,qr h1 i _ hu,by rw[e];exact hav⟩
theorem wanswer_any(hc:CfgOk c)(h:WAt w0 o0 c W x asn w o r)(k i' t:Int)(hs:So w o d dr lo ac er da)(bv kv:Value)(L:List Int)(hbv:BO w o bv L)(hL:L.length≤100000)(i:Nat)(hi:i<c.nodes)(hLx:L=(x.snd i).2.1)(hbk:Bk w o kv x.back)(hkl:x.back.length=c.nodes):
  Calls Tryz.prog 37 #[VP W,stpV k i' t dr lo ac er da,.int .i64 i,bv,kv] w (PAV (jk c d x i) w o):=by
 have hn0:=hc.n0
 have hn1:=hc.n1
 have HSO:=qQ hs
 obtain⟨dA,dc,hdr,_⟩:=hs.drift
 obtain⟨lA,lc,hlo,_⟩:=hs.lost
 obtain⟨aA,acp,hac,_⟩:=hs.acks
 obtain⟨eA,ec,her,_⟩:=hs.err
 obtain⟨xA,xn,xc,hda⟩:=hs.da
 obtain⟨dn,hdn⟩:∃n,n=d.drift.length:=⟨_,rfl⟩
 obtain⟨ln,hln⟩:∃n,n=d.lost.length:=⟨_,rfl⟩
 obtain⟨an,han⟩:∃n,n=d.acks.length:=⟨_,rfl⟩
 obtain⟨en,hen⟩:∃n,n=d.err.length:=⟨_,rfl⟩
 rw[←hdn] at hdr
 rw[←hln] at hlo
 rw[←han] at hac
 rw[←hen] at her
 subst hdr hlo hac her hda
 obtain⟨kg,kcap,hkv,hkat⟩:=hbk.val (by omega)
 rw[hkl] at hkv hkat
 subst hkv
 have H:=qQ h
 have HK:=qQ hkat
 have HBK:=qQ hbk
 have HKL:=qQ hkl
 obtain⟨⟨bA,bc,hbe,_⟩,_⟩:=id hbv
 obtain⟨bl,hbl⟩:∃n,n=L.length:=⟨_,rfl⟩
 rw[←hbl] at hbe
 subst hbe
 have ga:=Chg.alloc (λ_=>False) w (.cells #[.int .i64 k,.int .i64 i',.int .i64 t,.slice dA dn dc,.slice lA ln lc,.slice aA an acp,.slice eA en ec,.slice xA xn xc] 35)
 have hba:=qV w (.cells #[.int .i64 k,.int .i64 i',.int .i64 t,.slice dA dn dc,.slice lA ln lc,.slice aA an acp,.slice eA en ec,.slice xA xn xc] 35)
 have HB:=qQ (And.intro hba ga)
 have HD:=qQ (kX _ (.slice bA bl bc) L (hbv.keep ga (λ_ _ e=>e)).bs hL)
 obtain⟨nA,ncap,hnv,hnr,_⟩:=h.wd.near
 have hnear:=hc.near
 have hnb:=hc.nearb
 rw[hnear] at hnv hnr
 have HNR:=qQ (And.intro hnv hnr)
 obtain⟨np,z,hnp,hz,hzc⟩:=hnr.at hi
 subst hnp
 obtain⟨z0,z1,_,_⟩:=hnb i z hz
 have hza:atL c.near i=z:=by unfold atL;rw[List.getD_eq_getElem?_getD,hz];rfl
 obtain⟨sl,hsl⟩:=qZ (atL d.acks i)
 have hslb:0≤sl∧sl<18446744073709551616:=by
  rw[hsl];unfold atL;rw[List.getD_eq_getElem?_getD]
  cases hh:d.acks[i]? with
  |none=>simp
  |some y=>exact HSO.out.ab y (List.mem_of_getElem? hh)
 have i1:(i:Int)<(c.nodes:Int):=by omega
 obtain⟨X,hX⟩:=qZ (decF L)
 rw[←hX] at HD
 have hcs:(X.1=0∧mayF X.2=true)∨(X.1≠0∧X.2=fr0):=by rw[hX];exact vp L
 obtain⟨a,ha⟩:=qZ (jk c d x i)
 have ha2:a=(if X.1==0&&inR X.2.dst 0 ((c.nodes:Int)-1)&&bitW z sl X.2.dst.toNat then x.back.getD X.2.dst.toNat none else none):=by
  rw[ha,hX,hLx,←hza,hsl];rfl
 rw[←ha]
 have HA:=qQ ha2
 obtain⟨e,f⟩:=X
 dsimp only at HA HD hcs
 have HCS:=qQ hcs
 have HZ:=qQ h.z
 have HSL:=qQ hsl
 have HZC:=qQ hzc
 have HC:=qQ hc
 clear h hs hdn hln han hen ga hba hnv hnr hnear hnb hz hza hsl hX ha ha2 hcs hbv hL hbl hLx hbk hkl hkat hzc
 unfold VP stpV
 go_enter Tryz.func37,Tryz.ntmps37
 go_wp2_with fail
 generalize w.alloc (.cells #[.int .i64 k,.int .i64 i',.int .i64 t,.slice dA dn dc,.slice lA ln lc,.slice aA an acp,.slice eA en ec,.slice xA xn xc] 35)=w1 at *
 obtain⟨sb,hsb⟩:=qZ w.heap.size
 rw[←hsb] at HB ⊢
 clear hsb
 with_reducible refine HD.out.mono ?_
 rintro en2 w2 ⟨iv,dv,rfl,hI,hDD,hG⟩
 obtain⟨iA,ic,hiv⟩:=(hI o (HZ.out.more HB.out.2.size)).val
 obtain⟨⟨ddA,ddc,hdv,_⟩,_⟩:=hDD o (HZ.out.more HB.out.2.size)
 obtain⟨il,hil⟩:∃n,n=f.ies.length:=⟨_,rfl⟩
 obtain⟨dl,hdl⟩:∃n,n=f.data.length:=⟨_,rfl⟩
 dsimp only at hiv hdv
 rw[←hil] at hiv
 rw[←hdl] at hdv
 subst hiv hdv
 have HG2:=qQ (HB.out.2.trans hG)
 have hb2:=Chg.keep hG HB.out.1 (λe=>e)
 have HB2:=qQ hb2
 clear hI hDD hG HD hil hdl hb2
 unfold frV
 go_wp2_with fail
 have ga3:=Chg.alloc (λ_=>False) w2 (.cells #[.int .i64 f.kind,.int .i64 f.src,.int .i64 f.dst,.int .i64 f.seq,.slice iA il ic,.slice ddA dl ddc] 71)
 have HB3:=qQ (And.intro (qV w2 (.cells #[.int .i64 f.kind,.int .i64 f.src,.int .i64 f.dst,.int .i64 f.seq,.slice iA il ic,.slice ddA dl ddc] 71)) (And.intro (Chg.keep ga3 HB2.out (λe=>e)) (HG2.out.trans ga3)))
 clear ga3
 generalize w2.alloc (.cells #[.int .i64 f.kind,.int .i64 f.src,.int .i64 f.dst,.int .i64 f.seq,.slice iA il ic,.slice ddA dl ddc] 71)=w3 at *
 obtain⟨fb,hfb⟩:=qZ w2.heap.size
 rw[←hfb] at HB3 ⊢
 clear hfb
 --REST
 have HC71:=qQ (show∀WX,Chg (λ_=>False) w3 WX→Calls Tryz.prog 71 #[.slice aA an acp,.int .i64 i] WX (PV0 (.int .u64 sl) WX) from λWX g=>by
  have:=at71_any (w:=WX) (o:=o) (.slice aA an acp) d.acks i (HSO.out.acks.keep (S:=λ_=>False) (HB3.out.2.2.trans g) (λ_ _ e=>e))
  rw[←HSL.out] at this
  exact this)
 have HC22:=qQ (show∀WX,Chg (λ_=>False) w3 WX→∀q,Calls Tryz.prog 22 #[.pointer (some ⟨W,0,none⟩),.int .i64 q] WX (PV0 (.bool (inR q 0 ((c.nodes:Int)-1))) WX) from λWX g q=>whas_any (H.out.kept hn1 (HB3.out.2.2.trans g)) (by omega) q)
 have HFB:=qQ (show∀WX,Chg (λ_=>False) w3 WX→WX.cell? ⟨fb,2,none⟩=some (.int .i64 f.dst)∧WX.cell? ⟨W,1,none⟩=some (.slice (some np) c.nodes ncap)∧WX.cell? (np.add i)=some (.int .u64 z)∧WX.cell? ⟨sb,5,none⟩=some (.slice aA an acp) from λWX g=>by
  have gw:=HB3.out.2.2.trans g
  have hw:=H.out.kept hn1 gw
  have hc1:=HZC.out
  unfold VU at hc1
  have ks:=Chg.keep g HB3.out.2.1 (λe=>e)
  have kf:=Chg.keep g HB3.out.1 (λe=>e)
  exact⟨by rw[qJ kf];rfl,by rw[←HNR.out.1];exact hw.cell 1,by rw[gw.cell (qP hc1) (λe=>e),hc1],by rw[qJ ks];rfl⟩)
 have HGX:=qQ (Chg.refl (λ_=>False) w3)
 by_cases he:e=0
 ·have t1:(e != 0)=false:=by simp[he]
  have HE0:=qQ he
  obtain⟨q,hq⟩:∃q:Nat,f.dst=(q:Int):=by
   rcases HCS.out with ⟨_,hm⟩|⟨hne,_⟩
   ·obtain⟨_,_,_,_,_,h6,_⟩:=kV hm
    exact Int.eq_ofNat_of_zero_le h6
   ·exact absurd he hne
  have HQ:=qQ hq
  have hA2:=HA.out
  rw[hq,he,Int.toNat_natCast] at hA2
  have HA:=qQ hA2
  clear he hq hA2
  by_cases hr:inR (q:Int) 0 ((c.nodes:Int)-1)=true
  ·have HB1:=qQ hr
   have hqn:q<c.nodes:=by simp only[inR,Bool.and_eq_true,decide_eq_true_eq] at hr;omega
   have iq:(q:Int)<(c.nodes:Int):=by omega
   have hbw:=bitW_is0 z sl z0 (by omega) hslb.1 hslb.2 q (by omega)
   obtain⟨B2,hB2⟩:∃B,B=bitW z sl q:=⟨_,rfl⟩
   rw[←hB2] at hbw HA
   clear hB2 hr
   cases B2 with
   |false=>
    obtain⟨I,F1,hI,hF1,hFA⟩:=clsF w3
    have HFF:=qQ hF1
    obtain⟨f1,f2,f3,f4⟩:=HFB.out w3 HGX.out
    rw[HQ.out] at f1
    have k1:=qF hF1 f1
    have k2:=qF hF1 f2
    have k3:=qF hF1 f3
    have k4:=qF hF1 f4
    have HD22:=qQ (show∀n,Calls Tryz.prog 22 #[.pointer (some ⟨W,0,none⟩),.int .i64 (q:Int)] (F1 n) (λe w'=>e= .returned (.bool true)∧∃m,w'=F1 m) from λn=>(by have:=HC22.out (F1 n) (HGX.out.trans (hF1 n)) (q:Int);rw[HB1.out] at this;exact this.mono (λe w' ⟨h1,h2⟩=>⟨h1,n,h2⟩)))
    have HD71:=qQ (show∀n,Calls Tryz.prog 71 #[.slice aA an acp,.int .i64 i] (F1 n) (λe w'=>e= .returned (.int .u64 sl)∧∃m,w'=F1 m) from λn=>(HC71.out (F1 n) (HGX.out.trans (hF1 n))).mono (λe w' ⟨h1,h2⟩=>⟨h1,n,h2⟩))
    have HFA:=qQ (hFA _ (Chg.drew _ _))
    clear hF1 hFA f1 f2 f3 f4
    with_reducible refine qW F1 (by kernel_rfl) (by kernel_rfl) HFA.out ?_
    repeat ((with_reducible refine wpQuiet_step (λK hK=>?_));go_simp;(try (rw[if_neg];rotate_left;(intro h;cases h)));first|((with_reducible refine hK _ ?_);clear hK K)|(apply Exists.intro;(with_reducible refine⟨λ_=>?_,hK _ ?_⟩);(first|exact HD22.out _|exact HD71.out _);clear hK K))
    with_reducible refine wpQuiet_nil ?_
    intro _ hw'
    obtain⟨nq,rfl⟩:=hw'
    have HGX:=qQ (HGX.out.trans (HFF.out nq))
    clear HFF HFA hI k1 k2 k3 k4 HD22 HD71
    generalize F1 nq=w4 at *
    go_wp2_with fail
    go_ret
    have ha:=HA.out
    rw[if_neg (by simp)] at ha
    rw[ha]
    exact⟨_,rfl,rfl,HB3.out.2.2.trans HGX.out⟩
   |true=>
    obtain⟨I,F1,hI,hF1,hFA⟩:=clsF w3
    have HFF:=qQ hF1
    obtain⟨f1,f2,f3,f4⟩:=HFB.out w3 HGX.out
    rw[HQ.out] at f1
    have k1:=qF hF1 f1
    have k2:=qF hF1 f2
    have k3:=qF hF1 f3
    have k4:=qF hF1 f4
    have HD22:=qQ (show∀n,Calls Tryz.prog 22 #[.pointer (some ⟨W,0,none⟩),.int .i64 (q:Int)] (F1 n) (λe w'=>e= .returned (.bool true)∧∃m,w'=F1 m) from λn=>(by have:=HC22.out (F1 n) (HGX.out.trans (hF1 n)) (q:Int);rw[HB1.out] at this;exact this.mono (λe w' ⟨h1,h2⟩=>⟨h1,n,h2⟩)))
    have HD71:=qQ (show∀n,Calls Tryz.prog 71 #[.slice aA an acp,.int .i64 i] (F1 n) (λe w'=>e= .returned (.int .u64 sl)∧∃m,w'=F1 m) from λn=>(HC71.out (F1 n) (HGX.out.trans (hF1 n))).mono (λe w' ⟨h1,h2⟩=>⟨h1,n,h2⟩))
    have HFA:=qQ (hFA _ (Chg.drew _ _))
    clear hF1 hFA f1 f2 f3 f4
    with_reducible refine qW F1 (by kernel_rfl) (by kernel_rfl) HFA.out ?_
    repeat ((with_reducible refine wpQuiet_step (λK hK=>?_));go_simp;(try (rw[if_neg];rotate_left;(intro h;cases h)));first|((with_reducible refine hK _ ?_);clear hK K)|(apply Exists.intro;(with_reducible refine⟨λ_=>?_,hK _ ?_⟩);(first|exact HD22.out _|exact HD71.out _);clear hK K))
    with_reducible refine wpQuiet_nil ?_
    intro _ hw'
    obtain⟨nq,rfl⟩:=hw'
    have HGX:=qQ (HGX.out.trans (HFF.out nq))
    clear HFF HFA hI k1 k2 k3 k4 HD22 HD71
    generalize F1 nq=w4 at *
    obtain⟨f1,_⟩:=HFB.out w4 HGX.out
    rw[HQ.out] at f1
    have gw:=HB3.out.2.2.trans HGX.out
    obtain⟨yA,yn,ycp,hyc,hya⟩:=HK.out q hqn
    have hyc2:w4.cell? ⟨kg,q,none⟩=some (.slice yA yn ycp):=by rw[gw.cell (qP hyc) (λe=>e),hyc]
    have HY:=qQ (And.intro (hya.step (Ext.refl _ _) gw (λ_ _ e=>e)) gw)
    clear hyc hya gw
    go_wp2_with fail
    go_ret
    have ha:=HA.out
    rw[HB1.out,if_pos (by simp)] at ha
    rw[ha]
    exact⟨_,rfl,HY.out⟩
  ·have hr:inR (q:Int) 0 ((c.nodes:Int)-1)=false:=by simpa using hr
   have HB1:=qQ hr
   clear hr
   obtain⟨I,F1,hI,hF1,hFA⟩:=clsF w3
   have HFF:=qQ hF1
   obtain⟨f1,f2,f3,f4⟩:=HFB.out w3 HGX.out
   rw[HQ.out] at f1
   have k1:=qF hF1 f1
   have k2:=qF hF1 f2
   have k3:=qF hF1 f3
   have k4:=qF hF1 f4
   have HD22:=qQ (show∀n,Calls Tryz.prog 22 #[.pointer (some ⟨W,0,none⟩),.int .i64 (q:Int)] (F1 n) (λe w'=>e= .returned (.bool false)∧∃m,w'=F1 m) from λn=>(by have:=HC22.out (F1 n) (HGX.out.trans (hF1 n)) (q:Int);rw[HB1.out] at this;exact this.mono (λe w' ⟨h1,h2⟩=>⟨h1,n,h2⟩)))
   have HFA:=qQ (hFA _ (Chg.drew _ _))
   clear hF1 hFA f1 f2 f3 f4
   with_reducible refine qW F1 (by kernel_rfl) (by kernel_rfl) HFA.out ?_
   repeat ((with_reducible refine wpQuiet_step (λK hK=>?_));go_simp;(try (rw[if_neg];rotate_left;(intro h;cases h)));first|((with_reducible refine hK _ ?_);clear hK K)|(apply Exists.intro;(with_reducible refine⟨λ_=>?_,hK _ ?_⟩);(first|exact HD22.out _);clear hK K))
   with_reducible refine wpQuiet_nil ?_
   intro _ hw'
   obtain⟨nq,rfl⟩:=hw'
   have HGX:=qQ (HGX.out.trans (HFF.out nq))
   clear HFF HFA hI k1 k2 k3 k4 HD22
   generalize F1 nq=w4 at *
   go_wp2_with fail
   go_ret
   have ha:=HA.out
   rw[if_neg (by rw[HB1.out];simp)] at ha
   rw[ha]
   exact⟨_,rfl,rfl,HB3.out.2.2.trans HGX.out⟩
 ·have t1:(e != 0)=true:=by simpa using he
  have HE0:=qQ he
  obtain⟨I,F1,hI,hF1,hFA⟩:=clsF w3
  have HFF:=qQ hF1
  obtain⟨f1,f2,f3,f4⟩:=HFB.out w3 HGX.out
  have k1:=qF hF1 f1
  have k2:=qF hF1 f2
  have k3:=qF hF1 f3
  have k4:=qF hF1 f4
  have HFA:=qQ (hFA _ (Chg.drew _ _))
  clear hF1 hFA f1 f2 f3 f4
  with_reducible refine qW F1 (by kernel_rfl) (by kernel_rfl) HFA.out ?_
  repeat ((with_reducible refine wpQuiet_step (λK hK=>?_));go_simp;(try (rw[if_neg];rotate_left;(intro h;cases h)));first|((with_reducible refine hK _ ?_);clear hK K)|(apply Exists.intro;(with_reducible refine⟨λ_=>?_,hK _ ?_⟩);(exact False.elim (by assumption));clear hK K))
  with_reducible refine wpQuiet_nil ?_
  intro _ hw'
  obtain⟨nq,rfl⟩:=hw'
  have HGX:=qQ (HGX.out.trans (HFF.out nq))
  clear HFF HFA hI k1 k2 k3 k4
  generalize F1 nq=w4 at *
  go_wp2_with fail
  go_ret
  have ha:=HA.out
  rw[if_neg (by have:=HE0.out;simp[this])] at ha
  rw[ha]
  exact⟨_,rfl,rfl,HB3.out.2.2.trans HGX.out⟩
end
section
variable {w0 w w':World}{o0 o o':Cls}{c:Cfg}{i b:Nat}{s s':NSt}{r r':NR}
theorem hearsN_p(i:Nat)(s:NSt)(src rk now t:Int)(h:s.p≠none):(qq i s src rk now t).p≠none:=by
 have e1:∀(s2:NSt) q,(qz i s2 q).p=s2.p:=λs2 q=>by unfold qz;split <;> rfl
 have e2:(zT i (zR s src rk now) src t).p=(zR s src rk now).p:=by unfold zT;split <;> rfl
 unfold qq
 rw[e1,e2]
 obtain⟨x,hx⟩:=Option.ne_none_iff_exists'.1 h
 unfold zR pN
 rw[hx]
 simp
end
theorem ElB:ElS 91 33 1 24:=ElS.of (z:= .slice none 0 0) (by kernel_rfl) (by kernel_rfl) (by decide+kernel) (by decide)
theorem ElA:ElS 86 90 3 40:=ElS.of (z:= .agg #[.int .i64 0,.slice none 0 0,.int .i64 0]) (by kernel_rfl) (by kernel_rfl) (by decide+kernel) (by decide)
theorem madeL(z:Array Value)(n:Nat):(madeCells z n).toList=(List.range n).map (λk=>z[k % z.size]!):=by
 unfold madeCells;simp
theorem made91(n:Nat)(hn:n≤16):(madeCells (Value.slice none 0 0).cells (n*1)).toList=List.replicate n (.slice none 0 0):=by
 rw[madeL]
 have:n=0∨n=1∨n=2∨n=3∨n=4∨n=5∨n=6∨n=7∨n=8∨n=9∨n=10∨n=11∨n=12∨n=13∨n=14∨n=15∨n=16:=by omega
 rcases this with rfl|rfl|rfl|rfl|rfl|rfl|rfl|rfl|rfl|rfl|rfl|rfl|rfl|rfl|rfl|rfl|rfl <;> exact rfl
theorem made86(n:Nat)(hn:n≤16):(madeCells (Value.agg #[.int .i64 0,.slice none 0 0,.int .i64 0]).cells (n*3)).toList=(List.replicate n (((0,[],0),.slice none 0 0):Snd×Value)).flatMap cellsS:=by
 rw[madeL]
 have:n=0∨n=1∨n=2∨n=3∨n=4∨n=5∨n=6∨n=7∨n=8∨n=9∨n=10∨n=11∨n=12∨n=13∨n=14∨n=15∨n=16:=by omega
 rcases this with rfl|rfl|rfl|rfl|rfl|rfl|rfl|rfl|rfl|rfl|rfl|rfl|rfl|rfl|rfl|rfl|rfl <;> exact rfl
def ob91(n:Nat):Obj:= .cells (madeCells (Value.slice none 0 0).cells (n*1)) 33
def ob86(n:Nat):Obj:= .cells (madeCells (Value.agg #[.int .i64 0,.slice none 0 0,.int .i64 0]).cells (n*3)) 90
theorem mk91(n:Nat)(hn:n≤16)(W:World):(Instr.makeSlice 91 (.int .i64 (n:Int)) (.int .i64 (n:Int))).run Tryz.prog W= .ok (.slice (some ⟨W.heap.size,0,none⟩) n n) (W.alloc (ob91 n)):=by
 obtain⟨i,hi⟩:∃i,Tryz.prog.info? 33=some i:=by obtain⟨_,i,z,h,_⟩:=ElB;exact⟨i,h⟩
 have hx:(Tryz.prog.info? 33).map (λi=>(i.zero,i.size,i.bytes))=some (some (.slice none 0 0),1,24):=by kernel_rfl
 rw[hi] at hx
 simp only[Option.map_some,Option.some.injEq,Prod.mk.injEq] at hx
 have:=run_make (P:=Tryz.prog) W 91 33 i (.slice none 0 0) ElB.1 hi hx.1 .i64 .i64 n n (by omega) (by omega) (by rw[hx.2.2];omega) (by omega)
 simp only[Int.toNat_natCast,hx.2.1] at this
 exact this
theorem mk86(n:Nat)(hn:n≤16)(W:World):(Instr.makeSlice 86 (.int .i64 (n:Int)) (.int .i64 (n:Int))).run Tryz.prog W= .ok (.slice (some ⟨W.heap.size,0,none⟩) n n) (W.alloc (ob86 n)):=by
 obtain⟨i,hi⟩:∃i,Tryz.prog.info? 90=some i:=by obtain⟨_,i,z,h,_⟩:=ElA;exact⟨i,h⟩
 have hx:(Tryz.prog.info? 90).map (λi=>(i.zero,i.size,i.bytes))=some (some (.agg #[.int .i64 0,.slice none 0 0,.int .i64 0]),3,40):=by kernel_rfl
 rw[hi] at hx
 simp only[Option.map_some,Option.some.injEq,Prod.mk.injEq] at hx
 have:=run_make (P:=Tryz.prog) W 86 90 i (.agg #[.int .i64 0,.slice none 0 0,.int .i64 0]) ElA.1 hi hx.1 .i64 .i64 n n (by omega) (by omega) (by rw[hx.2.2];omega) (by omega)
 simp only[Int.toNat_natCast,hx.2.1] at this
 exact this
section
variable {w0 w w':World}{o0 o o':Cls}{c:Cfg}{W:Nat}{x x':WM}{asn:Int}{r r':WR}{d:Dr}{dr lo ac er da:Value}{S:Nat→Prop}
theorem WAt.mkb(h:WAt w0 o0 c W x asn w o r)(hc:c.nodes≤16)(n:Nat)(hn:n≤16):∃o',WAt w0 o0 c W x asn (w.alloc (ob91 n)) o' r∧Ext w o o'∧Bk (w.alloc (ob91 n)) o' (.slice (some ⟨w.heap.size,0,none⟩) n n) (List.replicate n none):=by
 have g:=Chg.alloc (λ_=>False) w (ob91 n)
 have hsz:(w.alloc (ob91 n)).heap.size=w.heap.size+1:=by simp
 have e:=Ext.cls (w:=w) o w.heap.size (cl 16 6) (Nat.le_refl _)
 refine⟨cls o w.heap.size (cl 16 6),h.other e ((h.z.more g.size).cls _ (by omega)) g hc (λ_ e=>e.elim),e,List.replicate n (.slice none 0 0),?_,λk hk=>by cases hk;exact jp _ _ _,by simp,λi a u ha hu=>?_⟩
 ·refine⟨by simp,.inr ⟨w.heap.size,n,_,by simp,Nat.zero_le _,qV w (ob91 n),by simp,by unfold maxLen;omega,by simp[size_madeCells],?_⟩⟩
  rw[made91 n hn];simp
 ·rw[List.getElem?_replicate] at ha hu
  split at ha
  ·cases ha
   have hu2:u= .slice none 0 0:=by
    rw[if_pos (by assumption)] at hu
    cases hu;rfl
   subst hu2
   exact rfl
  ·cases ha
theorem WAt.mka(h:WAt w0 o0 c W x asn w o r)(hc:c.nodes≤16)(n:Nat)(hn:n≤16):∃o',WAt w0 o0 c W x asn (w.alloc (ob86 n)) o' r∧Ext w o o'∧Ao (w.alloc (ob86 n)) o' (.slice (some ⟨w.heap.size,0,none⟩) n n) (List.replicate n (0,[],0)):=by
 have g:=Chg.alloc (λ_=>False) w (ob86 n)
 have hsz:(w.alloc (ob86 n)).heap.size=w.heap.size+1:=by simp
 have e:=Ext.cls (w:=w) o w.heap.size (cl 16 5) (Nat.le_refl _)
 refine⟨cls o w.heap.size (cl 16 5),h.other e ((h.z.more g.size).cls _ (by omega)) g hc (λ_ e=>e.elim),e,List.replicate n ((0,[],0),.slice none 0 0),?_,λk hk=>by cases hk;exact jp _ _ _,λp hp=>?_,by simp⟩
 ·refine⟨?_,.inr ⟨w.heap.size,n,_,by simp,Nat.zero_le _,qV w (ob86 n),by simp,by unfold maxLen;omega,by simp[size_madeCells],?_⟩⟩
  ·have h1:=made86 n hn
   rw[←h1];simp[size_madeCells]
  ·rw[made86 n hn,List.take_of_length_le]
   rw[←made86 n hn];simp[size_madeCells]
 ·rw[List.mem_replicate] at hp
  rw[hp.2];exact BO.nil _ _
theorem WAt.setb(h:WAt w0 o0 c W x asn w o r)(hc:c.nodes≤16){g n cap:Nat}{back:List (Option (List Int))}(hb:Bk w o (.slice (some ⟨g,0,none⟩) n cap) back)(hg:w0.heap.size≤g)(i:Nat)(hi:i<back.length)(a:Option (List Int))(u:Value)(ha:AV a u w o):
  WAt w0 o0 c W x asn (w.setCell ⟨g,i,none⟩ u) o r∧Bk (w.setCell ⟨g,i,none⟩ u) o (.slice (some ⟨g,0,none⟩) n cap) (back.set i a):=by
 obtain⟨vs,h1,h2,h3,h4⟩:=hb
 have hog:o g=cl 16 6:=h2 g rfl
 have G:=chg1 w g i u
 have hn:n=vs.length:=by
  rcases h1.2 with ⟨e,_⟩|⟨g2,c2,_,e,_⟩
  ·cases e
  ·cases e;rfl
 have n0:∀k,o k=0→¬(k=g):=λk hk e=>by subst e;rw[hog] at hk;exact qf 16 6 hk
 refine⟨h.other (Ext.refl _ _) (h.z.more G.size) G hc (λk hk=>⟨by rw[hk,hog];unfold cl;omega,by rw[hk];exact hg⟩),vs.set i u,?_,h2,by simp[h3],λj b v hb hv=>?_⟩
 ·rw[List.length_set]
  rw[hn] at h1 ⊢
  exact own_set h1 i u (by omega)
 ·rw[List.getElem?_set] at hb hv
  by_cases hj:i=j
  ·subst hj
   rw[if_pos rfl,if_pos hi] at hb
   rw[if_pos rfl,if_pos (by omega)] at hv
   cases hb;cases hv
   exact ha.step (Ext.refl _ _) G n0
  ·rw[if_neg hj] at hb hv
   exact (h4 j b v hb hv).step (Ext.refl _ _) G n0
end
def EvP(i:Nat)(n:Nat)(l:List Ev):Prop:=∀e∈l,(e.kind=7∨e.kind=3→e.i=i)∧(e.kind=7→0≤e.src∧e.src<n)
theorem EvP.nil(i n:Nat):EvP i n []:=λe he=>by cases he
theorem EvP.snoc{i n:Nat}{l:List Ev}(h:EvP i n l)(e:Ev)(h1:e.kind=7∨e.kind=3→e.i=i)(h2:e.kind=7→0≤e.src∧e.src<n):EvP i n (l++[e]):=λx hx=>by
 rcases List.mem_append.1 hx with hx|hx
 ·exact h x hx
 ·simp at hx;subst hx;exact⟨h1,h2⟩
theorem hearsN_evp{i n:Nat}{s:NSt}(h:EvP i n s.ev)(src rk now t:Int)(hs:0≤src∧src<n):EvP i n (qq i s src rk now t).ev∧(qq i s src rk now t).ev.length≤s.ev.length+2:=by
 refine⟨?_,hearsN_ev i s src rk now t⟩
 have h1:EvP i n (zT i (zR s src rk now) src t).ev:=by
  unfold zT
  split
  ·exact EvP.snoc h _ (λ_=>rfl) (λ_=>hs)
  ·exact h
 unfold qq qz
 split
 ·exact h1
 ·exact EvP.snoc h1 _ (λe=>by rcases e with e|e <;> cases e) (λe=>by cases e)
theorem hearN_evp{i:Nat}{c:Cfg}{s:NSt}(hev:s.ev=[])(X:Int×Fr)(now ms:Int):EvP i c.nodes (zy i c s X now ms id).ev∧(zy i c s X now ms id).ev.length≤10:=by
 unfold zy
 by_cases hg:(goodF i c X&&(zV X.2 now).2)=true
 ·rw[if_pos hg]
  simp only[Bool.and_eq_true] at hg
  have hsrc:0≤X.2.src∧X.2.src<c.nodes:=by
   have:=hg.1
   unfold goodF inR at this
   simp only[Bool.and_eq_true,decide_eq_true_eq] at this
   omega
  have h0:EvP i c.nodes (evN s ⟨1,i,X.2.src,0,pk0⟩).ev:=by
   show EvP i c.nodes (s.ev++[_])
   rw[hev]
   exact EvP.snoc (EvP.nil _ _) _ (λe=>by rcases e with e|e <;> cases e) (λe=>by cases e)
  have l0:(evN s ⟨1,i,X.2.src,0,pk0⟩).ev.length=1:=by show (s.ev++[_]).length=1;rw[hev];rfl
  by_cases hsy:s.synced=true
  ·rw[if_pos hsy]
   obtain⟨k1,k2⟩:=hearsN_evp h0 X.2.src (zV X.2 now).1 now ms hsrc
   unfold hear2N
   by_cases hi:i=0
   ·rw[if_pos hi];exact⟨h0,by show _≤_;unfold id;omega⟩
   ·rw[if_neg hi]
    by_cases hf:qM (qq i (evN s ⟨1,i,X.2.src,0,pk0⟩) X.2.src (zV X.2 now).1 now ms)=64
    ·rw[if_pos hf];exact⟨k1,by omega⟩
    ·rw[if_neg hf];exact⟨k1,by unfold id;omega⟩
  ·rw[if_neg hsy]
   unfold adoptN
   split
   ·unfold adopt2N
    have h1:EvP i c.nodes (evN (adopt1N s X.2.src (zV X.2 now).1 now) ⟨1,i,X.2.src,0,pk0⟩).ev:=h0
    have h2:EvP i c.nodes (movesN i (evN (adopt1N s X.2.src (zV X.2 now).1 now) ⟨1,i,X.2.src,0,pk0⟩) X.2.src ms).ev:=EvP.snoc h1 _ (λ_=>rfl) (λ_=>hsrc)
    refine⟨EvP.snoc (EvP.snoc h2 _ (λe=>by rcases e with e|e <;> cases e) (λe=>by cases e)) _ (λe=>by rcases e with e|e <;> cases e) (λe=>by cases e),?_⟩
    show (((s.ev++[_])++[_]++[_])++[_]).length≤10
    rw[hev];simp
   ·rw[hev];exact⟨EvP.nil _ _,by simp⟩
 ·rw[if_neg hg,hev];exact⟨EvP.nil _ _,by simp⟩
section
variable {w0 w w':World}{o0 o o':Cls}{c:Cfg}{W:Nat}{x x':WM}{asn:Int}{r r':WR}{d:Dr}{dr lo ac er da:Value}{S:Nat→Prop}
theorem WAt.cong(h:WAt w0 o0 c W x asn w o r)(hn:x'.nodes=x.nodes)(hb:x'.bound=x.bound)(he:x'.ev=x.ev):WAt w0 o0 c W x' asn w o r:=by
 obtain⟨⟨a1,a2,a3,a4,a5,a6,a7,a8,a9,aa,ab,ac,ad⟩,z,e,g⟩:=h
 exact⟨⟨a1,a2,a3,a4,a5,a6,by rw[hb];exact a7,a8,a9,aa,by rw[he];exact ab,by rw[hn];exact ac,λi hi=>by
  obtain⟨b,q,h1,h2⟩:=ad i hi
  refine⟨b,q,h1,?_⟩
  unfold WM.nd at h2 ⊢
  rw[hn];exact h2⟩,z,e,g⟩
theorem AV.shape{a:Option (List Int)}{v:Value}(h:AV a v w o):∃A n cp,v= .slice A n cp:=by
 cases a with
 |none=>exact⟨_,_,_,h⟩
 |some l=>obtain⟨⟨A,cp,e,_⟩,_⟩:=h;exact⟨_,_,_,e⟩
theorem Bk.fr{g n cap:Nat}{back:List (Option (List Int))}(h:Bk w o (.slice (some ⟨g,0,none⟩) n cap) back)(k:Nat):w.frozen? ⟨g,k,none⟩=false:=by
 obtain⟨vs,h1,_⟩:=h
 rcases h1.2 with ⟨e,_⟩|⟨g2,c2,cur,e,_,hb2,_⟩
 ·cases e
 ·cases e;exact qK hb2 k
theorem ty59:Tryz.prog.underlying 59=some (.map 3 33):=by kernel_rfl
theorem z33(w:World):(zeroValue 33).run Tryz.prog w= .ok (.slice none 0 0) w:=by kernel_rfl
end
theorem rin_any(n a b:Int)(w:World):Calls Tryz.prog 170 #[.int .i64 n,.int .i64 a,.int .i64 b] w λe w'=>e= .returned (.bool (inR n a b))∧w'=w:=by
 by_cases h0:a≤n
 ·by_cases h1:n≤b
  ·have e:inR n a b=true:=jG h0 h1
   rw[e];clear e
   go_enter Tryz.func170,Tryz.ntmps170
   go_wp2_with fail
   go_ret
   exact⟨rfl,rfl⟩
  ·have e:inR n a b=false:=jw (by omega)
   have b1:decide (n≤b)=false:=by simpa using h1
   rw[e];clear e
   go_enter Tryz.func170,Tryz.ntmps170
   go_wp2_with fail
   go_ret
   exact⟨rfl,rfl⟩
 ·have e:inR n a b=false:=kK (by omega)
  have b1:decide (a≤n)=false:=by simpa using h0
  rw[e];clear e
  go_enter Tryz.func170,Tryz.ntmps170
  go_wp2_with fail
  go_ret
  exact⟨rfl,rfl⟩
theorem rnode_any(n:Int)(w:World):Calls Tryz.prog 174 #[.int .i64 n] w λe w'=>e= .returned (.bool (qt n))∧w'=w:=by
 have H:=qQ (rin_any n 0 15 w)
 have e:inR n 0 15=qt n:=rfl
 rw[e] at H
 go_enter Tryz.func174,Tryz.ntmps174
 go_wp2_with fail
 with_reducible refine H.out.mono ?_
 rintro en w1 ⟨rfl,rfl⟩
 go_wp2_with fail
 go_ret
 exact⟨rfl,rfl⟩
theorem nodup_snoc{L:List Int}{k:Nat}{z:Int}(hz:L[k]? =some z) (hn:(L.take k).Nodup) (hc:(L.take k).contains z=false):(L.take (k+1)).Nodup:=by
 rw[List.take_add_one,hz]
 show (L.take k++[z]).Nodup
 rw[List.nodup_append]
 refine⟨hn,by simp,λa ha b hb e=>?_⟩
 simp at hb
 rw[e,hb] at ha
 have:(L.take k).contains z=true:=by simpa using ha
 rw[hc] at this;cases this
theorem nodup_not{L:List Int}{k:Nat}{z:Int}(hz:L[k]? =some z) (hc:(L.take k).contains z=true):¬L.Nodup:=by
 intro hn
 have h1:(L.take (k+1)).Nodup:=hn.sublist (List.take_sublist _ _)
 rw[List.take_add_one,hz] at h1
 have h1:(L.take k++[z]).Nodup:=h1
 rw[List.nodup_append] at h1
 exact h1.2.2 z (by simpa using hc) z (by simp) rfl
theorem path_any(w:World)(own:Cls)(lv:Value)(L:List Int)(h:RV VI w own lv L)(hL:L.length≤100000):Calls Tryz.prog 175 #[lv] w (λe w'=>e= .returned (.bool (jQ L))∧w'=w):=by
 obtain⟨A,c,rfl,hR,_,hlc,hcm⟩:=h.rs
 obtain⟨n,hn⟩:=qZ L.length
 rw[←hn] at hR hlc ⊢
 have HR:=qQ hR
 have HN:=qQ hn
 have hl:(n:Int)≤100000:=by omega
 have hcm2:c≤9223372036854775807:=hcm
 clear h hR hn
 go_enter Tryz.func175,Tryz.ntmps175
 go_wp2_with fail
 go_loopw [7] (λi wr=>∃(k:Nat),k≤n∧i= .int .i64 k∧wr=w∧(L.take k).all qt=true∧(L.take k).Nodup) (λi _=>n-(intOf i).toNat)
 case atStart=>exact⟨0,by omega,rfl,rfl,by simp,by simp⟩
 case round=>
  obtain⟨k,hk,rfl,rfl,ha,hnd⟩:=hrel
  by_cases hlt:k<n
  ·obtain⟨x,z,rfl,_,hz,hc⟩:=HR.out.at hlt
   unfold VI at hc
   have i1:(k:Int)<(n:Int):=by omega
   have HA:=qQ (And.intro ha (And.intro hnd hz))
   have HC:=qQ (jy wr (some x) k c (L.take k) z (HR.out.take k hk) (by omega))
   have HNO:=qQ (rnode_any z wr)
   clear ha hnd hz
   go_wp2_with fail
   with_reducible refine HNO.out.mono ?_
   rintro en w1 ⟨rfl,rfl⟩
   by_cases hb:qt z=true
   ·have HB:=qQ hb
    rw[hb]
    clear hb
    go_wp2_with fail
    with_reducible refine HC.out.mono ?_
    rintro en w1 ⟨rfl,rfl⟩
    by_cases hcc:(L.take k).contains z=true
    ·have hf:jQ L=false:=by
      unfold jQ
      have:=nodup_not HA.out.2.2 hcc
      simp[this]
     have HF:=qQ hf
     rw[hcc]
     clear hcc hf
     go_wp2_with fail
     go_ret
     rw[HF.out]
     exact⟨rfl,rfl⟩
    ·have hcc:(L.take k).contains z=false:=by simpa using hcc
     have h1:(L.take (k+1)).all qt=true:=by
      rw[List.take_add_one,HA.out.2.2]
      show (L.take k++[z]).all qt=true
      rw[List.all_append,HA.out.1];simp[HB.out]
     have H1:=qQ (And.intro h1 (nodup_snoc HA.out.2.2 HA.out.2.1 hcc))
     rw[hcc]
     clear hcc h1
     go_wp2_with fail
     go_roundw
     case measure=>simp[intOf];omega
     case rel=>exact⟨k+1,by omega,by go_num,trivial,H1.out⟩
   ·have hb:qt z=false:=by simpa using hb
    have hf:jQ L=false:=by
     unfold jQ
     have:L.all qt=false:=by
      rw[Bool.eq_false_iff]
      intro e
      rw[List.all_eq_true] at e
      have:=e z (List.mem_of_getElem? HA.out.2.2)
      rw[hb] at this;cases this
     rw[this];rfl
    have HF:=qQ hf
    rw[hb]
    clear hb hf
    go_wp2_with fail
    go_ret
    rw[HF.out]
    exact⟨rfl,rfl⟩
  ·obtain rfl:k=n:=by omega
   have hv:jQ L=decide ((k:Int)≤16):=by
    unfold jQ
    rw[List.take_of_length_le (by have:=HN.out;omega)] at ha hnd
    rw[ha,decide_eq_true hnd,←HN.out]
    simp
    omega
   have HV:=qQ hv
   clear ha hnd hv
   go_wp2_with fail
   go_ret
   rw[HV.out]
   exact⟨rfl,rfl⟩
def pkV(p:Pk)(lv dv:Value):Value:= .agg #[.int .i64 p.src,.int .i64 p.dst,.int .i64 p.n,.int .i64 p.life,lv,dv]
def pkB(p:Pk)(lv dv:Value):Obj:= .cells #[.int .i64 p.src,.int .i64 p.dst,.int .i64 p.n,.int .i64 p.life,lv,dv] 42
def PO(w:World)(own:Cls)(lv dv:Value)(p:Pk):Prop:=RV VI w own lv p.path∧BO w own dv p.data
theorem PO.keep{S:Nat→Prop}{w w':World}{own:Cls}{lv dv:Value}{p:Pk}(h:PO w own lv dv p)(g:Chg S w w')(hS:∀j,own j=0→¬S j):PO w' own lv dv p:=⟨h.1.keep g hS,h.2.keep g hS⟩
theorem pmay_any(w:World)(own:Cls)(p:Pk)(lv dv:Value)(h:PO w own lv dv p)(hL:p.path.length≤100000)(hD:p.data.length≤100000):Calls Tryz.prog 123 #[pkV p lv dv] w (PV (.bool (mayP p)) w):=by
 obtain⟨S,D,N,F,P,T⟩:=p
 have ga:=Chg.alloc (λ_=>False) w (pkB ⟨S,D,N,F,P,T⟩ lv dv)
 have hb:=qV w (pkB ⟨S,D,N,F,P,T⟩ lv dv)
 dsimp only at hL hD
 have HPA:=qQ (path_any (w.alloc (pkB ⟨S,D,N,F,P,T⟩ lv dv)) own lv P (h.1.keep ga (λ_ _ e=>e)) hL)
 obtain⟨lA,lc,hlv,_⟩:=h.1
 obtain⟨⟨dA,dc,hdv,_⟩,_⟩:=h.2
 obtain⟨n,hn⟩:=qZ T.length
 obtain⟨m,hm⟩:=qZ P.length
 rw[←hn] at hdv
 rw[←hm] at hlv
 subst hlv hdv
 have HV:=qQ (show mayP ⟨S,D,N,F,P,T⟩=(qt S&&qt D&&S != D&&inR N 0 70368744177663&&inR F 0 15&&jQ P&&inR (n:Int) 1 24) from by unfold mayP;rw[hn])
 unfold pkB at hb ga HPA
 unfold pkV
 obtain⟨b0,b1,b2,b3,b4,b5⟩:=qC hb
 have HG:=qQ ga
 clear h ga hb hn hm hL hD
 obtain⟨R,hR⟩:=qZ (mayP ⟨S,D,N,F,P,T⟩)
 rw[←hR] at HV ⊢
 clear hR
 go_enter Tryz.func123,Tryz.ntmps123
 go_wp2_with fail
 (with_reducible refine (rnode_any S _).mono ?_)
 rintro en w1 ⟨rfl,rfl⟩
 by_cases h0:(qt S)=true
 case neg=>
  have h0:(qt S)=false:=by simpa using h0
  have HV2:=qQ HV.out
  rw[h0] at HV2
  have HVF:=qQ (show R=false from by rw[HV2.out];simp)
  rw[h0]
  clear h0
  go_wp2_with fail
  go_ret
  rw[HVF.out]
  exact⟨rfl,HG.out⟩
 rw[h0]
 have H0:=qQ h0
 clear h0
 go_wp2_with fail
 (with_reducible refine (rnode_any D _).mono ?_)
 rintro en w1 ⟨rfl,rfl⟩
 by_cases h1:(qt D)=true
 case neg=>
  have h1:(qt D)=false:=by simpa using h1
  have HV2:=qQ HV.out
  rw[h1] at HV2
  have HVF:=qQ (show R=false from by rw[HV2.out];simp)
  rw[h1]
  clear h1
  go_wp2_with fail
  go_ret
  rw[HVF.out]
  exact⟨rfl,HG.out⟩
 rw[h1]
 have H1:=qQ h1
 clear h1
 by_cases h2:S=D
 case pos=>
  have HVF:=qQ (show R=false from by rw[HV.out];simp[h2])
  subst h2
  go_wp2_with fail
  go_ret
  rw[HVF.out]
  exact⟨rfl,HG.out⟩
 have q2:(S != D)=true:=by simp[h2]
 have H2:=qQ (show (S != D)=true by simp[h2])
 clear h2
 go_wp2_with fail
 clear q2
 (with_reducible refine (rin_any N 0 70368744177663 _).mono ?_)
 rintro en w1 ⟨rfl,rfl⟩
 by_cases h3:(inR N 0 70368744177663)=true
 case neg=>
  have h3:(inR N 0 70368744177663)=false:=by simpa using h3
  have HV2:=qQ HV.out
  rw[h3] at HV2
  have HVF:=qQ (show R=false from by rw[HV2.out];simp)
  rw[h3]
  clear h3
  go_wp2_with fail
  go_ret
  rw[HVF.out]
  exact⟨rfl,HG.out⟩
 rw[h3]
 have H3:=qQ h3
 clear h3
 go_wp2_with fail
 (with_reducible refine (rin_any F 0 15 _).mono ?_)
 rintro en w1 ⟨rfl,rfl⟩
 by_cases h4:(inR F 0 15)=true
 case neg=>
  have h4:(inR F 0 15)=false:=by simpa using h4
  have HV2:=qQ HV.out
  rw[h4] at HV2
  have HVF:=qQ (show R=false from by rw[HV2.out];simp)
  rw[h4]
  clear h4
  go_wp2_with fail
  go_ret
  rw[HVF.out]
  exact⟨rfl,HG.out⟩
 rw[h4]
 have H4:=qQ h4
 clear h4
 go_wp2_with fail
 with_reducible refine HPA.out.mono ?_
 rintro en w1 ⟨rfl,rfl⟩
 by_cases h5:(jQ P)=true
 case neg=>
  have h5:(jQ P)=false:=by simpa using h5
  have HV2:=qQ HV.out
  rw[h5] at HV2
  have HVF:=qQ (show R=false from by rw[HV2.out];simp)
  rw[h5]
  clear h5
  go_wp2_with fail
  go_ret
  rw[HVF.out]
  exact⟨rfl,HG.out⟩
 rw[h5]
 have H5:=qQ h5
 clear h5
 go_wp2_with fail
 (with_reducible refine (rin_any (n:Int) 1 24 _).mono ?_)
 rintro en w1 ⟨rfl,rfl⟩
 by_cases h6:(inR (n:Int) 1 24)=true
 case neg=>
  have h6:(inR (n:Int) 1 24)=false:=by simpa using h6
  have HV2:=qQ HV.out
  rw[h6] at HV2
  have HVF:=qQ (show R=false from by rw[HV2.out];simp)
  rw[h6]
  clear h6
  go_wp2_with fail
  go_ret
  rw[HVF.out]
  exact⟨rfl,HG.out⟩
 rw[h6]
 have H6:=qQ h6
 clear h6
 go_wp2_with fail
 go_ret
 rw[HV.out,H0.out,H1.out,H2.out,H3.out,H4.out,H5.out,H6.out]
 exact⟨rfl,HG.out⟩
end Go.Proofs.YtnpihllannobgaaGreatDoor
