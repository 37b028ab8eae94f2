/- Steps of the proof, part G02. No condition. -/
import Derived.Test.YtnpihllannobgaaGreatDoorG01
import Derived.WalkSpells
namespace Go.Proofs.YtnpihllannobgaaGreatDoor
set_option linter.unusedVariables false
set_option linter.unusedSimpArgs false
set_option maxRecDepth 100000
set_option maxHeartbeats 32000000
open Go.ChangeShapes Go.WideShapes Go.ChangeAt Go.RowKit
structure Rd(w:World)(r:Nat)(a:Option Addr)(c:Nat)(L:List Int)(p:Int)(e:Int):Prop where
 blk:w.heap[r]? =some (.cells #[.slice a L.length c,.int .i64 p,.int .i64 e] 237 (0,0))
 rd:Rs V8 w r a L.length L
section
variable {w w':World}{r c:Nat}{a:Option Addr}{L:List Int}{p e:Int}
theorem Rd.c0(h:Rd w r a c L p e):w.cell? ⟨r,0,none⟩=some (.slice a L.length c):=by rw[qJ h.blk];rfl
theorem Rd.c1(h:Rd w r a c L p e):w.cell? ⟨r,1,none⟩=some (.int .i64 p):=by rw[qJ h.blk];rfl
theorem Rd.c2(h:Rd w r a c L p e):w.cell? ⟨r,2,none⟩=some (.int .i64 e):=by rw[qJ h.blk];rfl
theorem Rd.f(h:Rd w r a c L p e)(o:Nat):w.frozen? ⟨r,o,none⟩=false:=qK h.blk o
theorem Rd.kept(h:Rd w r a c L p e)(g:Chg (λ_=>False) w w'):Rd w' r a c L p e:=⟨Chg.keep g h.blk (λe=>e),h.rd.keep g (λ_ _ e=>e)⟩
theorem Rd.keep{S:Nat→Prop}(h:Rd w r a c L p e)(g:Chg S w w')(hS:∀j,j≤r→¬S j):Rd w' r a c L p e:=⟨Chg.keep g h.blk (hS r (Nat.le_refl _)),h.rd.keep g (λj hj=>hS j (by omega))⟩
theorem Rd.set1(h:Rd w r a c L p e)(q:Int):Rd (w.setCell ⟨r,1,none⟩ (.int .i64 q)) r a c L q e:=
 ⟨by have:=qB h.blk 1 (.int .i64 q);simpa using this,h.rd.keep (Chg.set (S:=(· =r)) w ⟨r,1,none⟩ _ rfl) (λj h1 h2=>by have:j=r:=h2;omega)⟩
end
def PRd(w:World)(r:Nat)(a:Option Addr)(c:Nat)(L:List Int)(p e:Int)(v:Value)(en:Ending)(w':World):Prop:=
 en= .returned v∧Rd w' r a c L p e∧Chg (· =r) w w'
theorem left_any(w:World)(r:Nat)(a:Option Addr)(c:Nat)(L:List Int)(p e:Int)(h:Rd w r a c L p e)(hL:L.length≤100000)(hp:0≤p∧p≤800000):
  Calls Tryz.prog 165 #[.pointer (some ⟨r,0,none⟩)] w λen w'=>en= .returned (.int .i64 (8*L.length-p))∧w'=w.drew:=by
 obtain⟨hp0,hp1⟩:=hp
 have c0:=h.c0
 have c1:=h.c1
 clear h
 have e1:IntKind.i64.wrap (8*(L.length:Int))=8*L.length:=IntWalk.i64_in _ (by omega)
 have e2:IntKind.i64.wrap (8*(L.length:Int)-p)=8*L.length-p:=IntWalk.i64_in _ (by omega)
 go_enter Tryz.func165,Tryz.ntmps165
 go_wp2_with fail
 with_reducible refine wp_region_still_lit (by kernel_rfl) (by kernel_rfl) ?_
 repeat (with_reducible refine wpStill_step (λK hK=>?_);go_simp;with_reducible refine hK _ ?_;clear hK K)
 with_reducible refine wpStill_nil ?_
 clear e1 e2
 change Exit.then _ _ _ _ w.drew
 go_wp2_with fail
 go_ret
 exact⟨rfl,rfl⟩
theorem rbytes_any(w:World)(r:Nat)(a:Option Addr)(c:Nat)(L:List Int)(p e:Int)(h:Rd w r a c L p e):
  Calls Tryz.prog 164 #[.pointer (some ⟨r,0,none⟩)] w λen w'=>en= .returned (.slice a L.length c)∧w'=w:=by
 have c0:=h.c0
 clear h
 go_enter Tryz.func164,Tryz.ntmps164
 go_wp2_with fail
 go_ret
 exact⟨rfl,rfl⟩
theorem fails_any(w:World)(r:Nat)(a:Option Addr)(c:Nat)(L:List Int)(p e:Int)(h:Rd w r a c L p e)(x:Int):
  Calls Tryz.prog 214 #[.pointer (some ⟨r,0,none⟩),.int .i64 x] w (PRd w r none 0 [] 0 x (.tuple #[])):=by
 have c0:=h.c0
 have c1:=h.c1
 have c2:=h.c2
 have f0:=h.f 0
 have f1:=h.f 1
 have f2:=h.f 2
 have hb:=h.blk
 have H:=qQ hb
 clear h hb
 go_enter Tryz.func214,Tryz.ntmps214
 go_wp2_with fail
 go_end0
 have h1:=qB H.out 2 (.int .i64 x)
 have h2:=qB h1 0 (.slice none 0 0)
 have h3:=qB h2 1 (.int .i64 0)
 refine⟨rfl,⟨?_,Rs.nil _ _ _ _⟩,((chg1 _ _ _ _).trans (chg1 _ _ _ _)).trans (chg1 _ _ _ _)⟩
 simpa using h3
theorem ready_ok(w:World)(r:Nat)(a:Option Addr)(c:Nat)(L:List Int)(p n:Int)(h:Rd w r a c L p 0)(hL:L.length≤100000)(hp:0≤p∧p≤800000)(hn:n≤8*L.length-p):
  Calls Tryz.prog 163 #[.pointer (some ⟨r,0,none⟩),.int .i64 n] w (PRd w r a c L p 0 (.bool true)):=by
 have c2:=h.c2
 have hl:=left_any w r a c L p 0 h hL hp
 have H:=qQ h
 obtain⟨q,hq⟩:∃q:Int,q=8*(L.length:Int)-p:=⟨_,rfl⟩
 rw[←hq] at hl hn
 clear h hq hL hp
 go_enter Tryz.func163,Tryz.ntmps163
 go_wp2_with fail
 refine hl.mono ?_
 rintro e w1 ⟨rfl,rfl⟩
 go_wp2_with fail
 go_ret
 exact⟨rfl,H.out.kept (Chg.drew _ _),Chg.drew _ _⟩
theorem ready_short(w:World)(r:Nat)(a:Option Addr)(c:Nat)(L:List Int)(p n:Int)(h:Rd w r a c L p 0)(hL:L.length≤100000)(hp:0≤p∧p≤800000)(hn:8*L.length-p<n):
  Calls Tryz.prog 163 #[.pointer (some ⟨r,0,none⟩),.int .i64 n] w (PRd w r none 0 [] 0 2 (.bool false)):=by
 have c2:=h.c2
 have hl:=left_any w r a c L p 0 h hL hp
 have H:=qQ h
 obtain⟨q,hq⟩:∃q:Int,q=8*(L.length:Int)-p:=⟨_,rfl⟩
 rw[←hq] at hl hn
 clear h hq hL hp
 go_enter Tryz.func163,Tryz.ntmps163
 go_wp2_with fail
 refine hl.mono ?_
 rintro e w1 ⟨rfl,rfl⟩
 go_wp2_with fail
 refine (fails_any _ _ _ _ _ _ _ (H.out.kept (Chg.drew _ _)) 2).mono ?_
 rintro e w1 ⟨rfl,R,G⟩
 have HR:=qQ (And.intro R G)
 clear R G hl
 go_wp2_with fail
 go_ret
 exact⟨rfl,HR.out.1,(Chg.drew _ _).trans HR.out.2⟩
theorem ready_bad(w:World)(r:Nat)(a:Option Addr)(c:Nat)(L:List Int)(p n e:Int)(h:Rd w r a c L p e)(he:(e==0)=false):
  Calls Tryz.prog 163 #[.pointer (some ⟨r,0,none⟩),.int .i64 n] w (PRd w r a c L p e (.bool false)):=by
 have c2:=h.c2
 have H:=qQ h
 have he2:(e != 0)=true:=by simpa using he
 clear h
 go_enter Tryz.func163,Tryz.ntmps163
 go_wp2_with fail
 go_ret
 exact⟨rfl,H.out,Chg.refl _ _⟩
theorem bit_any(w:World)(r:Nat)(a:Option Addr)(c:Nat)(L:List Int)(p:Nat)(h:Rd w r a c L p 0)(hb:∀x∈L,0≤x∧x<256)(hL:L.length≤100000)(hp:p<8*L.length):
  Calls Tryz.prog 213 #[.pointer (some ⟨r,0,none⟩)] w (PRd w r a c L ((p+1:Nat):Int) 0 (.int .u64 (bitAt L p))):=by
 have c0:=h.c0
 have c1:=h.c1
 obtain⟨x,z,rfl,hx,hz,hc⟩:=h.rd.at (i:=p / 8) (by omega)
 unfold V8 at hc
 obtain⟨z0,z1⟩:=hb z (List.mem_of_getElem? hz)
 have f1:=h.f 1
 have hba:bitAt L p=z / 2^(7-p % 8) % 2:=by unfold bitAt;rw[hz];rfl
 rw[hba]
 obtain⟨q,hq⟩:∃q:Nat,q=p / 8:=⟨_,rfl⟩
 obtain⟨j,hj⟩:∃j:Nat,j=p % 8:=⟨_,rfl⟩
 rw[←hq] at hc hz
 rw[←hj]
 obtain⟨P,hP⟩:∃P:Int,P=(p:Int):=⟨_,rfl⟩
 rw[←hP] at c1
 have H:=qQ h
 have e1:P.tdiv 8=(q:Int):=by rw[hP,Int.tdiv_eq_ediv_of_nonneg (by omega)];omega
 have e2:P.tmod 8=(j:Int):=by rw[hP,Int.tmod_eq_emod_of_nonneg (by omega)];omega
 have e3:IntKind.i64.wrap (7-(j:Int))=7-j:=IntWalk.i64_in _ (by omega)
 have e4:IntKind.i64.wrap (q:Int)=q:=IntWalk.i64_in _ (by omega)
 have e5:(j:Int)≤7:=by omega
 have e6:7-(j:Int)≤8:=by omega
 have i1:(q:Int)<(L.length:Int):=by omega
 have e7:(7-(j:Int)).toNat=7-j:=by omega
 obtain⟨y,hy⟩:=qZ (z / 2^(7-j))
 have hy0:0≤y∧y<256:=by
  rw[hy]
  have h2:(0:Int)<2^(7-j):=Int.pow_pos (by omega)
  exact⟨Int.ediv_nonneg z0 (Int.le_of_lt h2),Int.lt_of_le_of_lt (Int.ediv_le_self _ z0) z1⟩
 have e8:=and_bit y hy0.1 hy0.2
 rw[←hy]
 have e9:=hy.symm
 have HP:=qQ hP
 have HB:=qQ (show 0≤y % 2∧y % 2<2∧P≤800000∧0≤P from by omega)
 clear hba hq hj hP hx hz h hp hL hb hy hy0 z0 z1
 go_enter Tryz.func213,Tryz.ntmps213
 go_wp2_with fail
 with_reducible refine wp_region_still_lit (by kernel_rfl) (by kernel_rfl) ?_
 repeat (with_reducible refine wpStill_step (λK hK=>?_);go_simp;with_reducible refine hK _ ?_;clear hK K)
 with_reducible refine wpStill_nil ?_
 change Exit.then _ _ _ _ w.drew
 have H1:=qQ (H.out.kept (Chg.drew (λ_=>False) w))
 clear e1 e2 e3 e4 e5 e6 e7 e8 e9 i1 c0 hc H
 have g1:=Chg.drew (· =r) w
 generalize w.drew=w1 at *
 obtain⟨b0,b1,b2,b3⟩:=HB.out
 generalize y % 2=z at *
 have HG:=qQ g1
 clear g1 HB c1 f1
 have c1:=H1.out.c1
 rw[←HP.out] at c1
 have f1:=H1.out.f 1
 go_wp2_with fail
 go_ret
 refine⟨rfl,?_,HG.out.trans (chg1 _ _ _ _)⟩
 have:=H1.out.set1 (P+1)
 rw[HP.out] at this ⊢
 exact this
def take(L:List Int)(k m:Nat):Int:=bv L (8*k) (8*m)
theorem take_ok(w:World)(r:Nat)(a:Option Addr)(c:Nat)(L:List Int)(k m:Nat)(h:Rd w r a c L (8*k:Nat) 0)(hb:∀x∈L,0≤x∧x<256)(hL:L.length≤100000)(hm:m≤8)(hk:k+m≤L.length):
  Calls Tryz.prog 162 #[.pointer (some ⟨r,0,none⟩),.int .i64 (8*m:Nat)] w (PRd w r a c L (8*(k+m):Nat) 0 (.int .u64 (take L k m))):=by
 have h88:((8*m:Nat):Int)≤64:=by omega
 have hg:=good_any (8*m) (by omega)
 have hr:=ready_ok w r a c L (8*k:Nat) (8*m:Nat) h hL (by omega) (by omega)
 obtain⟨N,hN⟩:∃N:Nat,N=8*m:=⟨_,rfl⟩
 obtain⟨P,hP⟩:∃P:Nat,P=8*k:=⟨_,rfl⟩
 rw[←hN] at hg hr ⊢
 rw[←hP] at hr
 have hN64:(N:Int)≤64:=by omega
 have hpn:P+N≤8*L.length:=by omega
 have hfin:take L k m=bv L P N:=by rw[hP,hN];rfl
 rw[hfin,show 8*(k+m)=P+N from by omega]
 have HB:=qQ hb
 clear h hb hfin hP hk hm h88 hN
 go_enter Tryz.func162,Tryz.ntmps162
 go_wp2_with fail
 refine (hg _).mono ?_
 rintro e w1 ⟨rfl,rfl⟩
 go_wp2_with fail
 refine hr.mono ?_
 rintro e w2 ⟨rfl,R2,G2⟩
 have H2:=qQ (And.intro R2 G2)
 clear R2 G2 hg hr
 go_wp2_with fail
 go_loopw [5,16] (λu5 i wr=>∃(j:Nat),j≤N∧u5= .int .u64 (bv L P j)∧i= .int .i64 j∧Rd wr r a c L (P+j:Nat) 0∧Chg (· =r) w1 wr) (λ_ i _=>N-(intOf i).toNat)
 case atStart=>exact⟨0,by omega,rfl,rfl,H2.out.1,H2.out.2⟩
 case round=>
  obtain⟨j,hj,rfl,rfl,hR,hG⟩:=hrel
  have HR:=qQ (And.intro hR hG)
  have hbv:=bv_bd L P j
  have hbt:=bitAt_bd L (P+j)
  clear hR hG
  by_cases hlt:j<N
  ·have hsm:bv L P j<9223372036854775808:=by
    have h2:=Nat.pow_le_pow_right (n:=2) (by omega) (show j≤63 by omega)
    have h3:((2^j:Nat):Int)=(2:Int)^j:=by push_cast;rfl
    have h4:(2:Nat)^63=9223372036854775808:=by decide
    omega
   obtain⟨x,hx⟩:=qZ (bv L P j)
   obtain⟨y,hy⟩:=qZ (bitAt L (P+j))
   have hbit:=bit_any wr r a c L (P+j) HR.out.1 HB.out hL (by omega)
   rw[←hx] at hbv hsm ⊢
   rw[←hy] at hbt hbit
   have hnx:bv L P (j+1)=x*2+y:=by simp only[bv];rw[hx,hy]
   obtain⟨x0,_⟩:=hbv
   obtain⟨y0,y1⟩:=hbt
   have hor:=or_bit x y x0 hsm ⟨y0,y1⟩
   have HNX:=qQ hnx
   have HBT:=qQ hbit
   clear hbit hnx hx hy
   have hwr:IntKind.u64.wrap (x*2)=x*2:=by
    simp only[IntKind.wrap,IntKind.bits,IntKind.signed];simp;omega
   have HOR:=qQ hor
   have HWR:=qQ hwr
   clear hor hwr
   have hwr2:=HWR.out
   go_wp2_with fail
   clear hwr2
   refine HBT.out.mono ?_
   rintro e w3 ⟨rfl,R3,G3⟩
   rw[show P+j+1=P+(j+1) from by omega] at R3
   have H3:=qQ (And.intro R3 (HR.out.2.trans G3))
   have hor:=HOR.out
   clear R3 G3 HBT
   go_wp2_with fail
   go_roundw
   case measure=>simp[intOf];omega
   case rel=>exact⟨j+1,by omega,by rw[HNX.out],by go_num,H3.out.1,H3.out.2⟩
  ·obtain rfl:j=N:=by omega
   go_wp2_with fail
   go_ret
   exact⟨rfl,HR.out.1,HR.out.2⟩
theorem take_short(w:World)(r:Nat)(a:Option Addr)(c:Nat)(L:List Int)(k m:Nat)(h:Rd w r a c L (8*k:Nat) 0)(hL:L.length≤100000)(hm:m≤8)(hk0:k≤L.length)(hk:L.length<k+m):
  Calls Tryz.prog 162 #[.pointer (some ⟨r,0,none⟩),.int .i64 (8*m:Nat)] w (PRd w r none 0 [] 0 2 (.int .u64 0)):=by
 have hg:=good_any (8*m) (by omega)
 have hr:=ready_short w r a c L (8*k:Nat) (8*m:Nat) h hL (by omega) (by omega)
 obtain⟨N,hN⟩:∃N:Nat,N=8*m:=⟨_,rfl⟩
 rw[←hN] at hg hr ⊢
 clear h hk hm hN hk0 hL
 go_enter Tryz.func162,Tryz.ntmps162
 go_wp2_with fail
 refine (hg _).mono ?_
 rintro e w1 ⟨rfl,rfl⟩
 go_wp2_with fail
 refine hr.mono ?_
 rintro e w2 ⟨rfl,R2,G2⟩
 have H2:=qQ (And.intro R2 G2)
 clear R2 G2 hg hr
 go_wp2_with fail
 go_ret
 exact⟨rfl,H2.out.1,H2.out.2⟩
theorem take_bad(w:World)(r:Nat)(a:Option Addr)(c:Nat)(L:List Int)(p e:Int)(m:Nat)(h:Rd w r a c L p e)(he:(e==0)=false)(hm:m≤8):
  Calls Tryz.prog 162 #[.pointer (some ⟨r,0,none⟩),.int .i64 (8*m:Nat)] w (PRd w r a c L p e (.int .u64 0)):=by
 have hg:=good_any (8*m) (by omega)
 have hr:=ready_bad w r a c L p (8*m:Nat) e h he
 obtain⟨N,hN⟩:∃N:Nat,N=8*m:=⟨_,rfl⟩
 rw[←hN] at hg hr ⊢
 clear h hm hN
 go_enter Tryz.func162,Tryz.ntmps162
 go_wp2_with fail
 refine (hg _).mono ?_
 rintro e w1 ⟨rfl,rfl⟩
 go_wp2_with fail
 refine hr.mono ?_
 rintro e w2 ⟨rfl,R2,G2⟩
 have H2:=qQ (And.intro R2 G2)
 clear R2 G2 hg hr
 go_wp2_with fail
 go_ret
 exact⟨rfl,H2.out.1,H2.out.2⟩
theorem end_ok(w:World)(r:Nat)(a:Option Addr)(c:Nat)(L:List Int)(h:Rd w r a c L (8*L.length:Nat) 0)(hL:L.length≤100000):
  Calls Tryz.prog 114 #[.pointer (some ⟨r,0,none⟩)] w λen w'=>en= .returned (.int .i64 0)∧w'=w.drew:=by
 have c2:=h.c2
 have hl:=left_any w r a c L _ 0 h hL (by omega)
 rw[show 8*(L.length:Int)-((8*L.length:Nat):Int)=0 from by omega] at hl
 clear h hL
 go_enter Tryz.func114,Tryz.ntmps114
 go_wp2_with fail
 refine hl.mono ?_
 rintro e w2 ⟨rfl,rfl⟩
 go_wp2_with fail
 go_ret
 exact⟨rfl,rfl⟩
theorem end_more(w:World)(r:Nat)(a:Option Addr)(c:Nat)(L:List Int)(k:Nat)(h:Rd w r a c L (8*k:Nat) 0)(hL:L.length≤100000)(hk:k<L.length):
  Calls Tryz.prog 114 #[.pointer (some ⟨r,0,none⟩)] w λen w'=>en= .returned (.int .i64 3)∧w'=w.drew:=by
 have c2:=h.c2
 have hl:=left_any w r a c L _ 0 h hL (by omega)
 obtain⟨q,hq⟩:∃q:Int,q=8*(L.length:Int)-((8*k:Nat):Int):=⟨_,rfl⟩
 rw[←hq] at hl
 have hq0:0<q:=by omega
 clear h hL hk hq
 go_enter Tryz.func114,Tryz.ntmps114
 go_wp2_with fail
 refine hl.mono ?_
 rintro e w2 ⟨rfl,rfl⟩
 go_wp2_with fail
 go_ret
 exact⟨rfl,rfl⟩
theorem end_bad(w:World)(r:Nat)(a:Option Addr)(c:Nat)(L:List Int)(p e:Int)(h:Rd w r a c L p e)(he:(e==0)=false):
  Calls Tryz.prog 114 #[.pointer (some ⟨r,0,none⟩)] w λen w'=>en= .returned (.int .i64 e)∧w'=w:=by
 have c2:=h.c2
 clear h
 go_enter Tryz.func114,Tryz.ntmps114
 go_wp2_with fail
 go_ret
 exact⟨rfl,rfl⟩
theorem bv_byte(L:List Int)(k m:Nat)(x:Int)(hx:L[k+m]? =some x) (h0:0≤x) (h1:x<256):take L k (m+1)=take L k m*256+x:=by
 unfold take
 have e:∀i,i<8→bitAt L (8*k+(8*m+i))=x / 2^(7-i) % 2:=λi hi=>by
  unfold bitAt
  rw[show (8*k+(8*m+i)) / 8=k+m from by omega,show (8*k+(8*m+i)) % 8=i from by omega,hx];rfl
 rw[show 8*(m+1)=8*m+7+1 from by omega]
 simp only[bv,Nat.add_assoc]
 rw[e 7 (by omega)]
 have e0:=e 0 (by omega);have e1:=e 1 (by omega);have e2:=e 2 (by omega);have e3:=e 3 (by omega)
 have e4:=e 4 (by omega);have e5:=e 5 (by omega);have e6:=e 6 (by omega)
 rw[e1,e2,e3,e4,e5,e6]
 rw[show (8*k+8*m)=8*k+(8*m+0) from by omega,e0]
 simp only[Nat.sub_zero,Nat.reduceSub,Nat.sub_self,Int.reducePow,Int.pow_zero,Int.ediv_one,Int.pow_one]
 generalize bv L (8*k) (8*m)=y
 omega
theorem take_zero(L:List Int)(k:Nat):take L k 0=0:=rfl
theorem take_one(L:List Int)(k:Nat)(x:Int)(hx:L[k]? =some x) (h0:0≤x) (h1:x<256):take L k 1=x:=by
 rw[bv_byte L k 0 x hx h0 h1,take_zero];omega
def PNewRd(w:World)(L:List Int)(en:Ending)(w':World):Prop:=
 ∃r a c,en= .returned (.pointer (some ⟨r,0,none⟩))∧Rd w' r a c L 0 0∧w.heap.size≤r∧Chg (λ_=>False) w w'
theorem newrd_any(w:World)(A:Option Addr)(len c:Nat)(L:List Int)(h:Rs V8 w w.heap.size A len L)(hA:A=none→c=0)(hL:len≤100000):
  Calls Tryz.prog 111 #[.slice A len c] w (PNewRd w L):=by
 have HA:=qQ hA
 have HR:=qQ h
 clear h hA
 go_enter Tryz.func111,Tryz.ntmps111
 go_wp2_with (at_builtin;go_loud (refine appS el8 rfl (.const (.slice none 0 0)) (.tmp 3) rfl w.heap.size (.slice none 0 0) 0 [] rfl (World.ownsRow_nil _ _ _ _) w.heap.size A len c L rfl HA.out HR.out (λ_=>rfl) (by omega) (by omega) (Nat.le_refl _) ?grow))
 case grow=>
  intro v' w' hown hgr hat
  have g:=qH (S:=λ_=>False) hgr (λj e=>by cases e)
  obtain⟨a2,c2,rfl,hr2,_⟩:=Rs.of_own (V:=V8) (zs:=L) (by simpa using hown)
  have HO:=qQ (And.intro hr2 g)
  have hlen:=HR.out.1
  clear hown hgr hat g hr2
  go_wp2_with fail
  go_ret
  have ga:=Chg.alloc (λ_=>False) w' (.cells #[.slice a2 len c2,.int .i64 0,.int .i64 0] 237)
  refine⟨w'.heap.size,a2,c2,rfl,⟨by rw[hlen];exact qV _ _,?_⟩,HO.out.2.size,HO.out.2.trans ga⟩
  rw[hlen]
  exact HO.out.1.keep ga (λ_ _ e=>e)
def PText(w:World)(r:Nat)(a:Option Addr)(c:Nat)(L:List Int)(p e:Int)(zs:List Int)(en:Ending)(w':World):Prop:=
 ∃v,en= .returned v∧w'.ownsRow w.heap.size 5 1 v zs.length (zs.map V8)∧Rd w' r a c L p e∧Chg (· =r) w w'
theorem rtext_zero(w:World)(r:Nat)(a:Option Addr)(c:Nat)(L:List Int)(p e:Int)(n:Int)(h:Rd w r a c L p e)(hn:n≤0):
  Calls Tryz.prog 113 #[.pointer (some ⟨r,0,none⟩),.int .i64 n] w (PText w r a c L p e []):=by
 have H:=qQ h
 clear h
 go_enter Tryz.func113,Tryz.ntmps113
 go_wp2_with fail
 go_ret
 exact⟨_,rfl,World.ownsRow_nil _ _ _ _,H.out,Chg.refl _ _⟩
theorem rtext_bad(w:World)(r:Nat)(a:Option Addr)(c:Nat)(L:List Int)(p e:Int)(n:Int)(h:Rd w r a c L p e)(he:(e==0)=false)(hn:0<n)(hn2:n≤100000)(hL:L.length≤100000):
  Calls Tryz.prog 113 #[.pointer (some ⟨r,0,none⟩),.int .i64 n] w (PText w r a c L p e []):=by
 have hb:=rbytes_any w r a c L p e h
 have hr:=λm=>ready_bad w r a c L p m e h he
 have hl2:(L.length:Int)≤100000:=by omega
 clear h hL
 rcases (by omega:(L.length:Int)+1<n∨n≤(L.length:Int)+1) with hc|hc
 all_goals
  go_enter Tryz.func113,Tryz.ntmps113
  go_wp2_with fail
  refine hb.mono ?_
  rintro e w1 ⟨rfl,rfl⟩
  go_wp2_with fail
  refine (hr _).mono ?_
  rintro e w2 ⟨rfl,R2,G2⟩
  have H2:=qQ (And.intro R2 G2)
  clear R2 G2 hr hb
  go_wp2_with fail
  go_ret
  exact⟨_,rfl,World.ownsRow_nil _ _ _ _,H2.out.1,H2.out.2⟩
theorem rtext_short(w:World)(r:Nat)(a:Option Addr)(c:Nat)(L:List Int)(k:Nat)(n:Int)(h:Rd w r a c L (8*k:Nat) 0)(hn:0<n)(hn2:n≤100000)(hL:L.length≤100000)(hk0:k≤L.length)(hk:L.length<k+n):
  Calls Tryz.prog 113 #[.pointer (some ⟨r,0,none⟩),.int .i64 n] w (PText w r none 0 [] 0 2 []):=by
 have hb:=rbytes_any w r a c L _ _ h
 have hr:=λ(m:Int) (hm:8*(L.length:Int)-((8*k:Nat):Int)<m)=>ready_short w r a c L (8*k:Nat) m h hL (by omega) hm
 have hl2:(L.length:Int)≤100000:=by omega
 rcases (by omega:(L.length:Int)+1<n∨n≤(L.length:Int)+1) with hc|hc
 ·have hr2:=hr (((L.length:Int)+1)*8) (by omega)
  clear h hL hr hk hk0
  go_enter Tryz.func113,Tryz.ntmps113
  go_wp2_with fail
  refine hb.mono ?_
  rintro e w1 ⟨rfl,rfl⟩
  go_wp2_with fail
  refine hr2.mono ?_
  rintro e w2 ⟨rfl,R2,G2⟩
  have H2:=qQ (And.intro R2 G2)
  clear R2 G2 hr2 hb
  go_wp2_with fail
  go_ret
  exact⟨_,rfl,World.ownsRow_nil _ _ _ _,H2.out.1,H2.out.2⟩
 ·have hr2:=hr (n*8) (by omega)
  clear h hL hr hk hk0
  go_enter Tryz.func113,Tryz.ntmps113
  go_wp2_with fail
  refine hb.mono ?_
  rintro e w1 ⟨rfl,rfl⟩
  go_wp2_with fail
  refine hr2.mono ?_
  rintro e w2 ⟨rfl,R2,G2⟩
  have H2:=qQ (And.intro R2 G2)
  clear R2 G2 hr2 hb
  go_wp2_with fail
  go_ret
  exact⟨_,rfl,World.ownsRow_nil _ _ _ _,H2.out.1,H2.out.2⟩
structure TAt(w0:World)(r:Nat)(a:Option Addr)(c:Nat)(L:List Int)(k j:Nat)(v:Value)(w:World):Prop where
 rd:Rd w r a c L (8*(k+j):Nat) 0
 own:w.ownsRow w0.heap.size 5 1 v j (((L.drop k).take j).map V8)
 chg:Chg (λi=>i=r∨w0.heap.size≤i) w0 w
theorem rtext_ok(w:World)(r:Nat)(a:Option Addr)(c:Nat)(L:List Int)(k n:Nat)(h:Rd w r a c L (8*k:Nat) 0)(hb:∀x∈L,0≤x∧x<256)(hn:0<n)(hL:L.length≤100000)(hk:k+n≤L.length):
  Calls Tryz.prog 113 #[.pointer (some ⟨r,0,none⟩),.int .i64 n] w (PText w r a c L (8*(k+n):Nat) 0 ((L.drop k).take n)):=by
 have hby:=rbytes_any w r a c L _ _ h
 have hr:=ready_ok w r a c L (8*k:Nat) ((n:Int)*8) h hL (by omega) (by omega)
 have hc:(n:Int)<(L.length:Int)+1:=by omega
 have hn1:0<(n:Int):=by omega
 have hl2:(L.length:Int)≤100000:=by omega
 have hrw:=qX h.blk
 have HB:=qQ hb
 have HRW:=qQ hrw
 have HK:=qQ (And.intro hL hk)
 have hn2:(n:Int)≤100000:=by omega
 clear h hL hk hn hb hrw
 go_enter Tryz.func113,Tryz.ntmps113
 go_wp2_with fail
 refine hby.mono ?_
 rintro e w1 ⟨rfl,rfl⟩
 go_wp2_with fail
 refine hr.mono ?_
 rintro e w2 ⟨rfl,R2,G2⟩
 have T2:TAt w1 r a c L k 0 (.slice none 0 0) w2:=⟨by simpa using R2,World.ownsRow_nil _ _ _ _,G2.mono (λj _ h=> .inl h)⟩
 have HT:=qQ T2
 clear R2 G2 T2 hr hby
 go_wp2_with fail
 go_loopw [5,21] (λu5 i wr=>∃(j:Nat),j≤n∧i= .int .i64 j∧TAt w1 r a c L k j u5 wr) (λ_ i _=>n-(intOf i).toNat)
 case atStart=>exact⟨0,by omega,rfl,HT.out⟩
 case round=>
  obtain⟨j,hj,rfl,hT⟩:=hrel
  have HT2:=qQ hT
  clear hT HT
  by_cases hlt:j<n
  ·have htk:=take_ok wr r a c L (k+j) 1 HT2.out.rd HB.out HK.out.1 (by omega) (by have:=HK.out.2;omega)
   rw[show ((8*1:Nat):Int)=8 from rfl] at htk
   obtain⟨x,hx⟩:∃x,L[k+j]? =some x:=⟨_,List.getElem?_eq_getElem (by have:=HK.out.2;omega)⟩
   obtain⟨x0,x1⟩:=HB.out x (List.mem_of_getElem? hx)
   rw[take_one L (k+j) x hx x0 x1] at htk
   have hnx:(L.drop k).take (j+1)=(L.drop k).take j++[x]:=by
    rw[List.take_add_one,List.getElem?_drop,hx];rfl
   have HN:=qQ hnx
   have HTK:=qQ htk
   have hw8:IntKind.u8.wrap x=x:=u8_in x x0 x1
   have HW8:=qQ hw8
   clear hnx htk hx hw8
   go_wp2_with fail
   refine HTK.out.mono ?_
   rintro e w3 ⟨rfl,R3,G3⟩
   have HR3:=qQ (And.intro R3 G3)
   have hsz:=G3.size
   have hO3:w3.ownsRow w1.heap.size 5 1 u5 j (((L.drop k).take j).map V8):=qY HT2.out.own G3 (λi hi e=>by
    have:=(qT HT2.out.own hi).1
    have:=HRW.out
    have:i=r:=e
    omega)
   have HO3:=qQ hO3
   have HSZ:=qQ (show w1.heap.size≤w3.heap.size from Nat.le_trans HT2.out.chg.size hsz)
   have hw8:=HW8.out
   clear R3 G3 HTK hO3 hsz
   go_wp2_with (at_builtin;go_loud (refine app1 (V:=V8) el8 rfl (.tmp 23) (.tmp 27) rfl w1.heap.size u5 j (((L.drop k).take j).map V8) rfl (HO3.out.alloc _) w3.heap.size x rfl ?c1 rfl (by omega) (by omega) ?hb ?grow))
   case c1=>simp[V8]
   case hb=>have:=HSZ.out;simp;omega
   case grow=>
    intro v4 w4 hown hgr hat
    have ga:=Chg.alloc (λ_=>False) w3 (.cells #[.int .u8 x] 5)
    have gg:=qH (S:=λi=>w1.heap.size≤i) hgr (λi hi=>(qT HO3.out hi).1)
    have T4:TAt w1 r a c L k (j+1) v4 w4:=by
     refine⟨?_,?_,?_⟩
     ·have:=(HR3.out.1.kept ga).keep gg (λi hi h2=>by have:=HRW.out;omega)
      rw[show k+(j+1)=k+j+1 from by omega];exact this
     ·rw[HN.out,List.map_append,List.map_take,List.map_drop];exact hown
     ·exact ((HT2.out.chg.trans (HR3.out.2.mono (λi _ h=> .inl h))).trans ga.none).trans (gg.mono (λi _ h=> .inr h))
    have HT4:=qQ T4
    clear hown hgr hat ga gg T4 hw8
    go_wp2_with fail
    go_roundw
    case measure=>simp[intOf];omega
    case rel=>exact⟨j+1,by omega,by go_num,HT4.out⟩
  ·obtain rfl:j=n:=by omega
   go_wp2_with fail
   go_ret
   have hl:((L.drop k).take j).length=j:=by have:=HK.out.2;simp;omega
   exact⟨_,rfl,by rw[hl];exact HT2.out.own,HT2.out.rd,HT2.out.chg.old⟩
def sumBit(s:Int):Int:=bits BinOp.xor IntKind.u16 (s / 2) (bits BinOp.and IntKind.u16 33800 (IntKind.u16.wrap (-(bits BinOp.and IntKind.u16 s 1))))
def vx:Nat→Int→Int
 |0,s=>s
 |n+1,s=>sumBit (vx n s)
def sumByte(s c:Int):Int:=vx 8 (bits BinOp.xor IntKind.u16 s c)
def vG(l:List Int):Int:=l.foldl sumByte 0
theorem sum_any(w:World)(A:Option Addr)(len c:Nat)(L:List Int)(h:Rs V8 w w.heap.size A len L)(hb:∀x∈L,0≤x∧x<256)(hL:len≤100000):
  Calls Tryz.prog 155 #[.slice A len c] w λe w'=>e= .returned (.int .u16 (vG L))∧w'=w:=by
 have HB:=qQ hb
 have HR:=qQ h
 have hl:(len:Int)≤100000:=by omega
 clear h hb
 go_enter Tryz.func155,Tryz.ntmps155
 go_wp2_with fail
 go_loop [3,8] (λu3 i=>∃(k:Nat),k≤len∧i= .int .i64 k∧u3= .int .u16 (vG (L.take k))) (λ_ i=>len-(intOf i).toNat)
 case atStart=>exact⟨0,by omega,rfl,rfl⟩
 case round=>
  obtain⟨k,hk,rfl,rfl⟩:=hrel
  by_cases hlt:k<len
  ·obtain⟨x,z,rfl,_,hz,hc⟩:=HR.out.at hlt
   obtain⟨z0,z1⟩:=HB.out z (List.mem_of_getElem? hz)
   unfold V8 at hc
   have hnx:vG (L.take (k+1))=sumByte (vG (L.take k)) z:=by
    unfold vG;rw[List.take_add_one,hz,List.foldl_append];rfl
   obtain⟨s,hs⟩:=qZ (vG (L.take k))
   rw[←hs] at hnx ⊢
   have HN:=qQ hnx
   clear hnx hs hz
   go_wp2_with fail
   obtain⟨y,hy⟩:=qZ (bits BinOp.xor IntKind.u16 s z)
   rw[←hy]
   have HY:=qQ hy
   clear hy
   go_loop [3,16] (λu3 i=>∃(j:Nat),j≤8∧i= .int .i64 j∧u3= .int .u16 (vx j y)) (λ_ i=>8-(intOf i).toNat)
   case atStart=>exact⟨0,by omega,rfl,rfl⟩
   case round=>
    obtain⟨j,hj,rfl,rfl⟩:=hrel
    by_cases h8:j<8
    ·have hnj:vx (j+1) y=sumBit (vx j y):=rfl
     obtain⟨q,hq⟩:=qZ (vx j y)
     rw[←hq] at hnj ⊢
     have HNJ:=qQ hnj
     clear hnj hq
     go_wp2_with fail
     go_round
     case measure=>simp[intOf];omega
     case rel=>exact⟨j+1,by omega,by go_num,by rw[HNJ.out];rfl⟩
    ·obtain rfl:j=8:=by omega
     go_wp2_with fail
     go_round
     case measure=>simp[intOf];omega
     case rel=>exact⟨k+1,by omega,by go_num,by rw[HN.out,HY.out];rfl⟩
  ·obtain rfl:k=len:=by omega
   go_wp2_with fail
   go_ret
   refine⟨?_,rfl⟩
   rw[List.take_of_length_le (by have:=HR.out.1;omega)]
   rfl
theorem nil_eq{P:Program}{t e:TypeId}(h:P.underlying t=some (.slice e))(w:World)(n c:Nat):(binOp .eql t (.slice none n c) (.slice none 0 0)).run P w= .ok (.bool true) w:=
 Lib.run_eql_slice_nil w t e none n c 0 0 h
theorem some_eq{P:Program}{t e:TypeId}(h:P.underlying t=some (.slice e))(w:World)(x:Addr)(n c:Nat):(binOp .eql t (.slice (some x) n c) (.slice none 0 0)).run P w= .ok (.bool false) w:=
 Lib.run_eql_slice_nil w t e (some x) n c 0 0 h
theorem clone8_any(w:World)(A:Option Addr)(len c:Nat)(L:List Int)(h:Rs V8 w w.heap.size A len L)(hA:A=none→c=0)(hL:len≤100000):
  Calls Tryz.prog 41 #[.slice A len c] w (PNew V8 5 w L):=by
 have HR:=qQ h
 have HA:=qQ hA
 have hl:=h.1
 cases A with
 |none=>
  have hm:L=[]:=by
   rcases Nat.eq_zero_or_pos len with h0|h0
   ·exact List.eq_nil_of_length_eq_zero (by omega)
   ·obtain⟨x,z,e,_⟩:=h.at h0;cases e
  subst hm
  have hn:=nil_eq (P:=Tryz.prog) Tryz.underlying33
  clear h hA hl
  go_enter Tryz.func41,Tryz.ntmps41
  go_wp2_with fail
  go_ret
  exact⟨_,rfl,World.ownsRow_nil _ _ _ _,Chg.refl _ _⟩
 |some x=>
  have hn:=some_eq (P:=Tryz.prog) Tryz.underlying33
  clear h hA
  go_enter Tryz.func41,Tryz.ntmps41
  go_wp2_with (at_builtin;go_loud (refine appS el8 rfl (.tmp 5) (.tmp 6) rfl w.heap.size (.slice (some ⟨w.heap.size,0,none⟩) 0 0) 0 [] rfl (World.ownsRow_made _ #[] 0 (Nat.le_refl _) (by decide) rfl) w.heap.size (some x) len c L rfl HA.out (HR.out.keep (Chg.alloc (λ_=>False) w _) (λ_ _ e=>e)) (λ_=>rfl) (by omega) (by omega) (by simp) ?grow))
  case grow=>
   intro v' w' hown hgr hat
   have ga:=Chg.alloc (λ_=>False) w (.cells #[] 5)
   have g:=qH (S:=λi=>w.heap.size≤i) hgr (λj e=>by cases e;exact Nat.le_refl _)
   have HO:=qQ (And.intro hown (ga.none.trans g).fresh)
   clear hown hgr hat g ga
   go_wp2_with fail
   go_ret
   refine⟨_,rfl,?_,HO.out.2⟩
   have:=HO.out.1
   rw[hl]
   simpa using this
theorem u16_wrap(x:Int):IntKind.u16.wrap x=x % 65536:=by simp only[IntKind.wrap,IntKind.bits,IntKind.signed];simp
theorem bits16(op:BinOp)(x y:Int):0≤bits op .u16 x y∧bits op .u16 x y<65536:=by
 unfold bits;simp only[];rw[u16_wrap];omega
theorem sumBits_bd(n:Nat)(s:Int):0≤vx (n+1) s∧vx (n+1) s<65536:=by
 simp only[vx,sumBit];exact bits16 _ _ _
theorem crcSum_bd(L:List Int):0≤vG L∧vG L<65536:=by
 unfold vG
 rcases List.eq_nil_or_concat L with rfl|⟨M,x,rfl⟩
 ·decide
 ·rw[List.concat_eq_append,List.foldl_append];exact sumBits_bd 7 _
def jh(L:List Int):List Int:=[vG L % 256,vG L / 256]
theorem crcAppend_any(w:World)(A:Option Addr)(len c:Nat)(L:List Int)(h:Rs V8 w w.heap.size A len L)(hA:A=none→c=0)(hb:∀x∈L,0≤x∧x<256)(hL:len≤100000):
  Calls Tryz.prog 102 #[.slice A len c] w (PNew V8 5 w (L++jh L)):=by
 have hs:=sum_any w A len c L h hb hL
 have hc:=clone8_any w A len c L h hA hL
 have hl:=h.1
 obtain⟨s0,s1⟩:=crcSum_bd L
 have htl:jh L=[vG L % 256,vG L / 256]:=rfl
 rw[htl]
 clear htl h hA hb
 generalize vG L=s at *
 have e1:IntKind.u8.wrap s=s % 256:=u8_wrap s
 have e2:IntKind.u8.wrap (s / 256)=s / 256:=u8_in _ (by omega) (by omega)
 have HE:=qQ (And.intro e1 e2)
 clear e1 e2
 go_enter Tryz.func102,Tryz.ntmps102
 go_wp2_with fail
 refine hs.mono ?_
 rintro e w1 ⟨rfl,rfl⟩
 go_wp2_with fail
 refine hc.mono ?_
 rintro e w2 ⟨v,rfl,hown,G⟩
 have HO:=qQ hown
 have HG:=qQ G
 obtain⟨e1,e2⟩:=HE.out
 clear hown G hs hc
 go_wp2_with (at_builtin;go_loud (refine appS (V:=V8) el8 rfl (.tmp 7) (.tmp 13) rfl w1.heap.size v L.length (L.map V8) rfl (HO.out.alloc _) (w2.heap.size+1) (some ⟨w2.heap.size,0,none⟩) 2 2 [s % 256,s / 256] rfl (λe=>by cases e) ?c1 (λ_=>rfl) (by omega) (by omega) ?c2 ?grow))
 case c1=>
  refine⟨rfl,λi hi=>⟨_,rfl,Nat.lt_succ_self _,?_⟩⟩
  match i,hi with
  |0,_=>simp[Addr.add,V8]
  |1,_=>simp[Addr.add,V8]
  |i+2,hi=>exact absurd hi (by simp)
 case c2=>have:=HG.out.size;simp;omega
 case grow=>
  intro v' w' hown hgr hat
  have ga:=Chg.alloc (λi=>w1.heap.size≤i) w2 (.cells #[.int .u8 (s % 256),.int .u8 (s / 256)] 5)
  have g:=qH (S:=λi=>w1.heap.size≤i) hgr (λj e=>(qT HO.out e).1)
  have HX:=qQ (And.intro hown ((HG.out.none.trans (ga.trans g)).fresh))
  clear hown hgr hat g ga
  go_wp2_with fail
  go_ret
  refine⟨_,rfl,?_,HX.out.2⟩
  have:=HX.out.1
  simpa [hl] using this
theorem list_ne{α:Type}{l m:List α}(i:Nat)(h:l[i]?≠m[i]?):l≠m:=λe=>h (by rw[e])
theorem equal8_any(w:World)(A B:Option Addr)(m n c d:Nat)(L M:List Int)(h:Rs V8 w w.heap.size A m L)(k:Rs V8 w w.heap.size B n M)(hm:m≤200000)(hn:n≤200000):
  Calls Tryz.prog 161 #[.slice A m c,.slice B n d] w λe w'=>e= .returned (.bool (decide (L=M)))∧Chg (λ_=>False) w w':=by
 have HR:=qQ h
 have HK:=qQ k
 have hlL:=h.1
 have hlM:=k.1
 have hm1:(m:Int)≤200000:=by omega
 have hn1:(n:Int)≤200000:=by omega
 clear h k
 by_cases hmn:m=n
 ·subst hmn
  have HL:=qQ hlL
  have HM:=qQ hlM
  clear hlL hlM
  go_enter Tryz.func161,Tryz.ntmps161
  go_wp2_with fail
  go_loopw [13] (λi wr=>∃(k:Nat),k≤m∧i= .int .i64 k∧(∀j,j<k→L[j]? =M[j]?)∧Chg (λ_=>False) w wr) (λi _=>m-(intOf i).toNat)
  case atStart=>exact⟨0,by omega,rfl,λj hj=>absurd hj (by omega),Chg.refl _ _⟩
  case round=>
   obtain⟨k,hk,rfl,he,hG⟩:=hrel
   have HE:=qQ he
   have HG:=qQ hG
   clear he hG
   by_cases hlt:k<m
   ·obtain⟨x,z,rfl,_,hz,hc⟩:=((HR.out.keep HG.out (λ_ _ e=>e)).keep (Chg.drew (λ_=>False) wr) (λ_ _ e=>e)).at hlt
    obtain⟨y,u,rfl,_,hu,hd⟩:=((HK.out.keep HG.out (λ_ _ e=>e)).keep (Chg.drew (λ_=>False) wr) (λ_ _ e=>e)).at hlt
    unfold V8 at hc hd
    have i1:(k:Int)<(m:Int):=by omega
    have HZ:=qQ (And.intro hz hu)
    clear hz hu
    by_cases hzu:z=u
    ·have hb:(z != u)=false:=by simpa using hzu
     have he1:∀j,j<k+1→L[j]? =M[j]? :=λj hj=>by
      by_cases e:j=k
      ·subst e;rw[HZ.out.1,HZ.out.2,hzu]
      ·exact HE.out j (by omega)
     have HE1:=qQ (And.intro he1 (HG.out.trans (Chg.drew (λ_=>False) wr)))
     clear hzu he1 HE HG
     go_wp2_with fail
     with_reducible refine wp_region_still_lit (by kernel_rfl) (by kernel_rfl) ?_
     repeat (with_reducible refine wpStill_step (λK hK=>?_);go_simp;with_reducible refine hK _ ?_;clear hK K)
     with_reducible refine wpStill_nil ?_
     change Exit.then _ _ _ _ wr.drew
     clear hc hd
     generalize wr.drew=w3 at *
     go_wp2_with fail
     go_roundw
     case measure=>simp[intOf];omega
     case rel=>exact⟨k+1,by omega,by go_num,HE1.out.1,HE1.out.2⟩
    ·have hb:(z != u)=true:=by simpa using hzu
     have hne:L≠M:=list_ne k (by rw[HZ.out.1,HZ.out.2];simpa using hzu)
     have HE1:=qQ (And.intro hne (HG.out.trans (Chg.drew (λ_=>False) wr)))
     clear hzu hne HE HG
     go_wp2_with fail
     with_reducible refine wp_region_still_lit (by kernel_rfl) (by kernel_rfl) ?_
     repeat (with_reducible refine wpStill_step (λK hK=>?_);go_simp;with_reducible refine hK _ ?_;clear hK K)
     with_reducible refine wpStill_nil ?_
     change Exit.then _ _ _ _ wr.drew
     clear hc hd
     generalize wr.drew=w3 at *
     go_wp2_with fail
     go_ret
     refine⟨?_,HE1.out.2⟩
     rw[decide_eq_false HE1.out.1];rfl
   ·obtain rfl:k=m:=by omega
    go_wp2_with fail
    go_ret
    refine⟨?_,HG.out⟩
    rw[decide_eq_true (List.ext_getElem? (λj=>by
     by_cases hj:j<k
     ·exact HE.out j hj
     ·rw[List.getElem?_eq_none (by rw[HL.out];omega),List.getElem?_eq_none (by rw[HM.out];omega)]))]
    rfl
 ·have hb:((m:Int) != (n:Int))=true:=by simp;omega
  have hb2:(m != n)=true:=by simpa using hmn
  have hne:L≠M:=λe=>hmn (by rw[←hlL,←hlM,e])
  have HNE:=qQ hne
  clear hne hlL hlM
  go_enter Tryz.func161,Tryz.ntmps161
  go_wp2_with fail
  go_ret
  refine⟨?_,Chg.refl _ _⟩
  rw[decide_eq_false HNE.out];rfl
def BS(w:World)(B:Nat)(v:Value)(L:List Int):Prop:=
 ∃A c,v= .slice A L.length c∧Rs V8 w B A L.length L∧(A=none→c=0)∧L.length≤c∧c≤maxLen∧∀x∈L,0≤x∧x<256
section
variable {w w':World}{B B':Nat}{v:Value}{L:List Int}
theorem BS.keep{S:Nat→Prop}(h:BS w B v L)(g:Chg S w w')(hS:∀j,j<B→¬S j):BS w' B v L:=by
 obtain⟨A,c,h1,h2,h3⟩:=h
 exact⟨A,c,h1,h2.keep g hS,h3⟩
theorem BS.kept(h:BS w B v L)(g:Chg (λ_=>False) w w'):BS w' B v L:=h.keep g (λ_ _ e=>e)
theorem BS.more(h:BS w B v L)(hB:B≤B'):BS w B' v L:=by
 obtain⟨A,c,h1,h2,h3⟩:=h
 exact⟨A,c,h1,h2.more hB,h3⟩
theorem BS.of_own{base:Nat}(h:w.ownsRow base 5 1 v L.length (L.map V8))(hb:∀x∈L,0≤x∧x<256):BS w w.heap.size v L:=by
 obtain⟨A,c,rfl,h2,h3⟩:=Rs.of_own h
 refine⟨A,c,rfl,h2,h3,?_,?_,hb⟩
 ·rcases h.2 with ⟨e,h0⟩|⟨g,cap,cur,e,_,_,hc,hm,_⟩
  ·rw[h0];omega
  ·cases e;exact hc
 ·rcases h.2 with ⟨e,h0⟩|⟨g,cap,cur,e,_,_,hc,hm,_⟩
  ·simp at e;rw[e.2.2];exact Nat.zero_le _
  ·cases e;exact hm
end
def jj(L:List Int):Bool:=decide (2≤L.length)&&decide (L.take (L.length-2)++jh (L.take (L.length-2))=L)
theorem Rs.take{α:Type}{V:α→Value}{w:World}{B len:Nat}{a:Option Addr}{zs:List α}(h:Rs V w B a len zs)(k:Nat)(hk:k≤len):Rs V w B a k (zs.take k):=by
 have hl:=h.1
 refine⟨by simp;omega,λi hi=>?_⟩
 obtain⟨x,e,hb,hc⟩:=h.2 i (by simp at hi;omega)
 exact⟨x,e,hb,by rw[hc];simp⟩
theorem crcGood_any(w:World)(v:Value)(L:List Int)(h:BS w w.heap.size v L)(hL:L.length≤100000):
  Calls Tryz.prog 110 #[v] w λe w'=>e= .returned (.bool (jj L))∧Chg (λ_=>False) w w':=by
 obtain⟨A,c,rfl,hr,hA,hc,hm,hb⟩:=h
 by_cases h2:2≤L.length
 ·have happ:=crcAppend_any w A (L.length-2) c (L.take (L.length-2)) (hr.take _ (by omega)) hA (λx hx=>hb x (List.mem_of_mem_take hx)) (by omega)
  obtain⟨N,hN⟩:=qZ (L.length-2)
  rw[←hN] at happ
  have e1:IntKind.i64.wrap ((L.length:Int)-2)=(N:Int):=by rw[IntWalk.i64_in _ (by omega)];omega
  have e2:(L.length:Int)-2=(N:Int):=by omega
  have hg:jj L=decide (L.take N++jh (L.take N)=L):=by unfold jj;rw[decide_eq_true h2,←hN];rfl
  rw[hg]
  have hXl:(L.take N++jh (L.take N)).length≤200000:=by have:(jh (L.take N)).length=2:=rfl;simp;omega
  generalize L.take N++jh (L.take N)=X at *
  obtain⟨xl,hxl⟩:=qZ X.length
  have i1:(N:Int)≤c:=by omega
  have i2:N≤c:=by omega
  have i3:(2:Int)≤L.length:=by omega
  have HR:=qQ hr
  have HA:=qQ happ
  have HL:=qQ hL
  have HXL:=qQ (And.intro hXl hxl)
  unfold maxLen at hm
  clear hr happ hL hg hN hA hb hXl hxl
  go_enter Tryz.func110,Tryz.ntmps110
  go_wp2_with fail
  refine HA.out.mono ?_
  rintro e w1 ⟨v1,rfl,hown,G⟩
  obtain⟨A1,c1,rfl,hr1,_⟩:=Rs.of_own hown
  have heq:=equal8_any w1 A1 A X.length L.length c1 c X L hr1 ((HR.out.keep G (λ_ _ e=>e)).more G.size) HXL.out.1 (by have:=HL.out;omega)
  rw[←HXL.out.2] at heq ⊢
  have HQ:=qQ heq
  have HG:=qQ G
  clear hown hr1 heq G
  go_wp2_with fail
  with_reducible refine HQ.out.mono ?_
  rintro e w2 ⟨rfl,G2⟩
  have HG2:=qQ (HG.out.trans G2)
  clear G2 HQ HG
  go_wp2_with fail
  go_ret
  exact⟨rfl,HG2.out⟩
 ·have hg:jj L=false:=by unfold jj;rw[decide_eq_false h2];rfl
  rw[hg]
  have i3:(L.length:Int)<2:=by omega
  clear hr hA hb hg
  go_enter Tryz.func110,Tryz.ntmps110
  go_wp2_with fail
  go_ret
  exact⟨rfl,Chg.refl _ _⟩
def VU(x:Int):Value:= .int .u64 x
theorem Tryz.info23:(Tryz.prog.info? 23).map (λi=>(i.zero,i.size,i.bytes))=some (some (.int .u64 0),1,8):=by kernel_rfl
theorem Tryz.info2:(Tryz.prog.info? 2).map (λi=>(i.zero,i.size,i.bytes))=some (some (.int .i64 0),1,8):=by kernel_rfl
theorem elU:ElOk 24 23 8:=by
 obtain⟨i0,hi,hx⟩:=Option.map_eq_some_iff.1 Tryz.info23
 simp only[Prod.mk.injEq] at hx
 exact⟨Tryz.underlying24,i0,_,hi,hx.1,hx.2.1,hx.2.2,rfl⟩
theorem elL:ElOk 58 2 8:=by
 obtain⟨i0,hi,hx⟩:=Option.map_eq_some_iff.1 Tryz.info2
 simp only[Prod.mk.injEq] at hx
 exact⟨Tryz.underlying58,i0,_,hi,hx.1,hx.2.1,hx.2.2,rfl⟩
theorem jz(w:World)(A:Option Addr)(len c:Nat)(L:List Int)(h:Rs VI w w.heap.size A len L)(hA:A=none→c=0)(hL:len≤100000):
  Calls Tryz.prog 29 #[.slice A len c] w (PNew VI 3 w L):=by
 have HR:=qQ h
 have HA:=qQ hA
 have hl:=h.1
 cases A with
 |none=>
  have hm:L=[]:=by
   rcases Nat.eq_zero_or_pos len with h0|h0
   ·exact List.eq_nil_of_length_eq_zero (by omega)
   ·obtain⟨x,z,e,_⟩:=h.at h0;cases e
  subst hm
  have hn:=nil_eq (P:=Tryz.prog) Tryz.underlying22
  clear h hA hl
  go_enter Tryz.func29,Tryz.ntmps29
  go_wp2_with fail
  go_ret
  exact⟨_,rfl,World.ownsRow_nil _ _ _ _,Chg.refl _ _⟩
 |some x=>
  have hn:=some_eq (P:=Tryz.prog) Tryz.underlying22
  clear h hA
  go_enter Tryz.func29,Tryz.ntmps29
  go_wp2_with (at_builtin;go_loud (refine appS elI rfl (.tmp 5) (.tmp 6) rfl w.heap.size (.slice (some ⟨w.heap.size,0,none⟩) 0 0) 0 [] rfl (World.ownsRow_made _ #[] 0 (Nat.le_refl _) (by decide) rfl) w.heap.size (some x) len c L rfl HA.out (HR.out.keep (Chg.alloc (λ_=>False) w _) (λ_ _ e=>e)) (λ_=>rfl) (by omega) (by omega) (by simp) ?grow))
  case grow=>
   intro v' w' hown hgr hat
   have ga:=Chg.alloc (λ_=>False) w (.cells #[] 3)
   have g:=qH (S:=λi=>w.heap.size≤i) hgr (λj e=>by cases e;exact Nat.le_refl _)
   have HO:=qQ (And.intro hown (ga.none.trans g).fresh)
   clear hown hgr hat g ga
   go_wp2_with fail
   go_ret
   refine⟨_,rfl,?_,HO.out.2⟩
   have:=HO.out.1
   rw[hl]
   simpa using this
theorem cloneU_any(w:World)(A:Option Addr)(len c:Nat)(L:List Int)(h:Rs VU w w.heap.size A len L)(hA:A=none→c=0)(hL:len≤100000):
  Calls Tryz.prog 28 #[.slice A len c] w (PNew VU 23 w L):=by
 have HR:=qQ h
 have HA:=qQ hA
 have hl:=h.1
 cases A with
 |none=>
  have hm:L=[]:=by
   rcases Nat.eq_zero_or_pos len with h0|h0
   ·exact List.eq_nil_of_length_eq_zero (by omega)
   ·obtain⟨x,z,e,_⟩:=h.at h0;cases e
  subst hm
  have hn:=nil_eq (P:=Tryz.prog) Tryz.underlying24
  clear h hA hl
  go_enter Tryz.func28,Tryz.ntmps28
  go_wp2_with fail
  go_ret
  exact⟨_,rfl,World.ownsRow_nil _ _ _ _,Chg.refl _ _⟩
 |some x=>
  have hn:=some_eq (P:=Tryz.prog) Tryz.underlying24
  clear h hA
  go_enter Tryz.func28,Tryz.ntmps28
  go_wp2_with (at_builtin;go_loud (refine appS elU rfl (.tmp 5) (.tmp 6) rfl w.heap.size (.slice (some ⟨w.heap.size,0,none⟩) 0 0) 0 [] rfl (World.ownsRow_made _ #[] 0 (Nat.le_refl _) (by decide) rfl) w.heap.size (some x) len c L rfl HA.out (HR.out.keep (Chg.alloc (λ_=>False) w _) (λ_ _ e=>e)) (λ_=>rfl) (by omega) (by omega) (by simp) ?grow))
  case grow=>
   intro v' w' hown hgr hat
   have ga:=Chg.alloc (λ_=>False) w (.cells #[] 23)
   have g:=qH (S:=λi=>w.heap.size≤i) hgr (λj e=>by cases e;exact Nat.le_refl _)
   have HO:=qQ (And.intro hown (ga.none.trans g).fresh)
   clear hown hgr hat g ga
   go_wp2_with fail
   go_ret
   refine⟨_,rfl,?_,HO.out.2⟩
   have:=HO.out.1
   rw[hl]
   simpa using this
theorem cloneL_any(w:World)(A:Option Addr)(len c:Nat)(L:List Int)(h:Rs VI w w.heap.size A len L)(hA:A=none→c=0)(hL:len≤100000):
  Calls Tryz.prog 55 #[.slice A len c] w (PNew VI 2 w L):=by
 have HR:=qQ h
 have HA:=qQ hA
 have hl:=h.1
 cases A with
 |none=>
  have hm:L=[]:=by
   rcases Nat.eq_zero_or_pos len with h0|h0
   ·exact List.eq_nil_of_length_eq_zero (by omega)
   ·obtain⟨x,z,e,_⟩:=h.at h0;cases e
  subst hm
  have hn:=nil_eq (P:=Tryz.prog) Tryz.underlying58
  clear h hA hl
  go_enter Tryz.func55,Tryz.ntmps55
  go_wp2_with fail
  go_ret
  exact⟨_,rfl,World.ownsRow_nil _ _ _ _,Chg.refl _ _⟩
 |some x=>
  have hn:=some_eq (P:=Tryz.prog) Tryz.underlying58
  clear h hA
  go_enter Tryz.func55,Tryz.ntmps55
  go_wp2_with (at_builtin;go_loud (refine appS elL rfl (.tmp 5) (.tmp 6) rfl w.heap.size (.slice (some ⟨w.heap.size,0,none⟩) 0 0) 0 [] rfl (World.ownsRow_made _ #[] 0 (Nat.le_refl _) (by decide) rfl) w.heap.size (some x) len c L rfl HA.out (HR.out.keep (Chg.alloc (λ_=>False) w _) (λ_ _ e=>e)) (λ_=>rfl) (by omega) (by omega) (by simp) ?grow))
  case grow=>
   intro v' w' hown hgr hat
   have ga:=Chg.alloc (λ_=>False) w (.cells #[] 2)
   have g:=qH (S:=λi=>w.heap.size≤i) hgr (λj e=>by cases e;exact Nat.le_refl _)
   have HO:=qQ (And.intro hown (ga.none.trans g).fresh)
   clear hown hgr hat g ga
   go_wp2_with fail
   go_ret
   refine⟨_,rfl,?_,HO.out.2⟩
   have:=HO.out.1
   rw[hl]
   simpa using this
end Go.Proofs.YtnpihllannobgaaGreatDoor
