/- Steps of the proof, part H02. No condition. -/
import Derived.Test.YtnpihllannobgaaGreatDoorH01
import Derived.Carry
import Derived.MapKept
import Derived.Maps.OwnOps
import Derived.RegionTactic
import Derived.ChangeAlike
namespace Go.Proofs.YtnpihllannobgaaGreatDoor
set_option linter.unusedVariables false
set_option linter.unusedSimpArgs false
set_option maxRecDepth 100000
set_option maxHeartbeats 32000000
open Go.ChangeShapes Go.WideShapes Go.ChangeAt Go.RowKit
def zp(L:List Int)(x:Int):Int:=match L.findIdx? (· ==x) with|some i=>i|none=> -1
theorem indexI_at(L:List Int)(x:Int)(k:Nat)(hk:L[k]? =some x) (h:∀j,j<k→L[j]?≠some x):zp L x=k:=by
 have hlt:=(List.getElem?_eq_some_iff.1 hk).1
 have:L.findIdx? (· ==x)=some k:=by
  rw[List.findIdx?_eq_some_iff_getElem]
  refine⟨hlt,by rw[List.getElem?_eq_getElem hlt] at hk;simpa using hk,λj hj=>?_⟩
  have h2:=h j hj
  rw[List.getElem?_eq_getElem (by omega)] at h2
  simpa using h2
 unfold zp;rw[this]
theorem indexI_no(L:List Int)(x:Int)(h:∀j,j<L.length→L[j]?≠some x):zp L x= -1:=by
 have:L.findIdx? (· ==x)=none:=by
  rw[List.findIdx?_eq_none_iff]
  intro y hy
  obtain⟨j,hj,rfl⟩:=List.getElem_of_mem hy
  have h2:=h j hj
  rw[List.getElem?_eq_getElem hj] at h2
  simpa using h2
 unfold zp;rw[this]
theorem indexI_any(w:World)(A:Option Addr)(len c:Nat)(L:List Int)(x:Int)(h:Rs VI w w.heap.size A len L)(hL:len≤100000):
  Calls Tryz.prog 142 #[.slice A len c,.int .i64 x] w λe w'=>e= .returned (.int .i64 (zp L x))∧w'=w:=by
 have HR:=qQ h
 have hl:(len:Int)≤100000:=by omega
 clear h
 go_enter Tryz.func142,Tryz.ntmps142
 go_wp2_with fail
 go_loop [8] (λi=>∃(k:Nat),k≤len∧i= .int .i64 k∧∀j,j<k→L[j]?≠some x) (λi=>len-(intOf i).toNat)
 case atStart=>exact⟨0,by omega,rfl,λj hj=>absurd hj (by omega)⟩
 case round=>
  obtain⟨k,hk,rfl,hno⟩:=hrel
  have HN:=qQ hno
  clear hno
  by_cases hlt:k<len
  ·obtain⟨y,z,rfl,_,hz,hc⟩:=HR.out.at hlt
   unfold VI at hc
   by_cases hx:x=z
   ·have hi:=indexI_at L x k (by rw[hz,hx]) HN.out
    have HI:=qQ hi
    have hb:(x==z)=true:=by simpa using hx
    clear hx hz hi
    go_wp2_with fail
    go_ret
    exact⟨ret_int HI.out.symm,rfl⟩
   ·have hb:(x==z)=false:=by simpa using hx
    have HN1:=qQ (show∀j,j<k+1→L[j]?≠some x from λj hj=>by
     by_cases e:j=k
     ·subst e;rw[hz];intro h2;simp at h2;exact hx h2.symm
     ·exact HN.out j (by omega))
    clear hx hz
    go_wp2_with fail
    go_round
    case measure=>simp[intOf];omega
    case rel=>exact⟨k+1,by omega,by go_num,HN1.out⟩
  ·obtain rfl:k=len:=by omega
   have hi:=indexI_no L x (λj hj=>HN.out j (by rw[←HR.out.1];exact hj))
   have HI:=qQ hi
   clear hi
   go_wp2_with fail
   go_ret
   exact⟨ret_int HI.out.symm,rfl⟩
theorem indexI_pos(L:List Int)(x:Int):decide (0≤zp L x)=L.contains x:=by
 unfold zp
 cases h:L.findIdx? (· ==x) with
 |none=>
  rw[List.findIdx?_eq_none_iff] at h
  have:L.contains x=false:=by
   rw[Bool.eq_false_iff];intro hc
   have:=h x (by simpa using hc)
   simp at this
  rw[this];rfl
 |some i=>
  rw[List.findIdx?_eq_some_iff_getElem] at h
  obtain⟨hi,he,_⟩:=h
  have:L.contains x=true:=by
   simp at he;simp;rw[←he];exact List.getElem_mem _
  rw[this];simp
theorem jD(w:World)(A:Option Addr)(len c:Nat)(L:List Int)(x:Int)(h:Rs VI w w.heap.size A len L)(hL:len≤100000):
  Calls Tryz.prog 92 #[.slice A len c,.int .i64 x] w λe w'=>e= .returned (.bool (L.contains x))∧w'=w:=by
 have hi:=indexI_any w A len c L x h hL
 have hp:=indexI_pos L x
 rw[←hp]
 clear h hp
 generalize zp L x=q at *
 go_enter Tryz.func92,Tryz.ntmps92
 go_wp2_with fail
 refine hi.mono ?_
 rintro e w1 ⟨rfl,rfl⟩
 go_wp2_with fail
 go_ret
 exact⟨rfl,rfl⟩
def cutf(n m:Int):Int:=max (-m) (min n m)
def downf(n:Int):Int:=n / 1000000
def Ck(w:World)(b:Nat)(base sum slots:Int):Prop:=w.heap[b]? =some (.cells #[.int .i64 base,.int .i64 sum,.int .i64 slots] 163 (0,0))
def PSet(b:Nat)(w:World)(base sum slots:Int)(e:Ending)(w':World):Prop:=e= .returned (.tuple #[])∧Ck w' b base sum slots∧Chg (· =b) w w'
theorem Ck.c0{w:World}{b:Nat}{x y z:Int}(h:Ck w b x y z):w.cell? ⟨b,0,none⟩=some (.int .i64 x):=by rw[qJ h];rfl
theorem Ck.c1{w:World}{b:Nat}{x y z:Int}(h:Ck w b x y z):w.cell? ⟨b,1,none⟩=some (.int .i64 y):=by rw[qJ h];rfl
theorem Ck.c2{w:World}{b:Nat}{x y z:Int}(h:Ck w b x y z):w.cell? ⟨b,2,none⟩=some (.int .i64 z):=by rw[qJ h];rfl
theorem Ck.f{w:World}{b:Nat}{x y z:Int}(h:Ck w b x y z)(o:Nat):w.frozen? ⟨b,o,none⟩=false:=qK h o
theorem Ck.keep{w w':World}{b:Nat}{x y z:Int}{S:Nat→Prop}(h:Ck w b x y z)(g:Chg S w w')(hs:¬S b):Ck w' b x y z:=Chg.keep g h hs
theorem Ck.kept{w w':World}{b:Nat}{x y z:Int}(h:Ck w b x y z)(g:Chg (λ_=>False) w w'):Ck w' b x y z:=Chg.keep g h (λf=>f)
theorem Ck.set0{w:World}{b:Nat}{x y z:Int}(h:Ck w b x y z)(t:Int):Ck (w.setCell ⟨b,0,none⟩ (.int .i64 t)) b t y z:=by
 have:=qB h 0 (.int .i64 t);simpa [Ck] using this
theorem Ck.set1{w:World}{b:Nat}{x y z:Int}(h:Ck w b x y z)(t:Int):Ck (w.setCell ⟨b,1,none⟩ (.int .i64 t)) b x t z:=by
 have:=qB h 1 (.int .i64 t);simpa [Ck] using this
theorem Ck.set2{w:World}{b:Nat}{x y z:Int}(h:Ck w b x y z)(t:Int):Ck (w.setCell ⟨b,2,none⟩ (.int .i64 t)) b x y t:=by
 have:=qB h 2 (.int .i64 t);simpa [Ck] using this
theorem ckcut_any(n m:Int)(w:World)(h0:0≤m)(h1:m≤1000000000000):
  Calls Tryz.prog 124 #[.int .i64 n,.int .i64 m] w λe w'=>e= .returned (.int .i64 (cutf n m))∧w'=w:=by
 go_enter Tryz.func124,Tryz.ntmps124
 go_wp2
 all_goals
  go_ret
  refine⟨ret_int ?_,rfl⟩
  unfold cutf
  split at * <;> omega
theorem tdm(n m:Int)(h:0<m):n.tdiv m*m+n.tmod m=n∧(0≤n→0≤n.tmod m)∧(n≤0→n.tmod m≤0)∧n.tmod m<m∧-m<n.tmod m:=by
 refine⟨by rw[Int.mul_comm];exact Int.mul_tdiv_add_tmod n m,λh0=>Int.tmod_nonneg _ h0,λh0=>?_,Int.tmod_lt_of_pos _ h,?_⟩
 ·have:=Int.tmod_nonneg (a:= -n) m (by omega)
  rw[Int.neg_tmod] at this;omega
 ·have:=Int.tmod_lt_of_pos (-n) h
  rw[Int.neg_tmod] at this;omega
theorem down1{n:Int}(h0: -1000000000000000≤n)(h1:n≤1000000000000000)(h:n.tmod 1000000<0):wrap64 (n.tdiv 1000000-1)=downf n:=by
 obtain⟨a,b,c,d,e⟩:=tdm n 1000000 (by omega)
 generalize n.tdiv 1000000=q at *
 generalize n.tmod 1000000=r at *
 unfold downf wrap64;omega
theorem down2{n:Int}(h:0≤n.tmod 1000000):n.tdiv 1000000=downf n:=by
 obtain⟨a,b,c,d,e⟩:=tdm n 1000000 (by omega)
 generalize n.tdiv 1000000=q at *
 generalize n.tmod 1000000=r at *
 unfold downf;omega
theorem ckdown_any(n:Int)(w:World)(h0: -1000000000000000≤n)(h1:n≤1000000000000000):
  Calls Tryz.prog 104 #[.int .i64 n,.int .i64 1000000] w λe w'=>e= .returned (.int .i64 (downf n))∧w'=w:=by
 by_cases h:n.tmod 1000000<0
 ·go_enter Tryz.func104,Tryz.ntmps104
  go_wp2
  go_ret
  exact⟨ret_int (down1 h0 h1 h),rfl⟩
 ·go_enter Tryz.func104,Tryz.ntmps104
  go_wp2
  go_ret
  exact⟨ret_int (down2 (by omega)),rfl⟩
theorem cutf_bd(n m:Int)(h:0≤m): -m≤cutf n m∧cutf n m≤m:=by unfold cutf;omega
theorem downf_bd(n:Int)(h0: -1000000000000000≤n)(h1:n≤1000000000000000): -1000000000≤downf n∧downf n≤1000000000:=by unfold downf;omega
theorem pset{w w':World}{b:Nat}{x y z:Int}(h:Ck w' b x y z)(g:Chg (· =b) w w'):PSet b w x y z (.returned (.tuple #[])) w':=⟨rfl,h,g⟩
theorem ckoff_quiet(w:World)(b:Nat)(x y z:Int)(h:Ck w b x y z)(hx: -1000000000000000≤x∧x≤1000000000000000)(hy: -1000000000000000≤y∧y≤1000000000000000):
  Calls Tryz.prog 61 #[.pointer (some ⟨b,0,none⟩)] w λe w'=>e= .returned (.int .i64 (x+downf y))∧∃m,w'=w.drewN m:=by
 obtain⟨hx0,hx1⟩:=hx
 obtain⟨hy0,hy1⟩:=hy
 obtain⟨hd0,hd1⟩:=downf_bd y hy0 hy1
 have c0:=h.c0
 have c1:=h.c1
 clear h
 go_enter Tryz.func61,Tryz.ntmps61
 go_wp2
 go_quiet ((go_at_call 104;exact Calls.quiet_of_same (ckdown_any _ _ hy0 hy1)))
 go_wp2
 go_ret
 exact⟨rfl,_,rfl⟩
theorem ckslots_any(w:World)(b:Nat)(x y z:Int)(h:Ck w b x y z):
  Calls Tryz.prog 58 #[.pointer (some ⟨b,0,none⟩)] w λe w'=>e= .returned (.int .i64 z)∧w'=w:=by
 have c2:=h.c2
 clear h
 go_enter Tryz.func58,Tryz.ntmps58
 go_wp2
 go_ret
 exact⟨rfl,rfl⟩
theorem ckput_any(w:World)(b:Nat)(x y z n:Int)(h:Ck w b x y z):
  Calls Tryz.prog 81 #[.pointer (some ⟨b,0,none⟩),.int .i64 n] w (PSet b w (cutf n 1000000000000) 0 z):=by
 have c0:=h.c0
 have c1:=h.c1
 have f0:=h.f 0
 have f1:=h.f 1
 have H:=qQ h
 clear h
 go_enter Tryz.func81,Tryz.ntmps81
 go_wp2_with ((go_at_call 124;refine (ckcut_any _ _ _ (by omega) (by omega)).mono ?_;rintro e w' ⟨rfl,rfl⟩))
 go_end0
 exact pset ((H.out.set0 _).set1 _) ((chg1 _ _ _ _).trans (chg1 _ _ _ _))
theorem ckslot_any(w:World)(b:Nat)(x y z p:Int)(h:Ck w b x y z)(hy: -1000000000000≤y∧y≤1000000000000)(hz:0≤z∧z≤1000000):
  Calls Tryz.prog 93 #[.pointer (some ⟨b,0,none⟩),.int .i64 p] w (PSet b w x (y+cutf p 100*10000) (z+1)):=by
 obtain⟨hy0,hy1⟩:=hy
 obtain⟨hz0,hz1⟩:=hz
 obtain⟨hc0,hc1⟩:=cutf_bd p 100 (by omega)
 have c1:=h.c1
 have c2:=h.c2
 have f1:=h.f 1
 have f2:=h.f 2
 have H:=qQ h
 clear h
 go_enter Tryz.func93,Tryz.ntmps93
 go_wp2_with fail
 have K:=(H.out.set2 (z+1))
 have G:=chg1 w b 2 (.int .i64 (z+1))
 clear c1 c2 f1 f2
 have c1:=K.c1
 have f1:=K.f 1
 have HK:=qQ K
 clear K
 generalize w.setCell ⟨b,2,none⟩ (.int .i64 (z+1))=w1 at *
 have e1:IntKind.i64.wrap (cutf p 100*10000)=cutf p 100*10000:=IntWalk.i64_in _ (by omega)
 have e2:IntKind.i64.wrap (y+cutf p 100*10000)=y+cutf p 100*10000:=IntWalk.i64_in _ (by omega)
 go_still_tail 8,(by kernel_rfl)
 still_call (ckcut_any _ _ _ (by omega) (by omega))
 repeat still_step
 refine wpStill_nil ?_
 change wpList _ _ _ _ _ w1.drew
 clear e1 e2
 have K2:Ck w1.drew b x y (z+1):=HK.out
 have HK2:=qQ K2
 have f2:=K2.f 1
 have c2:=K2.c1
 have G2:=G.trans (Chg.drew _ w1)
 clear K2
 generalize w1.drew=w2 at *
 go_wp2
 go_end0
 exact pset (HK2.out.set1 _) (G2.trans (chg1 _ _ _ _))
theorem ckmove_any(w:World)(b:Nat)(x y z n:Int)(h:Ck w b x y z)(hx: -1000000000000000≤x∧x≤1000000000000000):
  Calls Tryz.prog 205 #[.pointer (some ⟨b,0,none⟩),.int .i64 n] w (PSet b w (cutf (x+cutf n 1000000) 1000000000000) y z):=by
 obtain⟨hx0,hx1⟩:=hx
 obtain⟨hc0,hc1⟩:=cutf_bd n 1000000 (by omega)
 have c0:=h.c0
 have f0:=h.f 0
 have H:=qQ h
 clear h
 go_enter Tryz.func205,Tryz.ntmps205
 go_wp2_with fail
 have e1:IntKind.i64.wrap (x+cutf n 1000000)=x+cutf n 1000000:=IntWalk.i64_in _ (by omega)
 go_still_tail 9,(by kernel_rfl)
 still_call (ckcut_any _ _ _ (by omega) (by omega))
 repeat still_step
 still_call (ckcut_any _ _ _ (by omega) (by omega))
 repeat still_step
 refine wpStill_nil ?_
 change wpList _ _ _ _ _ w.drew
 clear e1
 have K2:Ck w.drew b x y z:=H.out
 have HK2:=qQ K2
 have c2:=K2.c0
 have f2:=K2.f 0
 have G2:=Chg.drew (· =b) w
 clear K2
 generalize w.drew=w2 at *
 go_wp2
 go_end0
 exact pset (HK2.out.set0 _) (G2.trans (chg1 _ _ _ _))
def PNewAt(w:World)(P:Nat→World→Prop)(e:Ending)(w':World):Prop:=∃b,e= .returned (.pointer (some ⟨b,0,none⟩))∧P b w'∧w.heap.size≤b∧Chg (λ_=>False) w w'
theorem cknew_any(w:World):Calls Tryz.prog 50 #[] w (PNewAt w (λb w'=>Ck w' b 0 0 0)):=by
 go_enter Tryz.func50,Tryz.ntmps50
 go_wp2_with fail
 go_ret
 exact⟨_,rfl,qV _ _,Nat.le_refl _,Chg.alloc _ _ _⟩
def Kp(w:World)(b:Nat)(ev s:Int):Prop:=w.heap[b]? =some (.cells #[.int .i64 ev,.int .i64 s] 206 (0,0))
def PKeep(b:Nat)(w:World)(ev s:Int)(e:Ending)(w':World):Prop:=e= .returned (.tuple #[])∧Kp w' b ev s∧Chg (· =b) w w'
def PBool(w:World)(v:Bool)(e:Ending)(w':World):Prop:=e= .returned (.bool v)∧Chg (λ_=>False) w w'
theorem Kp.set{w:World}{b:Nat}{ev s:Int}(h:Kp w b ev s)(t:Int):Kp (w.setCell ⟨b,1,none⟩ (.int .i64 t)) b ev t:=by
 have:=qB h 1 (.int .i64 t)
 simpa [Kp] using this
theorem Kp.c0{w:World}{b:Nat}{ev s:Int}(h:Kp w b ev s):w.cell? ⟨b,0,none⟩=some (.int .i64 ev):=by
 rw[qJ h];rfl
theorem Kp.c1{w:World}{b:Nat}{ev s:Int}(h:Kp w b ev s):w.cell? ⟨b,1,none⟩=some (.int .i64 s):=by
 rw[qJ h];rfl
theorem Kp.f1{w:World}{b:Nat}{ev s:Int}(h:Kp w b ev s):w.frozen? ⟨b,1,none⟩=false:=qK h 1
theorem kppset{w:World}{b:Nat}{ev s:Int}(h:Kp w b ev s){t u:Int}(e:t=u):
  PKeep b w ev u (.returned (.tuple #[])) (w.setCell ⟨b,1,none⟩ (.int .i64 t)):=
 ⟨rfl,e▸h.set t,Chg.set _ _ _ rfl⟩
theorem Kp.keep{w w':World}{b:Nat}{ev s:Int}{S:Nat→Prop}(h:Kp w b ev s)(g:Chg S w w')(hs:¬S b):Kp w' b ev s:=Chg.keep g h hs
theorem Kp.kept{w w':World}{b:Nat}{ev s:Int}(h:Kp w b ev s)(g:Chg (λ_=>False) w w'):Kp w' b ev s:=Chg.keep g h (λf=>f)
theorem kpslot_any(w:World)(b:Nat)(ev s t:Int)(h:Kp w b ev s)(h0:0≤s)(h1:s≤1000000)(ht:t=min (s+1) 1000000):
  Calls Tryz.prog 72 #[.pointer (some ⟨b,0,none⟩)] w (PKeep b w ev t):=by
 have c1:=h.c1
 have f1:=h.f1
 have H:=qQ h
 have HT:=qQ ht
 clear h ht
 go_enter Tryz.func72,Tryz.ntmps72
 go_wp2
 all_goals
  go_end0
  exact kppset H.out (by have:=HT.out;omega)
theorem kpheard_any(w:World)(b:Nat)(ev s:Int)(h:Kp w b ev s):
  Calls Tryz.prog 206 #[.pointer (some ⟨b,0,none⟩)] w (PKeep b w ev 0):=by
 have c1:=h.c1
 have f1:=h.f1
 have H:=qQ h
 clear h
 go_enter Tryz.func206,Tryz.ntmps206
 go_wp2
 go_end0
 exact kppset H.out rfl
theorem kpdue_quiet(w:World)(b:Nat)(ev s:Int)(v:Bool)(h:Kp w b ev s)(hv:decide (ev≤s)=v):
  Calls Tryz.prog 97 #[.pointer (some ⟨b,0,none⟩)] w λe w'=>e= .returned (.bool v)∧∃m,w'=w.drewN m:=by
 subst hv
 have c0:=h.c0
 have c1:=h.c1
 clear h
 go_enter Tryz.func97,Tryz.ntmps97
 go_wp2
 go_quiet (fail)
 go_wp2
 go_ret
 exact⟨rfl,_,rfl⟩
theorem kpdue_any(w:World)(b:Nat)(ev s:Int)(v:Bool)(h:Kp w b ev s)(hv:decide (ev≤s)=v):
  Calls Tryz.prog 97 #[.pointer (some ⟨b,0,none⟩)] w (PBool w v):=
 (kpdue_quiet w b ev s v h hv).mono λe w' ⟨he,m,hm⟩=>⟨he,hm▸Chg.drewN _ _ _⟩
theorem kpnew_any(n:Int)(h1:1≤n)(h2:n≤10000)(w:World):Calls Tryz.prog 157 #[.int .i64 n] w (PNewAt w (λb w'=>Kp w' b n 0)):=by
 have e:max 1 (min n 10000)=n:=by omega
 rcases (by omega:n<10000∨n=10000) with h|rfl
 ·rcases (by omega:1<n∨n=1) with h3|rfl
  all_goals
   clear e
   go_enter Tryz.func157,Tryz.ntmps157
   go_wp2_with fail
   go_ret
   exact⟨_,rfl,qV _ _,Nat.le_refl _,Chg.alloc _ _ _⟩
 ·clear e
  go_enter Tryz.func157,Tryz.ntmps157
  go_wp2_with fail
  go_ret
  exact⟨_,rfl,qV _ _,Nat.le_refl _,Chg.alloc _ _ _⟩
open Go.MapKept
def ik(n:Int):Value:= .int .i64 n
theorem ik_key(n:Int):IsKey (.int .i64) (ik n):=rfl
theorem ik_inj{a b:Int}(h:ik a=ik b):a=b:=by unfold ik at h;cases h;rfl
def Mp(w:World)(b:Nat)(f:Int→Option Value):Prop:=
 ∃es clock,w.heap[b]? =some (.map es clock)∧Stamped es clock∧(∀x∈es.toList,IsKey (.int .i64) x.key)∧∀n v,f n=some v↔∃x∈es.toList,x.key=ik n∧x.val=v
theorem Mp.lt{w:World}{b:Nat}{f:Int→Option Value}(h:Mp w b f):b<w.heap.size:=by
 obtain⟨es,c,hb,_⟩:=h;exact qX hb
theorem Mp.keep{w w':World}{b:Nat}{f:Int→Option Value}{S:Nat→Prop}(h:Mp w b f)(g:Chg S w w')(hs:¬S b):Mp w' b f:=by
 obtain⟨es,c,hb,r⟩:=h;exact⟨es,c,Chg.keep g hb hs,r⟩
theorem Mp.made(w:World):Mp (w.alloc (.map #[] 0)) w.heap.size (λ_=>none):=
 ⟨#[],0,qV _ _,stamped_empty 0,by simp,by simp⟩
theorem Mp.congr{w:World}{b:Nat}{f g:Int→Option Value}(h:Mp w b f)(e:∀n,f n=g n):Mp w b g:=by
 have:f=g:=funext e
 exact this▸h
section
variable {P:Program}{w:World}{b:Nat}{f:Int→Option Value}{t k e:TypeId}
theorem Mp.find(h:Mp w b f)(n:Int):∃es clock,w.heap[b]? =some (.map es clock)∧Stamped es clock∧(∀x∈es.toList,IsKey (.int .i64) x.key)∧(∀n v,f n=some v↔∃x∈es.toList,x.key=ik n∧x.val=v)∧
  ((Instr.findNow (.int .i64) (ik n) es.toList 0=some none∧f n=none∧∀x∈es.toList,x.key≠ik n)∨
   ∃j x,Instr.findNow (.int .i64) (ik n) es.toList 0=some (some (j,x.val))∧es[j]? =some x∧x.key=ik n∧f n=some x.val):=by
 obtain⟨es,clock,hb,hs,hk,hf⟩:=h
 refine⟨es,clock,hb,hs,hk,hf,?_⟩
 rcases findNow_spec (ik_key n) es.toList 0 hk with ⟨h1,h2⟩|⟨j,x,h1,h2,h3⟩
 ·left
  refine⟨h1,?_,h2⟩
  cases hfn:f n with
  |none=>rfl
  |some v=>
   obtain⟨x,hx,hxk,_⟩:=(hf n v).1 hfn
   exact absurd hxk (h2 x hx)
 ·right
  refine⟨j,x,by simpa using h1,by simpa using h2,h3,(hf n x.val).2 ⟨x,List.mem_of_getElem? h2,h3,rfl⟩⟩
theorem Mp.lookup(h:Mp w b f)(ht:P.underlying t=some (.map k e))(hk:P.underlying k=some (.int .i64)){z:Value}(hz:(zeroValue e).run P w= .ok z w)(n:Int):
  (Instr.lookup t (.map (some b)) (ik n) true).run P w= .ok (.tuple #[(f n).getD z,.bool (f n).isSome]) w:=by
 obtain⟨es,clock,hb,hs,hks,hf,h|⟨j,x,h1,h2,h3,h4⟩⟩:=h.find n
 ·simp[Instr.lookup,run_underlying ht,MapKept.run_getObj_map hb,run_checkKey hk (ik_key n),run_findKey hk h.1,Result.andThen,hz,h.2.1]
 ·simp[Instr.lookup,run_underlying ht,MapKept.run_getObj_map hb,run_checkKey hk (ik_key n),run_findKey hk h1,Result.andThen,h4]
theorem Mp.lookup1(h:Mp w b f)(ht:P.underlying t=some (.map k e))(hk:P.underlying k=some (.int .i64)){z:Value}(hz:(zeroValue e).run P w= .ok z w)(n:Int):
  (Instr.lookup t (.map (some b)) (ik n) false).run P w= .ok ((f n).getD z) w:=by
 obtain⟨es,clock,hb,hs,hks,hf,h|⟨j,x,h1,h2,h3,h4⟩⟩:=h.find n
 ·simp[Instr.lookup,run_underlying ht,MapKept.run_getObj_map hb,run_checkKey hk (ik_key n),run_findKey hk h.1,Result.andThen,hz,h.2.1]
 ·simp[Instr.lookup,run_underlying ht,MapKept.run_getObj_map hb,run_checkKey hk (ik_key n),run_findKey hk h1,Result.andThen,h4]
theorem chg_block{b:Nat}{w:World}{o o':Obj}(hb:w.heap[b]? =some o):Chg (· =b) w {w with heap:=w.heap.setIfInBounds b o'}:=
 ⟨rfl,rfl,rfl,by simp,λi _ hi=>(heap_set hb).2 i hi⟩
theorem kV{es:Array MapEntry}{j:Nat}{g:MapEntry→MapEntry}{y:MapEntry}:y∈(es.modify j g).toList↔∃i x,es[i]? =some x∧y=if j=i then g x else x:=by
 constructor
 ·intro h
  obtain⟨i,hi,e⟩:=List.getElem_of_mem h
  have h1:(es.modify j g)[i]? =some y:=by rw[←Array.getElem?_toList,List.getElem?_eq_getElem hi,e]
  rw[Array.getElem?_modify] at h1
  by_cases hji:j=i
  ·rw[if_pos hji] at h1
   cases hx:es[i]? with
   |none=>rw[hx] at h1;cases h1
   |some x=>rw[hx] at h1;cases h1;exact⟨i,x,hx,by rw[if_pos hji]⟩
  ·rw[if_neg hji] at h1
   exact⟨i,y,h1,by rw[if_neg hji]⟩
 ·rintro ⟨i,x,hx,rfl⟩
  have h1:(es.modify j g)[i]? =some (if j=i then g x else x):=by
   rw[Array.getElem?_modify]
   by_cases hji:j=i
   ·rw[if_pos hji,if_pos hji,hx];rfl
   ·rw[if_neg hji,if_neg hji,hx]
  rw[←Array.getElem?_toList] at h1
  exact List.mem_of_getElem? h1
theorem key_once{es:Array MapEntry}{clock:Nat}(hs:Stamped es clock){i j:Nat}{x y:MapEntry}(hi:es[i]? =some x) (hj:es[j]? =some y) (e:x.key=y.key):i=j:=by
 have hn:=hs.2.2
 have h1:(es.toList.map (·.key))[i]? =some x.key:=by rw[List.getElem?_map,Array.getElem?_toList,hi];rfl
 have h2:(es.toList.map (·.key))[j]? =some x.key:=by rw[List.getElem?_map,Array.getElem?_toList,hj,e];rfl
 obtain⟨hi',e1⟩:=List.getElem?_eq_some_iff.1 h1
 obtain⟨hj',e2⟩:=List.getElem?_eq_some_iff.1 h2
 have hp:=List.pairwise_iff_getElem.1 hn
 rcases Nat.lt_trichotomy i j with q|q|q
 ·exact absurd (e1.trans e2.symm) (hp i j hi' hj' q)
 ·exact q
 ·exact absurd (e2.trans e1.symm) (hp j i hj' hi' q)
theorem Mp.update(h:Mp w b f)(ht:P.underlying t=some (.map k e))(hk:P.underlying k=some (.int .i64))(n:Int)(v:Value):
  ∃w',(Instr.mapUpdate t (.map (some b)) (ik n) v).run P w= .ok () w'∧Mp w' b (λm=>if m=n then some v else f m)∧Chg (· =b) w w':=by
 obtain⟨es,clock,hb,hs,hks,hf,⟨h1,h2,h3⟩|⟨j,x,h1,h2,h3,h4⟩⟩:=h.find n
 ·refine⟨{w with heap:=w.heap.setIfInBounds b (.map (es.push {key:=ik n,val:=v,born:=clock}) (clock+1))},by simp[Instr.mapUpdate,run_underlying ht,MapKept.run_getObj_map hb,run_checkKey hk (ik_key n),run_findKey hk h1,run_setObj_map _ hb,Result.andThen],⟨es.push {key:=ik n,val:=v,born:=clock},clock+1,(heap_set hb).1,stamped_push hs h3,?_,?_⟩,chg_block hb⟩
  ·intro x hx
   simp only[Array.toList_push,List.mem_append,List.mem_singleton] at hx
   rcases hx with hx|rfl
   ·exact hks x hx
   ·exact ik_key n
  ·intro m u;dsimp only
   simp only[Array.toList_push,List.mem_append,List.mem_singleton]
   by_cases hm:m=n
   ·subst hm
    rw[if_pos rfl]
    constructor
    ·intro hu;cases hu;exact⟨_,.inr rfl,rfl,rfl⟩
    ·rintro ⟨x,hx|rfl,hxk,rfl⟩
     ·exact absurd hxk (h3 x hx)
     ·rfl
   ·rw[if_neg hm,hf m u]
    constructor
    ·rintro ⟨x,hx,r⟩;exact⟨x,.inl hx,r⟩
    ·rintro ⟨x,hx|rfl,hxk,hxv⟩
     ·exact⟨x,hx,hxk,hxv⟩
     ·exact absurd (ik_inj hxk).symm hm
 ·have hkey:∀e',es[j]? =some e'→({e' with key:=ik n,val:=v}:MapEntry).key=e'.key:=λe' he'=>by rw[h2] at he';cases he';exact h3.symm
  refine⟨{w with heap:=w.heap.setIfInBounds b (.map (es.modify j λe=>{e with key:=ik n,val:=v}) clock)},by simp[Instr.mapUpdate,run_underlying ht,MapKept.run_getObj_map hb,run_checkKey hk (ik_key n),run_findKey hk h1,h2,h3,run_keyThatStays (ik_key n),run_setObj_map _ hb,Result.andThen],
   ⟨es.modify j λe=>{e with key:=ik n,val:=v},clock,(heap_set hb).1,stamped_modify hs _ _ (λ_ _=>rfl) (λe' _ he'=>hkey e' he'),isKey_modify hks _ _ hkey,?_⟩,chg_block hb⟩
  intro m u;dsimp only
  by_cases hm:m=n
  ·subst hm
   rw[if_pos rfl]
   constructor
   ·intro hu;cases hu
    exact⟨_,kV.2 ⟨j,x,h2,rfl⟩,by rw[if_pos rfl],by rw[if_pos rfl]⟩
   ·rintro ⟨y,hy,hyk,rfl⟩
    obtain⟨i,z,hi,rfl⟩:=kV.1 hy
    by_cases hji:j=i
    ·rw[if_pos hji]
    ·rw[if_neg hji] at hyk
     exact absurd (key_once hs h2 hi (h3.trans hyk.symm)) hji
  ·rw[if_neg hm,hf m u]
   constructor
   ·rintro ⟨y,hy,hyk,hyv⟩
    obtain⟨i,hi,e0⟩:=List.getElem_of_mem hy
    have hi2:es[i]? =some y:=by rw[←Array.getElem?_toList,List.getElem?_eq_getElem hi,e0]
    have hji:¬j=i:=λq=>by subst q;rw[h2] at hi2;cases hi2;exact hm (ik_inj (hyk.symm.trans h3))
    exact⟨y,kV.2 ⟨i,y,hi2,by rw[if_neg hji]⟩,hyk,hyv⟩
   ·rintro ⟨y,hy,hyk,hyv⟩
    obtain⟨i,z,hi,rfl⟩:=kV.1 hy
    by_cases hji:j=i
    ·rw[if_pos hji] at hyk;exact absurd (ik_inj hyk).symm hm
    ·rw[if_neg hji] at hyk hyv
     exact⟨z,by rw[←Array.getElem?_toList] at hi;exact List.mem_of_getElem? hi,hyk,hyv⟩
end
theorem jr{a b:Bool}(h:a=b):Ending.returned (.bool a)= .returned (.bool b):=by rw[h]
def lim(m:Int):Int:=max 0 (min m 1000)
def meas(a b e m:Int):Int:=cutf (cutf b 1000000000000-cutf a 1000000000000+cutf e (lim m)) 30000
def jQ(a b g:Int):Bool:=decide (0≤g∧max a b-min a b≤g)
theorem offcut_any(n m:Int)(w:World)(h0:0≤m)(h1:m≤1000000000000):
  Calls Tryz.prog 109 #[.int .i64 n,.int .i64 m] w λe w'=>e= .returned (.int .i64 (cutf n m))∧w'=w:=by
 go_enter Tryz.func109,Tryz.ntmps109
 go_wp2
 all_goals
  go_ret
  refine⟨ret_int ?_,rfl⟩
  unfold cutf
  split at * <;> omega
theorem lim_bd(m:Int):0≤lim m∧lim m≤1000:=by unfold lim;omega
theorem measure_any(a b e m:Int)(w:World):
  Calls Tryz.prog 64 #[.int .i64 a,.int .i64 b,.int .i64 e,.int .i64 m] w λr w'=>r= .returned (.int .i64 (meas a b e m))∧w'=w:=by
 obtain⟨a0,a1⟩:=cutf_bd a 1000000000000 (by omega)
 obtain⟨b0,b1⟩:=cutf_bd b 1000000000000 (by omega)
 obtain⟨l0,l1⟩:=lim_bd m
 obtain⟨c0,c1⟩:=cutf_bd e (lim m) (by omega)
 obtain⟨L,hL⟩:=qZ (lim m)
 unfold meas
 rw[←hL] at l0 l1 c0 c1 ⊢
 have hL':L=max 0 (min m 1000):=hL
 clear hL
 go_enter Tryz.func64,Tryz.ntmps64
 rcases (by omega:(m≤0∧L=0)∨(1000<m∧L=1000)∨(0<m∧m≤1000∧L=m)) with ⟨h1,rfl⟩|⟨h1,rfl⟩|⟨h1,h2,rfl⟩
 all_goals
  clear hL'
  go_wp2_with (go_at_call 109;refine (offcut_any _ _ _ (by omega) (by omega)).mono ?_;rintro r w' ⟨rfl,rfl⟩)
  go_ret
  exact⟨rfl,rfl⟩
theorem i64_bd{x:Int}(h:(Lit.int .i64 x).wf=true): -9223372036854775808≤x∧x≤9223372036854775807:=by
 simp only[Lit.wf,IntKind.min,IntKind.max,IntKind.signed,IntKind.bits,Bool.and_eq_true] at h
 simp at h;omega
theorem u64w(n:Int):IntKind.u64.wrap n=n % 18446744073709551616:=by
 simp[IntKind.wrap,IntKind.bits,IntKind.signed]
theorem within_yes{x y g:Int}(hx:(Lit.int .i64 x).wf=true)(hy:(Lit.int .i64 y).wf=true)(hg:(Lit.int .i64 g).wf=true)(h:x≤y)(h0:0≤g):
  decide (IntKind.u64.wrap (IntKind.u64.wrap y-IntKind.u64.wrap x)≤IntKind.u64.wrap g)=decide (y-x≤g):=by
 obtain⟨x0,x1⟩:=i64_bd hx
 obtain⟨y0,y1⟩:=i64_bd hy
 obtain⟨g0,g1⟩:=i64_bd hg
 rw[decide_eq_decide,u64w,u64w,u64w,u64w]
 omega
theorem wb_lt{a b g:Int}(h:a≤b)(h0:0≤g):jQ a b g=decide (b-a≤g):=by
 unfold jQ;rw[decide_eq_decide];omega
theorem wb_gt{a b g:Int}(h:b≤a)(h0:0≤g):jQ a b g=decide (a-b≤g):=by
 unfold jQ;rw[decide_eq_decide];omega
theorem wb_self{a g:Int}(h0:0≤g):jQ a a g=true:=by unfold jQ;rw[decide_eq_true_iff];omega
theorem wb_no{a b g:Int}(h0:g<0):jQ a b g=false:=by
 unfold jQ;rw[decide_eq_false_iff_not];omega
theorem within_any(a b g:Int)(w:World)(ha:(Lit.int .i64 a).wf=true)(hb:(Lit.int .i64 b).wf=true)(hg:(Lit.int .i64 g).wf=true):
  Calls Tryz.prog 105 #[.int .i64 a,.int .i64 b,.int .i64 g] w λr w'=>r= .returned (.bool (jQ a b g))∧w'=w:=by
 have HA:=qQ ha
 have HB:=qQ hb
 have HG:=qQ hg
 clear ha hb hg
 by_cases h0:0≤g
 ·rcases (by omega:a<b∨b<a∨a=b) with h|h|rfl
  ·go_enter Tryz.func105,Tryz.ntmps105
   go_wp2
   go_ret
   exact⟨jr ((within_yes HA.out HB.out HG.out (by omega) h0).trans (wb_lt (by omega) h0).symm),rfl⟩
  ·go_enter Tryz.func105,Tryz.ntmps105
   go_wp2
   go_ret
   exact⟨jr ((within_yes HB.out HA.out HG.out (by omega) h0).trans (wb_gt (by omega) h0).symm),rfl⟩
  ·go_enter Tryz.func105,Tryz.ntmps105
   go_wp2
   go_ret
   exact⟨jr (wb_self h0).symm,rfl⟩
 ·have HF:=qQ (wb_no (a:=a) (b:=b) (by omega:g<0))
  rcases (by omega:a<b∨b<a∨a=b) with h|h|rfl
  all_goals
   go_enter Tryz.func105,Tryz.ntmps105
   go_wp2
   go_ret
   exact⟨jr HF.out.symm,rfl⟩
abbrev Cls:=Nat→Nat
def Z(w:World)(own:Cls):Prop:=∀k,w.heap.size≤k→own k=0
def Ext(w:World)(own own':Cls):Prop:=∀k,k<w.heap.size→own' k=own k
theorem Ext.refl(w:World)(own:Cls):Ext w own own:=λ_ _=>rfl
theorem Ext.trans{w w':World}{o1 o2 o3:Cls}(h:Ext w o1 o2)(k:Ext w' o2 o3)(hs:w.heap.size≤w'.heap.size):Ext w o1 o3:=
 λi hi=>(k i (by omega)).trans (h i hi)
theorem Z.more{w w':World}{own:Cls}(h:Z w own)(hs:w.heap.size≤w'.heap.size):Z w' own:=λk hk=>h k (by omega)
def cls(own:Cls)(b c:Nat):Cls:=λk=>if k=b then c else own k
theorem jX(own:Cls)(b c:Nat):cls own b c b=c:=by simp[cls]
theorem cls_ne(own:Cls)(b c:Nat){k:Nat}(h:k≠b):cls own b c k=own k:=by simp[cls,h]
theorem Ext.cls{w:World}(own:Cls)(b c:Nat)(h:w.heap.size≤b):Ext w own (cls own b c):=λk hk=>cls_ne own b c (by omega)
theorem Z.cls{w:World}{own:Cls}(h:Z w own){b:Nat}(c:Nat)(hb:b<w.heap.size):Z w (cls own b c):=λk hk=>by
 rw[cls_ne own b c (by omega)];exact h k hk
def Of(own:Cls)(c:Nat):Nat→Prop:=λk=>own k=c
def Ro{α:Type}(V:α→Value)(w:World)(own:Cls)(a:Option Addr)(len:Nat)(zs:List α):Prop:=
 zs.length=len∧∀i (h:i<zs.length),∃x,a=some x∧own x.block=0∧w.cell? (x.add i)=some (V zs[i])
section
variable {α:Type}{V:α→Value}{w w':World}{own own':Cls}{len:Nat}{a:Option Addr}{zs:List α}
theorem Ro.nil(V:α→Value)(w:World)(own:Cls)(a:Option Addr):Ro V w own a 0 []:=⟨rfl,λi h=>absurd h (Nat.not_lt_zero _)⟩
theorem Ro.rs(h:Ro V w own a len zs):Rs V w w.heap.size a len zs:=
 ⟨h.1,λi hi=>by
  obtain⟨x,e,hb,hc⟩:=h.2 i hi
  have h1:=qG hc
  rw[zJ] at h1
  exact⟨x,e,h1,hc⟩⟩
theorem Ro.keep{S:Nat→Prop}(h:Ro V w own a len zs)(g:Chg S w w')(hS:∀j,own j=0→¬S j):Ro V w' own a len zs:=
 ⟨h.1,λi hi=>by
  obtain⟨x,e,hb,hc⟩:=h.2 i hi
  have hx:=zJ x i
  exact⟨x,e,hb,by rw[g.cell (qG hc) (λs=>hS _ hb (hx▸s)),hc]⟩⟩
theorem Ro.ext(h:Ro V w own a len zs)(e:Ext w own own'):Ro V w own' a len zs:=
 ⟨h.1,λi hi=>by
  obtain⟨x,e1,hb,hc⟩:=h.2 i hi
  have h1:=qG hc
  rw[zJ] at h1
  exact⟨x,e1,by rw[e _ h1,hb],hc⟩⟩
theorem Ro.of_own{base e:Nat}{v:Value}{n:Nat}(h:w.ownsRow base e 1 v n (zs.map V))(hz:∀k,base≤k→own k=0):∃a c,v= .slice a n c∧Ro V w own a n zs∧(a=none→c=0):=by
 have hl:zs.length=n:=by have:=h.1;simpa using this
 rcases h.2 with ⟨rfl,rfl⟩|⟨g,cap,cur,rfl,hb,hg,_⟩
 ·obtain rfl:=List.eq_nil_of_length_eq_zero hl
  exact⟨_,_,rfl,Ro.nil _ _ _ _,λ_=>rfl⟩
 ·refine⟨_,_,rfl,⟨hl,λi hi=>⟨_,rfl,hz g hb,?_⟩⟩,λe=>by cases e⟩
  have:=qp h i (V zs[i]) (by simp[List.getElem?_eq_getElem hi])
  rw[add_mk,Nat.zero_add];exact this
theorem Ro.at(h:Ro V w own a len zs){i:Nat}(hi:i<len):∃x z,a=some x∧zs[i]? =some z∧w.cell? (x.add i)=some (V z):=by
 have hl:=h.1
 obtain⟨x,e,hb,hc⟩:=h.2 i (by omega)
 exact⟨x,zs[i]'(by omega),e,by simp,hc⟩
end
def RV(V:Int→Value)(w:World)(own:Cls)(v:Value)(L:List Int):Prop:=
 ∃A c,v= .slice A L.length c∧Ro V w own A L.length L∧(A=none→c=0)∧L.length≤c∧c≤maxLen
def BO(w:World)(own:Cls)(v:Value)(L:List Int):Prop:=RV V8 w own v L∧∀x∈L,0≤x∧x<256
section
variable {V:Int→Value}{w w':World}{own own':Cls}{v:Value}{L:List Int}
theorem RV.nil(V:Int→Value)(w:World)(own:Cls):RV V w own (.slice none 0 0) []:=⟨none,0,rfl,Ro.nil _ _ _ _,λ_=>rfl,Nat.le_refl _,Nat.zero_le _⟩
theorem RV.keep{S:Nat→Prop}(h:RV V w own v L)(g:Chg S w w')(hS:∀j,own j=0→¬S j):RV V w' own v L:=by
 obtain⟨A,c,h1,h2,h3⟩:=h
 exact⟨A,c,h1,h2.keep g hS,h3⟩
theorem RV.ext(h:RV V w own v L)(e:Ext w own own'):RV V w own' v L:=by
 obtain⟨A,c,h1,h2,h3⟩:=h
 exact⟨A,c,h1,h2.ext e,h3⟩
theorem RV.of_own{base e:Nat}(h:w.ownsRow base e 1 v L.length (L.map V))(hz:∀k,base≤k→own k=0):RV V w own v L:=by
 obtain⟨A,c,rfl,h2,h3⟩:=Ro.of_own h hz
 refine⟨A,c,rfl,h2,h3,?_,?_⟩
 ·rcases h.2 with ⟨e,h0⟩|⟨g,cap,cur,e,_,_,hc,hm,_⟩
  ·have:=h.1;rw[h0] at this;simp at this;rw[this];exact Nat.zero_le _
  ·cases e;exact hc
 ·rcases h.2 with ⟨e,h0⟩|⟨g,cap,cur,e,_,_,hc,hm,_⟩
  ·simp at e;rw[e.2.2];exact Nat.zero_le _
  ·cases e;exact hm
theorem BO.nil(w:World)(own:Cls):BO w own (.slice none 0 0) []:=⟨RV.nil _ _ _,λx hx=>by cases hx⟩
theorem BO.keep{S:Nat→Prop}(h:BO w own v L)(g:Chg S w w')(hS:∀j,own j=0→¬S j):BO w' own v L:=⟨h.1.keep g hS,h.2⟩
theorem BO.ext(h:BO w own v L)(e:Ext w own own'):BO w own' v L:=⟨h.1.ext e,h.2⟩
theorem BO.bs(h:BO w own v L):BS w w.heap.size v L:=by
 obtain⟨⟨A,c,h1,h2,h3,h4,h5⟩,h6⟩:=h
 exact⟨A,c,h1,h2.rs,h3,h4,h5,h6⟩
theorem BO.of_own{base:Nat}(h:w.ownsRow base 5 1 v L.length (L.map V8))(hb:∀x∈L,0≤x∧x<256)(hz:∀k,base≤k→own k=0):BO w own v L:=⟨RV.of_own h hz,hb⟩
end
structure RS where
 l:List Int
 e:Int
def num(l:List Int):Int:=l.foldl (λa x=>a*256+x) 0
def qk(s:RS)(m:Nat):Int:=if s.e=0∧m≤s.l.length then num (s.l.take m) else 0
def qN(s:RS)(m:Nat):RS:=if s.e=0 then (if m≤s.l.length then ⟨s.l.drop m,0⟩ else ⟨[],2⟩) else s
def jY(s:RS)(n:Int):List Int:=if s.e=0∧n≤s.l.length then s.l.take n.toNat else []
def zP(s:RS)(n:Int):RS:=if n≤0 then s else if s.e=0 then (if n≤s.l.length then ⟨s.l.drop n.toNat,0⟩ else ⟨[],2⟩) else s
def rEnd(s:RS):Int:=if s.e=0 then (if s.l=[] then 0 else 3) else s.e
def Rx(w:World)(r:Nat)(s:RS):Prop:=
 ∃(a:Option Addr) (c:Nat) (L:List Int) (k:Nat),Rd w r a c L (8*k:Nat) s.e∧L.length≤100000∧(∀x∈L,0≤x∧x<256)∧k≤L.length∧s.l=L.drop k∧(s.e=0∨s.e=2)∧(s.e≠0→s.l=[])
def PRx(w:World)(r:Nat)(s:RS)(v:Value)(en:Ending)(w':World):Prop:=en= .returned v∧Rx w' r s∧Chg (· =r) w w'
theorem Rx.keep{S:Nat→Prop}{w w':World}{r:Nat}{s:RS}(h:Rx w r s)(g:Chg S w w')(hS:∀j,j≤r→¬S j):Rx w' r s:=by
 obtain⟨a,c,L,k,h1,h2⟩:=h
 exact⟨a,c,L,k,h1.keep g hS,h2⟩
theorem Rx.kept{w w':World}{r:Nat}{s:RS}(h:Rx w r s)(g:Chg (λ_=>False) w w'):Rx w' r s:=h.keep g (λ_ _ e=>e)
theorem Rx.lt{w:World}{r:Nat}{s:RS}(h:Rx w r s):r<w.heap.size:=by
 obtain⟨a,c,L,k,h1,_⟩:=h
 exact qX h1.blk
theorem Rx.len{w:World}{r:Nat}{s:RS}(h:Rx w r s):s.l.length≤100000:=by
 obtain⟨a,c,L,k,h1,h2,h3,h4,h5,_⟩:=h
 rw[h5];simp;omega
theorem Rx.bytes{w:World}{r:Nat}{s:RS}(h:Rx w r s):∀x∈s.l,0≤x∧x<256:=by
 obtain⟨a,c,L,k,h1,h2,h3,h4,h5,h6,_⟩:=h
 rw[h5];intro x hx;exact h3 x (List.mem_of_mem_drop hx)
theorem num_snoc(l:List Int)(x:Int):num (l++[x])=num l*256+x:=by unfold num;simp
theorem take_num(L:List Int)(k m:Nat)(hb:∀x∈L,0≤x∧x<256)(hm:k+m≤L.length):take L k m=num ((L.drop k).take m):=by
 induction m with
 |zero=>rfl
 |succ m ih=>
  obtain⟨x,hx⟩:∃x,L[k+m]? =some x:=⟨_,List.getElem?_eq_getElem (by omega)⟩
  obtain⟨x0,x1⟩:=hb x (List.mem_of_getElem? hx)
  rw[bv_byte L k m x hx x0 x1,ih (by omega),List.take_add_one,List.getElem?_drop,hx]
  exact (num_snoc _ _).symm
theorem foldl_bd(l:List Int)(a:Int)(h0:0≤a)(hb:∀x∈l,0≤x∧x<256):0≤l.foldl (λa x=>a*256+x) a∧l.foldl (λa x=>a*256+x) a<(a+1)*256^l.length:=by
 induction l generalizing a with
 |nil=>simp;omega
 |cons x l ih=>
  have h2:=hb x (by simp)
  obtain⟨h3,h4⟩:=ih (a*256+x) (by omega) (λy hy=>hb y (by simp[hy]))
  refine⟨h3,Int.lt_of_lt_of_le h4 ?_⟩
  rw[List.length_cons,Int.pow_succ,Int.mul_comm (256^l.length) 256,←Int.mul_assoc]
  exact Int.mul_le_mul_of_nonneg_right (by omega) (Int.le_of_lt (Int.pow_pos (by omega)))
theorem num_bd(l:List Int)(hb:∀x∈l,0≤x∧x<256):0≤num l∧num l<256^l.length:=by
 have h:=foldl_bd l 0 (Int.le_refl _) hb
 simpa [num] using h
theorem zG{w:World}{r:Nat}{s:RS}(h:Rx w r s)(m:Nat):0≤qk s m∧qk s m<256^m:=by
 unfold qk
 split
 ·rename_i h1
  have h2:=num_bd (s.l.take m) (λx hx=>h.bytes x (List.mem_of_mem_take hx))
  rw[List.length_take,Nat.min_eq_left h1.2] at h2
  exact h2
 ·exact⟨Int.le_refl _,Int.pow_pos (by omega)⟩
theorem rx_take(w:World)(r:Nat)(s:RS)(m:Nat)(h:Rx w r s)(hm:m≤8):
  Calls Tryz.prog 162 #[.pointer (some ⟨r,0,none⟩),.int .i64 (8*m:Nat)] w (PRx w r (qN s m) (.int .u64 (qk s m))):=by
 obtain⟨a,c,L,k,h1,h2,h3,h4,h5,h6,h7⟩:=h
 rcases h6 with h6|h6
 ·have hl:s.l.length=L.length-k:=by rw[h5];simp
  rw[h6] at h1
  by_cases hlt:m≤s.l.length
  ·refine (take_ok w r a c L k m h1 h3 h2 hm (by omega)).mono ?_
   rintro e w1 ⟨rfl,R,G⟩
   refine⟨?_,⟨a,c,L,k+m,?_,h2,h3,by omega,?_,?_,?_⟩,G⟩
   ·unfold qk;rw[if_pos ⟨h6,hlt⟩,h5,take_num L k m h3 (by omega)]
   ·unfold qN;rw[if_pos h6,if_pos hlt];exact R
   ·unfold qN;rw[if_pos h6,if_pos hlt,h5];simp
   ·unfold qN;rw[if_pos h6,if_pos hlt];exact .inl rfl
   ·unfold qN;rw[if_pos h6,if_pos hlt];intro h;exact absurd rfl h
  ·refine (take_short w r a c L k m h1 h2 hm h4 (by omega)).mono ?_
   rintro e w1 ⟨rfl,R,G⟩
   refine⟨?_,⟨none,0,[],0,?_,by simp,(λx hx=>by cases hx),Nat.le_refl _,?_,?_,?_⟩,G⟩
   ·unfold qk;rw[if_neg (by omega)]
   ·unfold qN;rw[if_pos h6,if_neg hlt];exact R
   ·unfold qN;rw[if_pos h6,if_neg hlt];rfl
   ·unfold qN;rw[if_pos h6,if_neg hlt];exact .inr rfl
   ·unfold qN;rw[if_pos h6,if_neg hlt];intro;rfl
 ·have he:¬s.e=0:=by omega
  refine (take_bad w r a c L (8*k:Nat) s.e m h1 (by simpa using he) hm).mono ?_
  rintro e w1 ⟨rfl,R,G⟩
  have e1:qN s m=s:=by unfold qN;rw[if_neg he]
  refine⟨?_,?_,G⟩
  ·unfold qk;rw[if_neg (λh=>he h.1)]
  ·rw[e1];exact⟨a,c,L,k,R,h2,h3,h4,h5,.inr h6,h7⟩
def PTx(w:World)(r:Nat)(s:RS)(zs:List Int)(en:Ending)(w':World):Prop:=
 ∃v,en= .returned v∧w'.ownsRow w.heap.size 5 1 v zs.length (zs.map V8)∧Rx w' r s∧Chg (· =r) w w'∧(∀x∈zs,0≤x∧x<256)∧zs.length≤100000
theorem rx_text(w:World)(r:Nat)(s:RS)(n:Int)(h:Rx w r s)(hn:n≤100000):
  Calls Tryz.prog 113 #[.pointer (some ⟨r,0,none⟩),.int .i64 n] w (PTx w r (zP s n) (jY s n)):=by
 have hbb:=h.bytes
 have hlen:=h.len
 obtain⟨a,c,L,k,h1,h2,h3,h4,h5,h6,h7⟩:=h
 by_cases hn0:n≤0
 ·refine (rtext_zero w r a c L (8*k:Nat) s.e n h1 hn0).mono ?_
  rintro e w1 ⟨v,rfl,O,R,G⟩
  have e1:jY s n=[]:=by
   unfold jY;split
   ·rw[show n.toNat=0 from by omega];rfl
   ·rfl
  have e2:zP s n=s:=by unfold zP;rw[if_pos hn0]
  rw[e1,e2]
  exact⟨v,rfl,O,⟨a,c,L,k,R,h2,h3,h4,h5,h6,h7⟩,G,(λx hx=>by cases hx),by simp⟩
 rcases h6 with h6|h6
 ·have hl:s.l.length=L.length-k:=by rw[h5];simp
  rw[h6] at h1
  by_cases hlt:n≤s.l.length
  ·obtain⟨N,rfl⟩:∃N:Nat,n=N:=⟨n.toNat,by omega⟩
   refine (rtext_ok w r a c L k N h1 h3 (by omega) h2 (by omega)).mono ?_
   rintro e w1 ⟨v,rfl,O,R,G⟩
   have e1:jY s N=(L.drop k).take N:=by unfold jY;rw[if_pos ⟨h6,hlt⟩,h5];rfl
   have e2:zP s N=⟨L.drop (k+N),0⟩:=by unfold zP;rw[if_neg hn0,if_pos h6,if_pos hlt,h5];simp
   rw[e1,e2]
   refine⟨v,rfl,O,⟨a,c,L,k+N,R,h2,h3,by omega,rfl,.inl rfl,λh=>absurd rfl h⟩,G,(λx hx=>h3 x (List.mem_of_mem_drop (List.mem_of_mem_take hx))),by simp;omega⟩
  ·refine (rtext_short w r a c L k n h1 (by omega) hn h2 h4 (by omega)).mono ?_
   rintro e w1 ⟨v,rfl,O,R,G⟩
   have e1:jY s n=[]:=by unfold jY;rw[if_neg (λh=>hlt h.2)]
   have e2:zP s n=⟨[],2⟩:=by unfold zP;rw[if_neg hn0,if_pos h6,if_neg hlt]
   rw[e1,e2]
   exact⟨v,rfl,O,⟨none,0,[],0,R,by simp,(λx hx=>by cases hx),Nat.le_refl _,rfl,.inr rfl,λ_=>rfl⟩,G,(λx hx=>by cases hx),by simp⟩
 ·have he:¬s.e=0:=by omega
  refine (rtext_bad w r a c L (8*k:Nat) s.e n h1 (by simpa using he) (by omega) hn h2).mono ?_
  rintro e w1 ⟨v,rfl,O,R,G⟩
  have e1:jY s n=[]:=by unfold jY;rw[if_neg (λh=>he h.1)]
  have e2:zP s n=s:=by unfold zP;rw[if_neg hn0,if_neg he]
  rw[e1,e2]
  exact⟨v,rfl,O,⟨a,c,L,k,R,h2,h3,h4,h5,.inr h6,h7⟩,G,(λx hx=>by cases hx),by simp⟩
theorem rx_end(w:World)(r:Nat)(s:RS)(h:Rx w r s):
  Calls Tryz.prog 114 #[.pointer (some ⟨r,0,none⟩)] w (PRx w r s (.int .i64 (rEnd s))):=by
 have H:=h
 obtain⟨a,c,L,k,h1,h2,h3,h4,h5,h6,h7⟩:=h
 rcases h6 with h6|h6
 ·rw[h6] at h1
  by_cases hk:k<L.length
  ·refine (end_more w r a c L k h1 h2 hk).mono ?_
   rintro e w1 ⟨rfl,rfl⟩
   refine⟨?_,H.kept (Chg.drew _ _),Chg.drew _ _⟩
   unfold rEnd;rw[if_pos h6,if_neg]
   intro hh;rw[h5] at hh
   have:=congrArg List.length hh
   simp at this;omega
  ·obtain rfl:k=L.length:=by omega
   refine (end_ok w r a c L h1 h2).mono ?_
   rintro e w1 ⟨rfl,rfl⟩
   refine⟨?_,H.kept (Chg.drew _ _),Chg.drew _ _⟩
   unfold rEnd;rw[if_pos h6,if_pos]
   rw[h5];simp
 ·have he:¬s.e=0:=by omega
  refine (end_bad w r a c L (8*k:Nat) s.e h1 (by simpa using he)).mono ?_
  rintro e w1 ⟨rfl,rfl⟩
  refine⟨?_,H,Chg.refl _ _⟩
  unfold rEnd;rw[if_neg he]
def PNewRx(w:World)(L:List Int)(en:Ending)(w':World):Prop:=
 ∃r,en= .returned (.pointer (some ⟨r,0,none⟩))∧Rx w' r ⟨L,0⟩∧w.heap.size≤r∧Chg (λ_=>False) w w'
theorem rx_new(w:World)(v:Value)(L:List Int)(h:BS w w.heap.size v L)(hL:L.length≤100000):
  Calls Tryz.prog 111 #[v] w (PNewRx w L):=by
 obtain⟨A,c,rfl,hr,hA,_,_,hb⟩:=h
 refine (newrd_any w A L.length c L hr hA hL).mono ?_
 rintro e w1 ⟨r,a,c,rfl,R,hr,G⟩
 exact⟨r,rfl,⟨a,c,L,0,R,hL,hb,Nat.zero_le _,rfl,.inl rfl,λh=>absurd rfl h⟩,hr,G⟩
structure El where
 kind:Int
 asn:Int
 rank:Int
 ticks:Int
 list:List Int
 deriving DecidableEq
structure Fr where
 kind:Int
 src:Int
 dst:Int
 seq:Int
 ies:List El
 data:List Int
 deriving DecidableEq
structure Pk where
 src:Int
 dst:Int
 n:Int
 life:Int
 path:List Int
 data:List Int
 deriving DecidableEq
structure Ev where
 kind:Int
 i:Int
 src:Int
 code:Int
 p:Pk
 deriving DecidableEq
def el0:El:=⟨0,0,0,0,[]⟩
def fr0:Fr:=⟨0,0,0,0,[],[]⟩
def pk0:Pk:=⟨0,0,0,0,[],[]⟩
def inR(n a b:Int):Bool:=decide (a≤n)&&decide (n≤b)
/- elements -/
def ofE(k:Int):Bool:=inR k 1 4
def plainE(e:El):El:=
 if e.kind=1 then ⟨1,e.asn,e.rank,0,[]⟩ else if e.kind=2 then ⟨2,0,0,e.ticks,[]⟩ else ⟨e.kind,0,0,0,e.list⟩
def zW(e:El):Bool:=
 if e.kind=1 then inR e.asn 0 1099511627775&&inR e.rank 0 255 else if e.kind=2 then inR e.ticks (-32768) 32767
 else decide (e.list.length≤16)&&e.list.all (λn=>inR n 0 255)
def mayE(e:El):Bool:=ofE e.kind&&(zW e&&decide (e=plainE e))
def bodyE(e:El):List Int:=
 if e.kind=1 then 6::(be 5 e.asn++be 1 e.rank) else if e.kind=2 then 2::be 2 (IntKind.u64.wrap e.ticks) else (e.list.length:Int)::e.list
def encE(e:El):List Int:=e.kind::bodyE e
def encI(l:List El):List Int:=(l.length:Int)::l.flatMap encE
def zM(l:List El)(k:Int):Option El:=l.find? (λe=>e.kind==k)
def zd(s:RS):Bool:=rEnd s==2
def jq(k n:Int):Bool:=if k=1 then n==6 else if k=2 then n==2 else decide (n≤16)
def i16(x:Int):Int:=if x<32768 then x else x-65536
def kK(s:RS)(k n:Int):El:=
 if k=1 then ⟨1,qk s 5,qk (qN s 5) 1,0,[]⟩ else if k=2 then ⟨2,0,0,i16 (qk s 2),[]⟩ else ⟨k,0,0,0,jY s n⟩
def jL(s:RS)(k n:Int):RS:=
 if k=1 then qN (qN s 5) 1 else if k=2 then qN s 2 else zP s n
def oneE(s:RS):Int×El×RS:=
 let k:=qk s 1
 let s1:=qN s 1
 if zd s1 then (2,el0,s1) else if !ofE k then (3,el0,s1) else
 let n:=qk s1 1
 let s2:=qN s1 1
 if zd s2 then (2,el0,s2) else if !jq k n then (3,el0,s2) else
 let s3:=jL s2 k n
 if zd s3 then (2,el0,s3) else (0,kK s2 k n,s3)
def loopE:Nat→List El→RS→Int×List El×RS
 |0,acc,s=>(0,acc,s)
 |n+1,acc,s=>match oneE s with
  |(g,e,s')=>if g=0 then loopE n (acc++[e]) s' else (g,[],s')
def decI(L:List Int):Int×List El:=
 let s:RS:=⟨L,0⟩
 let n:=qk s 1
 let s1:=qN s 1
 if zd s1 then (2,[]) else if 4<n then (3,[]) else
 match loopE n.toNat [] s1 with
 |(g,es,s2)=>if g≠0 then (g,[]) else if rEnd s2≠0 then (rEnd s2,[]) else (0,es)
/- frames -/
def zD(n:Int):Bool:=inR n 0 15
def zV(f:Fr):Bool:=
 let one:=f.dst != 64
 if f.kind=2∨f.kind=4 then one&&decide (f.data=[]) else if f.kind=3 then !one&&decide (f.data=[])&&(zM f.ies 1).isSome
 else if f.kind=1∨f.kind=5 then one&& !decide (f.data=[]) else false
def mayF(f:Fr):Bool:=
 zD f.src&&(zD f.dst||f.dst==64)&&f.dst != f.src&&inR f.seq 0 255&&decide (f.ies.length≤4)&&f.ies.all mayE&&decide (f.data.length≤64)&&zV f
def headF(f:Fr):List Int:=be 1 197++be 1 f.kind++be 1 f.src++be 1 f.dst++be 1 f.seq
def bodyF(f:Fr):List Int:=headF f++be 1 (encI f.ies).length++encI f.ies++be 1 f.data.length++f.data
def encF(f:Fr):List Int:=bodyF f++jJ (bodyF f)
def readF(s:RS):Int×Fr×List Int×RS:=
 let s1:=qN s 1
 let s2:=qN s1 1
 let s3:=qN s2 1
 let s4:=qN s3 1
 let s5:=qN s4 1
 let s6:=qN s5 1
 let s7:=zP s6 (qk s5 1)
 let s8:=qN s7 1
 (qk s 1,⟨qk s1 1,qk s2 1,qk s3 1,qk s4 1,[],jY s8 (qk s7 1)⟩,jY s6 (qk s5 1),zP s8 (qk s7 1))
def decF(L:List Int):Int×Fr:=
 if L.length<9 then (2,fr0) else if !jV L then (4,fr0) else
 match readF ⟨L.take (L.length-2),0⟩ with
 |(first,f,els,s)=>if first≠197∨rEnd s≠0 then (3,fr0) else
  match decI els with
  |(e,ies)=>if e≠0 then (e,fr0) else if mayF {f with ies:=ies} then (0,{f with ies:=ies}) else (3,fr0)
/- packets -/
def jP(l:List Int):Bool:=l.all zD&&decide l.Nodup&&decide (l.length≤16)
def mayP(p:Pk):Bool:=
 zD p.src&&zD p.dst&&p.src != p.dst&&inR p.n 0 70368744177663&&inR p.life 0 15&&jP p.path&&inR p.data.length 1 24
def encP(p:Pk):List Int:=
 be 1 p.src++be 1 p.dst++be 6 p.n++be 1 p.life++be 1 p.path.length++p.path++be 1 p.data.length++p.data
theorem equalI_any(w:World)(A B:Option Addr)(m n c d:Nat)(L M:List Int)(h:Rs VI w w.heap.size A m L)(k:Rs VI w w.heap.size B n M)(hm:m≤200000)(hn:n≤200000):
  Calls Tryz.prog 246 #[.slice A m c,.slice B n d] w λe w'=>e= .returned (.bool (decide (L=M)))∧Chg (λ_=>False) w w':=by
 have HR:=qQ h
 have HK:=qQ k
 have hlL:=h.1
 have hlM:=k.1
 have hm1:(m:Int)≤200000:=by omega
 have hn1:(n:Int)≤200000:=by omega
 clear h k
 by_cases hmn:m=n
 ·subst hmn
  have HL:=qQ hlL
  have HM:=qQ hlM
  clear hlL hlM
  go_enter Tryz.func246,Tryz.ntmps246
  go_wp2_with fail
  go_loopw [13] (λi wr=>∃(k:Nat),k≤m∧i= .int .i64 k∧(∀j,j<k→L[j]? =M[j]?)∧Chg (λ_=>False) w wr) (λi _=>m-(intOf i).toNat)
  case atStart=>exact⟨0,by omega,rfl,λj hj=>absurd hj (by omega),Chg.refl _ _⟩
  case round=>
   obtain⟨k,hk,rfl,he,hG⟩:=hrel
   have HE:=qQ he
   have HG:=qQ hG
   clear he hG
   by_cases hlt:k<m
   ·obtain⟨x,z,rfl,_,hz,hc⟩:=((HR.out.keep HG.out (λ_ _ e=>e)).keep (Chg.drew (λ_=>False) wr) (λ_ _ e=>e)).at hlt
    obtain⟨y,u,rfl,_,hu,hd⟩:=((HK.out.keep HG.out (λ_ _ e=>e)).keep (Chg.drew (λ_=>False) wr) (λ_ _ e=>e)).at hlt
    unfold VI at hc hd
    have i1:(k:Int)<(m:Int):=by omega
    have HZ:=qQ (And.intro hz hu)
    clear hz hu
    by_cases hzu:z=u
    ·have hb:(z != u)=false:=by simpa using hzu
     have he1:∀j,j<k+1→L[j]? =M[j]? :=λj hj=>by
      by_cases e:j=k
      ·subst e;rw[HZ.out.1,HZ.out.2,hzu]
      ·exact HE.out j (by omega)
     have HE1:=qQ (And.intro he1 (HG.out.trans (Chg.drew (λ_=>False) wr)))
     clear hzu he1 HE HG
     go_wp2_with fail
     with_reducible refine wp_region_still_lit (by kernel_rfl) (by kernel_rfl) ?_
     repeat (with_reducible refine wpStill_step (λK hK=>?_);go_simp;with_reducible refine hK _ ?_;clear hK K)
     with_reducible refine wpStill_nil ?_
     change Exit.then _ _ _ _ wr.drew
     clear hc hd
     generalize wr.drew=w3 at *
     go_wp2_with fail
     go_roundw
     case measure=>simp[intOf];omega
     case rel=>exact⟨k+1,by omega,by go_num,HE1.out.1,HE1.out.2⟩
    ·have hb:(z != u)=true:=by simpa using hzu
     have hne:L≠M:=list_ne k (by rw[HZ.out.1,HZ.out.2];simpa using hzu)
     have HE1:=qQ (And.intro hne (HG.out.trans (Chg.drew (λ_=>False) wr)))
     clear hzu hne HE HG
     go_wp2_with fail
     with_reducible refine wp_region_still_lit (by kernel_rfl) (by kernel_rfl) ?_
     repeat (with_reducible refine wpStill_step (λK hK=>?_);go_simp;with_reducible refine hK _ ?_;clear hK K)
     with_reducible refine wpStill_nil ?_
     change Exit.then _ _ _ _ wr.drew
     clear hc hd
     generalize wr.drew=w3 at *
     go_wp2_with fail
     go_ret
     refine⟨?_,HE1.out.2⟩
     rw[decide_eq_false HE1.out.1];rfl
   ·obtain rfl:k=m:=by omega
    go_wp2_with fail
    go_ret
    refine⟨?_,HG.out⟩
    rw[decide_eq_true (List.ext_getElem? (λj=>by
     by_cases hj:j<k
     ·exact HE.out j hj
     ·rw[List.getElem?_eq_none (by rw[HL.out];omega),List.getElem?_eq_none (by rw[HM.out];omega)]))]
    rfl
 ·have hb:((m:Int) != (n:Int))=true:=by simp;omega
  have hb2:(m != n)=true:=by simpa using hmn
  have hne:L≠M:=λe=>hmn (by rw[←hlL,←hlM,e])
  have HNE:=qQ hne
  clear hne hlL hlM
  go_enter Tryz.func246,Tryz.ntmps246
  go_wp2_with fail
  go_ret
  refine⟨?_,Chg.refl _ _⟩
  rw[decide_eq_false HNE.out];rfl
def elV(e:El)(lv:Value):Value:= .agg #[.int .i64 e.kind,.int .i64 e.asn,.int .i64 e.rank,.int .i64 e.ticks,lv]
def Ce(w:World)(g o:Nat)(e:El)(lv:Value):Prop:=
 w.cell? ⟨g,o,none⟩=some (.int .i64 e.kind)∧w.cell? ⟨g,o+1,none⟩=some (.int .i64 e.asn)∧w.cell? ⟨g,o+2,none⟩=some (.int .i64 e.rank)∧
  w.cell? ⟨g,o+3,none⟩=some (.int .i64 e.ticks)∧w.cell? ⟨g,o+4,none⟩=some lv
theorem Ce.keep{S:Nat→Prop}{w w':World}{g o:Nat}{e:El}{lv:Value}(h:Ce w g o e lv)(c:Chg S w w')(hS:¬S g):Ce w' g o e lv:=by
 obtain⟨c0,c1,c2,c3,c4⟩:=h
 have k:∀j u,w.cell? ⟨g,j,none⟩=some u→w'.cell? ⟨g,j,none⟩=some u:=λj u hc=>by rw[c.cell (qG hc) hS,hc]
 exact⟨k _ _ c0,k _ _ c1,k _ _ c2,k _ _ c3,k _ _ c4⟩
def IeO(w:World)(own:Cls)(v:Value)(l:List El):Prop:=
 (v= .slice none 0 0∧l=[])∨∃g c,v= .slice (some ⟨g,0,none⟩) l.length c∧own g=0∧l.length≤c∧c≤maxLen∧g<w.heap.size∧
  ∀i (h:i<l.length),∃lv,Ce w g (i*5) l[i] lv∧RV VI w own lv l[i].list
section
variable {w w':World}{own own':Cls}{v:Value}{e:El}{l:List El}
theorem IeO.nil(w:World)(own:Cls):IeO w own (.slice none 0 0) []:= .inl ⟨rfl,rfl⟩
theorem IeO.keep{S:Nat→Prop}(h:IeO w own v l)(k:Chg S w w')(hS:∀j,own j=0→¬S j):IeO w' own v l:=by
 rcases h with h|⟨g,c,h1,h2,h3,h4,h0,h5⟩
 ·exact .inl h
 ·exact .inr ⟨g,c,h1,h2,h3,h4,Nat.lt_of_lt_of_le h0 k.size,λi hi=>by
   obtain⟨lv,h6,h7⟩:=h5 i hi
   exact⟨lv,h6.keep k (hS g h2),h7.keep k hS⟩⟩
theorem IeO.ext(h:IeO w own v l)(x:Ext w own own'):IeO w own' v l:=by
 rcases h with h|⟨g,c,h1,h2,h3,h4,h0,h5⟩
 ·exact .inl h
 ·exact .inr ⟨g,c,h1,(x g h0).trans h2,h3,h4,h0,λi hi=>by
   obtain⟨lv,h6,h7⟩:=h5 i hi
   exact⟨lv,h6,h7.ext x⟩⟩
theorem IeO.at(h:IeO w own v l){i:Nat}{e:El}(hi:l[i]? =some e):∃g c lv,v= .slice (some ⟨g,0,none⟩) l.length c∧Ce w g (i*5) e lv∧RV VI w own lv e.list:=by
 obtain⟨hl,rfl⟩:=List.getElem?_eq_some_iff.1 hi
 rcases h with ⟨_,rfl⟩|⟨g,c,h1,h2,h3,h4,h0,h5⟩
 ·cases hl
 ·obtain⟨lv,h6,h7⟩:=h5 i hl
  exact⟨g,c,lv,h1,h6,h7⟩
theorem IeO.val(h:IeO w own v l):∃A c,v= .slice A l.length c:=by
 rcases h with ⟨rfl,rfl⟩|⟨g,c,h1,_⟩
 ·exact⟨_,_,rfl⟩
 ·exact⟨_,_,h1⟩
theorem RV.rs{V:Int→Value}{L:List Int}(h:RV V w own v L):∃A c,v= .slice A L.length c∧Rs V w w.heap.size A L.length L∧(A=none→c=0)∧L.length≤c∧c≤maxLen:=by
 obtain⟨A,c,h1,h2,h3,h4,h5⟩:=h
 exact⟨A,c,h1,h2.rs,h3,h4,h5⟩
end
def PV(v:Value)(w:World)(e:Ending)(w':World):Prop:=e= .returned v∧Chg (λ_=>False) w w'
theorem of_1(a b c:Int)(lv:Value)(w:World):Calls Tryz.prog 153 #[.agg #[.int .i64 1,.int .i64 a,.int .i64 b,.int .i64 c,lv]] w (PV (.iface 273 (.agg #[.int .i64 a,.int .i64 b])) w):=by
 go_enter Tryz.func153,Tryz.ntmps153
 go_wp2_with fail
 go_ret
 exact⟨rfl,Chg.alloc _ _ _⟩
theorem of_2(a b c:Int)(lv:Value)(w:World):Calls Tryz.prog 153 #[.agg #[.int .i64 2,.int .i64 a,.int .i64 b,.int .i64 c,lv]] w (PV (.iface 275 (.agg #[.int .i64 c])) w):=by
 go_enter Tryz.func153,Tryz.ntmps153
 go_wp2_with fail
 go_ret
 exact⟨rfl,Chg.alloc _ _ _⟩
theorem of_l(k a b c:Int)(A:Option Addr)(n cp:Nat)(w:World)(hk:k=3∨k=4):Calls Tryz.prog 153 #[.agg #[.int .i64 k,.int .i64 a,.int .i64 b,.int .i64 c,.slice A n cp]] w (PV (.iface 277 (.agg #[.slice A n cp])) w):=by
 rcases hk with rfl|rfl
 all_goals
  go_enter Tryz.func153,Tryz.ntmps153
  go_wp2_with fail
  go_ret
  exact⟨rfl,Chg.alloc _ _ _⟩
theorem of_no(k a b c:Int)(lv:Value)(w:World)(hk:ofE k=false):Calls Tryz.prog 153 #[.agg #[.int .i64 k,.int .i64 a,.int .i64 b,.int .i64 c,lv]] w (PV .nilIface w):=by
 have h:¬(1≤k∧k≤4):=by intro h;simp[ofE,inR] at hk;omega
 have h1:(k==1)=false:=by simp;omega
 have h2:(k==2)=false:=by simp;omega
 have h3:(k==3)=false:=by simp;omega
 have h4:(k==4)=false:=by simp;omega
 clear hk h
 go_enter Tryz.func153,Tryz.ntmps153
 go_wp2_with fail
 go_ret
 exact⟨rfl,Chg.alloc _ _ _⟩
theorem ta_273_273(x:Value)(w:World):(Instr.typeAssert (.iface 273 x) 227 273 true).run Tryz.prog w= .ok (.tuple #[x,.bool true]) w:=by kernel_rfl
theorem ta_273_275(x:Value)(w:World):(Instr.typeAssert (.iface 273 x) 227 275 true).run Tryz.prog w= .ok (.tuple #[.agg #[.int .i64 0],.bool false]) w:=by kernel_rfl
theorem ta_273_277(x:Value)(w:World):(Instr.typeAssert (.iface 273 x) 227 277 true).run Tryz.prog w= .ok (.tuple #[.agg #[.slice none 0 0],.bool false]) w:=by kernel_rfl
theorem ta_275_273(x:Value)(w:World):(Instr.typeAssert (.iface 275 x) 227 273 true).run Tryz.prog w= .ok (.tuple #[.agg #[.int .i64 0,.int .i64 0],.bool false]) w:=by kernel_rfl
theorem ta_275_275(x:Value)(w:World):(Instr.typeAssert (.iface 275 x) 227 275 true).run Tryz.prog w= .ok (.tuple #[x,.bool true]) w:=by kernel_rfl
theorem ta_275_277(x:Value)(w:World):(Instr.typeAssert (.iface 275 x) 227 277 true).run Tryz.prog w= .ok (.tuple #[.agg #[.slice none 0 0],.bool false]) w:=by kernel_rfl
theorem ta_277_273(x:Value)(w:World):(Instr.typeAssert (.iface 277 x) 227 273 true).run Tryz.prog w= .ok (.tuple #[.agg #[.int .i64 0,.int .i64 0],.bool false]) w:=by kernel_rfl
theorem ta_277_275(x:Value)(w:World):(Instr.typeAssert (.iface 277 x) 227 275 true).run Tryz.prog w= .ok (.tuple #[.agg #[.int .i64 0],.bool false]) w:=by kernel_rfl
theorem ta_277_277(x:Value)(w:World):(Instr.typeAssert (.iface 277 x) 227 277 true).run Tryz.prog w= .ok (.tuple #[x,.bool true]) w:=by kernel_rfl
theorem plain_1(k a b:Int)(w:World):Calls Tryz.prog 198 #[.int .i64 k,.iface 273 (.agg #[.int .i64 a,.int .i64 b])] w (PV (.agg #[.int .i64 k,.int .i64 a,.int .i64 b,.int .i64 0,.slice none 0 0]) w):=by
 have t1:=λw=>ta_273_273 (.agg #[.int .i64 a,.int .i64 b]) w
 have t2:=λw=>ta_273_275 (.agg #[.int .i64 a,.int .i64 b]) w
 have t3:=λw=>ta_273_277 (.agg #[.int .i64 a,.int .i64 b]) w
 go_enter Tryz.func198,Tryz.ntmps198
 go_wp2_with fail
 go_region
 all_goals
  go_wp2_with fail
  exact bodyPost_ret (v:= .agg #[.int .i64 k,.int .i64 a,.int .i64 b,.int .i64 0,.slice none 0 0]) (by simp[results,Tryz.results198,go_sem]) rfl ⟨rfl,Chg.fresh (by
   repeat (first|exact Chg.refl _ _|refine Chg.trans ?_ (Chg.alloc _ _ _)|refine Chg.trans ?_ (Chg.drew _ _)|refine Chg.trans ?_ (Chg.set _ _ _ (by simp <;> omega))))⟩
theorem plain_2(k a:Int)(w:World):Calls Tryz.prog 198 #[.int .i64 k,.iface 275 (.agg #[.int .i64 a])] w (PV (.agg #[.int .i64 k,.int .i64 0,.int .i64 0,.int .i64 a,.slice none 0 0]) w):=by
 have t1:=λw=>ta_275_273 (.agg #[.int .i64 a]) w
 have t2:=λw=>ta_275_275 (.agg #[.int .i64 a]) w
 have t3:=λw=>ta_275_277 (.agg #[.int .i64 a]) w
 go_enter Tryz.func198,Tryz.ntmps198
 go_wp2_with fail
 exact bodyPost_ret (v:= .agg #[.int .i64 k,.int .i64 0,.int .i64 0,.int .i64 a,.slice none 0 0]) (by simp[results,Tryz.results198,go_sem]) rfl ⟨rfl,((((Chg.alloc _ _ _).trans (Chg.alloc _ _ _)).trans (Chg.alloc _ _ _)).trans (Chg.alloc _ _ _)).trans (Chg.alloc _ _ _)⟩
theorem plain_3(k:Int)(A:Option Addr)(n cp:Nat)(w:World):Calls Tryz.prog 198 #[.int .i64 k,.iface 277 (.agg #[.slice A n cp])] w (PV (.agg #[.int .i64 k,.int .i64 0,.int .i64 0,.int .i64 0,.slice A n cp]) w):=by
 have t1:=λw=>ta_277_273 (.agg #[.slice A n cp]) w
 have t2:=λw=>ta_277_275 (.agg #[.slice A n cp]) w
 have t3:=λw=>ta_277_277 (.agg #[.slice A n cp]) w
 go_enter Tryz.func198,Tryz.ntmps198
 go_wp2_with fail
 exact bodyPost_ret (v:= .agg #[.int .i64 k,.int .i64 0,.int .i64 0,.int .i64 0,.slice A n cp]) (by simp[results,Tryz.results198,go_sem]) rfl ⟨rfl,((((Chg.alloc _ _ _).trans (Chg.alloc _ _ _)).trans (Chg.alloc _ _ _)).trans (Chg.alloc _ _ _)).trans (Chg.alloc _ _ _)⟩
def jy(k1 a1 b1 c1 k2 a2 b2 c2:Int)(L M:List Int):Bool:=k1==k2&&(a1==a2&&(b1==b2&&(c1==c2&&decide (L=M))))
theorem same_any(k1 a1 b1 c1 k2 a2 b2 c2:Int)(A B:Option Addr)(n m c d:Nat)(L M:List Int)(w:World)(h:Rs VI w w.heap.size A n L)(k:Rs VI w w.heap.size B m M)(hn:n≤200000)(hm:m≤200000):
  Calls Tryz.prog 197 #[.agg #[.int .i64 k1,.int .i64 a1,.int .i64 b1,.int .i64 c1,.slice A n c],.agg #[.int .i64 k2,.int .i64 a2,.int .i64 b2,.int .i64 c2,.slice B m d]] w (PV (.bool (jy k1 a1 b1 c1 k2 a2 b2 c2 L M)) w):=by
 have HR:=qQ h
 have HK:=qQ k
 clear h k
 have hfin:∀r,jy k1 a1 b1 c1 k2 a2 b2 c2 L M=r→∀w',Chg (λ_=>False) w w'→PV (.bool (jy k1 a1 b1 c1 k2 a2 b2 c2 L M)) w (.returned (.bool r)) w':=λr hr w' g=>⟨by rw[hr],g⟩
 have HF:=qQ hfin
 clear hfin
 have g2:Chg (λ_=>False) w ((w.alloc (.cells #[.int .i64 k1,.int .i64 a1,.int .i64 b1,.int .i64 c1,.slice A n c] 172)).alloc (.cells #[.int .i64 k2,.int .i64 a2,.int .i64 b2,.int .i64 c2,.slice B m d] 172)):=(Chg.alloc _ _ _).trans (Chg.alloc _ _ _)
 have HG:=qQ g2
 clear g2
 by_cases e1:(k1==k2)=true
 ·by_cases e2:(a1==a2)=true
  ·by_cases e3:(b1==b2)=true
   ·by_cases e4:(c1==c2)=true
    ·have hv:jy k1 a1 b1 c1 k2 a2 b2 c2 L M=decide (L=M):=by simp only[jy,e1,e2,e3,e4,Bool.true_and]
     have HV:=qQ hv
     clear hv
     go_enter Tryz.func197,Tryz.ntmps197
     go_wp2_with fail
     (with_reducible refine (equalI_any _ A B n m c d L M ((HR.out.keep HG.out (λ_ _ e=>e)).more HG.out.size) ((HK.out.keep HG.out (λ_ _ e=>e)).more HG.out.size) hn hm).mono ?_)
     rintro e w1 ⟨rfl,G⟩
     have H1:=qQ (HG.out.trans G)
     clear G
     go_wp2_with fail
     go_ret
     exact HF.out _ HV.out _ H1.out
    ·have e4:(c1==c2)=false:=by simpa using e4
     have hv:jy k1 a1 b1 c1 k2 a2 b2 c2 L M=false:=by simp only[jy,e1,e2,e3,e4,Bool.true_and,Bool.false_and]
     have HV:=qQ hv
     clear hv
     go_enter Tryz.func197,Tryz.ntmps197
     go_wp2_with fail
     go_ret
     exact HF.out _ HV.out _ HG.out
   ·have e3:(b1==b2)=false:=by simpa using e3
    have hv:jy k1 a1 b1 c1 k2 a2 b2 c2 L M=false:=by simp only[jy,e1,e2,e3,Bool.true_and,Bool.false_and]
    have HV:=qQ hv
    clear hv
    go_enter Tryz.func197,Tryz.ntmps197
    go_wp2_with fail
    go_ret
    exact HF.out _ HV.out _ HG.out
  ·have e2:(a1==a2)=false:=by simpa using e2
   have hv:jy k1 a1 b1 c1 k2 a2 b2 c2 L M=false:=by simp only[jy,e1,e2,Bool.true_and,Bool.false_and]
   have HV:=qQ hv
   clear hv
   go_enter Tryz.func197,Tryz.ntmps197
   go_wp2_with fail
   go_ret
   exact HF.out _ HV.out _ HG.out
 ·have e1:(k1==k2)=false:=by simpa using e1
  have hv:jy k1 a1 b1 c1 k2 a2 b2 c2 L M=false:=by simp only[jy,e1,Bool.true_and,Bool.false_and]
  have HV:=qQ hv
  clear hv
  go_enter Tryz.func197,Tryz.ntmps197
  go_wp2_with fail
  go_ret
  exact HF.out _ HV.out _ HG.out
end Go.Proofs.YtnpihllannobgaaGreatDoor
