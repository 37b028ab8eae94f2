/- Steps of the proof, part H05. No condition. -/
import Derived.Test.YtnpihllannobgaaGreatDoorH02
import Derived.StillTailTactics
import Derived.WalkSmall
namespace Go.Proofs.YtnpihllannobgaaGreatDoor
set_option linter.unusedVariables false
set_option linter.unusedSimpArgs false
set_option maxRecDepth 100000
set_option maxHeartbeats 32000000
open Go.ChangeShapes Go.WideShapes Go.ChangeAt Go.RowKit
abbrev Seen:=Int→Option (Int×Nat)
def VS(p:Int×Nat):Value:= .agg #[.int .i64 p.1,.int .u64 p.2]
def Mv(f:Seen):Int→Option Value:=λn=>(f n).map VS
def upd(f:Seen)(n:Int)(p:Int×Nat):Seen:=λm=>if m=n then some p else f m
def Wk(w:World)(b m:Nat)(f:Seen):Prop:=w.heap[b]? =some (.cells #[.map (some m)] 169 (0,0))∧Mp w m (Mv f)∧b≠m
theorem Wk.c{w:World}{b m:Nat}{f:Seen}(h:Wk w b m f):w.cell? ⟨b,0,none⟩=some (.map (some m)):=by rw[qJ h.1];rfl
theorem Wk.keep{w w':World}{b m:Nat}{f:Seen}{S:Nat→Prop}(h:Wk w b m f)(g:Chg S w w')(hb:¬S b)(hm:¬S m):Wk w' b m f:=⟨Chg.keep g h.1 hb,h.2.1.keep g hm,h.2.2⟩
theorem Wk.kept{w w':World}{b m:Nat}{f:Seen}(h:Wk w b m f)(g:Chg (λ_=>False) w w'):Wk w' b m f:=h.keep g (λf=>f) (λf=>f)
theorem zero52(w:World):(zeroValue 314).run Tryz.prog w= .ok (.agg #[.int .i64 0,.int .u64 0]) w:=by kernel_rfl
theorem ty48:Tryz.prog.underlying 167=some (.map 3 314):=by kernel_rfl
theorem ty3:Tryz.prog.underlying 3=some (.int .i64):=by kernel_rfl
theorem Wk.look{w:World}{b m:Nat}{f:Seen}(h:Wk w b m f)(n:Int):
  (Instr.lookup 167 (.map (some m)) (.int .i64 n) true).run Tryz.prog w= .ok (.tuple #[((f n).map VS).getD (.agg #[.int .i64 0,.int .u64 0]),.bool (f n).isSome]) w:=by
 have:=h.2.1.lookup ty48 ty3 (zero52 w) n
 rw[show (Mv f n).isSome=(f n).isSome from by unfold Mv;simp] at this
 exact this
theorem Wk.put{w:World}{b m:Nat}{f:Seen}(h:Wk w b m f)(n x:Int)(y:Nat):
  ∃w',(Instr.mapUpdate 167 (.map (some m)) (.int .i64 n) (.agg #[.int .i64 x,.int .u64 y])).run Tryz.prog w= .ok () w'∧Wk w' b m (upd f n (x,y))∧Chg (· =m) w w':=by
 obtain⟨w',h1,h2,h3⟩:=h.2.1.update ty48 ty3 n (VS (x,y))
 refine⟨w',h1,⟨Chg.keep h3 h.1 h.2.2,h2.congr (λk=>?_),h.2.2⟩,h3⟩
 unfold Mv upd;split <;> rfl
def PNewDup(w:World)(e:Ending)(w':World):Prop:=∃b m,e= .returned (.pointer (some ⟨b,0,none⟩))∧Wk w' b m (λ_=>none)∧w.heap.size≤b∧w.heap.size≤m∧b<w'.heap.size∧m<w'.heap.size∧Chg (λ_=>False) w w'
theorem dupnew_any(w:World):Calls Tryz.prog 52 #[] w (PNewDup w):=by
 have hm:=@run_makeMap Tryz.prog
 go_enter Tryz.func52,Tryz.ntmps52
 go_wp2
 go_ret
 have g1:=Chg.alloc (λ_=>False) w (.map #[] 0)
 have g2:=Chg.alloc (λ_=>False) (w.alloc (.map #[] 0)) (.cells #[.map (some w.heap.size)] 169 (0,0))
 have m1:=(Mp.made w).keep g2 (λf=>f)
 have hs:(w.alloc (.map #[] 0)).heap.size=w.heap.size+1:=by simp
 have hb:=qV (w.alloc (.map #[] 0)) (.cells #[.map (some w.heap.size)] 169 (0,0))
 rw[hs] at hb
 refine⟨_,w.heap.size,rfl,⟨hb,m1.congr (λn=>by rfl),?_⟩,?_,Nat.le_refl _,?_,?_,g1.trans g2⟩ <;> simp
 omega
def kZ(m:Nat)(w:World)(b:Nat)(f:Seen)(r:Bool)(e:Ending)(w':World):Prop:=e= .returned (.bool r)∧Wk w' b m f∧Chg (· =m) w w'
theorem dupput_out(w:World)(b m:Nat)(f:Seen)(k n:Int)(h:Wk w b m f)(hk:k<0∨16≤k∨n<0):
  Calls Tryz.prog 208 #[.pointer (some ⟨b,0,none⟩),.int .i64 k,.int .i64 n] w (kZ m w b f false):=by
 by_cases h0:k<0
 ·go_enter Tryz.func208,Tryz.ntmps208
  go_wp2
  go_ret
  exact⟨rfl,h,Chg.refl _ _⟩
 ·by_cases h1:16≤k
  ·go_enter Tryz.func208,Tryz.ntmps208
   go_wp2
   go_ret
   exact⟨rfl,h,Chg.refl _ _⟩
  ·have h2:n<0:=by omega
   go_enter Tryz.func208,Tryz.ntmps208
   go_wp2
   go_ret
   exact⟨rfl,h,Chg.refl _ _⟩
theorem dupput_first(w:World)(b m:Nat)(f:Seen)(k n:Int)(h:Wk w b m f)(hk:0≤k∧k<16∧0≤n)(hf:f k=none):
  Calls Tryz.prog 208 #[.pointer (some ⟨b,0,none⟩),.int .i64 k,.int .i64 n] w (kZ m w b (upd f k (n,1)) true):=by
 have hc:=h.c
 have hl:=h.look k
 rw[hf] at hl
 simp only[Option.map_none,Option.map_some,VS,Option.getD_none,Option.getD_some,Option.isSome_none,Option.isSome_some] at hl
 obtain⟨k0,k1,n0⟩:=hk
 have HH:=qQ h
 clear h
 go_enter Tryz.func208,Tryz.ntmps208
 go_wp2_with fail
 clear hl hc
 obtain⟨o,ho⟩:=qZ (Obj.cells #[.int .i64 n,.int .u64 1] 314 (0,0))
 have hb0:(w.alloc o).heap[w.heap.size]? =some o:=qV _ _
 have G1:=Chg.alloc (λ_=>False) w o
 have W1:=HH.out.kept G1
 rw[←ho]
 generalize w.alloc o=w1 at *
 subst ho
 clear HH
 have c0:w1.cell? ⟨w.heap.size,0,none⟩=some (.int .i64 n):=by rw[qJ hb0];rfl
 have c1:w1.cell? ⟨w.heap.size,1,none⟩=some (.int .u64 1):=by rw[qJ hb0];rfl
 have cb:=W1.c
 have HW1:=qQ W1
 have HG1:=qQ G1
 have HB:=qQ hb0
 clear W1 G1 hb0
 go_still_tail 6,(by kernel_rfl)
 change wpList _ _ _ _ _ w1.drew
 obtain⟨w2,hu,W2,G2⟩:=(HW1.out.kept (Chg.drew (λ_=>False) w1)).put k n 1
 have G3:=(HG1.out.none.trans (Chg.drew _ w1)).trans G2
 clear c0 c1 cb HW1 HG1 HB G2
 change (Instr.mapUpdate 167 (.map (some m)) (.int .i64 k) (.agg #[.int .i64 n,.int .u64 1])).run Tryz.prog w1.drew=_ at hu
 generalize w1.drew=w3 at *
 go_wp2_with fail
 go_ret
 exact⟨rfl,W2,G3⟩
theorem bit_is(B i:Nat)(hB:B<18446744073709551616):(bits BinOp.and IntKind.u64 ((B:Int) / 2^i) 1==1)=B.testBit i:=by
 have e:((B:Int) / 2^i)=((B / 2^i:Nat):Int):=by push_cast;rfl
 have hl:B / 2^i≤B:=Nat.div_le_self _ _
 rw[e,Nat.testBit_eq_decide_div_mod_eq]
 generalize B / 2^i=q at *
 rw[and_one_u64 _ (by omega) (by omega)]
 by_cases h:q % 2=1
 ·rw[decide_eq_true h,beq_iff_eq];omega
 ·rw[decide_eq_false h,beq_eq_false_iff_ne];omega
def shl1(B d:Nat):Nat:=B*2^d % 18446744073709551616|||1
theorem wrap_nat(x:Nat):IntKind.u64.wrap (x:Int)=((x % 18446744073709551616:Nat):Int):=by
 simp only[IntKind.wrap,IntKind.bits,IntKind.signed]
 simp
theorem shl1_is(B d:Nat):bits BinOp.or IntKind.u64 (IntKind.u64.wrap ((B:Int)*2^d)) 1=(shl1 B d:Nat):=by
 have e:((B:Int)*2^d)=((B*2^d:Nat):Int):=by push_cast;rfl
 rw[e,wrap_nat]
 exact bits_or_u64_nat _ 1 (Nat.mod_lt _ (by omega)) (by omega)
theorem set1_is(B i:Nat)(hB:B<18446744073709551616)(hi:i<64):bits BinOp.or IntKind.u64 (B:Int) (IntKind.u64.wrap (2^i))=((B|||2^i:Nat):Int):=by
 have e:(2:Int)^i=((2^i:Nat):Int):=by push_cast;rfl
 have h2:2^i<2^64:=Nat.pow_lt_pow_right (by omega) hi
 rw[e,wrap_nat,Nat.mod_eq_of_lt h2]
 exact bits_or_u64_nat _ _ hB h2
theorem dupput_up1(w:World)(b m:Nat)(f:Seen)(k n l:Int)(B:Nat)(h:Wk w b m f)(hk:0≤k∧k<16∧0≤n)(hf:f k=some (l,B))(hl0:0≤l)(hln:l<n)(hn:n≤9223372036854775807)(hd: -(l-n)≤64):
  Calls Tryz.prog 208 #[.pointer (some ⟨b,0,none⟩),.int .i64 k,.int .i64 n] w (kZ m w b (upd f k (n,shl1 B (-(l-n)).toNat)) true):=by
 have hc:=h.c
 have hl:=h.look k
 rw[hf] at hl
 simp only[Option.map_none,Option.map_some,VS,Option.getD_none,Option.getD_some,Option.isSome_none,Option.isSome_some] at hl
 obtain⟨k0,k1,n0⟩:=hk
 have HH:=qQ h
 clear h
 have hy:bits BinOp.or IntKind.u64 (IntKind.u64.wrap ((B:Int)*2^(-(l-n)).toNat)) 1=(shl1 B (-(l-n)).toNat:Nat):=shl1_is B (-(l-n)).toNat
 have HY:=qQ hy
 clear hy
 go_enter Tryz.func208,Tryz.ntmps208
 go_wp2_with fail
 clear hl hc
 have hy:=HY.out
 rw[hy]
 generalize shl1 B (-(l-n)).toNat=N at *
 clear hy HY
 obtain⟨o,ho⟩:=qZ (Obj.cells #[.int .i64 n,.int .u64 N] 314 (0,0))
 have hb0:(w.alloc o).heap[w.heap.size]? =some o:=qV _ _
 have G1:=Chg.alloc (λ_=>False) w o
 have W1:=HH.out.kept G1
 rw[←ho]
 generalize w.alloc o=w1 at *
 subst ho
 clear HH
 have c0:w1.cell? ⟨w.heap.size,0,none⟩=some (.int .i64 n):=by rw[qJ hb0];rfl
 have c1:w1.cell? ⟨w.heap.size,1,none⟩=some (.int .u64 N):=by rw[qJ hb0];rfl
 have cb:=W1.c
 have HW1:=qQ W1
 have HG1:=qQ G1
 have HB:=qQ hb0
 clear W1 G1 hb0
 go_still_tail 6,(by kernel_rfl)
 change wpList _ _ _ _ _ w1.drew
 obtain⟨w2,hu,W2,G2⟩:=(HW1.out.kept (Chg.drew (λ_=>False) w1)).put k n N
 have G3:=(HG1.out.none.trans (Chg.drew _ w1)).trans G2
 clear c0 c1 cb HW1 HG1 HB G2
 change (Instr.mapUpdate 167 (.map (some m)) (.int .i64 k) (.agg #[.int .i64 n,.int .u64 N])).run Tryz.prog w1.drew=_ at hu
 generalize w1.drew=w3 at *
 go_wp2_with fail
 go_ret
 exact⟨rfl,W2,G3⟩
theorem dupput_up2(w:World)(b m:Nat)(f:Seen)(k n l:Int)(B:Nat)(h:Wk w b m f)(hk:0≤k∧k<16∧0≤n)(hf:f k=some (l,B))(hl0:0≤l)(hln:l<n)(hn:n≤9223372036854775807)(hd:64< -(l-n)):
  Calls Tryz.prog 208 #[.pointer (some ⟨b,0,none⟩),.int .i64 k,.int .i64 n] w (kZ m w b (upd f k (n,shl1 B 64)) true):=by
 have hc:=h.c
 have hl:=h.look k
 rw[hf] at hl
 simp only[Option.map_none,Option.map_some,VS,Option.getD_none,Option.getD_some,Option.isSome_none,Option.isSome_some] at hl
 obtain⟨k0,k1,n0⟩:=hk
 have HH:=qQ h
 clear h
 have hy:bits BinOp.or IntKind.u64 (IntKind.u64.wrap ((B:Int)*18446744073709551616)) 1=(shl1 B 64:Nat):=shl1_is B 64
 have HY:=qQ hy
 clear hy
 go_enter Tryz.func208,Tryz.ntmps208
 go_wp2_with fail
 clear hl hc
 have hy:=HY.out
 rw[hy]
 generalize shl1 B 64=N at *
 clear hy HY
 obtain⟨o,ho⟩:=qZ (Obj.cells #[.int .i64 n,.int .u64 N] 314 (0,0))
 have hb0:(w.alloc o).heap[w.heap.size]? =some o:=qV _ _
 have G1:=Chg.alloc (λ_=>False) w o
 have W1:=HH.out.kept G1
 rw[←ho]
 generalize w.alloc o=w1 at *
 subst ho
 clear HH
 have c0:w1.cell? ⟨w.heap.size,0,none⟩=some (.int .i64 n):=by rw[qJ hb0];rfl
 have c1:w1.cell? ⟨w.heap.size,1,none⟩=some (.int .u64 N):=by rw[qJ hb0];rfl
 have cb:=W1.c
 have HW1:=qQ W1
 have HG1:=qQ G1
 have HB:=qQ hb0
 clear W1 G1 hb0
 go_still_tail 6,(by kernel_rfl)
 change wpList _ _ _ _ _ w1.drew
 obtain⟨w2,hu,W2,G2⟩:=(HW1.out.kept (Chg.drew (λ_=>False) w1)).put k n N
 have G3:=(HG1.out.none.trans (Chg.drew _ w1)).trans G2
 clear c0 c1 cb HW1 HG1 HB G2
 change (Instr.mapUpdate 167 (.map (some m)) (.int .i64 k) (.agg #[.int .i64 n,.int .u64 N])).run Tryz.prog w1.drew=_ at hu
 generalize w1.drew=w3 at *
 go_wp2_with fail
 go_ret
 exact⟨rfl,W2,G3⟩
theorem dupput_old(w:World)(b m:Nat)(f:Seen)(k n l:Int)(B:Nat)(h:Wk w b m f)(hk:0≤k∧k<16∧0≤n)(hf:f k=some (l,B))(hl0:l≤9223372036854775807)(hln:64≤l-n):
  Calls Tryz.prog 208 #[.pointer (some ⟨b,0,none⟩),.int .i64 k,.int .i64 n] w (kZ m w b f false):=by
 have hc:=h.c
 have hl:=h.look k
 rw[hf] at hl
 simp only[Option.map_none,Option.map_some,VS,Option.getD_none,Option.getD_some,Option.isSome_none,Option.isSome_some] at hl
 obtain⟨k0,k1,n0⟩:=hk
 have HH:=qQ h
 clear h
 go_enter Tryz.func208,Tryz.ntmps208
 go_wp2_with fail
 go_ret
 have g:=Chg.alloc (λ_=>False) w (Obj.cells #[.int .i64 l,.int .u64 B] 314 (0,0))
 exact⟨rfl,HH.out.kept g,g.none⟩
theorem dupput_bit(w:World)(b m:Nat)(f:Seen)(k n l:Int)(B:Nat)(h:Wk w b m f)(hk:0≤k∧k<16∧0≤n)(hf:f k=some (l,B))(hl0:l≤9223372036854775807)(hln:l-n<64)(hnl:n≤l)(hB:B<18446744073709551616)(hbit:B.testBit (l-n).toNat=true):
  Calls Tryz.prog 208 #[.pointer (some ⟨b,0,none⟩),.int .i64 k,.int .i64 n] w (kZ m w b f false):=by
 have hc:=h.c
 have hl:=h.look k
 rw[hf] at hl
 simp only[Option.map_none,Option.map_some,VS,Option.getD_none,Option.getD_some,Option.isSome_none,Option.isSome_some] at hl
 obtain⟨k0,k1,n0⟩:=hk
 have HH:=qQ h
 clear h
 have hbt:=bit_is B (l-n).toNat hB
 rw[hbit] at hbt
 go_enter Tryz.func208,Tryz.ntmps208
 go_wp2_with fail
 go_ret
 have g:=Chg.alloc (λ_=>False) w (Obj.cells #[.int .i64 l,.int .u64 B] 314 (0,0))
 exact⟨rfl,HH.out.kept g,g.none⟩
theorem dupput_back(w:World)(b m:Nat)(f:Seen)(k n l:Int)(B:Nat)(h:Wk w b m f)(hk:0≤k∧k<16∧0≤n)(hf:f k=some (l,B))(hl0:l≤9223372036854775807)(hln:l-n<64)(hnl:n≤l)(hB:B<18446744073709551616)(hbit:B.testBit (l-n).toNat=false):
  Calls Tryz.prog 208 #[.pointer (some ⟨b,0,none⟩),.int .i64 k,.int .i64 n] w (kZ m w b (upd f k (l,B|||2^(l-n).toNat)) true):=by
 have hc:=h.c
 have hl:=h.look k
 rw[hf] at hl
 simp only[Option.map_none,Option.map_some,VS,Option.getD_none,Option.getD_some,Option.isSome_none,Option.isSome_some] at hl
 obtain⟨k0,k1,n0⟩:=hk
 have HH:=qQ h
 clear h
 have hbt:=bit_is B (l-n).toNat hB
 rw[hbit] at hbt
 have hy:=set1_is B (l-n).toNat hB (by omega)
 have HY:=qQ hy
 clear hy
 go_enter Tryz.func208,Tryz.ntmps208
 go_wp2_with fail
 clear hl hc
 have HH2:=qQ HH.out
 obtain⟨o,ho⟩:=qZ (Obj.cells #[.int .i64 l,.int .u64 B] 314 (0,0))
 have hb0:(w.alloc o).heap[w.heap.size]? =some o:=qV _ _
 have G1:=Chg.alloc (λ_=>False) w o
 have W1:=HH.out.kept G1
 rw[←ho]
 generalize w.alloc o=w1 at *
 subst ho
 clear HH
 have c1:w1.cell? ⟨w.heap.size,1,none⟩=some (.int .u64 B):=by rw[qJ hb0];rfl
 have HW1:=qQ W1
 have HG1:=qQ G1
 have HB:=qQ hb0
 clear W1 G1 hb0
 go_still_tail 6,(by kernel_rfl)
 change wpList _ _ _ _ _ w1.drew
 have hb0:=Chg.keep (Chg.drew (λ_=>False) w1) HB.out (λf=>f)
 have fz:=qK hb0 1
 have c1':=qJ hb0 1
 have HB2:=qQ hb0
 have HW2:=qQ (HW1.out.kept (Chg.drew (λ_=>False) w1))
 have HG2:=qQ (HG1.out.none.trans (Chg.drew (λj=>w.heap.size≤j) w1))
 clear hb0 HB HW1 HG1 c1
 generalize w1.drew=w2 at *
 go_wp2_with fail
 have hy:=HY.out
 rw[hy]
 generalize B|||2^(l-n).toNat=N at *
 clear hy HY
 obtain⟨w4,hw4⟩:=qZ (w2.setCell ⟨w.heap.size,1,none⟩ (.int .u64 N))
 have hb0:=qB HB2.out 1 (.int .u64 N)
 have g4:Chg (λj=>w.heap.size≤j) w2 (w2.setCell ⟨w.heap.size,1,none⟩ (.int .u64 N)):=Chg.set w2 ⟨w.heap.size,1,none⟩ _ (Nat.le_refl _)
 have W1:Wk (w2.setCell ⟨w.heap.size,1,none⟩ (.int .u64 N)) b m f:=HH2.out.kept ((HG2.out.trans g4).fresh)
 have G1:=(HG2.out.trans g4).fresh
 rw[←hw4] at hb0 W1 G1 ⊢
 clear g4 HB2 HW2 HG2 fz c1' hw4 HH2
 generalize w4=w1 at *
 have c0:w1.cell? ⟨w.heap.size,0,none⟩=some (.int .i64 l):=by rw[qJ hb0];rfl
 have c1:w1.cell? ⟨w.heap.size,1,none⟩=some (.int .u64 N):=by rw[qJ hb0];rfl
 have cb:=W1.c
 have HW1:=qQ W1
 have HG1:=qQ G1
 have HB:=qQ hb0
 clear W1 G1 hb0
 go_still_tail 6,(by kernel_rfl)
 change wpList _ _ _ _ _ w1.drew
 obtain⟨w2,hu,W2,G2⟩:=(HW1.out.kept (Chg.drew (λ_=>False) w1)).put k l N
 have G3:=(HG1.out.none.trans (Chg.drew _ w1)).trans G2
 clear c0 c1 cb HW1 HG1 HB G2
 change (Instr.mapUpdate 167 (.map (some m)) (.int .i64 k) (.agg #[.int .i64 l,.int .u64 N])).run Tryz.prog w1.drew=_ at hu
 generalize w1.drew=w3 at *
 go_wp2_with fail
 go_ret
 exact⟨rfl,W2,G3⟩
def nw(s:Option (Int×Nat))(n:Int):Option (Int×Nat):=
 match s with
 |none=>some (n,1)
 |some (l,B)=>if l<n then some (n,shl1 B (min (n-l) 64).toNat) else if 64≤l-n then none else if B.testBit (l-n).toNat then none else some (l,B|||2^(l-n).toNat)
def may(k n:Int):Bool:=decide (0≤k∧k<16∧0≤n)
def isnew(f:Seen)(k n:Int):Bool:=may k n&&(nw (f k) n).isSome
def nextf(f:Seen)(k n:Int):Seen:=if may k n then (match nw (f k) n with|some p=>upd f k p|none=>f) else f
def Fine(f:Seen):Prop:=∀k l B,f k=some (l,B)→0≤l∧l≤9223372036854775807∧B<18446744073709551616
theorem Fine.none:Fine (λ_=>none):=λk l B h=>by cases h
theorem Fine.upd{f:Seen}(h:Fine f){k l:Int}{B:Nat}(hl:0≤l∧l≤9223372036854775807∧B<18446744073709551616):Fine (upd f k (l,B)):=by
 intro j l' B' hj
 unfold Go.Proofs.YtnpihllannobgaaGreatDoor.upd at hj
 split at hj
 ·cases hj;exact hl
 ·exact h j l' B' hj
theorem shl1_lt(B d:Nat):shl1 B d<18446744073709551616:=by
 unfold shl1
 exact Nat.or_lt_two_pow (n:=64) (Nat.mod_lt _ (by omega)) (by omega)
theorem may_is{k n:Int}:may k n=true↔0≤k∧k<16∧0≤n:=by unfold may;simp
theorem Fine.next{f:Seen}(h:Fine f)(k n:Int)(hn:n≤9223372036854775807):Fine (nextf f k n):=by
 unfold nextf
 split
 ·rename_i hm
  have:=may_is.1 hm
  split
  ·rename_i p hp
   obtain⟨l,B⟩:=p
   apply h.upd
   unfold nw at hp
   split at hp
   ·cases hp;omega
   ·rename_i l' B' hf
    have h1:=h k l' B' hf
    split at hp
    ·cases hp;exact⟨by omega,by omega,shl1_lt _ _⟩
    ·split at hp
     ·cases hp
     ·split at hp
      ·cases hp
      ·cases hp
       exact⟨by omega,by omega,Nat.or_lt_two_pow (n:=64) h1.2.2 (Nat.pow_lt_pow_right (by omega) (by omega))⟩
  ·exact h
 ·exact h
theorem dupput_any(w:World)(b m:Nat)(f:Seen)(k n:Int)(h:Wk w b m f)(hf:Fine f)(hn:n≤9223372036854775807):
  Calls Tryz.prog 208 #[.pointer (some ⟨b,0,none⟩),.int .i64 k,.int .i64 n] w (kZ m w b (nextf f k n) (isnew f k n)):=by
 by_cases hm:0≤k∧k<16∧0≤n
 ·have hm':=may_is.2 hm
  have e1:∀p,nw (f k) n=some p→nextf f k n=upd f k p∧isnew f k n=true:=λp hp=>by unfold nextf isnew;rw[hm',hp];exact⟨rfl,rfl⟩
  have e2:nw (f k) n=none→nextf f k n=f∧isnew f k n=false:=λhp=>by unfold nextf isnew;rw[hm',hp];exact⟨rfl,rfl⟩
  cases hk:f k with
  |none=>
   obtain⟨h1,h2⟩:=e1 (n,1) (by rw[hk];rfl)
   rw[h1,h2]
   exact dupput_first w b m f k n h hm hk
  |some p=>
   obtain⟨l,B⟩:=p
   obtain⟨l0,l1,lB⟩:=hf k l B hk
   by_cases hl:l<n
   ·by_cases h64: -(l-n)≤64
    ·obtain⟨h1,h2⟩:=e1 (n,shl1 B (-(l-n)).toNat) (by rw[hk];unfold nw;simp only[];rw[if_pos hl,show min (n-l) 64= -(l-n) from by omega])
     rw[h1,h2]
     exact dupput_up1 w b m f k n l B h hm hk l0 hl hn h64
    ·obtain⟨h1,h2⟩:=e1 (n,shl1 B 64) (by rw[hk];unfold nw;simp only[];rw[if_pos hl,show min (n-l) 64=64 from by omega];rfl)
     rw[h1,h2]
     exact dupput_up2 w b m f k n l B h hm hk l0 hl hn (by omega)
   ·by_cases h64:64≤l-n
    ·obtain⟨h1,h2⟩:=e2 (by rw[hk];unfold nw;simp only[];rw[if_neg hl,if_pos h64])
     rw[h1,h2]
     exact dupput_old w b m f k n l B h hm hk l1 h64
    ·cases hb:B.testBit (l-n).toNat with
     |true=>
      obtain⟨h1,h2⟩:=e2 (by rw[hk];unfold nw;simp only[];rw[if_neg hl,if_neg h64,hb];rfl)
      rw[h1,h2]
      exact dupput_bit w b m f k n l B h hm hk l1 (by omega) (by omega) lB hb
     |false=>
      obtain⟨h1,h2⟩:=e1 (l,B|||2^(l-n).toNat) (by rw[hk];unfold nw;simp only[];rw[if_neg hl,if_neg h64,hb];rfl)
      rw[h1,h2]
      exact dupput_back w b m f k n l B h hm hk l1 (by omega) (by omega) lB hb
 ·have hm':may k n=false:=by unfold may;exact decide_eq_false hm
  have h1:nextf f k n=f:=by unfold nextf;rw[hm'];rfl
  have h2:isnew f k n=false:=by unfold isnew;rw[hm'];rfl
  rw[h1,h2]
  exact dupput_out w b m f k n h (by omega)
end Go.Proofs.YtnpihllannobgaaGreatDoor
