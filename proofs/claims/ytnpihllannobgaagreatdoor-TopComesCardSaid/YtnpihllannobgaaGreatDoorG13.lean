/- Steps of the proof, part G13. No condition. -/
import Derived.Test.YtnpihllannobgaaGreatDoorG03
import Derived.Test.YtnpihllannobgaaGreatDoorG12
import Derived.Test.YtnpihllannobgaaGreatDoorG10
import Derived.StillTailTactics
import Derived.WalkSmall
namespace Go.Proofs.YtnpihllannobgaaGreatDoor
set_option linter.unusedVariables false
set_option linter.unusedSimpArgs false
set_option maxRecDepth 100000
set_option maxHeartbeats 32000000
open Go.ChangeShapes Go.WideShapes Go.ChangeAt Go.RowKit
abbrev Seen:=Int→Option (Int×Nat)
def VS(p:Int×Nat):Value:= .agg #[.int .i64 p.1,.int .u64 p.2]
def Mv(f:Seen):Int→Option Value:=λn=>(f n).map VS
def upd(f:Seen)(n:Int)(p:Int×Nat):Seen:=λm=>if m=n then some p else f m
def Wk(w:World)(b m:Nat)(f:Seen):Prop:=w.heap[b]? =some (.cells #[.map (some m)] 169 (0,0))∧Mp w m (Mv f)∧b≠m
theorem Wk.c{w:World}{b m:Nat}{f:Seen}(h:Wk w b m f):w.cell? ⟨b,0,none⟩=some (.map (some m)):=by rw[qJ h.1];rfl
theorem Wk.keep{w w':World}{b m:Nat}{f:Seen}{S:Nat→Prop}(h:Wk w b m f)(g:Chg S w w')(hb:¬S b)(hm:¬S m):Wk w' b m f:=⟨Chg.keep g h.1 hb,h.2.1.keep g hm,h.2.2⟩
theorem Wk.kept{w w':World}{b m:Nat}{f:Seen}(h:Wk w b m f)(g:Chg (λ_=>False) w w'):Wk w' b m f:=h.keep g (λf=>f) (λf=>f)
theorem zero52(w:World):(zeroValue 314).run Tryz.prog w= .ok (.agg #[.int .i64 0,.int .u64 0]) w:=by kernel_rfl
theorem ty48:Tryz.prog.underlying 167=some (.map 3 314):=by kernel_rfl
theorem ty3:Tryz.prog.underlying 3=some (.int .i64):=by kernel_rfl
theorem Wk.look{w:World}{b m:Nat}{f:Seen}(h:Wk w b m f)(n:Int):
  (Instr.lookup 167 (.map (some m)) (.int .i64 n) true).run Tryz.prog w= .ok (.tuple #[((f n).map VS).getD (.agg #[.int .i64 0,.int .u64 0]),.bool (f n).isSome]) w:=by
 have:=h.2.1.lookup ty48 ty3 (zero52 w) n
 rw[show (Mv f n).isSome=(f n).isSome from by unfold Mv;simp] at this
 exact this
theorem Wk.put{w:World}{b m:Nat}{f:Seen}(h:Wk w b m f)(n x:Int)(y:Nat):
  ∃w',(Instr.mapUpdate 167 (.map (some m)) (.int .i64 n) (.agg #[.int .i64 x,.int .u64 y])).run Tryz.prog w= .ok () w'∧Wk w' b m (upd f n (x,y))∧Chg (· =m) w w':=by
 obtain⟨w',h1,h2,h3⟩:=h.2.1.update ty48 ty3 n (VS (x,y))
 refine⟨w',h1,⟨Chg.keep h3 h.1 h.2.2,h2.congr (λk=>?_),h.2.2⟩,h3⟩
 unfold Mv upd;split <;> rfl
def PNewDup(w:World)(e:Ending)(w':World):Prop:=∃b m,e= .returned (.pointer (some ⟨b,0,none⟩))∧Wk w' b m (λ_=>none)∧w.heap.size≤b∧w.heap.size≤m∧b<w'.heap.size∧m<w'.heap.size∧Chg (λ_=>False) w w'
theorem dupnew_any(w:World):Calls Tryz.prog 52 #[] w (PNewDup w):=by
 have hm:=@run_makeMap Tryz.prog
 go_enter Tryz.func52,Tryz.ntmps52
 go_wp2
 go_ret
 have g1:=Chg.alloc (λ_=>False) w (.map #[] 0)
 have g2:=Chg.alloc (λ_=>False) (w.alloc (.map #[] 0)) (.cells #[.map (some w.heap.size)] 169 (0,0))
 have m1:=(Mp.made w).keep g2 (λf=>f)
 have hs:(w.alloc (.map #[] 0)).heap.size=w.heap.size+1:=by simp
 have hb:=qV (w.alloc (.map #[] 0)) (.cells #[.map (some w.heap.size)] 169 (0,0))
 rw[hs] at hb
 refine⟨_,w.heap.size,rfl,⟨hb,m1.congr (λn=>by rfl),?_⟩,?_,Nat.le_refl _,?_,?_,g1.trans g2⟩ <;> simp
 omega
def PSetDup(m:Nat)(w:World)(b:Nat)(f:Seen)(r:Bool)(e:Ending)(w':World):Prop:=e= .returned (.bool r)∧Wk w' b m f∧Chg (· =m) w w'
theorem dupput_out(w:World)(b m:Nat)(f:Seen)(k n:Int)(h:Wk w b m f)(hk:k<0∨16≤k∨n<0):
  Calls Tryz.prog 208 #[.pointer (some ⟨b,0,none⟩),.int .i64 k,.int .i64 n] w (PSetDup m w b f false):=by
 by_cases h0:k<0
 ·go_enter Tryz.func208,Tryz.ntmps208
  go_wp2
  go_ret
  exact⟨rfl,h,Chg.refl _ _⟩
 ·by_cases h1:16≤k
  ·go_enter Tryz.func208,Tryz.ntmps208
   go_wp2
   go_ret
   exact⟨rfl,h,Chg.refl _ _⟩
  ·have h2:n<0:=by omega
   go_enter Tryz.func208,Tryz.ntmps208
   go_wp2
   go_ret
   exact⟨rfl,h,Chg.refl _ _⟩
theorem dupput_first(w:World)(b m:Nat)(f:Seen)(k n:Int)(h:Wk w b m f)(hk:0≤k∧k<16∧0≤n)(hf:f k=none):
  Calls Tryz.prog 208 #[.pointer (some ⟨b,0,none⟩),.int .i64 k,.int .i64 n] w (PSetDup m w b (upd f k (n,1)) true):=by
 have hc:=h.c
 have hl:=h.look k
 rw[hf] at hl
 simp only[Option.map_none,Option.map_some,VS,Option.getD_none,Option.getD_some,Option.isSome_none,Option.isSome_some] at hl
 obtain⟨k0,k1,n0⟩:=hk
 have HH:=qQ h
 clear h
 go_enter Tryz.func208,Tryz.ntmps208
 go_wp2_with fail
 clear hl hc
 obtain⟨o,ho⟩:=qZ (Obj.cells #[.int .i64 n,.int .u64 1] 314 (0,0))
 have hb0:(w.alloc o).heap[w.heap.size]? =some o:=qV _ _
 have G1:=Chg.alloc (λ_=>False) w o
 have W1:=HH.out.kept G1
 rw[←ho]
 generalize w.alloc o=w1 at *
 subst ho
 clear HH
 have c0:w1.cell? ⟨w.heap.size,0,none⟩=some (.int .i64 n):=by rw[qJ hb0];rfl
 have c1:w1.cell? ⟨w.heap.size,1,none⟩=some (.int .u64 1):=by rw[qJ hb0];rfl
 have cb:=W1.c
 have HW1:=qQ W1
 have HG1:=qQ G1
 have HB:=qQ hb0
 clear W1 G1 hb0
 go_still_tail 6,(by kernel_rfl)
 change wpList _ _ _ _ _ w1.drew
 obtain⟨w2,hu,W2,G2⟩:=(HW1.out.kept (Chg.drew (λ_=>False) w1)).put k n 1
 have G3:=(HG1.out.none.trans (Chg.drew _ w1)).trans G2
 clear c0 c1 cb HW1 HG1 HB G2
 change (Instr.mapUpdate 167 (.map (some m)) (.int .i64 k) (.agg #[.int .i64 n,.int .u64 1])).run Tryz.prog w1.drew=_ at hu
 generalize w1.drew=w3 at *
 go_wp2_with fail
 go_ret
 exact⟨rfl,W2,G3⟩
theorem bit_is(B i:Nat)(hB:B<18446744073709551616):(bits BinOp.and IntKind.u64 ((B:Int) / 2^i) 1==1)=B.testBit i:=by
 have e:((B:Int) / 2^i)=((B / 2^i:Nat):Int):=by push_cast;rfl
 have hl:B / 2^i≤B:=Nat.div_le_self _ _
 rw[e,Nat.testBit_eq_decide_div_mod_eq]
 generalize B / 2^i=q at *
 rw[and_one_u64 _ (by omega) (by omega)]
 by_cases h:q % 2=1
 ·rw[decide_eq_true h,beq_iff_eq];omega
 ·rw[decide_eq_false h,beq_eq_false_iff_ne];omega
def shl1(B d:Nat):Nat:=B*2^d % 18446744073709551616|||1
theorem wrap_nat(x:Nat):IntKind.u64.wrap (x:Int)=((x % 18446744073709551616:Nat):Int):=by
 simp only[IntKind.wrap,IntKind.bits,IntKind.signed]
 simp
theorem shl1_is(B d:Nat):bits BinOp.or IntKind.u64 (IntKind.u64.wrap ((B:Int)*2^d)) 1=(shl1 B d:Nat):=by
 have e:((B:Int)*2^d)=((B*2^d:Nat):Int):=by push_cast;rfl
 rw[e,wrap_nat]
 exact bits_or_u64_nat _ 1 (Nat.mod_lt _ (by omega)) (by omega)
theorem set1_is(B i:Nat)(hB:B<18446744073709551616)(hi:i<64):bits BinOp.or IntKind.u64 (B:Int) (IntKind.u64.wrap (2^i))=((B|||2^i:Nat):Int):=by
 have e:(2:Int)^i=((2^i:Nat):Int):=by push_cast;rfl
 have h2:2^i<2^64:=Nat.pow_lt_pow_right (by omega) hi
 rw[e,wrap_nat,Nat.mod_eq_of_lt h2]
 exact bits_or_u64_nat _ _ hB h2
theorem dupput_up1(w:World)(b m:Nat)(f:Seen)(k n l:Int)(B:Nat)(h:Wk w b m f)(hk:0≤k∧k<16∧0≤n)(hf:f k=some (l,B))(hl0:0≤l)(hln:l<n)(hn:n≤9223372036854775807)(hd: -(l-n)≤64):
  Calls Tryz.prog 208 #[.pointer (some ⟨b,0,none⟩),.int .i64 k,.int .i64 n] w (PSetDup m w b (upd f k (n,shl1 B (-(l-n)).toNat)) true):=by
 have hc:=h.c
 have hl:=h.look k
 rw[hf] at hl
 simp only[Option.map_none,Option.map_some,VS,Option.getD_none,Option.getD_some,Option.isSome_none,Option.isSome_some] at hl
 obtain⟨k0,k1,n0⟩:=hk
 have HH:=qQ h
 clear h
 have hy:bits BinOp.or IntKind.u64 (IntKind.u64.wrap ((B:Int)*2^(-(l-n)).toNat)) 1=(shl1 B (-(l-n)).toNat:Nat):=shl1_is B (-(l-n)).toNat
 have HY:=qQ hy
 clear hy
 go_enter Tryz.func208,Tryz.ntmps208
 go_wp2_with fail
 clear hl hc
 have hy:=HY.out
 rw[hy]
 generalize shl1 B (-(l-n)).toNat=N at *
 clear hy HY
 obtain⟨o,ho⟩:=qZ (Obj.cells #[.int .i64 n,.int .u64 N] 314 (0,0))
 have hb0:(w.alloc o).heap[w.heap.size]? =some o:=qV _ _
 have G1:=Chg.alloc (λ_=>False) w o
 have W1:=HH.out.kept G1
 rw[←ho]
 generalize w.alloc o=w1 at *
 subst ho
 clear HH
 have c0:w1.cell? ⟨w.heap.size,0,none⟩=some (.int .i64 n):=by rw[qJ hb0];rfl
 have c1:w1.cell? ⟨w.heap.size,1,none⟩=some (.int .u64 N):=by rw[qJ hb0];rfl
 have cb:=W1.c
 have HW1:=qQ W1
 have HG1:=qQ G1
 have HB:=qQ hb0
 clear W1 G1 hb0
 go_still_tail 6,(by kernel_rfl)
 change wpList _ _ _ _ _ w1.drew
 obtain⟨w2,hu,W2,G2⟩:=(HW1.out.kept (Chg.drew (λ_=>False) w1)).put k n N
 have G3:=(HG1.out.none.trans (Chg.drew _ w1)).trans G2
 clear c0 c1 cb HW1 HG1 HB G2
 change (Instr.mapUpdate 167 (.map (some m)) (.int .i64 k) (.agg #[.int .i64 n,.int .u64 N])).run Tryz.prog w1.drew=_ at hu
 generalize w1.drew=w3 at *
 go_wp2_with fail
 go_ret
 exact⟨rfl,W2,G3⟩
theorem dupput_up2(w:World)(b m:Nat)(f:Seen)(k n l:Int)(B:Nat)(h:Wk w b m f)(hk:0≤k∧k<16∧0≤n)(hf:f k=some (l,B))(hl0:0≤l)(hln:l<n)(hn:n≤9223372036854775807)(hd:64< -(l-n)):
  Calls Tryz.prog 208 #[.pointer (some ⟨b,0,none⟩),.int .i64 k,.int .i64 n] w (PSetDup m w b (upd f k (n,shl1 B 64)) true):=by
 have hc:=h.c
 have hl:=h.look k
 rw[hf] at hl
 simp only[Option.map_none,Option.map_some,VS,Option.getD_none,Option.getD_some,Option.isSome_none,Option.isSome_some] at hl
 obtain⟨k0,k1,n0⟩:=hk
 have HH:=qQ h
 clear h
 have hy:bits BinOp.or IntKind.u64 (IntKind.u64.wrap ((B:Int)*18446744073709551616)) 1=(shl1 B 64:Nat):=shl1_is B 64
 have HY:=qQ hy
 clear hy
 go_enter Tryz.func208,Tryz.ntmps208
 go_wp2_with fail
 clear hl hc
 have hy:=HY.out
 rw[hy]
 generalize shl1 B 64=N at *
 clear hy HY
 obtain⟨o,ho⟩:=qZ (Obj.cells #[.int .i64 n,.int .u64 N] 314 (0,0))
 have hb0:(w.alloc o).heap[w.heap.size]? =some o:=qV _ _
 have G1:=Chg.alloc (λ_=>False) w o
 have W1:=HH.out.kept G1
 rw[←ho]
 generalize w.alloc o=w1 at *
 subst ho
 clear HH
 have c0:w1.cell? ⟨w.heap.size,0,none⟩=some (.int .i64 n):=by rw[qJ hb0];rfl
 have c1:w1.cell? ⟨w.heap.size,1,none⟩=some (.int .u64 N):=by rw[qJ hb0];rfl
 have cb:=W1.c
 have HW1:=qQ W1
 have HG1:=qQ G1
 have HB:=qQ hb0
 clear W1 G1 hb0
 go_still_tail 6,(by kernel_rfl)
 change wpList _ _ _ _ _ w1.drew
 obtain⟨w2,hu,W2,G2⟩:=(HW1.out.kept (Chg.drew (λ_=>False) w1)).put k n N
 have G3:=(HG1.out.none.trans (Chg.drew _ w1)).trans G2
 clear c0 c1 cb HW1 HG1 HB G2
 change (Instr.mapUpdate 167 (.map (some m)) (.int .i64 k) (.agg #[.int .i64 n,.int .u64 N])).run Tryz.prog w1.drew=_ at hu
 generalize w1.drew=w3 at *
 go_wp2_with fail
 go_ret
 exact⟨rfl,W2,G3⟩
theorem dupput_old(w:World)(b m:Nat)(f:Seen)(k n l:Int)(B:Nat)(h:Wk w b m f)(hk:0≤k∧k<16∧0≤n)(hf:f k=some (l,B))(hl0:l≤9223372036854775807)(hln:64≤l-n):
  Calls Tryz.prog 208 #[.pointer (some ⟨b,0,none⟩),.int .i64 k,.int .i64 n] w (PSetDup m w b f false):=by
 have hc:=h.c
 have hl:=h.look k
 rw[hf] at hl
 simp only[Option.map_none,Option.map_some,VS,Option.getD_none,Option.getD_some,Option.isSome_none,Option.isSome_some] at hl
 obtain⟨k0,k1,n0⟩:=hk
 have HH:=qQ h
 clear h
 go_enter Tryz.func208,Tryz.ntmps208
 go_wp2_with fail
 go_ret
 have g:=Chg.alloc (λ_=>False) w (Obj.cells #[.int .i64 l,.int .u64 B] 314 (0,0))
 exact⟨rfl,HH.out.kept g,g.none⟩
theorem dupput_bit(w:World)(b m:Nat)(f:Seen)(k n l:Int)(B:Nat)(h:Wk w b m f)(hk:0≤k∧k<16∧0≤n)(hf:f k=some (l,B))(hl0:l≤9223372036854775807)(hln:l-n<64)(hnl:n≤l)(hB:B<18446744073709551616)(hbit:B.testBit (l-n).toNat=true):
  Calls Tryz.prog 208 #[.pointer (some ⟨b,0,none⟩),.int .i64 k,.int .i64 n] w (PSetDup m w b f false):=by
 have hc:=h.c
 have hl:=h.look k
 rw[hf] at hl
 simp only[Option.map_none,Option.map_some,VS,Option.getD_none,Option.getD_some,Option.isSome_none,Option.isSome_some] at hl
 obtain⟨k0,k1,n0⟩:=hk
 have HH:=qQ h
 clear h
 have hbt:=bit_is B (l-n).toNat hB
 rw[hbit] at hbt
 go_enter Tryz.func208,Tryz.ntmps208
 go_wp2_with fail
 go_ret
 have g:=Chg.alloc (λ_=>False) w (Obj.cells #[.int .i64 l,.int .u64 B] 314 (0,0))
 exact⟨rfl,HH.out.kept g,g.none⟩
theorem dupput_back(w:World)(b m:Nat)(f:Seen)(k n l:Int)(B:Nat)(h:Wk w b m f)(hk:0≤k∧k<16∧0≤n)(hf:f k=some (l,B))(hl0:l≤9223372036854775807)(hln:l-n<64)(hnl:n≤l)(hB:B<18446744073709551616)(hbit:B.testBit (l-n).toNat=false):
  Calls Tryz.prog 208 #[.pointer (some ⟨b,0,none⟩),.int .i64 k,.int .i64 n] w (PSetDup m w b (upd f k (l,B|||2^(l-n).toNat)) true):=by
 have hc:=h.c
 have hl:=h.look k
 rw[hf] at hl
 simp only[Option.map_none,Option.map_some,VS,Option.getD_none,Option.getD_some,Option.isSome_none,Option.isSome_some] at hl
 obtain⟨k0,k1,n0⟩:=hk
 have HH:=qQ h
 clear h
 have hbt:=bit_is B (l-n).toNat hB
 rw[hbit] at hbt
 have hy:=set1_is B (l-n).toNat hB (by omega)
 have HY:=qQ hy
 clear hy
 go_enter Tryz.func208,Tryz.ntmps208
 go_wp2_with fail
 clear hl hc
 have HH2:=qQ HH.out
 obtain⟨o,ho⟩:=qZ (Obj.cells #[.int .i64 l,.int .u64 B] 314 (0,0))
 have hb0:(w.alloc o).heap[w.heap.size]? =some o:=qV _ _
 have G1:=Chg.alloc (λ_=>False) w o
 have W1:=HH.out.kept G1
 rw[←ho]
 generalize w.alloc o=w1 at *
 subst ho
 clear HH
 have c1:w1.cell? ⟨w.heap.size,1,none⟩=some (.int .u64 B):=by rw[qJ hb0];rfl
 have HW1:=qQ W1
 have HG1:=qQ G1
 have HB:=qQ hb0
 clear W1 G1 hb0
 go_still_tail 6,(by kernel_rfl)
 change wpList _ _ _ _ _ w1.drew
 have hb0:=Chg.keep (Chg.drew (λ_=>False) w1) HB.out (λf=>f)
 have fz:=qK hb0 1
 have c1':=qJ hb0 1
 have HB2:=qQ hb0
 have HW2:=qQ (HW1.out.kept (Chg.drew (λ_=>False) w1))
 have HG2:=qQ (HG1.out.none.trans (Chg.drew (λj=>w.heap.size≤j) w1))
 clear hb0 HB HW1 HG1 c1
 generalize w1.drew=w2 at *
 go_wp2_with fail
 have hy:=HY.out
 rw[hy]
 generalize B|||2^(l-n).toNat=N at *
 clear hy HY
 obtain⟨w4,hw4⟩:=qZ (w2.setCell ⟨w.heap.size,1,none⟩ (.int .u64 N))
 have hb0:=qB HB2.out 1 (.int .u64 N)
 have g4:Chg (λj=>w.heap.size≤j) w2 (w2.setCell ⟨w.heap.size,1,none⟩ (.int .u64 N)):=Chg.set w2 ⟨w.heap.size,1,none⟩ _ (Nat.le_refl _)
 have W1:Wk (w2.setCell ⟨w.heap.size,1,none⟩ (.int .u64 N)) b m f:=HH2.out.kept ((HG2.out.trans g4).fresh)
 have G1:=(HG2.out.trans g4).fresh
 rw[←hw4] at hb0 W1 G1 ⊢
 clear g4 HB2 HW2 HG2 fz c1' hw4 HH2
 generalize w4=w1 at *
 have c0:w1.cell? ⟨w.heap.size,0,none⟩=some (.int .i64 l):=by rw[qJ hb0];rfl
 have c1:w1.cell? ⟨w.heap.size,1,none⟩=some (.int .u64 N):=by rw[qJ hb0];rfl
 have cb:=W1.c
 have HW1:=qQ W1
 have HG1:=qQ G1
 have HB:=qQ hb0
 clear W1 G1 hb0
 go_still_tail 6,(by kernel_rfl)
 change wpList _ _ _ _ _ w1.drew
 obtain⟨w2,hu,W2,G2⟩:=(HW1.out.kept (Chg.drew (λ_=>False) w1)).put k l N
 have G3:=(HG1.out.none.trans (Chg.drew _ w1)).trans G2
 clear c0 c1 cb HW1 HG1 HB G2
 change (Instr.mapUpdate 167 (.map (some m)) (.int .i64 k) (.agg #[.int .i64 l,.int .u64 N])).run Tryz.prog w1.drew=_ at hu
 generalize w1.drew=w3 at *
 go_wp2_with fail
 go_ret
 exact⟨rfl,W2,G3⟩
def nw(s:Option (Int×Nat))(n:Int):Option (Int×Nat):=
 match s with
 |none=>some (n,1)
 |some (l,B)=>if l<n then some (n,shl1 B (min (n-l) 64).toNat) else if 64≤l-n then none else if B.testBit (l-n).toNat then none else some (l,B|||2^(l-n).toNat)
def may(k n:Int):Bool:=decide (0≤k∧k<16∧0≤n)
def isnew(f:Seen)(k n:Int):Bool:=may k n&&(nw (f k) n).isSome
def kF(f:Seen)(k n:Int):Seen:=if may k n then (match nw (f k) n with|some p=>upd f k p|none=>f) else f
def Fine(f:Seen):Prop:=∀k l B,f k=some (l,B)→0≤l∧l≤9223372036854775807∧B<18446744073709551616
theorem Fine.none:Fine (λ_=>none):=λk l B h=>by cases h
theorem Fine.upd{f:Seen}(h:Fine f){k l:Int}{B:Nat}(hl:0≤l∧l≤9223372036854775807∧B<18446744073709551616):Fine (upd f k (l,B)):=by
 intro j l' B' hj
 unfold Go.Proofs.YtnpihllannobgaaGreatDoor.upd at hj
 split at hj
 ·cases hj;exact hl
 ·exact h j l' B' hj
theorem shl1_lt(B d:Nat):shl1 B d<18446744073709551616:=by
 unfold shl1
 exact Nat.or_lt_two_pow (n:=64) (Nat.mod_lt _ (by omega)) (by omega)
theorem may_is{k n:Int}:may k n=true↔0≤k∧k<16∧0≤n:=by unfold may;simp
theorem Fine.next{f:Seen}(h:Fine f)(k n:Int)(hn:n≤9223372036854775807):Fine (kF f k n):=by
 unfold kF
 split
 ·rename_i hm
  have:=may_is.1 hm
  split
  ·rename_i p hp
   obtain⟨l,B⟩:=p
   apply h.upd
   unfold nw at hp
   split at hp
   ·cases hp;omega
   ·rename_i l' B' hf
    have h1:=h k l' B' hf
    split at hp
    ·cases hp;exact⟨by omega,by omega,shl1_lt _ _⟩
    ·split at hp
     ·cases hp
     ·split at hp
      ·cases hp
      ·cases hp
       exact⟨by omega,by omega,Nat.or_lt_two_pow (n:=64) h1.2.2 (Nat.pow_lt_pow_right (by omega) (by omega))⟩
  ·exact h
 ·exact h
theorem dupput_any(w:World)(b m:Nat)(f:Seen)(k n:Int)(h:Wk w b m f)(hf:Fine f)(hn:n≤9223372036854775807):
  Calls Tryz.prog 208 #[.pointer (some ⟨b,0,none⟩),.int .i64 k,.int .i64 n] w (PSetDup m w b (kF f k n) (isnew f k n)):=by
 by_cases hm:0≤k∧k<16∧0≤n
 ·have hm':=may_is.2 hm
  have e1:∀p,nw (f k) n=some p→kF f k n=upd f k p∧isnew f k n=true:=λp hp=>by unfold kF isnew;rw[hm',hp];exact⟨rfl,rfl⟩
  have e2:nw (f k) n=none→kF f k n=f∧isnew f k n=false:=λhp=>by unfold kF isnew;rw[hm',hp];exact⟨rfl,rfl⟩
  cases hk:f k with
  |none=>
   obtain⟨h1,h2⟩:=e1 (n,1) (by rw[hk];rfl)
   rw[h1,h2]
   exact dupput_first w b m f k n h hm hk
  |some p=>
   obtain⟨l,B⟩:=p
   obtain⟨l0,l1,lB⟩:=hf k l B hk
   by_cases hl:l<n
   ·by_cases h64: -(l-n)≤64
    ·obtain⟨h1,h2⟩:=e1 (n,shl1 B (-(l-n)).toNat) (by rw[hk];unfold nw;simp only[];rw[if_pos hl,show min (n-l) 64= -(l-n) from by omega])
     rw[h1,h2]
     exact dupput_up1 w b m f k n l B h hm hk l0 hl hn h64
    ·obtain⟨h1,h2⟩:=e1 (n,shl1 B 64) (by rw[hk];unfold nw;simp only[];rw[if_pos hl,show min (n-l) 64=64 from by omega];rfl)
     rw[h1,h2]
     exact dupput_up2 w b m f k n l B h hm hk l0 hl hn (by omega)
   ·by_cases h64:64≤l-n
    ·obtain⟨h1,h2⟩:=e2 (by rw[hk];unfold nw;simp only[];rw[if_neg hl,if_pos h64])
     rw[h1,h2]
     exact dupput_old w b m f k n l B h hm hk l1 h64
    ·cases hb:B.testBit (l-n).toNat with
     |true=>
      obtain⟨h1,h2⟩:=e2 (by rw[hk];unfold nw;simp only[];rw[if_neg hl,if_neg h64,hb];rfl)
      rw[h1,h2]
      exact dupput_bit w b m f k n l B h hm hk l1 (by omega) (by omega) lB hb
     |false=>
      obtain⟨h1,h2⟩:=e1 (l,B|||2^(l-n).toNat) (by rw[hk];unfold nw;simp only[];rw[if_neg hl,if_neg h64,hb];rfl)
      rw[h1,h2]
      exact dupput_back w b m f k n l B h hm hk l1 (by omega) (by omega) lB hb
 ·have hm':may k n=false:=by unfold may;exact decide_eq_false hm
  have h1:kF f k n=f:=by unfold kF;rw[hm'];rfl
  have h2:isnew f k n=false:=by unfold isnew;rw[hm'];rfl
  rw[h1,h2]
  exact dupput_out w b m f k n h (by omega)
def cl(i j:Nat):Nat:=i*16+j+1
theorem qf(i j:Nat):cl i j≠0:=by unfold cl;omega
theorem zK{i j i' j':Nat}(h:cl i j=cl i' j')(hj:j<16)(hj':j'<16):i=i'∧j=j':=by unfold cl at h;omega
def Off(own:Cls)(c:Nat)(S:Nat→Prop):Prop:=∀k,own k=0∨own k=c→¬S k
theorem Off.of{own:Cls}{c d:Nat}(h0:d≠0)(h:d≠c):Off own c (Of own d):=λk hk e=>by
 unfold Of at e;rcases hk with hk|hk <;> omega
def vr(p:Int×Value×List Int):List Value:=[.int .i64 p.1,p.2.1]
theorem vq(p:Int×Value×List Int):(vr p).length=2:=rfl
def Qo(w:World)(own:Cls)(c:Nat)(b:Nat)(most:Int)(l:List (Int×List Int)):Prop:=
 ∃(v:Value) (lost:Int) (ps:List (Int×Value×List Int)),w.heap[b]? =some (.cells #[.int .i64 most,v,.int .i64 lost] 166 (0,0))∧own b=c∧0≤lost∧lost≤1000000∧
  w.ownsRow 0 213 2 v ps.length (ps.flatMap vr)∧(∀k,v.ownBlock=some k→own k=c)∧(∀p∈ps,BO w own p.2.1 p.2.2)∧l=ps.map (λp=>(p.1,p.2.2))
def Wo(w:World)(own:Cls)(c:Nat)(b:Nat)(f:Seen):Prop:=∃m,Wk w b m f∧own b=c∧own m=c∧Fine f
def Po(w:World)(own:Cls)(c:Nat)(v:Value)(me:Int):Option (Int×List Pa)→Prop
 |none=>v= .pointer none
 |some (rank,L)=>∃b row,v= .pointer (some ⟨b,0,none⟩)∧Ps w b row me rank L∧own b=c∧(∀k,row.ownBlock=some k→own k=c)∧0≤rank∧rank≤255∧L.length≤3∧PSrt L
def Ko(w:World)(own:Cls)(c:Nat)(v:Value)(every:Int):Option Int→Prop
 |none=>v= .pointer none
 |some since=>∃b,v= .pointer (some ⟨b,0,none⟩)∧Kp w b every since∧own b=c∧0≤since∧since≤1000000
def Mo(w:World)(own:Cls)(c:Nat)(m:Nat)(f:Int→Option (List Int)):Prop:=
 ∃g,Mp w m g∧own m=c∧∀n,match f n with
  |none=>g n=none
  |some L=>∃v,g n=some v∧RV VI w own v L
def Co(w:World)(own:Cls)(c:Nat)(b:Nat)(x y z:Int):Prop:=Ck w b x y z∧own b=c
section
variable {w w':World}{own own':Cls}{c:Nat}{S:Nat→Prop}
theorem Off.zero(h:Off own c S):∀j,own j=0→¬S j:=λj hj=>h j (.inl hj)
theorem Ro.step{α:Type}{V:α→Value}{a:Option Addr}{len:Nat}{zs:List α}(h:Ro V w own a len zs)(e:Ext w own own')(g:Chg S w w')(hS:∀j,own j=0→¬S j):Ro V w' own' a len zs:=
 ⟨h.1,λi hi=>by
  obtain⟨x,e1,hb,hc⟩:=h.2 i hi
  have hl:=qP hc
  have hx:=zw x i
  exact⟨x,e1,by rw[e _ (hx▸hl),hb],by rw[g.cell hl (λs=>hS _ hb (hx▸s)),hc]⟩⟩
theorem RV.step{V:Int→Value}{v:Value}{L:List Int}(h:RV V w own v L)(e:Ext w own own')(g:Chg S w w')(hS:∀j,own j=0→¬S j):RV V w' own' v L:=by
 obtain⟨A,c,h1,h2,h3⟩:=h
 exact⟨A,c,h1,h2.step e g hS,h3⟩
theorem BO.step{v:Value}{L:List Int}(h:BO w own v L)(e:Ext w own own')(g:Chg S w w')(hS:∀j,own j=0→¬S j):BO w' own' v L:=⟨h.1.step e g hS,h.2⟩
theorem Co.step{b:Nat}{x y z:Int}(h:Co w own c b x y z)(e:Ext w own own')(g:Chg S w w')(o:Off own c S):Co w' own' c b x y z:=
 ⟨h.1.keep g (o b (.inr h.2)),by rw[e b (qX h.1)];exact h.2⟩
theorem Qo.step{b:Nat}{most:Int}{l:List (Int×List Int)}(h:Qo w own c b most l)(e:Ext w own own')(g:Chg S w w')(o:Off own c S):Qo w' own' c b most l:=by
 obtain⟨v,lost,ps,h1,h2,h3,h4,h5,h6,h7,h8⟩:=h
 exact⟨v,lost,ps,Chg.keep g h1 (o b (.inr h2)),by rw[e b (qX h1)];exact h2,h3,h4,qY h5 g (λk hk=>o k (.inr (h6 k hk))),λk hk=>by rw[e k (qg h5 hk).2];exact h6 k hk,
  λp hp=>(h7 p hp).step e g o.zero,h8⟩
theorem Wo.step{b:Nat}{f:Seen}(h:Wo w own c b f)(e:Ext w own own')(g:Chg S w w')(o:Off own c S):Wo w' own' c b f:=by
 obtain⟨m,h1,h2,h3,h4⟩:=h
 exact⟨m,h1.keep g (o b (.inr h2)) (o m (.inr h3)),by rw[e b (qX h1.1)];exact h2,by rw[e m h1.2.1.lt];exact h3,h4⟩
theorem Po.step{v:Value}{me:Int}{p:Option (Int×List Pa)}(h:Po w own c v me p)(e:Ext w own own')(g:Chg S w w')(o:Off own c S):Po w' own' c v me p:=by
 cases p with
 |none=>exact h
 |some q=>
  obtain⟨b,row,h1,h2,h3,h4,h5⟩:=h
  exact⟨b,row,h1,h2.keep g (λk hk=>o k (.inr (hk.elim (λe=>e▸h3) (λe=>h4 k e)))),by rw[e b (qX h2.blk)];exact h3,λk hk=>by rw[e k (qg h2.row hk).2];exact h4 k hk,h5⟩
theorem Mo.step{m:Nat}{f:Int→Option (List Int)}(h:Mo w own c m f)(e:Ext w own own')(g:Chg S w w')(o:Off own c S):Mo w' own' c m f:=by
 obtain⟨q,h1,h2,h3⟩:=h
 refine⟨q,h1.keep g (o m (.inr h2)),by rw[e m h1.lt];exact h2,λn=>?_⟩
 have h4:=h3 n
 cases hf:f n with
 |none=>rw[hf] at h4;exact h4
 |some L=>
  rw[hf] at h4
  obtain⟨v,h5,h6⟩:=h4
  exact⟨v,h5,h6.step e g o.zero⟩
theorem Ko.step{v:Value}{every:Int}{k:Option Int}(h:Ko w own c v every k)(e:Ext w own own')(g:Chg S w w')(o:Off own c S):Ko w' own' c v every k:=by
 cases k with
 |none=>exact h
 |some q=>
  obtain⟨b,h1,h2,h3,h4⟩:=h
  exact⟨b,h1,h2.keep g (o b (.inr h3)),by rw[e b (qX h2)];exact h3,h4⟩
end
abbrev QE:=Int×Value×List Int
structure Qb(w:World)(b:Nat)(most:Int)(v:Value)(lost:Int)(ps:List QE):Prop where
 blk:w.heap[b]? =some (.cells #[.int .i64 most,v,.int .i64 lost] 166 (0,0))
 row:w.ownsRow 0 213 2 v ps.length (ps.flatMap vr)
section
variable {w w':World}{b:Nat}{most lost:Int}{v:Value}{ps:List QE}
theorem Qb.ne(h:Qb w b most v lost ps){k:Nat}(hk:v.ownBlock=some k):k≠b:=by
 intro e
 subst e
 rcases h.row.2 with ⟨e,_⟩|⟨g',c',cur,e2,_,hg,_⟩
 ·rw[e] at hk;cases hk
 ·rw[e2] at hk;cases hk
  rw[h.blk] at hg;cases hg
theorem Qb.c0(h:Qb w b most v lost ps):w.cell? ⟨b,0,none⟩=some (.int .i64 most):=by rw[qJ h.blk];rfl
theorem Qb.c1(h:Qb w b most v lost ps):w.cell? ⟨b,1,none⟩=some v:=by rw[qJ h.blk];rfl
theorem Qb.c2(h:Qb w b most v lost ps):w.cell? ⟨b,2,none⟩=some (.int .i64 lost):=by rw[qJ h.blk];rfl
theorem Qb.f(h:Qb w b most v lost ps)(o:Nat):w.frozen? ⟨b,o,none⟩=false:=qK h.blk o
theorem Qb.keep{S:Nat→Prop}(h:Qb w b most v lost ps)(g:Chg S w w')(h1:¬S b)(h2:∀k,v.ownBlock=some k→¬S k):Qb w' b most v lost ps:=
 ⟨Chg.keep g h.blk h1,qY h.row g h2⟩
theorem Qb.kept(h:Qb w b most v lost ps)(g:Chg (λ_=>False) w w'):Qb w' b most v lost ps:=h.keep g (λe=>e) (λ_ _ e=>e)
theorem Qb.val(h:Qb w b most v lost ps):∃A c,v= .slice A ps.length c:=by
 rcases qD h.row with ⟨e,h1,_⟩|⟨g,cap,e,_⟩
 ·exact⟨none,0,by rw[e,h1]⟩
 ·exact⟨_,_,e⟩
theorem Qb.at{g cap n:Nat}(h:Qb w b most (.slice (some ⟨g,0,none⟩) n cap) lost ps){k:Nat}{p:QE}(hk:ps[k]? =some p):
  w.cell? ⟨g,k*2,none⟩=some (.int .i64 p.1)∧w.cell? ⟨g,k*2+1,none⟩=some p.2.1:=by
 have hn:n=ps.length:=by
  rcases h.row.2 with ⟨h1,_⟩|⟨g',c',_,h1,_⟩
  ·cases h1
  ·cases h1;rfl
 subst hn
 refine⟨qL h.row _ _ ?_,qL h.row _ _ ?_⟩
 ·exact vh vq ps k 0 p hk (by omega)
 ·exact vh vq ps k 1 p hk (by omega)
end
theorem Qo.of{w:World}{own:Cls}{c b:Nat}{most lost:Int}{v:Value}{ps:List QE}(h:Qb w b most v lost ps)(h2:own b=c)(h3:0≤lost)(h4:lost≤1000000)(h6:∀k,v.ownBlock=some k→own k=c)(h7:∀p∈ps,BO w own p.2.1 p.2.2):
  Qo w own c b most (ps.map (λp=>(p.1,p.2.2))):=⟨v,lost,ps,h.blk,h2,h3,h4,h.row,h6,h7,rfl⟩
theorem qnew_any(n:Int)(h1:1≤n)(h2:n≤32)(w:World):Calls Tryz.prog 51 #[.int .i64 n] w (PNewAt w (λb w'=>Qb w' b n (.slice none 0 0) 0 [])):=by
 rcases (by omega:n=1∨(1<n∧n<32)∨n=32) with rfl|⟨a,b⟩|rfl
 all_goals clear h1 h2
 all_goals go_enter Tryz.func51,Tryz.ntmps51
 all_goals go_wp2_with fail
 all_goals try (rw[if_pos b])
 all_goals go_ret
 all_goals exact⟨_,rfl,⟨qV _ _,World.ownsRow_nil _ _ _ _⟩,Nat.le_refl _,Chg.alloc _ _ _⟩
theorem qlen_any(w:World)(b:Nat)(most lost:Int)(v:Value)(ps:List QE)(h:Qb w b most v lost ps):Calls Tryz.prog 77 #[.pointer (some ⟨b,0,none⟩)] w λe w'=>e= .returned (.int .i64 ps.length)∧w'=w:=by
 have c1:=h.c1
 obtain⟨A,c,rfl⟩:=h.val
 obtain⟨n,hn⟩:=qZ ps.length
 rw[←hn] at c1 ⊢
 clear h hn
 go_enter Tryz.func77,Tryz.ntmps77
 go_wp2_with fail
 go_ret
 exact⟨rfl,rfl⟩
theorem qat_nil(w:World)(b:Nat)(most lost:Int)(v:Value)(h:Qb w b most v lost []):Calls Tryz.prog 145 #[.pointer (some ⟨b,0,none⟩),.int .i64 0] w λe w'=>e= .returned (.tuple #[.slice none 0 0,.bool false])∧w'=w:=by
 have c1:=h.c1
 obtain⟨A,c,rfl⟩:=h.val
 clear h
 go_enter Tryz.func145,Tryz.ntmps145
 go_wp2_with fail
 go_ret2
 exact⟨rfl,rfl⟩
def PQAt(w:World)(L:List Int)(en:Ending)(w':World):Prop:=
 ∃v,en= .returned (.tuple #[v,.bool true])∧w'.ownsRow w.heap.size 5 1 v L.length (L.map V8)∧Chg (λ_=>False) w w'
theorem qat_any(w:World)(b:Nat)(most lost:Int)(v:Value)(p:QE)(ps:List QE)(h:Qb w b most v lost (p::ps))(hn:(p::ps).length≤1000)(hb:BS w w.heap.size p.2.1 p.2.2)(hL:p.2.2.length≤100000):
  Calls Tryz.prog 145 #[.pointer (some ⟨b,0,none⟩),.int .i64 0] w (PQAt w p.2.2):=by
 have c1:=h.c1
 obtain⟨g,cap,rfl,_⟩:∃g cap,v= .slice (some ⟨g,0,none⟩) (ps.length+1) cap∧True:=by
  rcases qD h.row with ⟨e,h1,_⟩|⟨g,cap,e,_⟩
  ·simp at h1
  ·exact⟨g,cap,e,trivial⟩
 obtain⟨d0,d1⟩:=h.at (k:=0) (p:=p) rfl
 simp only[Nat.zero_mul,Nat.zero_add] at d0 d1
 obtain⟨p1,pv,L⟩:=p
 dsimp only at *
 obtain⟨A,c,rfl,hR,hA,_⟩:=hb
 have HC:=qQ (λh=>clone8_any w A L.length c L h hA hL)
 have HR:=qQ hR
 obtain⟨n,hn2⟩:=qZ (ps.length+1)
 rw[←hn2] at c1
 have i1:decide (0≥(n:Int))=false:=by simp;omega
 have i2:(0:Int)<(n:Int):=by omega
 have i3:0<n:=by omega
 obtain⟨ln,hln⟩:=qZ L.length
 rw[←hln] at d1 HC HR
 clear h hn hL hA hR hn2 hln
 go_enter Tryz.func145,Tryz.ntmps145
 go_wp2_with fail
 (with_reducible refine (HC.out HR.out).mono ?_)
 rintro en w1 ⟨v1,rfl,hO,hG⟩
 have HX:=qQ (And.intro hO hG)
 clear hO hG
 go_wp2_with fail
 go_ret2
 exact⟨_,rfl,HX.out⟩
theorem qto_any(w:World)(b:Nat)(most lost:Int)(v:Value)(L:List QE)(h:Qb w b most v lost L)(hL:L.length≤1000)(hs:∀p∈L,∃A n c,p.2.1= .slice A n c):
  Calls Tryz.prog 146 #[.pointer (some ⟨b,0,none⟩)] w (PNew VI 3 w (L.map Prod.fst)):=by
 have c2:=h.c1
 have H:=qQ h
 obtain⟨A,c,rfl⟩:=h.val
 obtain⟨len,hlen⟩:∃n,n=L.length:=⟨_,rfl⟩
 rw[←hlen] at c2 hL H
 have hl:(len:Int)≤1000:=by omega
 have HL:=qQ hlen
 obtain⟨Z,hZ⟩:=qZ (L.map Prod.fst)
 have hzl:Z.length=len:=by rw[hZ,List.length_map];exact hlen.symm
 have HZ:=qQ (And.intro hZ hzl)
 rw[←hZ]
 have HS:=qQ hs
 clear h hlen hZ hzl hs
 go_enter Tryz.func146,Tryz.ntmps146
 go_wp2_with fail
 clear c2
 go_loopw [3,13] (λu3 i wr=>∃(k:Nat),k≤len∧i= .int .i64 k∧wr.ownsRow w.heap.size 3 1 u3 k ((Z.take k).map VI)∧Chg (λj=>w.heap.size≤j) w wr) (λ_ i _=>len-(intOf i).toNat)
 case atStart=>exact⟨0,by omega,rfl,World.ownsRow_nil _ _ _ _,Chg.refl _ _⟩
 case round=>
  obtain⟨k,hk,rfl,hO,hG⟩:=hrel
  have HO:=qQ hO
  have HG:=qQ hG
  clear hO hG
  by_cases hlt:k<len
  ·obtain⟨z,hz⟩:∃z,L[k]? =some z:=⟨_,List.getElem?_eq_getElem (by have:=HL.out;omega)⟩
   obtain⟨g,cap,hv⟩:∃g cap,A=some ⟨g,0,none⟩∧c=cap:=by
    rcases qD H.out.row with ⟨e,h1,_⟩|⟨g,cap,e,_⟩
    ·have:=HL.out;omega
    ·cases e;exact⟨_,_,rfl,rfl⟩
   obtain⟨rfl,rfl⟩:=hv
   have hrow:Qb wr b most _ lost L:=H.out.kept HG.out.fresh
   obtain⟨d0,d1⟩:=hrow.at hz
   have i1:(k:Int)<(len:Int):=by omega
   have hnx:Z.take (k+1)=Z.take k++[z.1]:=by
    rw[List.take_add_one,HZ.out.1,List.getElem?_map,hz];rfl
   have HNX:=qQ hnx
   have hga:=Chg.alloc (λ_=>False) wr (.cells #[.int .i64 z.1,z.2.1] 213)
   have HGA:=qQ (And.intro (HG.out.trans hga.none) (qY HO.out hga (λ_ _ e=>e)))
   have HGS:=qQ HG.out.size
   obtain⟨zA,zn,zc,hzv⟩:=HS.out z (List.mem_of_getElem? hz)
   clear hz hrow HG hga hnx HO
   obtain⟨z1,zv,zl⟩:=z
   dsimp only at hzv
   subst hzv
   go_wp2_with (at_builtin;go_loud (refine app1 (V:=VI) elI rfl (.tmp 17) (.tmp 20) rfl w.heap.size u3 k ((Z.take k).map VI) rfl (HGA.out.2.alloc _) (wr.heap.size+1) z1 rfl ?c1 rfl (by omega) (by omega) ?hb ?grow))
   case c1=>simp[VI]
   case hb=>have:=HGS.out;simp;omega
   case grow=>
    intro v4 w4 hown hgr hat
    have ga:=Chg.alloc (λ_=>False) (wr.alloc (.cells #[.int .i64 z1,.slice zA zn zc] 213)) (.cells #[.int .i64 z1] 3)
    have gg:=qH (S:=λj=>w.heap.size≤j) hgr (λj e=>(qT HGA.out.2 e).1)
    have hX:w4.ownsRow w.heap.size 3 1 v4 (k+1) ((Z.take (k+1)).map VI):=by rw[HNX.out,List.map_append,List.map_take];exact hown
    have HX:=qQ (And.intro hX ((HGA.out.1.trans ga.none).trans gg))
    clear hown hgr hat ga gg hX HGA d0 d1
    go_wp2_with fail
    go_roundw
    case measure=>simp[intOf];omega
    case rel=>exact⟨k+1,by omega,by go_num,HX.out.1,HX.out.2⟩
  ·obtain rfl:k=len:=by omega
   have hO:=HO.out
   rw[List.take_of_length_le (by have:=HZ.out.2;omega)] at hO
   have HO2:=qQ hO
   clear hO HO
   go_wp2_with fail
   go_ret
   refine⟨_,rfl,?_,HG.out.fresh⟩
   rw[HZ.out.2];exact HO2.out
structure Cfg where
 nodes:Nat
 near:List Int
 hops:List Int
 guard:Int
 err:Int
 keep:Int
 loss:Int
 queue:Int
 life:Int
structure CfgOk(c:Cfg):Prop where
 n0:2≤c.nodes
 n1:c.nodes≤16
 near:c.near.length=c.nodes
 nearb:∀(i:Nat) x,c.near[i]? =some x→0≤x∧x<65536∧x<2^c.nodes∧x / 2^i % 2=0
 hops:HopOk c.hops
 g:1≤c.guard∧c.guard≤4000
 e:0≤c.err∧c.err≤1000
 k:1≤c.keep∧c.keep≤10000
 l:2≤c.loss∧c.loss≤10000
 q:1≤c.queue∧c.queue≤32
 f:1≤c.life∧c.life≤15
def cfgV(c:Cfg)(nv hv:Value):Value:=
 .agg #[.int .i64 c.nodes,nv,hv,.int .i64 c.guard,.int .i64 c.err,.int .i64 c.keep,.int .i64 c.loss,.int .i64 c.queue,.int .i64 c.life]
structure NSt where
 base:Int
 sum:Int
 slots:Int
 q:List (Int×List Int)
 up:Seen
 down:Seen
 got:Seen
 seq:Int
 last:Int
 tries:Int
 synced:Bool
 p:Option (Int×List Pa)
 k:Option Int
 listened:Int
 paths:Int→Option (List Int)
 sasn:Int
 skind:Int
 ssrc:Int
 sdst:Int
 sseq:Int
 sopen:Bool
 ev:List Ev
structure NR where
 nv:Value
 hv:Value
 clk:Nat
 q:Nat
 up:Nat
 down:Nat
 got:Nat
 pv:Value
 kv:Value
 paths:Nat
 ia:Option Addr
 il:Nat
 ic:Nat
 da:Option Addr
 dl:Nat
 dc:Nat
 ev:Value
def vt(c:Cfg)(i:Nat)(r:NR)(s:NSt):Array Value:=
 #[.int .i64 c.nodes,r.nv,r.hv,.int .i64 c.guard,.int .i64 c.err,.int .i64 c.keep,.int .i64 c.loss,.int .i64 c.queue,.int .i64 c.life,
  .int .i64 i,.pointer (some ⟨r.clk,0,none⟩),.pointer (some ⟨r.q,0,none⟩),.pointer (some ⟨r.up,0,none⟩),.pointer (some ⟨r.down,0,none⟩),.pointer (some ⟨r.got,0,none⟩),
  .int .i64 s.seq,.int .i64 s.last,.int .i64 s.tries,.bool s.synced,r.pv,r.kv,.int .i64 s.listened,.map (some r.paths),
  .int .i64 s.sasn,.int .i64 s.skind,.int .i64 s.ssrc,.int .i64 s.sdst,.int .i64 s.sseq,.slice r.ia r.il r.ic,.slice r.da r.dl r.dc,.bool s.sopen,r.ev]
def jP(e:Ev×Value×Value):List Value:=
 [.int .i64 e.1.kind,.int .i64 e.1.i,.int .i64 e.1.src,.int .i64 e.1.code,.int .i64 e.1.p.src,.int .i64 e.1.p.dst,.int .i64 e.1.p.n,.int .i64 e.1.p.life,e.2.1,e.2.2]
theorem cellsV_len(e:Ev×Value×Value):(jP e).length=10:=rfl
def Eo(w:World)(own:Cls)(c:Nat)(v:Value)(l:List Ev):Prop:=
 ∃ps:List (Ev×Value×Value),w.ownsRow 0 44 10 v ps.length (ps.flatMap jP)∧(∀k,v.ownBlock=some k→own k=c)∧(∀p∈ps,RV VI w own p.2.1 p.1.p.path∧BO w own p.2.2 p.1.p.data)∧l=ps.map Prod.fst
def Np(w:World)(own:Cls)(c:Cfg)(i:Nat)(r:NR)(s:NSt):Prop:=
 RV VU w own r.nv c.near∧RV VI w own r.hv c.hops∧Co w own (cl i 1) r.clk s.base s.sum s.slots∧Qo w own (cl i 2) r.q c.queue s.q∧
 Wo w own (cl i 3) r.up s.up∧Wo w own (cl i 4) r.down s.down∧Wo w own (cl i 5) r.got s.got∧Po w own (cl i 6) r.pv i s.p∧Ko w own (cl i 7) r.kv c.keep s.k∧
 Mo w own (cl i 8) r.paths s.paths∧Eo w own (cl i 9) r.ev s.ev
structure Nd(w:World)(own:Cls)(c:Cfg)(i b:Nat)(r:NR)(s:NSt):Prop where
 blk:w.heap[b]? =some (.cells (vt c i r s) 75 (0,0))
 ob:own b=cl i 0
 np:Np w own c i r s
def NdS(own:Cls)(i:Nat):Nat→Prop:=λk=>∃j,j<16∧own k=cl i j
section
variable {w w':World}{own own':Cls}{c:Cfg}{i b:Nat}{r r':NR}{s s':NSt}{S:Nat→Prop}
theorem Eo.step{c:Nat}{v:Value}{l:List Ev}(h:Eo w own c v l)(e:Ext w own own')(g:Chg S w w')(o:Off own c S):Eo w' own' c v l:=by
 obtain⟨ps,h1,h2,h3,h4⟩:=h
 exact⟨ps,qY h1 g (λk hk=>o k (.inr (h2 k hk))),λk hk=>by rw[e k (qg h1 hk).2];exact h2 k hk,
  λp hp=>⟨(h3 p hp).1.step e g o.zero,(h3 p hp).2.step e g o.zero⟩,h4⟩
theorem Np.step(h:Np w own c i r s)(e:Ext w own own')(g:Chg S w w')(o0:∀k,own k=0→¬S k)(o:∀j,1≤j→j≤9→∀k,own k=cl i j→¬S k):Np w' own' c i r s:=by
 obtain⟨h1,h2,h3,h4,h5,h6,h7,h8,h9,ha,hb⟩:=h
 have of:∀j,1≤j→j≤9→Off own (cl i j) S:=λj h1 h2 k hk=>hk.elim (o0 k) (o j h1 h2 k)
 exact⟨h1.step e g o0,h2.step e g o0,h3.step e g (of 1 (by omega) (by omega)),h4.step e g (of 2 (by omega) (by omega)),h5.step e g (of 3 (by omega) (by omega)),h6.step e g (of 4 (by omega) (by omega)),
  h7.step e g (of 5 (by omega) (by omega)),h8.step e g (of 6 (by omega) (by omega)),h9.step e g (of 7 (by omega) (by omega)),ha.step e g (of 8 (by omega) (by omega)),hb.step e g (of 9 (by omega) (by omega))⟩
theorem Nd.step(h:Nd w own c i b r s)(e:Ext w own own')(g:Chg S w w')(o0:∀k,own k=0→¬S k)(o:∀k,NdS own i k→¬S k):Nd w' own' c i b r s:=
 ⟨Chg.keep g h.blk (o b ⟨0,by omega,h.ob⟩),by rw[e b (qX h.blk)];exact h.ob,h.np.step e g o0 (λj h1 h2 k hk=>o k ⟨j,by omega,hk⟩)⟩
theorem Nd.kept(h:Nd w own c i b r s)(g:Chg (λ_=>False) w w'):Nd w' own c i b r s:=h.step (Ext.refl _ _) g (λ_ _ e=>e) (λ_ _ e=>e)
theorem Nd.cell(h:Nd w own c i b r s)(o:Nat):w.cell? ⟨b,o,none⟩=(vt c i r s)[o]? :=by rw[qJ h.blk]
theorem Nd.f(h:Nd w own c i b r s)(o:Nat):w.frozen? ⟨b,o,none⟩=false:=qK h.blk o
end
structure NAt(w0:World)(o0:Cls)(c:Cfg)(i b:Nat)(s:NSt)(w:World)(o:Cls)(r:NR):Prop where
 nd:Nd w o c i b r s
 z:Z w o
 ext:Ext w0 o0 o
 chg:Chg (NdS o0 i) w0 w
section
variable {w0 w w':World}{o0 o o':Cls}{c:Cfg}{i b:Nat}{r r':NR}{s s':NSt}
theorem NAt.start(h:Nd w o c i b r s)(z:Z w o):NAt w o c i b s w o r:=⟨h,z,Ext.refl _ _,Chg.refl _ _⟩
theorem Chg.extN{w w1 w2:World}{o1 o2:Cls}(h:Chg (NdS o1 i) w w1)(e:Ext w o1 o2)(k:Chg (NdS o2 i) w1 w2):Chg (NdS o1 i) w w2:=
 ⟨k.os.trans h.os,k.tape.trans h.tape,k.output.trans h.output,Nat.le_trans h.size k.size,
  λq hi hn=>(k.block q (Nat.lt_of_lt_of_le hi h.size) (λhh=>hn (by obtain⟨j,h1,h2⟩:=hh;exact⟨j,h1,by rw[←e q hi];exact h2⟩))).trans (h.block q hi hn)⟩
theorem NAt.next(h:NAt w0 o0 c i b s w o r)(n:Nd w' o' c i b r' s')(z:Z w' o')(e:Ext w o o')(g:Chg (NdS o i) w w'):NAt w0 o0 c i b s' w' o' r':=
 ⟨n,z,h.ext.trans e h.chg.size,h.chg.extN h.ext g⟩
theorem NAt.trans{w1:World}{o1:Cls}{s1:NSt}{r1:NR}(h:NAt w0 o0 c i b s1 w1 o1 r1)(k:NAt w1 o1 c i b s w o r):NAt w0 o0 c i b s w o r:=
 h.next k.nd k.z k.ext k.chg
theorem NAt.kept(h:NAt w0 o0 c i b s w o r)(g:Chg (λ_=>False) w w'):NAt w0 o0 c i b s w' o r:=
 h.next (h.nd.kept g) (h.z.more g.size) (Ext.refl _ _) g.none
theorem NAt.cell(h:NAt w0 o0 c i b s w o r)(k:Nat):w.cell? ⟨b,k,none⟩=(vt c i r s)[k]? :=h.nd.cell k
theorem NAt.f(h:NAt w0 o0 c i b s w o r)(k:Nat):w.frozen? ⟨b,k,none⟩=false:=h.nd.f k
theorem NAt.set(h:NAt w0 o0 c i b s w o r)(k:Nat)(v:Value)(hc:vt c i r' s'=(vt c i r s).setIfInBounds k v)(hp:Np w o c i r' s'):NAt w0 o0 c i b s' (w.setCell ⟨b,k,none⟩ v) o r':=by
 have g:=chg1 w b k v
 have hb:=h.nd.ob
 refine h.next ⟨?_,hb,hp.step (Ext.refl _ _) g (λq h1 e=>?_) (λj h1 h2 q h3 e=>?_)⟩ (h.z.more g.size) (Ext.refl _ _) (g.mono (λq _ e=>⟨0,by omega,by rw[e];exact hb⟩))
 ·rw[hc]
  exact qB h.nd.blk k v
 ·subst e;rw[hb] at h1;exact qf i 0 h1
 ·subst e;rw[hb] at h3;have:=(zK h3 (by omega) (by omega)).2;omega
theorem NAt.part(h:NAt w0 o0 c i b s w o r)(j:Nat)(hj:1≤j∧j≤9)(e:Ext w o o')(z:Z w' o')(g:Chg (Of o (cl i j)) w w')(hc:vt c i r s'=vt c i r s)
  (hp:(∀k,o k=0→¬Of o (cl i j) k)→(∀m,m≠j→m<16→Off o (cl i m) (Of o (cl i j)))→Np w' o' c i r s'):NAt w0 o0 c i b s' w' o' r:=by
 have hb:=h.nd.ob
 refine h.next ⟨?_,?_,hp ?_ ?_⟩ z e (g.mono (λq _ e=>⟨j,by omega,e⟩))
 ·rw[hc]
  refine Chg.keep g h.nd.blk (λe=>?_)
  unfold Of at e;rw[hb] at e;have:=(zK e (by omega) (by omega)).2;omega
 ·rw[e b (qX h.nd.blk)];exact hb
 ·intro k h1 h2;unfold Of at h2;rw[h1] at h2;exact qf i j h2.symm
 ·intro m hm h16
  refine Off.of (qf i j) (λe=>?_)
  exact hm (zK e (by omega) (by omega)).2.symm
end
end Go.Proofs.YtnpihllannobgaaGreatDoor
