/- Steps of the proof, part G39. No condition. -/
import Derived.Test.YtnpihllannobgaaGreatDoorG38
import Derived.Test.YtnpihllannobgaaGreatDoorG34
import Derived.Test.YtnpihllannobgaaGreatDoorG01
import Derived.Lib.Strings
import Derived.Lib.Slices
import Derived.Lib.Walk
import Derived.Lib.Bytealg
import Derived.LoopN
import Derived.Lib.ConvBytes
namespace Go.Proofs.YtnpihllannobgaaGreatDoor
set_option linter.unusedVariables false
set_option linter.unusedSimpArgs false
set_option maxRecDepth 100000
set_option maxHeartbeats 32000000
open Go.ChangeShapes Go.WideShapes Go.ChangeAt Go.RowKit
theorem cG_is(nm wm:Nat):cG (2+nm) (1+wm) (1+((9:Nat):Int)) (2*((2+nm:Nat):Int)+((0:Nat):Int)) (1+((5:Nat):Int)) (1+((14:Nat):Int)) ((1:Nat):Int)=cT (2+nm) (1+wm):=by
 unfold cG cT
 simp
theorem d0_so(w:World)(o:Cls):So w o d0 (.slice none 0 0) (.slice none 0 0) (.slice none 0 0) (.slice none 0 0) (.slice none 0 0):=
 ⟨RV.nil _ _ _,RV.nil _ _ _,RV.nil _ _ _,RV.nil _ _ _,⟨_,_,_,rfl⟩,(λz hz=>by cases hz),(λz hz=>by cases hz)⟩
theorem dt_new{n:Nat}{x:WM}(h:∀i,i<n→dtOf (x.nd i)=dtOf (newN i)):DtOk n x∧∀i,i<n→(x.nd i).q=[]:=by
 have k:∀i,i<n→(x.nd i).q=[]∧(x.nd i).paths=jb:=λi hi=>by
  obtain⟨q1,q2,q3,q4,q5,q6⟩:=dt_all (show dtOf (x.nd i)=([],qx,qx,qx,jb,-1) from h i hi)
  exact⟨q1,q5⟩
 refine⟨λi hi=>⟨by rw[(k i hi).1];exact⟨by simp,λp hp=>by cases hp⟩,λm L hL=>by rw[(k i hi).2] at hL;cases hL⟩,λi hi=>(k i hi).1⟩
theorem idx47_0(f':Int)(pu:Nat)(w:World):Sem.run Tryz.prog (Instr.index 47 (.agg #[.int .i64 2,.int .i64 f',.int .i64 0,.slice none 0 0,.slice none 0 0,.slice none 0 0,.slice none 0 0,.slice (some ⟨pu,0,none⟩) 1 1,.int .i64 2,.int .i64 0,.int .i64 f',.slice none 0 0,.slice none 0 0,.slice none 0 0,.slice none 0 0,.slice (some ⟨pu+1,0,none⟩) 1 1]) (.int .i64 0)) w= .ok (.agg #[.int .i64 2,.int .i64 f',.int .i64 0,.slice none 0 0,.slice none 0 0,.slice none 0 0,.slice none 0 0,.slice (some ⟨pu,0,none⟩) 1 1]) w:=by
 unfold Sem.run
 rfl
theorem idx47_1(f':Int)(pu:Nat)(w:World):Sem.run Tryz.prog (Instr.index 47 (.agg #[.int .i64 2,.int .i64 f',.int .i64 0,.slice none 0 0,.slice none 0 0,.slice none 0 0,.slice none 0 0,.slice (some ⟨pu,0,none⟩) 1 1,.int .i64 2,.int .i64 0,.int .i64 f',.slice none 0 0,.slice none 0 0,.slice none 0 0,.slice none 0 0,.slice (some ⟨pu+1,0,none⟩) 1 1]) (.int .i64 1)) w= .ok (.agg #[.int .i64 2,.int .i64 0,.int .i64 f',.slice none 0 0,.slice none 0 0,.slice none 0 0,.slice none 0 0,.slice (some ⟨pu+1,0,none⟩) 1 1]) w:=by
 unfold Sem.run
 rfl
theorem two_allocs(w:World)(o0 o1:Obj):((w.alloc o0).alloc o1).heap[w.heap.size]? =some o0∧((w.alloc o0).alloc o1).heap[w.heap.size+1]? =some o1∧Chg (λ_=>False) w ((w.alloc o0).alloc o1):=by
 have s0:(w.alloc o0).heap.size=w.heap.size+1:=by simp
 have g0:=Chg.alloc (λ_=>False) w o0
 have g1:=Chg.alloc (λ_=>False) (w.alloc o0) o1
 have b0:=qV w o0
 have b1:=qV (w.alloc o0) o1
 rw[s0] at b1
 exact⟨Chg.keep g1 b0 (λe=>e),b1,g0.trans g1⟩
def KpW(w:World)(o:Cls)(w':World):Prop:=Chg (λ_=>False) w w'∧∀q,q<w.heap.size→o q=0
theorem KpW.go{w w1 w2:World}{o o2:Cls}{c:Cfg}{W:Nat}{x:WM}{a:Int}{r:WR}(h:KpW w o w1)(A:WAt w1 o c W x a w2 o2 r):KpW w o2 w2:=by
 have g1:=h.1
 have g2:=A.chg
 refine⟨⟨g2.os.trans g1.os,g2.tape.trans g1.tape,g2.output.trans g1.output,Nat.le_trans g1.size g2.size,λq hq _=>(g2.block q (Nat.lt_of_lt_of_le hq g1.size) (λe=>?_)).trans (g1.block q hq (λe=>e))⟩,λq hq=>(A.ext q (Nat.lt_of_lt_of_le hq g1.size)).trans (h.2 q hq)⟩
 exact e.1 (h.2 q hq)
theorem KpW.ch{w w1 w2:World}{o:Cls}(h:KpW w o w1)(g:Chg (λ_=>False) w1 w2):KpW w o w2:=⟨h.1.trans g,h.2⟩
theorem WAt.blk0{w1 w2:World}{o o2:Cls}{c:Cfg}{W:Nat}{x:WM}{a:Int}{r:WR}(A:WAt w1 o c W x a w2 o2 r){b:Nat}{ob:Obj}(h:w1.heap[b]? =some ob∧o b=0):w2.heap[b]? =some ob∧o2 b=0:=
 ⟨Chg.keep A.chg h.1 (λe=>e.1 h.2),(A.ext b (qX h.1)).trans h.2⟩
def Side(w:World)(cb pu:Nat)(ob:Obj)(up dn:Int)(o:Cls)(wr:World):Prop:=
 (wr.heap[cb]? =some ob∧o cb=0)∧KpW w o wr∧(wr.heap[pu]? =some (.cells #[.int .u8 up] 5)∧o pu=0)∧(wr.heap[pu+1]? =some (.cells #[.int .u8 dn] 5)∧o (pu+1)=0)
theorem Side.go{w w1 w2:World}{cb pu:Nat}{ob:Obj}{up dn:Int}{o o2:Cls}{c:Cfg}{W:Nat}{x:WM}{a:Int}{r:WR}(h:Side w cb pu ob up dn o w1)(A:WAt w1 o c W x a w2 o2 r):Side w cb pu ob up dn o2 w2:=
 ⟨A.blk0 h.1,h.2.1.go A,A.blk0 h.2.2.1,A.blk0 h.2.2.2⟩
theorem Side.ch{w w1 w2:World}{cb pu:Nat}{ob:Obj}{up dn:Int}{o:Cls}(h:Side w cb pu ob up dn o w1)(g:Chg (λ_=>False) w1 w2):Side w cb pu ob up dn o w2:=
 ⟨⟨Chg.keep g h.1.1 (λe=>e),h.1.2⟩,h.2.1.ch g,⟨Chg.keep g h.2.2.1.1 (λe=>e),h.2.2.1.2⟩,⟨Chg.keep g h.2.2.2.1 (λe=>e),h.2.2.2.2⟩⟩
theorem WAt.asnT{w0 w:World}{o0 o:Cls}{c:Cfg}{W:Nat}{x:WM}{a b:Int}{r:WR}(A:WAt w0 o0 c W x a w o r)(e:a=b):WAt w0 o0 c W x b w o r:=e▸A
theorem WAt.re{w0 w:World}{o0 o:Cls}{c:Cfg}{W:Nat}{x:WM}{a:Int}{r:WR}(A:WAt w0 o0 c W x a w o r):WAt w o c W x a w o r:=WAt.start A.wd A.z
def cnt4(l:List Ev):Nat:=(l.filter (λe=>e.kind==4)).length
theorem cnt4_next{l:List Ev}{z:Nat}{e:Ev}(h:l[z]? =some e):cnt4 (l.take (z+1))=cnt4 (l.take z)+(if e.kind=4 then 1 else 0)∧cnt4 (l.take z)≤cnt4 l:=by
 unfold cnt4
 constructor
 ·rw[List.take_add_one,h,List.filter_append,List.length_append]
  by_cases hk:e.kind=4
  ·simp[hk]
  ·simp[hk]
 ·exact (List.Sublist.filter _ (List.take_sublist z l)).length_le
theorem cnt_evK{l:List Ev}{got:Ev}{P:Prop}[Decidable P](h:evK l=if P then [got] else [])(hg:got.kind=4):(∀e∈l,e.kind≠3∧e.kind≠5∧(e.kind=4→e=got))∧(cnt4 l=if P then 1 else 0)∧cnt4 l≤1:=by
 have hm:∀e∈evK l,e=got:=λe he=>by
  rw[h] at he
  split at he
  ·simpa using he
  ·cases he
 have hc:cnt4 l=if P then 1 else 0:=by
  have e1:l.filter (λe=>e.kind==4)=(evK l).filter (λe=>e.kind==4):=by
   unfold evK
   rw[List.filter_filter]
   congr 1
   funext e
   by_cases h4:e.kind=4
   ·simp[h4]
   ·simp[h4]
  unfold cnt4
  rw[e1,h]
  split
  ·simp[hg]
  ·rfl
 refine⟨λe he=>⟨λe3=>?_,λe5=>?_,λe4=>hm e ?_⟩,hc,by rw[hc];split <;> omega⟩
 ·have:=hm e (by unfold evK;rw[List.mem_filter];exact⟨he,by simp[e3]⟩)
  rw[this] at e3;omega
 ·have:=hm e (by unfold evK;rw[List.mem_filter];exact⟨he,by simp[e5]⟩)
  rw[this] at e5;omega
 ·unfold evK;rw[List.mem_filter];exact⟨he,by simp[e4]⟩
theorem comes_walk(hAw:∀w,Calls Tryz.prog 12 #[] w (PV (.bool true) w))(nodes wide frm up dn:Int)(hu:0≤up∧up<256)(hd:0≤dn∧dn<256)(w:World):
  Calls Tryz.prog 4 #[.int .i64 nodes,.int .i64 wide,.int .i64 frm,.int .u8 up,.int .u8 dn] w (PTrue w):=by
 obtain⟨nm,hn1,hn2⟩:=umod nodes 7 (by decide) (by decide)
 obtain⟨wm,hw1,hw2⟩:=umod wide 3 (by decide) (by decide)
 have HCF:=conf_any w nodes wide 9 0 5 14 1 nm wm 9 0 5 14 1 ⟨hn1,hn2⟩ ⟨hw1,hw2⟩ ⟨by decide,by decide+kernel⟩ ⟨by decide,by decide+kernel⟩ ⟨by decide,by decide+kernel⟩ ⟨by decide,by decide+kernel⟩ ⟨by decide,by decide+kernel⟩
 rw[cG_is] at HCF
 obtain⟨n,hn⟩:∃n:Nat,n=2+nm:=⟨_,rfl⟩
 obtain⟨wd,hwd⟩:∃wd:Nat,wd=1+wm:=⟨_,rfl⟩
 rw[←hn,←hwd] at HCF
 have hn8:2≤n∧n≤8:=by omega
 have hw3:1≤wd∧wd≤3:=by omega
 obtain⟨k,hk1,hk2⟩:=umod frm ((n:Int)-1) (by omega) (by omega)
 have HC:=qQ (And.intro (cT_ok hn8 hw3) (And.intro hn8 hw3))
 have HCF:=qQ (show Calls Tryz.prog 13 #[.int .i64 nodes,.int .i64 wide,.int .i64 9,.int .i64 0,.int .i64 5,.int .i64 14,.int .i64 1] w (λen w'=>∃g1 g2:Nat,en= .returned (.agg #[.int .i64 n,.slice (some ⟨g1,0,none⟩) n n,.slice (some ⟨g2,0,none⟩) 3 3,.int .i64 300,.int .i64 1,.int .i64 10,.int .i64 (2*n),.int .i64 6,.int .i64 15])∧
  w'.heap[g1]? =some (.cells ((cT n wd).near.map VU).toArray 23 (0,0))∧w'.heap[g2]? =some (.cells #[.int .i64 11,.int .i64 15,.int .i64 20] 3 (0,0))∧w.heap.size≤g1∧w.heap.size≤g2∧Chg (λ_=>False) w w') from HCF.mono (λen w' h=>h))
 obtain⟨P,hP⟩:∃P:Nat,P=14*n*n:=⟨_,rfl⟩
 obtain⟨T1,hT1⟩:∃T1:Nat,T1=2*n+101+P:=⟨_,rfl⟩
 obtain⟨S2,hS2⟩:∃S2:Nat,S2=2*n*n:=⟨_,rfl⟩
 have hPb:P≤896∧S2≤128:=by rw[hP,hS2];rcases jd hn8 with rfl|rfl|rfl|rfl|rfl|rfl|rfl <;> omega
 have e1:IntKind.i64.wrap ((n:Int)-1)=(n:Int)-1:=IntWalk.i64_in _ (by omega)
 have e2:IntKind.u64.wrap ((n:Int)-1)=(n:Int)-1:=by show ((n:Int)-1) % 18446744073709551616=_;omega
 have e3:((n:Int)-1==0)=false:=by simp;omega
 have e3':¬(n:Int)-1=0:=by omega
 obtain⟨f,hf⟩:∃f:Nat,f=1+k:=⟨_,rfl⟩
 have e4:IntKind.i64.wrap (1+(k:Int))=(f:Int):=(IntWalk.i64_in _ (by omega)).trans (by omega)
 have e5:IntKind.i64.wrap (2*(n:Int)+101)=2*(n:Int)+101:=IntWalk.i64_in _ (by omega)
 have e6:IntKind.i64.wrap (14*(n:Int))=14*(n:Int):=IntWalk.i64_in _ (by omega)
 have e7:IntKind.i64.wrap (14*(n:Int)*(n:Int))=(P:Int):=by rw[hP];rcases jd hn8 with rfl|rfl|rfl|rfl|rfl|rfl|rfl <;> rfl
 have e8:IntKind.i64.wrap (2*(n:Int)+101+(P:Int))=(T1:Int):=(IntWalk.i64_in _ (by omega)).trans (by omega)
 have e9:IntKind.i64.wrap (2*(n:Int))=2*(n:Int):=IntWalk.i64_in _ (by omega)
 have ea:IntKind.i64.wrap (2*(n:Int)*(n:Int))=(S2:Int):=by rw[hS2];rcases jd hn8 with rfl|rfl|rfl|rfl|rfl|rfl|rfl <;> rfl
 have HF:=qQ (show 1≤f∧f<n from by omega)
 have HT:=qQ (show T1≤1013∧S2≤128∧25*n≤T1∧n*7≤n*7∧(∀m,m<n→n*m≤S2) from ⟨by omega,by omega,by rw[hT1,hP];rcases jd hn8 with rfl|rfl|rfl|rfl|rfl|rfl|rfl <;> omega,Nat.le_refl _,λm hm=>by rw[hS2];rcases jd hn8 with rfl|rfl|rfl|rfl|rfl|rfl|rfl <;> omega⟩)
 have HU:=qQ (And.intro hu hd)
 clear hP hT1 hS2 hn hwd hn1 hw1 hk1 hu hd hn8 hw3 hPb hf hn2 hw2
 go_enter Tryz.func4,Tryz.ntmps4
 go_wp2_with fail
 with_reducible refine HCF.out.mono ?_
 rintro en w1 ⟨g1,g2,rfl,b1,b2,hg1,hg2,G1⟩
 have HM:Hid (∀W,Chg (λ_=>False) w1 W→Calls Tryz.prog 6 #[.agg #[.int .i64 n,.slice (some ⟨g1,0,none⟩) n n,.slice (some ⟨g2,0,none⟩) 3 3,.int .i64 300,.int .i64 1,.int .i64 10,.int .i64 (2*n),.int .i64 6,.int .i64 15]] W (PMade W zc (cT n wd))):=qQ (λW g=>by
  have hl:((cT n wd).near).length=n:=by simp[cT]
  have r1:=RV.blk (V:=VU) (Chg.keep g b1 (λe=>e)) (show zc g1=0 from rfl) (cT n wd).near rfl (by rw[hl];have:=HC.out.2.1.2;unfold maxLen;omega)
  rw[hl] at r1
  exact made_any HC.out.1 (z_zc _) _ _ r1 (RV.blk (V:=VI) (Chg.keep g b2 (λe=>e)) (show zc g2=0 from rfl) [11,15,20] rfl (by decide)))
 have HG1:=qQ G1
 clear b1 b2 hg1 hg2 G1 HCF
 obtain⟨OB,hOB⟩:=qZ (Obj.cells #[.int .i64 n,.slice (some ⟨g1,0,none⟩) n n,.slice (some ⟨g2,0,none⟩) 3 3,.int .i64 300,.int .i64 1,.int .i64 10,.int .i64 (2*n),.int .i64 6,.int .i64 15] 26)
 have ga:=Chg.alloc (λ_=>False) w1 OB
 have hba:=qV w1 OB
 have HM2:=qQ (HM.out _ ga)
 have HGA:=qQ (HG1.out.trans ga)
 rw[hOB] at HM2 HGA hba
 clear ga HM hOB
 go_upto_region 2 with fail
 obtain⟨cb,hcb⟩:=qZ w1.heap.size
 rw[←hcb] at hba ⊢
 generalize w1.alloc (.cells #[.int .i64 n,.slice (some ⟨g1,0,none⟩) n n,.slice (some ⟨g2,0,none⟩) 3 3,.int .i64 300,.int .i64 1,.int .i64 10,.int .i64 (2*n),.int .i64 6,.int .i64 15] 26)=w2 at *
 have HBA:=qQ hba
 have d0:w2.cell? ⟨cb,0,none⟩=some (.int .i64 n):=qJ hba 0
 have d1:w2.cell? ⟨cb,1,none⟩=some (.slice (some ⟨g1,0,none⟩) n n):=qJ hba 1
 have d2:w2.cell? ⟨cb,2,none⟩=some (.slice (some ⟨g2,0,none⟩) 3 3):=qJ hba 2
 have d3:w2.cell? ⟨cb,3,none⟩=some (.int .i64 300):=qJ hba 3
 have d4:w2.cell? ⟨cb,4,none⟩=some (.int .i64 1):=qJ hba 4
 have d5:w2.cell? ⟨cb,5,none⟩=some (.int .i64 10):=qJ hba 5
 have d6:w2.cell? ⟨cb,6,none⟩=some (.int .i64 (2*n)):=qJ hba 6
 have d7:w2.cell? ⟨cb,7,none⟩=some (.int .i64 6):=qJ hba 7
 have d8:w2.cell? ⟨cb,8,none⟩=some (.int .i64 15):=qJ hba 8
 clear hba hcb HG1
 go_wp2_with fail
 with_reducible refine HM2.out.mono ?_
 rintro en w3 ⟨W,o3,r3,rfl,hWd,hz3,hx3,hg3,hij3⟩
 have hb3:=Chg.keep hg3 HBA.out (λe=>e)
 have hcb3:o3 cb=0:=hx3 cb (qX HBA.out)
 have hkp:KpW w o3 w3:=⟨HGA.out.trans hg3,λq hq=>hx3 q (Nat.lt_of_lt_of_le hq HGA.out.size)⟩
 have HW3:=qQ (And.intro (WAt.start hWd hz3) hij3)
 have HB3:=qQ (And.intro (And.intro hb3 hcb3) hkp)
 have c0:w3.cell? ⟨cb,0,none⟩=some (.int .i64 n):=qJ hb3 0
 have c6:w3.cell? ⟨cb,6,none⟩=some (.int .i64 (2*n)):=qJ hb3 6
 clear hWd hz3 hx3 hg3 hij3 hb3 hcb3 hkp d0 d1 d2 d3 d4 d5 d6 d7 d8 HM2 HGA HBA
 unfold VP
 go_wp2_with fail
 clear hk2 e4 e1 e2 e3 e3' e5 e6 e7 e8
 go_loopw [48] (λi wr=>∃(k:Nat),k≤T1∧i= .int .i64 k∧∃x o r,r.ij=qG∧WAt w3 o3 (cT n wd) W x k wr o r∧LN n wd k (AS n wd k) x∧(∀i,i<n→dtOf (x.nd i)=dtOf (newN i))) (λi _=>T1-(intOf i).toNat)
 case atStart=>
  obtain⟨l1,l2⟩:=LN.start HC.out.2.1 HC.out.2.2
  exact⟨0,by omega,rfl,_,_,_,HW3.out.2,HW3.out.1,l1,l2⟩
 case round=>
  obtain⟨k,hk,rfl,x,o,r,hij,hA,hL,hD⟩:=hrel
  by_cases hlt:k<T1
  ·have i1:(k:Int)<(T1:Int):=by omega
   have hT:=HT.out
   obtain⟨dk1,dk2⟩:=dt_new hD
   obtain⟨a1,a2,a3,a4⟩:=hL.step dk1 (dk2 _ hL.sn) (AS_ok HC.out.2.1 HC.out.2.2 k) (by omega)
   have HS:Hid (Calls Tryz.prog 7 #[.pointer (some ⟨W,0,none⟩),.agg #[.int .i64 1,.int .i64 0,.int .i64 0,.slice none 0 0,.slice none 0 0,.slice none 0 0,.slice none 0 0,.slice none 0 0]] wr (PDo w3 o3 (cT n wd) W (qp (cT n wd) d0 (cT n wd).nodes k qG x) (k+1) r qG)):=
    qQ (hij▸wdo_slotV HC.out.1 hA ⟨by omega,by omega⟩ 0 0 (d0_so _ _) (hij.symm▸a2))
   have HI:=qQ (And.intro a1 (show∀i,i<n→dtOf ((zX (qp (cT n wd) d0 n k qG x)).nd i)=dtOf (newN i) from λi hi=>(a3 i hi).trans (hD i hi)))
   have ek:IntKind.i64.wrap ((k:Int)+1)=(k:Int)+1:=IntWalk.i64_in _ (by omega)
   clear hA hL hD dk1 dk2 a1 a2 a3 a4 hT hij
   go_wp2_with fail
   with_reducible refine HS.out.mono ?_
   rintro en w5 ⟨v,o5,r5,rfl,hA5,_,_,_,hij5⟩
   have HA5:=qQ (And.intro hA5 hij5)
   clear hA5 hij5 HS
   go_wp2_with fail
   go_roundw
   case measure=>simp[intOf];omega
   case rel=>exact⟨k+1,by omega,by go_num,_,o5,r5,HA5.out.2,HA5.out.1,HI.out.1,HI.out.2⟩
  ·obtain rfl:T1=k:=by omega
   have hph:Ph n wd f up 0 x:=⟨λ_=>hD,λe=>by omega⟩
   have HST:=qQ (AS_std HC.out.2.1 HC.out.2.2 T1 HT.out.2.2.1)
   have hcw:=hA.blk0 HB3.out.1
   have hkw:=HB3.out.2.go hA
   obtain⟨pu,hpu⟩:=qZ wr.heap.size
   obtain⟨pb0,pb1,pg⟩:=two_allocs wr (.cells #[.int .u8 up] 5) (.cells #[.int .u8 dn] 5)
   have HA1:=qQ (And.intro (And.intro hij (WAt.start (hA.kept (show (cT n wd).nodes≤16 from by have:=HC.out.2.1;show n≤16;omega) pg).wd (hA.z.more pg.size))) (And.intro hL hph))
   have hz1:=hA.z (wr.heap.size) (Nat.le_refl _)
   have hz2:=hA.z (wr.heap.size+1) (by omega)
   rw[←hpu] at pb0 pb1 hz1 hz2
   have HK1:=qQ (show Side w cb pu _ up dn o _ from And.intro (And.intro (Chg.keep pg hcw.1 (λe=>e)) hcw.2) (And.intro (hkw.ch pg) (And.intro (And.intro pb0 hz1) (And.intro pb1 hz2))))
   clear hA hij hL hD hk hlt hph hcw hkw pb0 pb1 pg hz1 hz2 HW3 HB3
   clear c0 c6
   go_wp2_with fail
   rw[←hpu]
   clear hpu
   generalize (wr.alloc (.cells #[.int .u8 up] 5)).alloc (.cells #[.int .u8 dn] 5)=wA at *
   obtain⟨ob,hob⟩:=qZ (Obj.cells #[.int .i64 n,.slice (some ⟨g1,0,none⟩) n n,.slice (some ⟨g2,0,none⟩) 3 3,.int .i64 300,.int .i64 1,.int .i64 10,.int .i64 (2*n),.int .i64 6,.int .i64 15] 26)
   rw[←hob] at HK1
   have HOB:=qQ (show∀wr:World,wr.heap[cb]? =some ob→wr.cell? ⟨cb,0,none⟩=some (.int .i64 n) from λwr h=>by rw[hob] at h;exact qJ h 0)
   clear hob
   go_loopw [63] (λi wr=>∃(q:Nat),q≤2∧i= .int .i64 q∧∃t:Nat,∃x o' r,t=T1+q*S2∧r.ij=qG∧WAt wr o' (cT n wd) W x t wr o' r∧Side w cb pu ob up dn o' wr∧LN n wd t (AS n wd T1) x∧Ph n wd f up q x) (λi _=>2-(intOf i).toNat)
   case atStart=>exact⟨0,by omega,rfl,T1,_,_,_,by omega,HA1.out.1.1,HA1.out.1.2.re,HK1.out,HA1.out.2⟩
   case round=>
    obtain⟨q,hq,rfl,t,x3,o4,r4,ht,hij,hA,hFr,hL,hP⟩:=hrel
    by_cases hlt:q<2
    ·have i1:(q:Int)<2:=by omega
     obtain⟨bq,hbq⟩:=qZ (if q=0 then up else dn)
     have HQ:=qQ hlt
     go_upto_region 12 with fail
     go_cut [14] (λu14 wx=>u14= .pointer (some ⟨wr.heap.size,0,none⟩)∧wx=wr.alloc (.cells #[.int .i64 2,.int .i64 (phI f q),.int .i64 (phT f q),.slice none 0 0,.slice none 0 0,.slice none 0 0,.slice none 0 0,.slice (some ⟨pu+q,0,none⟩) 1 1] 35))
     case first=>
      have hq3:q=0∨q=1:=by omega
      rcases hq3 with rfl|rfl
      ·rw[show ((0:Nat):Int)=0 from rfl]
       go_wp2_with (rw[idx47_0])
       go_meet
       exact⟨rfl,rfl⟩
      ·rw[show ((1:Nat):Int)=1 from rfl]
       go_wp2_with (rw[idx47_1])
       go_meet
       exact⟨rfl,rfl⟩
     obtain⟨rfl,rfl⟩:=hcut
     have hpq:wr.heap[pu+q]? =some (.cells #[.int .u8 bq] 5)∧o4 (pu+q)=0:=by
      have h0:=hFr.2.2.1
      have h1:=hFr.2.2.2
      have hq3:q=0∨q=1:=by omega
      rcases hq3 with rfl|rfl
      ·rw[hbq];exact h0
      ·rw[hbq];exact h1
     have hb8:0≤bq∧bq<256:=by have:=HU.out;rw[hbq];split <;> omega
     have hn8:=HC.out.2.1
     have hff:=HF.out
     have hTT:=HT.out
     have ht2:t≤2000:=hL.t2
     have hps:PhS n wd f t (AS n wd T1) q up bq x3:=by
      have hq3:q=0∨q=1:=by omega
      rcases hq3 with rfl|rfl
      ·rw[if_pos rfl] at hbq;subst hbq;exact ph_up hL HST.out HF.out hP
      ·exact ph_down hL HST.out HF.out hP
     have hpi:phI f q<n:=by unfold phI;split <;> omega
     obtain⟨ws,hws⟩:=qZ (wr.alloc (.cells #[.int .i64 2,.int .i64 (phI f q),.int .i64 (phT f q),.slice none 0 0,.slice none 0 0,.slice none 0 0,.slice none 0 0,.slice (some ⟨pu+q,0,none⟩) 1 1] 35))
     have hga:Chg (λ_=>False) wr ws:=by rw[hws];exact Chg.alloc _ _ _
     have hsb:ws.heap[wr.heap.size]? =some (.cells #[.int .i64 2,.int .i64 (phI f q),.int .i64 (phT f q),.slice none 0 0,.slice none 0 0,.slice none 0 0,.slice none 0 0,.slice (some ⟨pu+q,0,none⟩) 1 1] 35):=by rw[hws];exact qV _ _
     have hso:o4 wr.heap.size=0:=hA.z _ (Nat.le_refl _)
     have hAs:=(hA.kept (show (cT n wd).nodes≤16 from by show n≤16;omega) hga).re
     have hdb:=Chg.keep hga hpq.1 (λe=>e)
     have hbo:BO ws o4 (.slice (some ⟨pu+q,0,none⟩) 1 1) [bq]:=⟨RV.blk (V:=V8) hdb hpq.2 [bq] rfl (show 1≤maxLen by decide),λz hz=>by simp at hz;omega⟩
     have HS:Hid (Calls Tryz.prog 7 #[.pointer (some ⟨W,0,none⟩),.agg #[.int .i64 2,.int .i64 (phI f q),.int .i64 (phT f q),.slice none 0 0,.slice none 0 0,.slice none 0 0,.slice none 0 0,.slice (some ⟨pu+q,0,none⟩) 1 1]] ws (PDoE ws o4 (cT n wd) W (sendW (cT n wd) (phI f q) t (phT f q) [bq] x3) t r4 r4.ij 0)):=
      qQ (hps.e0▸wdo_send HC.out.1 hAs ⟨by omega,by omega⟩ (phI f q) hpi (phT f q) [bq] (by simp) (d:=d0) ⟨RV.nil _ _ _,RV.nil _ _ _,RV.nil _ _ _,RV.nil _ _ _,⟨_,_,_,rfl⟩,(λz hz=>by cases hz),(λz hz=>by cases hz)⟩ hbo hps.ok)
     have HIJ:=qQ hij
     have HK2:=qQ (And.intro (hFr.ch hga) (And.intro (And.intro hsb hso) (And.intro (And.intro hdb hpq.2) (And.intro hb8 ht))))
     have HPS:=qQ hps
     have HB5:=qQ hsb
     rw[←hws]
     clear hA hij hFr hL hP ht hpq hb8 hbq hlt hn8 hff hTT ht2 hps hpi hga hsb hso hAs hdb hbo hws
     generalize wr.heap.size=sb at *
     have d0:=qJ HB5.out 0
     have d1:=qJ HB5.out 1
     have d2:=qJ HB5.out 2
     have d3:=qJ HB5.out 3
     have d4:=qJ HB5.out 4
     have d5:=qJ HB5.out 5
     have d6:=qJ HB5.out 6
     have d7:=qJ HB5.out 7
     clear HB5
     go_wp2_with fail
     with_reducible refine HS.out.mono ?_
     rintro en w5 ⟨v5,o5,r5,rfl,hA5,_,_,_,hij5⟩
     rw[HIJ.out] at hij5
     have hFr5:=HK2.out.1.go hA5
     have hsb5:=hA5.blk0 HK2.out.2.1
     have hdb5:=hA5.blk0 HK2.out.2.2.1
     have HB8:=qQ HK2.out.2.2.2.1
     have HTE:=qQ HK2.out.2.2.2.2
     have hHO:=HOB.out w5 hFr5.1.1
     have HP5:=HPS.out
     obtain⟨m,v,tt,B,S0,E,got,hTr,hTp,hm7,hmn,hg1,hg2,hg3,hg4,hPh⟩:=HP5.trip
     have HTR:=qQ hTr
     have HPH:=qQ hPh
     have HGOT:=qQ (And.intro hg1 (And.intro hg2 (And.intro hg3 hg4)))
     have HMN:=qQ (And.intro hm7 hmn)
     have HTB:=qQ (show t≤1300 from by
      have:=HTE.out
      have:=HT.out
      have h1:=HQ.out
      have:q*S2≤1*S2:=Nat.mul_le_mul_right _ (by omega)
      omega)
     have HS5:=qQ (show∃k:Nat,k≤S2∧Value.int .i64 0= .int .i64 k∧∃j:Nat,∃x o' r,Value.int .i64 0= .int .i64 (if j<m then 0 else 1)∧r.ij=qG∧WAt w5 o' (cT n wd) W x ((t+k:Nat):Int) w5 o' r∧Side w cb pu ob up dn o' w5∧((w5.heap[sb]? =some (.cells #[.int .i64 2,.int .i64 (phI f q),.int .i64 (phT f q),.slice none 0 0,.slice none 0 0,.slice none 0 0,.slice none 0 0,.slice (some ⟨pu+q,0,none⟩) 1 1] 35)∧o' sb=0)∧(w5.heap[pu+q]? =some (.cells #[.int .u8 bq] 5)∧o' (pu+q)=0))∧LN n wd (t+k) (AS n wd T1) x∧TpAt n m v S0 E j x∧Due n m v (t+S2) j (t+k) from
      ⟨0,by omega,rfl,0,_,_,_,by rw[if_pos hTr.m0],hij5,hA5.re,hFr5,⟨hsb5,hdb5⟩,HP5.ln,hTp,due_start HC.out.2.1 hTr.m0 t (by have:=HT.out.2.2.2.2 m hmn;omega)⟩)
     clear hA5 hij5 hFr5 hsb5 hdb5 HS HK2 HPS HP5 hTr hTp hm7 hmn hg1 hg2 hg3 hg4 hPh d0 d1 d2 d3 d4 d5 d6 d7 HA1 HK1
     go_wp2_with fail
     go_loopw [17,80] (λu17 i wr=>∃k:Nat,k≤S2∧i= .int .i64 k∧∃j:Nat,∃x o' r,u17= .int .i64 (if j<m then 0 else 1)∧r.ij=qG∧WAt wr o' (cT n wd) W x ((t+k:Nat):Int) wr o' r∧Side w cb pu ob up dn o' wr∧((wr.heap[sb]? =some (.cells #[.int .i64 2,.int .i64 (phI f q),.int .i64 (phT f q),.slice none 0 0,.slice none 0 0,.slice none 0 0,.slice none 0 0,.slice (some ⟨pu+q,0,none⟩) 1 1] 35)∧o' sb=0)∧(wr.heap[pu+q]? =some (.cells #[.int .u8 bq] 5)∧o' (pu+q)=0))∧LN n wd (t+k) (AS n wd T1) x∧TpAt n m v S0 E j x∧Due n m v (t+S2) j (t+k)) (λ_ i _=>S2-(intOf i).toNat)
     case atStart=>exact HS5.out
     case round=>
      clear HS5 hHO
      obtain⟨k,hk,rfl,j,x6,o6,r6,rfl,hij6,hA6,hFr6,hSD6,hL6,hTp6,hDue6⟩:=hrel
      by_cases hlk:k<S2
      ·have i3:(k:Int)<(S2:Int):=by omega
       have hTB:=HTB.out
       have hS2:=HT.out.2.1
       obtain⟨a1,a2,j',hjj,ha',hd',hev⟩:=trip_slot HTR.out HST.out hL6 hTp6 hDue6 (by omega)
       have HS:Hid (Calls Tryz.prog 7 #[.pointer (some ⟨W,0,none⟩),.agg #[.int .i64 1,.int .i64 0,.int .i64 0,.slice none 0 0,.slice none 0 0,.slice none 0 0,.slice none 0 0,.slice none 0 0]] wr (PDo wr o6 (cT n wd) W (qp (cT n wd) d0 (cT n wd).nodes ((t+k:Nat):Int) qG x6) (((t+k:Nat):Int)+1) r6 qG)):=
        qQ (hij6▸wdo_slotV HC.out.1 hA6 ⟨by omega,by omega⟩ 0 0 (d0_so _ _) (hij6.symm▸a2))
       have HI:=qQ (And.intro a1 (And.intro ha' hd'))
       have HJ:=qQ (And.intro hjj (And.intro hTp6.km ha'.km))
       have HEV:=qQ (cnt_evK hev HGOT.out.1)
       have HF6:=qQ (And.intro hFr6 hSD6)
       obtain⟨a0,ha0⟩:∃a0:Int,a0=if j<m then 0 else 1:=⟨_,rfl⟩
       have ha1:0≤a0∧a0≤1:=by rw[ha0];split <;> omega
       have HA0:=qQ ha0
       rw[←ha0]
       clear a1 a2 hjj ha' hd' hev hij6 hA6 hFr6 hSD6 hL6 hTp6 hDue6 hTB hS2 ha0
       go_wp2_with fail
       with_reducible refine HS.out.mono ?_
       rintro en w7 ⟨vv,o7,r7,rfl,hA7,hE7,_,_,hij7⟩
       have HIJ7:=qQ hij7
       clear hij7
       have hFr7:=HF6.out.1.go hA7
       have hsb7:=hA7.blk0 HF6.out.2.1
       have hdb7:=hA7.blk0 HF6.out.2.2
       have HA7:=qQ (And.intro hA7 (And.intro hFr7 (And.intro hsb7 hdb7)))
       clear hA7 HS HF6 hFr7 hsb7 hdb7
       obtain⟨ps,p1,p2,p3,p4⟩:=hE7
       obtain⟨mm,hmm⟩:=qZ ps.length
       rw[←hmm] at p1
       have hvv:∃vA vc,vv= .slice vA mm vc∧mm≤9223372036854775807:=by
        rcases qD p1 with ⟨e,h0,_⟩|⟨g,cap,e,_,_,h1,h2⟩
        ·exact⟨none,0,by rw[e,h0],by omega⟩
        ·exact⟨_,_,e,by unfold maxLen at h2;omega⟩
       obtain⟨vA,vc,rfl,hmb⟩:=hvv
       obtain⟨l,hl⟩:=qZ ((qp (cT n wd) d0 n ((t+k:Nat):Int) qG x6).ev)
       have hl2:(qp (cT n wd) d0 (cT n wd).nodes ((t+k:Nat):Int) qG x6).ev=l:=hl.symm
       have HI2:=qQ (And.intro HI.out (show (qp (cT n wd) d0 (cT n wd).nodes ((t+k:Nat):Int) qG x6).ev=l from hl2))
       have HEV2:=HEV.out
       rw[←hl] at HEV2
       rw[hl2] at p4
       have HEV3:=qQ HEV2
       have HP:=qQ (And.intro p1 (And.intro p2 (And.intro p3 (And.intro hmm p4))))
       clear p1 p2 p3 p4 hmm hl hl2 HEV HEV2
       go_wp2_with fail
       go_loopw [17,90] (λu17 i wx=>∃z:Nat,z≤mm∧i= .int .i64 z∧u17= .int .i64 (a0+(cnt4 (l.take z):Nat))∧Chg (λ_=>False) w7 wx) (λ_ i _=>mm-(intOf i).toNat)
       case atStart=>exact⟨0,by omega,rfl,by simp[cnt4],Chg.refl _ _⟩
       case round=>
        obtain⟨z,hz,rfl,rfl,hG⟩:=hrel
        by_cases hlz:z<mm
        ·obtain⟨⟨e,pv,dv⟩,hzz⟩:∃y,ps[z]? =some y:=⟨_,List.getElem?_eq_getElem (by have:=HP.out.2.2.2.1;omega)⟩
         have i4:(z:Int)<(mm:Int):=by omega
         obtain⟨g,cap2,hvv⟩:∃g cap2,vA=some ⟨g,0,none⟩∧vc=cap2:=by
          rcases qD HP.out.1 with ⟨e,h1,_⟩|⟨g,cap2,e,_⟩
          ·omega
          ·cases e;exact⟨_,_,rfl,rfl⟩
         obtain⟨rfl,rfl⟩:=hvv
         have hrow:=qY HP.out.1 hG (λ_ _ e=>e)
         obtain⟨d0,d1,d2,d3,d4,d5,d6,d7,d8,d9⟩:=evAt hrow hzz
         have hme:e∈l:=by rw[HP.out.2.2.2.2];exact List.mem_map_of_mem (f:=Prod.fst) (List.mem_of_getElem? hzz)
         have hle:l[z]? =some e:=by rw[HP.out.2.2.2.2,List.getElem?_map,hzz];rfl
         obtain⟨hk3,hk5,hk4⟩:=HEV3.out.1 e hme
         obtain⟨hcn,hct⟩:=cnt4_next hle
         have hc2:cnt4 l≤1:=HEV3.out.2.2
         have hpv:∃A n c,pv= .slice A n c:=by
          obtain⟨⟨A,c,e,_⟩,_⟩:=HP.out.2.2.1 _ (List.mem_of_getElem? hzz)
          exact⟨_,_,_,e⟩
         have hdv:=(HP.out.2.2.1 _ (List.mem_of_getElem? hzz)).2
         dsimp only at hdv
         obtain⟨pA2,pn2,pc2,rfl⟩:=hpv
         dsimp only at d0 d1 d2 d3 d4 d5 d6 d7 d8 d9
         clear hzz hrow hme hle
         by_cases h4:e.kind=4
         ·have hge:=hk4 h4
          obtain⟨g1',g2',g3',g4'⟩:=HGOT.out
          rw[←hge] at g1' g2' g3' g4'
          rw[g4'] at hdv
          rw[h4] at d0
          rw[g2'] at d1
          rw[g3'] at d4
          obtain⟨dA2,dc2,hde,hdr,hdn,_⟩:=hdv.1
          rw[show ([bq]:List Int).length=1 from rfl] at hde hdr
          obtain⟨kp,hkp,_,hkc⟩:∃kp,dA2=some kp∧o7 kp.block=0∧w7.cell? (kp.add 0)=some (.int .u8 bq):=by
           obtain⟨kp,e3,h0,hc⟩:=hdr.2 0 (show 0<([bq]:List Int).length from Nat.zero_lt_one)
           exact⟨kp,e3,h0,hc⟩
          subst hkp
          subst hde
          rw[if_pos h4] at hcn
          have HG:=qQ hG
          have HCN:=qQ hcn
          obtain⟨cz,hcz⟩:=qZ (cnt4 (l.take z))
          rw[←hcz] at HCN hct ⊢
          have hcz1:cz≤1:=by omega
          have ga:=Chg.alloc (λ_=>False) wr (.cells #[.int .i64 4,.int .i64 (phT f q),.int .i64 e.src,.int .i64 e.code,.int .i64 (phI f q),.int .i64 e.p.dst,.int .i64 e.p.n,.int .i64 e.p.life,.slice pA2 pn2 pc2,.slice (some kp) 1 dc2] 44)
          have hs':=Chg.keep ga (Chg.keep hG HA7.out.2.2.1.1 (λe=>e)) (λe=>e)
          have hd':=Chg.keep ga (Chg.keep hG HA7.out.2.2.2.1 (λe=>e)) (λe=>e)
          have hk9:=((hG.trans ga).cell (by have:=qP hkc;rw[zw] at this;rw[zw];exact this) (λe=>e)).trans hkc
          obtain⟨x0,x1,x2,x3,x4,x5,x6,x7,x8,x9⟩:=cell10 (qV wr (.cells #[.int .i64 4,.int .i64 (phT f q),.int .i64 e.src,.int .i64 e.code,.int .i64 (phI f q),.int .i64 e.p.dst,.int .i64 e.p.n,.int .i64 e.p.life,.slice pA2 pn2 pc2,.slice (some kp) 1 dc2] 44))
          have s1:_=some (Value.int .i64 (phI f q)):=qJ hs' 1
          have s2:_=some (Value.int .i64 (phT f q)):=qJ hs' 2
          have s7:_=some (Value.slice (some ⟨pu+q,0,none⟩) 1 1):=qJ hs' 7
          have t0:_=some (Value.int .u8 bq):=qJ hd' 0
          have ew:IntKind.i64.wrap (a0+(cz:Int)+1)=a0+(cz:Int)+1:=IntWalk.i64_in _ (by omega)
          have HGA:=qQ (hG.trans ga)
          clear hG hk3 hk5 hk4 h4 hcn hct hc2 hcz hdv g1' g2' g3' g4' hge hs' hd' ga hdr hdn hkc
          go_wp2_with fail
          generalize wr.alloc (.cells #[.int .i64 4,.int .i64 (phT f q),.int .i64 e.src,.int .i64 e.code,.int .i64 (phI f q),.int .i64 e.p.dst,.int .i64 e.p.n,.int .i64 e.p.life,.slice pA2 pn2 pc2,.slice (some kp) 1 dc2] 44)=we at *
          obtain⟨eb,heb⟩:=qZ wr.heap.size
          rw[←heb] at x0 x1 x2 x3 x4 x5 x6 x7 x8 x9 ⊢
          clear heb x0 x2 x3 x5 x6 x7 x8 d0 d1 d2 d3 d4 d5 d6 d7 d8 d9
          have y1:we.drew.cell? ⟨eb,1,none⟩=some (.int .i64 (phT f q)):=x1
          have y4:we.drew.cell? ⟨eb,4,none⟩=some (.int .i64 (phI f q)):=x4
          have y9:we.drew.cell? ⟨eb,9,none⟩=some (.slice (some kp) 1 dc2):=x9
          have z1:we.drew.cell? ⟨sb,1,none⟩=some (.int .i64 (phI f q)):=s1
          have z2:we.drew.cell? ⟨sb,2,none⟩=some (.int .i64 (phT f q)):=s2
          have z7:we.drew.cell? ⟨sb,7,none⟩=some (.slice (some ⟨pu+q,0,none⟩) 1 1):=s7
          have z0:we.drew.cell? ⟨pu+q,0,none⟩=some (.int .u8 bq):=t0
          have z9:we.drew.cell? kp=some (.int .u8 bq):=by
           have e0:kp.add 0=kp:=by cases kp;unfold Addr.add;split <;> simp_all
           rw[e0] at hk9
           exact hk9
          have HGD:=qQ (HGA.out.trans (Chg.drew _ we))
          clear x1 x4 x9 s1 s2 s7 t0 hk9 HGA
          change (Code.region 27 _ _).wp _ _ _ we
          with_reducible refine wp_region_still_lit (by kernel_rfl) (by kernel_rfl) ?_
          repeat (with_reducible refine wpStill_step (λK hK=>?_);go_simp;with_reducible refine hK _ ?_;clear hK K)
          with_reducible refine wpStill_nil ?_
          change Exit.then _ _ _ _ we.drew
          generalize we.drew=wd2 at *
          clear y1 y4 y9 z1 z2 z7 z0 z9
          go_wp2_with fail
          refine⟨⟨z+1,by omega,by go_num,?_,HGD.out⟩,by simp[intOf];omega⟩
          rw[HCN.out]
          push_cast
          rw[Int.add_assoc]
         ·have b4:(e.kind==4)=false:=by simpa using h4
          have b3:(e.kind==3)=false:=by simpa using hk3
          have b5:(e.kind==5)=false:=by simpa using hk5
          obtain⟨dA2,dc2,hde,_⟩:=hdv.1
          obtain⟨dn2,hdn2⟩:=qZ e.p.data.length
          rw[←hdn2] at hde
          subst hde
          rw[if_neg h4] at hcn
          have HG:=qQ hG
          have HCN:=qQ hcn
          obtain⟨cz,hcz⟩:=qZ (cnt4 (l.take z))
          rw[←hcz] at HCN ⊢
          clear hG hk3 hk5 hk4 h4 hdn2 hcn hct hc2 hcz hdv
          go_wp2_with fail
          refine⟨⟨z+1,by omega,by go_num,?_,HG.out.trans (Chg.alloc _ _ _)⟩,by simp[intOf];omega⟩
          rw[HCN.out];rfl
        ·obtain rfl:mm=z:=by omega
         have hn8:=HC.out.2.1
         have hA8:=(HA7.out.1.kept (show (cT n wd).nodes≤16 from by show n≤16;omega) hG).re
         have hl:l.length=mm:=by rw[HP.out.2.2.2.2,List.length_map];exact HP.out.2.2.2.1.symm
         have htk:l.take mm=l:=List.take_of_length_le (by omega)
         have hcl:(a0+(cnt4 l:Nat):Int)=if j'<m then 0 else 1:=by
          have h1:=HEV3.out.2.1
          have h2:=HA0.out
          obtain⟨h3,h4,h5⟩:=HJ.out
          rw[h1,h2]
          by_cases c1:j<m
          ·rw[if_pos c1]
           by_cases c2:j'=m
           ·rw[if_pos ⟨c1,c2⟩,if_neg (by omega)];rfl
           ·rw[if_neg (λe=>c2 e.2),if_pos (by omega)];rfl
          ·rw[if_neg c1,if_neg (λe=>c1 e.1),if_neg (by omega)];rfl
         have HE8:=qQ (And.intro hA8 (And.intro (HA7.out.2.1.ch hG) (And.intro (And.intro (Chg.keep hG HA7.out.2.2.1.1 (λe=>e)) HA7.out.2.2.1.2) (And.intro (Chg.keep hG HA7.out.2.2.2.1 (λe=>e)) HA7.out.2.2.2.2))))
         rw[htk,hcl]
         clear hA8 hG hl htk hcl hn8
         have ek:IntKind.i64.wrap ((k:Int)+1)=(k:Int)+1:=IntWalk.i64_in _ (by have:=HT.out.2.1;omega)
         go_wp2_with fail
         refine⟨⟨k+1,by omega,by go_num,j',_,o7,r7,rfl,HIJ7.out,HE8.out.1.asnT (by omega),HE8.out.2.1,HE8.out.2.2,?_,HI2.out.1.2.1,?_⟩,by simp[intOf];omega⟩
         ·exact HI2.out.1.1
         ·exact HI2.out.1.2.2
      ·obtain rfl:S2=k:=by omega
       have hn8:=HC.out.2.1
       have hjm:=due_end hDue6 hn8 (Nat.le_refl _)
       have hje:j=m:=by have:=hTp6.km;omega
       rw[if_neg hjm]
       have hph:=HPH.out x6 (hje▸hTp6)
       have HE:=qQ (And.intro hij6 (And.intro hA6 (And.intro hFr6 (And.intro hL6 hph))))
       have HQ1:=qQ (show t+S2=T1+(q+1)*S2 from by have:=HTE.out;rw[Nat.succ_mul];omega)
       have hq2:=HQ.out
       clear hij6 hA6 hFr6 hSD6 hL6 hTp6 hDue6 hjm hje hph hk hlk
       have ek:IntKind.i64.wrap ((q:Int)+1)=(q:Int)+1:=IntWalk.i64_in _ (by omega)
       go_wp2_with fail
       refine⟨⟨q+1,by omega,by go_num,t+S2,x6,o6,r6,HQ1.out,HE.out⟩,by simp[intOf];omega⟩
    ·obtain rfl:q=2:=by omega
     have HK:=qQ hFr.2.1.1
     clear hA hij hFr hL hP ht hlt
     go_wp2_with fail
     (with_reducible refine (hAw wr).mono ?_)
     rintro en w8 ⟨rfl,hg8⟩
     have HG8:=qQ (HK.out.trans hg8)
     clear hg8
     go_wp2_with fail
     go_ret
     exact⟨rfl,HG8.out⟩
theorem ixbyte_any(s:ByteArray)(c:Int)(w:World):
  Calls Tryz.prog 230 #[.string s,.int .u8 c] w λe w'=>e= .returned (.int .i64 (Lib.indexByte s.data.toList c.toNat.toUInt8))∧w'=w:=by
 go_enter Tryz.func230,Tryz.ntmps230
 go_wp2
 rw[run_callFunc_extern Tryz.func262 (by kernel_rfl) (by kernel_rfl) (by kernel_rfl) (e:=Extern.BytealgIndexByte.indexByte) (by kernel_rfl),Lib.run_indexByteString]
 simp only[Result.andThen]
 rw[Oper.upon_value]
 go_wp2
 go_ret
 exact⟨rfl,rfl⟩
theorem sindex_any(s:ByteArray)(c:UInt8)(w:World):
  Calls Tryz.prog 179 #[.string s,.string ⟨#[c]⟩] w λe w'=>e= .returned (.int .i64 (Lib.indexByte s.data.toList c))∧w'=w:=by
 go_enter Tryz.func179,Tryz.ntmps179
 go_wp2_with (go_at_call 230;refine (ixbyte_any _ _ _).mono ?_;rintro e w' ⟨rfl,rfl⟩)
 ·have h:([c]==s.toList)=true:=by assumption
  go_ret
  refine⟨?_,rfl⟩
  have e:s.data.toList=[c]:=by rw[←Lib.toList_data];exact (beq_iff_eq.1 h).symm
  rw[e]
  simp[Lib.indexByte]
 ·go_ret
  exact⟨rfl,rfl⟩
theorem index_any(s:ByteArray)(c:UInt8)(w:World):
  Calls Tryz.prog 128 #[.string s,.string ⟨#[c]⟩] w λe w'=>e= .returned (.int .i64 (Lib.indexByte s.data.toList c))∧w'=w:=by
 go_enter Tryz.func128,Tryz.ntmps128
 go_wp2_with (go_at_call 179;refine (sindex_any _ _ _).mono ?_;rintro e w' ⟨rfl,rfl⟩)
 go_ret
 exact⟨rfl,rfl⟩
theorem count_any(s:ByteArray)(c:UInt8)(w:World):
  Calls Tryz.prog 127 #[.string s,.string ⟨#[c]⟩] w λe w'=>e= .returned (.int .i64 (Lib.countByte s.data.toList c))∧w'=w:=by
 go_enter Tryz.func127,Tryz.ntmps127
 go_wp2
 rw[run_callFunc_extern Tryz.func178 (by kernel_rfl) (by kernel_rfl) (by kernel_rfl) (e:=Extern.BytealgCount.count) (by kernel_rfl),Lib.run_countString]
 simp only[Result.andThen]
 rw[Oper.upon_value]
 go_wp2
 go_ret
 exact⟨rfl,rfl⟩
structure Ln2(s:ByteArray)(p:Nat)(a d:ByteArray):Prop where
 cnt:Lib.countByte s.data.toList 32=1
 ix:Lib.indexByte s.data.toList 32=(p:Int)
 lt:p+1<s.size
 sz:s.size≤1000
 ea:s.extract 0 p=a
 ed:s.extract (p+1) s.size=d
 a0:(a.toList==([]:List UInt8))=false
 d0:(d.toList==([]:List UInt8))=false
def twoB(a d:ByteArray):Obj:= .cells #[.string a,.string d] 9
section
variable {s a d:ByteArray}{p:Nat}{w:World}
theorem gensplit_any(h:Ln2 s p a d)(w:World):
  Calls Tryz.prog 84 #[.string s,.string ⟨#[32]⟩,.int .i64 0,.int .i64 (-1)] w (λe w'=>e= .returned (.slice (some ⟨w.heap.size,0,none⟩) 2 2)∧w'=w.alloc (twoB a d)):=by
 obtain⟨hc,hi,hp,hs,ha,hd,_,_⟩:=h
 have HC:=qQ (count_any s 32 w)
 rw[hc] at HC
 have hm:min (2:Int) ((s.size:Int)+1)=2:=by omega
 have hk:∀wx:World,(Instr.makeSlice 109 (.int .i64 2) (.int .i64 2)).run Tryz.prog wx= .ok (.slice (some ⟨wx.heap.size,0,none⟩) 2 2) (wx.alloc (.cells #[.string ⟨#[]⟩,.string ⟨#[]⟩] 9)):=λwx=>by kernel_rfl
 have HA:=qQ (And.intro ha hd)
 clear ha hd
 unfold twoB
 go_enter Tryz.func84,Tryz.ntmps84
 go_wp2_with fail
 with_reducible refine HC.out.mono ?_
 rintro en w1 ⟨rfl,rfl⟩
 go_wp2_with fail
 with_reducible refine wp_loop_rounds 2 ?_
 rw[rounds_succ]
 go_wp2_with fail
 (with_reducible refine (index_any _ _ _).mono ?_)
 rintro en w2 ⟨rfl,rfl⟩
 rw[hi]
 have b1:decide ((p:Int)<0)=false:=by simp
 go_wp2_with fail
 rw[rounds_succ]
 go_wp2_with fail
 go_ret
 rw[HA.out.1,HA.out.2]
 exact⟨rfl,rfl⟩
theorem split_any(h:Ln2 s p a d)(w:World):
  Calls Tryz.prog 45 #[.string s,.string ⟨#[32]⟩] w (λe w'=>e= .returned (.slice (some ⟨w.heap.size,0,none⟩) 2 2)∧w'=w.alloc (twoB a d)):=by
 have HC:=qQ (gensplit_any h w)
 clear h
 go_enter Tryz.func45,Tryz.ntmps45
 go_wp2_with fail
 with_reducible refine HC.out.mono ?_
 rintro en w1 ⟨rfl,rfl⟩
 go_wp2_with fail
 go_ret
 exact⟨rfl,rfl⟩
theorem cf46(args:Array Value)(w':World):(callFunc 46 args).run Tryz.prog w'= .ok (.enter 46 args) w':=by kernel_rfl
theorem line1_any(a:ByteArray)(ha:(a.toList==([]:List UInt8))=false)(w:World):Calls Tryz.prog 46 #[.string a] w (λe w'=>e= .returned (.bool false)∧w'=w):=by
 go_enter Tryz.func46,Tryz.ntmps46
 go_wp2_with fail
 go_ret
 exact⟨rfl,rfl⟩
theorem two_cells{g:Nat}(hb:w.heap[g]? =some (twoB a d)):w.cell? ⟨g,0,none⟩=some (.string a)∧w.cell? ⟨g,1,none⟩=some (.string d):=
 ⟨by rw[qJ hb];rfl,by rw[qJ hb];rfl⟩
theorem ixstr_any{g:Nat}(ha:(a.toList==([]:List UInt8))=false)(hd:(d.toList==([]:List UInt8))=false)(hb:w.heap[g]? =some (twoB a d)):
  Calls Tryz.prog 83 #[.slice (some ⟨g,0,none⟩) 2 2,.func (.func 46) #[] #[]] w (λe w'=>e= .returned (.int .i64 (-1))∧w'=w):=by
 obtain⟨c0,c1⟩:=two_cells hb
 have H1:=qQ (line1_any a ha w)
 have H2:=qQ (line1_any d hd w)
 have hcf:=cf46
 clear ha hd hb
 go_enter Tryz.func83,Tryz.ntmps83
 go_wp2_with fail
 with_reducible refine wp_loop_rounds 3 ?_
 rw[rounds_succ]
 go_wp2_with fail
 with_reducible refine H1.out.mono ?_
 rintro en w1 ⟨rfl,rfl⟩
 go_wp2_with fail
 rw[rounds_succ]
 go_wp2_with fail
 with_reducible refine H2.out.mono ?_
 rintro en w1 ⟨rfl,rfl⟩
 go_wp2_with fail
 rw[rounds_succ]
 go_wp2_with fail
 go_ret
 exact⟨rfl,rfl⟩
theorem delstr_any{g:Nat}(ha:(a.toList==([]:List UInt8))=false)(hd:(d.toList==([]:List UInt8))=false)(hb:w.heap[g]? =some (twoB a d)):
  Calls Tryz.prog 44 #[.slice (some ⟨g,0,none⟩) 2 2,.func (.func 46) #[] #[]] w (λe w'=>e= .returned (.slice (some ⟨g,0,none⟩) 2 2)∧w'=w):=by
 have H1:=qQ (ixstr_any ha hd hb)
 clear ha hd hb
 go_enter Tryz.func44,Tryz.ntmps44
 go_wp2_with fail
 with_reducible refine H1.out.mono ?_
 rintro en w1 ⟨rfl,rfl⟩
 go_wp2_with fail
 go_ret
 exact⟨rfl,rfl⟩
end
def PQ(v:Value)(w:World)(e:Ending)(w':World):Prop:=e= .returned v∧Chg (λ_=>False) w w'
def Dg(k:Int)(d:ByteArray):Prop:=(k=0∧d=⟨#[48]⟩)∨(k=2∧d=⟨#[50]⟩)∨(k=3∧d=⟨#[51]⟩)
theorem Chg.bytes(w:World)(e:TypeId)(s:ByteArray):Chg (λ_=>False) w (Lib.bytesWorld w e s):=
 ⟨rfl,rfl,rfl,by rw[Lib.bytesWorld_size];omega,λk hk _=>Lib.bytesWorld_at_old w e s k hk⟩
theorem bytes1(w:World)(b:UInt8)(n:Int)(hn:(b.toNat:Int)=n):∃W q,(convert 9 33 (.string ⟨#[b]⟩)).run Tryz.prog w= .ok (.slice (some ⟨w.heap.size,0,none⟩) 1 q) W∧W.cell? ⟨w.heap.size,0,none⟩=some (.int .u8 n)∧Chg (λ_=>False) w W:=by
 refine⟨_,_,Lib.run_convert_string_bytes (P:=Tryz.prog) w 9 33 5 ⟨#[b]⟩ Tryz.underlying9 Tryz.underlying33 Tryz.underlying5,?_,Chg.bytes w 5 _⟩
 have:=Lib.bytesWorld_cell w 5 ⟨#[b]⟩ 0 (show 0<1 by decide)
 rw[this,←hn];rfl
section
variable {d:ByteArray}{k:Int}{w:World}
theorem puint_any(h:Dg k d)(w:World):Calls Tryz.prog 266 #[.string d,.int .i64 10,.int .i64 64] w (PQ (.tuple #[.int .u64 k,.nilIface]) w):=by
 have e1:IntKind.u64.wrap (IntKind.u64.wrap 18446744073709551616-1)=18446744073709551615:=by decide
 obtain⟨b,hd,W,q,hcv,hc,G⟩:∃(b:UInt8),d=⟨#[b]⟩∧∃W q,(convert 9 33 (.string ⟨#[b]⟩)).run Tryz.prog w= .ok (.slice (some ⟨w.heap.size,0,none⟩) 1 q) W∧W.cell? ⟨w.heap.size,0,none⟩=some (.int .u8 (48+k))∧Chg (λ_=>False) w W:=by
  rcases h with ⟨rfl,rfl⟩|⟨rfl,rfl⟩|⟨rfl,rfl⟩
  ·exact⟨48,rfl,bytes1 w 48 48 rfl⟩
  ·exact⟨50,rfl,bytes1 w 50 50 rfl⟩
  ·exact⟨51,rfl,bytes1 w 51 51 rfl⟩
 have HG:=qQ G
 clear G
 rcases h with ⟨rfl,rfl⟩|⟨rfl,rfl⟩|⟨rfl,rfl⟩ <;> cases hd
 all_goals
  go_enter Tryz.func266,Tryz.ntmps266
  go_wp2_with fail
  with_reducible refine wp_loop_rounds 2 ?_
  rw[rounds_succ]
  go_wp2_with fail
  rw[rounds_succ]
  go_wp2_with fail
  go_ret2
  exact⟨rfl,HG.out⟩
theorem pint_any(h:Dg k d)(w:World):Calls Tryz.prog 236 #[.string d,.int .i64 10,.int .i64 64] w (PQ (.tuple #[.int .i64 k,.nilIface]) w):=by
 have HP:=qQ (puint_any h w)
 rcases h with ⟨rfl,rfl⟩|⟨rfl,rfl⟩|⟨rfl,rfl⟩
 all_goals
  go_enter Tryz.func236,Tryz.ntmps236
  go_wp2_with fail
  with_reducible refine HP.out.mono ?_
  rintro en w1 ⟨rfl,G⟩
  have HG:=qQ G
  clear G HP
  go_wp2_with fail
  go_ret2
  exact⟨rfl,HG.out⟩
theorem parse_any(h:Dg k d)(w:World):Calls Tryz.prog 182 #[.string d,.int .i64 10,.int .i64 64] w (PQ (.tuple #[.int .i64 k,.nilIface]) w):=by
 have HP:=qQ (pint_any h w)
 clear h
 go_enter Tryz.func182,Tryz.ntmps182
 go_wp2_with fail
 with_reducible refine HP.out.mono ?_
 rintro en w1 ⟨rfl,G⟩
 have HG:=qQ G
 clear G HP
 go_wp2_with fail
 go_ret2
 exact⟨rfl,HG.out⟩
theorem fint_any(h:Dg k d)(w:World):Calls Tryz.prog 141 #[.int .i64 k,.int .i64 10] w (λe w'=>e= .returned (.string d)∧w'=w):=by
 rcases h with ⟨rfl,rfl⟩|⟨rfl,rfl⟩|⟨rfl,rfl⟩
 all_goals
  go_enter Tryz.func141,Tryz.ntmps141
  go_wp2
  go_ret
  exact⟨rfl,rfl⟩
theorem format_any(h:Dg k d)(w:World):Calls Tryz.prog 90 #[.int .i64 k,.int .i64 10] w (λe w'=>e= .returned (.string d)∧w'=w):=by
 have HP:=qQ (fint_any h w)
 clear h
 go_enter Tryz.func90,Tryz.ntmps90
 go_wp2_with fail
 with_reducible refine HP.out.mono ?_
 rintro en w1 ⟨rfl,rfl⟩
 go_wp2_with fail
 go_ret
 exact⟨rfl,rfl⟩
end
end Go.Proofs.YtnpihllannobgaaGreatDoor
