/- Steps of the proof, part G01. No condition. -/
import Derived.Test.YtnpihllannobgaaGreatDoorRows
import Derived.WalkKit
import Derived.ProofKit
import Derived.OpenShut
import Derived.Outline
import Derived.BigQuiet
import Derived.Deep.QuietTactic
import Derived.Lib.Hide
import Derived.ShutString
import Derived.ChangeOld
import Derived.Below
import Derived.Deep.Slices
import Derived.Deep.Fields
import Derived.ChangeSame
import Derived.Laws.AppendOwn
import Derived.Laws.AppendOwnNone
import Derived.Maps.AppendAt
import Derived.StillTailTactics
import Derived.IntWalk
import Derived.Laws.Bits64b
import Derived.Deep.RegionHeld3
namespace Go.Proofs.YtnpihllannobgaaGreatDoor
set_option linter.unusedVariables false
set_option linter.unusedSimpArgs false
set_option maxRecDepth 100000
set_option maxHeartbeats 32000000
open Go.ChangeShapes Go.WideShapes Go.ChangeAt Go.RowKit
theorem qQ{p:Prop}(h:p):Hid p:=Lib.hid h
theorem qZ{α:Sort _}(a:α):∃x,x=a:=⟨a,rfl⟩
structure Chg(S:Nat→Prop)(w w':World):Prop where
 os:w'.os=w.os
 tape:w'.tape=w.tape
 output:w'.output=w.output
 size:w.heap.size≤w'.heap.size
 block:∀k,k<w.heap.size→¬S k→w'.heap[k]? =w.heap[k]?
theorem Chg.refl(S:Nat→Prop)(w:World):Chg S w w:=⟨rfl,rfl,rfl,Nat.le_refl _,λ_ _ _=>rfl⟩
theorem Chg.trans{S:Nat→Prop}{a b c:World}(h:Chg S a b)(k:Chg S b c):Chg S a c:=
 ⟨k.os.trans h.os,k.tape.trans h.tape,k.output.trans h.output,Nat.le_trans h.size k.size,
  λi hi hn=>(k.block i (Nat.lt_of_lt_of_le hi h.size) hn).trans (h.block i hi hn)⟩
theorem Chg.mono{S T:Nat→Prop}{w w':World}(h:Chg S w w')(hs:∀k,k<w.heap.size→S k→T k):Chg T w w':=
 ⟨h.os,h.tape,h.output,h.size,λk hk hn=>h.block k hk (λhh=>hn (hs k hk hh))⟩
theorem Chg.alloc(S:Nat→Prop)(w:World)(o:Obj):Chg S w (w.alloc o):=
 ⟨rfl,rfl,rfl,by simp,λk hk _=>Below.heap_alloc _ _ _ hk⟩
theorem Chg.set{S:Nat→Prop}(w:World)(a:Addr)(v:Value)(h:S a.block):Chg S w (w.setCell a v):=
 ⟨rfl,rfl,rfl,by simp,λk _ hn=>Below.heap_setCell _ _ _ _ (λe=>hn (e▸h))⟩
theorem Chg.drewN(S:Nat→Prop)(w:World)(n:Nat):Chg S w (w.drewN n):=⟨rfl,rfl,rfl,Nat.le_refl _,λ_ _ _=>rfl⟩
theorem Chg.drew(S:Nat→Prop)(w:World):Chg S w w.drew:=⟨rfl,rfl,rfl,Nat.le_refl _,λ_ _ _=>rfl⟩
theorem Chg.none{S:Nat→Prop}{w w':World}(h:Chg (λ_=>False) w w'):Chg S w w':=h.mono (λ_ _ f=>f.elim)
theorem Chg.one{B b:Nat}{w w':World}(h:Chg (λk=>k=b) w w')(hb:B≤b):Chg (λk=>B≤k) w w':=h.mono (λ_ _ f=>by omega)
theorem Chg.fresh{w w':World}(h:Chg (λk=>w.heap.size≤k) w w'):Chg (λ_=>False) w w':=h.mono (λ_ hk f=>absurd f (by omega))
theorem Chg.below{B:Nat}{w w':World}(h:Chg (λk=>B≤k) w w')(hB:B≤w.heap.size):Below B w w':=
 ⟨h.os,h.tape,h.output,h.size,λk hk=>h.block k (by omega) (by omega)⟩
theorem Chg.cell{S:Nat→Prop}{w w':World}{p:Addr}(h:Chg S w w')(hp:p.block<w.heap.size)(hs:¬S p.block):w'.cell? p=w.cell? p:=
 World.cell?_of_block (w:=w) (h.block p.block hp hs)
def PTrue(w:World)(e:Ending)(w':World):Prop:=e= .returned (.bool true)∧Chg (λ_=>False) w w'
theorem PTrue.below{w w':World}{e:Ending}(h:PTrue w e w'):e= .returned (.bool true)∧Below w.heap.size w w':=
 ⟨h.1,(h.2.none).below (Nat.le_refl _)⟩
theorem qX{w:World}{b:Nat}{o:Obj}(h:w.heap[b]? =some o):b<w.heap.size:=by
 rcases Nat.lt_or_ge b w.heap.size with h1|h1
 ·exact h1
 ·rw[Array.getElem?_eq_none h1] at h;cases h
theorem qP{w:World}{p:Addr}{v:Value}(h:w.cell? p=some v):p.block<w.heap.size:=by
 unfold World.cell? at h
 cases hb:w.heap[p.block]? with
 |none=>rw[hb] at h;cases h
 |some o=>exact qX hb
theorem qJ{w:World}{b:Nat}{c:Array Value}{t:TypeId}{fr:Nat×Nat}(h:w.heap[b]? =some (.cells c t fr)) (o:Nat):
  w.cell? ⟨b,o,none⟩=c[o]? :=by
 simp[World.cell?,h]
theorem qK{w:World}{b:Nat}{c:Array Value}{t:TypeId}(h:w.heap[b]? =some (.cells c t (0,0))) (o:Nat):
  w.frozen? ⟨b,o,none⟩=false:=by
 simp[World.frozen?,h]
theorem qB{w:World}{b:Nat}{c:Array Value}{t:TypeId}{fr:Nat×Nat}(h:w.heap[b]? =some (.cells c t fr)) (o:Nat) (v:Value):
  (w.setCell ⟨b,o,none⟩ v).heap[b]? =some (.cells (c.setIfInBounds o v) t fr):=by
 simp[World.setCell,Array.getElem?_modify,h]
theorem qV(w:World)(o:Obj):(w.alloc o).heap[w.heap.size]? =some o:=by
 show (w.heap.push o)[w.heap.size]? =_
 simp
theorem Chg.keep{S:Nat→Prop}{w w':World}{b:Nat}{o:Obj}(h:Chg S w w')(hb:w.heap[b]? =some o) (hs:¬S b):w'.heap[b]? =some o:=by
 rw[h.block b (qX hb) hs,hb]
theorem zw(x:Addr)(i:Nat):(x.add i).block=x.block:=by unfold Addr.add;split <;> rfl
section
variable {H:Type}{enc:TypeId×Value→H}{P:Program}{w:World}{base:Nat}{spare:Nat→Bool}{held:Bool}
open Go.Deep
end
theorem umod(n m:Int)(h0:0<m)(h1:m≤4611686018427387904):∃k:Nat,(k:Int)<m∧wrap64 ((IntKind.u64.wrap n).tmod m)=k:=by
 have h:0≤IntKind.u64.wrap n:=by
  simp only[IntKind.wrap,IntKind.bits,IntKind.signed]
  simp;omega
 have h2:(IntKind.u64.wrap n).tmod m=(IntKind.u64.wrap n) % m:=by
  rw[Int.tmod_eq_emod_of_nonneg h]
 have h3:=Int.emod_lt_of_pos (IntKind.u64.wrap n) h0
 have h4:=Int.emod_nonneg (IntKind.u64.wrap n) (Int.ne_of_gt h0)
 refine⟨((IntKind.u64.wrap n) % m).toNat,by omega,?_⟩
 rw[h2]
 unfold wrap64
 omega
def V8(x:Int):Value:= .int .u8 x
def VI(x:Int):Value:= .int .i64 x
theorem ret_int{k:IntKind}{a b:Int}(h:a=b):Ending.returned (.int k a)= .returned (.int k b):=by rw[h]
theorem chg1(w:World)(b o:Nat)(v:Value):Chg (· =b) w (w.setCell ⟨b,o,none⟩ v):=Chg.set w ⟨b,o,none⟩ v rfl
theorem qH{S:Nat→Prop}{w w':World}{row:Option Nat}(h:w.grownBy w' row)(hr:∀k,row=some k→S k):Chg S w w':=
 ⟨h.os,h.tape,h.output,h.size,λk hk hn=>h.block k hk (λe=>hn (hr k e.symm))⟩
theorem qY{S:Nat→Prop}{w w':World}{base e size n:Nat}{v:Value}{xs:List Value}(h:w.ownsRow base e size v n xs)(g:Chg S w w')(hS:∀k,v.ownBlock=some k→¬S k):w'.ownsRow base e size v n xs:=by
 refine⟨h.1,?_⟩
 rcases h.2 with hn|⟨k,cap,cur,rfl,hb,hgg,rest⟩
 ·exact .inl hn
 ·exact .inr ⟨k,cap,cur,rfl,hb,Chg.keep g hgg (hS k rfl),rest⟩
theorem Chg.old{S:Nat→Prop}{w w':World}(h:Chg (λk=>S k∨w.heap.size≤k) w w'):Chg S w w':=
 h.mono (λk hk e=>by rcases e with e|e;exact e;omega)
theorem Tryz.info5:(Tryz.prog.info? 5).map (λi=>(i.zero,i.size,i.bytes))=some (some (.int .u8 0),1,1):=by kernel_rfl
theorem Tryz.info3:(Tryz.prog.info? 3).map (λi=>(i.zero,i.size,i.bytes))=some (some (.int .i64 0),1,8):=by kernel_rfl
theorem info5:∃i,Tryz.prog.info? 5=some i∧i.zero=some (.int .u8 0)∧i.size=1∧i.bytes=1:=by
 obtain⟨i0,hi,hx⟩:=Option.map_eq_some_iff.1 Tryz.info5
 simp only[Prod.mk.injEq] at hx
 exact⟨i0,hi,hx⟩
theorem info3:∃i,Tryz.prog.info? 3=some i∧i.zero=some (.int .i64 0)∧i.size=1∧i.bytes=8:=by
 obtain⟨i0,hi,hx⟩:=Option.map_eq_some_iff.1 Tryz.info3
 simp only[Prod.mk.injEq] at hx
 exact⟨i0,hi,hx⟩
theorem app8{w:World}{ops:Array Oper}{rest:List Oper}{o:Oper}{a:Act}{Q:Exit→Act→World→Prop}(hgd:o.guard=none)(s x:Operand)
  (ho:o.op= .call {callee:= .builtin .append,args:=#[s,x],argTypes:=#[33,33]})
  (base:Nat) (v:Value) (n:Nat) (xs:List Value) (hs:a.eval s=v) (hown:w.ownsRow base 5 1 v n xs)
  (ad:Addr) (m c:Nat) (news:List Value) (hx:a.eval x= .slice (some ad) m c) (hl:news.length=m) (hnews:∀j u,news[j]? =some u→w.cell? (ad.add j)=some u) (h1:∀u∈news,u.oneCell'=true)
  (h63:n+m≤1000000000) (hbase:base≤w.heap.size)
  (h:∀v' w',w'.ownsRow base 5 1 v' (n+m) (xs++news)→w.grownBy w' v.ownBlock→(v'= .slice none 0 0↔v= .slice none 0 0∧m=0)→wpList Tryz.prog ops Q rest (a.put o.dst v') w'):wpList Tryz.prog ops Q (o::rest) a w:=by
 obtain⟨i,h1i,h2i,h3i,h4i⟩:=info5
 exact wpList_append_own w hgd s x 33 ho base 5 i (.int .u8 0) 1 1 Tryz.underlying33 h1i h2i h3i h4i rfl (by decide) v n xs hs hown ad m c news hx (by omega) hnews h1 (by unfold maxLen;omega) (by omega) hbase h
section
variable {w:World}{base e n:Nat}{v:Value}{xs:List Value}
theorem kZ(h:w.ownsRow base e 1 v n xs)(hn:0<n):∃g cap cur,v= .slice (some ⟨g,0,none⟩) n cap∧base≤g∧w.heap[g]? =some (.cells cur e (0,0))∧cur.toList.take n=xs∧n≤cap∧cap≤maxLen∧cur.size=cap:=by
 obtain⟨h1,h2⟩:=h
 rcases h2 with ⟨_,rfl⟩|⟨g,cap,cur,rfl,hb,hg,hc,hm,hs,ht⟩
 ·omega
 ·exact⟨g,cap,cur,rfl,hb,hg,by simpa using ht,hc,hm,by simpa using hs⟩
theorem qr{g cap:Nat}(h:w.ownsRow base e 1 (.slice (some ⟨g,0,none⟩) n cap) n xs)(i:Nat)(x:Value)(hi:xs[i]? =some x):w.cell? ⟨g,i,none⟩=some x:=by
 obtain⟨h1,h2⟩:=h
 rcases h2 with ⟨h2,_⟩|⟨g',cap',cur,he,hb,hg,hc,hm,hs,ht⟩
 ·cases h2
 ·cases he
  rw[qJ hg]
  have hi2:=(List.getElem?_eq_some_iff.1 hi).1
  rw[←ht,List.getElem?_take] at hi
  split at hi
  ·rw[←hi];simp
  ·cases hi
theorem jB{g cap:Nat}(h:w.ownsRow base e 1 (.slice (some ⟨g,0,none⟩) n cap) n xs)(i:Nat):w.frozen? ⟨g,i,none⟩=false:=by
 obtain⟨h1,h2⟩:=h
 rcases h2 with ⟨h2,_⟩|⟨g',cap',cur,he,hb,hg,hc,hm,hs,ht⟩
 ·cases h2
 ·cases he;exact qK hg i
theorem own_set{g cap:Nat}(h:w.ownsRow base e 1 (.slice (some ⟨g,0,none⟩) n cap) n xs)(i:Nat)(x:Value)(hi:i<n):(w.setCell ⟨g,i,none⟩ x).ownsRow base e 1 (.slice (some ⟨g,0,none⟩) n cap) n (xs.set i x):=by
 obtain⟨h1,h2⟩:=h
 refine⟨by simpa using h1,?_⟩
 rcases h2 with ⟨h2,_⟩|⟨g',cap',cur,he,hb,hg,hc,hm,hs,ht⟩
 ·cases h2
 ·cases he
  refine .inr ⟨g,cap,cur.setIfInBounds i x,rfl,hb,qB hg i x,hc,hm,by simpa using hs,?_⟩
  rw[←ht]
  simp[List.take_set]
theorem qT(h:w.ownsRow base e 1 v n xs){j:Nat}(hj:v.ownBlock=some j):base≤j∧j<w.heap.size:=h.lt j hj
end
theorem and255(r:Int)(h0:0≤r)(h1:r<256):bits BinOp.and IntKind.u8 r 255=r:=by
 obtain⟨m,rfl⟩:∃m:Nat,r=m:=⟨r.toNat,by omega⟩
 have h:∀m:Nat,m<256→bits BinOp.and IntKind.u8 (m:Int) 255=m:=by decide+kernel
 exact h m (by omega)
theorem or0(r:Int)(h0:0≤r)(h1:r<256):bits BinOp.or IntKind.u8 0 r=r:=by
 obtain⟨m,rfl⟩:∃m:Nat,r=m:=⟨r.toNat,by omega⟩
 have h:∀m:Nat,m<256→bits BinOp.or IntKind.u8 0 (m:Int)=m:=by decide+kernel
 exact h m (by omega)
def RowBl(e b:Nat)(w:World)(j:Nat):Prop:=j=b∨(b<j∧∃cur,w.heap[j]? =some (.cells cur e (0,0)))
def CW(e b:Nat)(w w':World):Prop:=Chg (RowBl e b w) w w'
theorem CW.refl(e b:Nat)(w:World):CW e b w w:=Chg.refl _ _
theorem CW.trans{e b:Nat}{w0 w1 w2:World}(h:CW e b w0 w1)(k:CW e b w1 w2):CW e b w0 w2:=
 ⟨k.os.trans h.os,k.tape.trans h.tape,k.output.trans h.output,Nat.le_trans h.size k.size,λi hi hn=>by
  have h1:=h.block i hi hn
  rw[k.block i (Nat.lt_of_lt_of_le hi h.size) (λhS=>hn ?_),h1]
  rcases hS with e|⟨hb,cur,hc⟩
  ·exact .inl e
  ·exact .inr ⟨hb,cur,by rw[←h1];exact hc⟩⟩
theorem CW.none{e b:Nat}{w w':World}(h:Chg (λ_=>False) w w'):CW e b w w':=h.none
theorem CW.self{e b:Nat}{w w':World}(h:Chg (· =b) w w'):CW e b w w':=Chg.mono h (λ_ _ e=> .inl e)
theorem CW.row{e b:Nat}{w w':World}{n size:Nat}{v:Value}{xs:List Value}(ho:w.ownsRow (b+1) e size v n xs)(h:Chg (λj=>v.ownBlock=some j) w w'):CW e b w w':=
 Chg.mono h (λj hj hS=>by
  rcases ho.2 with ⟨rfl,_⟩|⟨g,cap,cur,rfl,hb,hg,_⟩
  ·cases hS
  ·cases hS;exact .inr ⟨Nat.lt_of_lt_of_le (Nat.lt_succ_self b) hb,cur,hg⟩)
theorem CW.chg{e b:Nat}{w w':World}(h:CW e b w w'):Chg (λj=>b≤j) w w':=Chg.mono h (λj _ hS=>by rcases hS with rfl|⟨h1,_⟩ <;> omega)
theorem CW.keep{e b:Nat}{w w':World}(h:CW e b w w'){j:Nat}{cs:Array Value}{t:TypeId}{fr:Nat×Nat}(hj:w.heap[j]? =some (.cells cs t fr)) (hb:j≠b) (ht:t≠e∨j<b):w'.heap[j]? =some (.cells cs t fr):=
 Chg.keep h hj (λhS=>by
  rcases hS with rfl|⟨h1,cur,h2⟩
  ·exact hb rfl
  ·rw[hj] at h2;cases h2;rcases ht with ht|ht
   ·exact ht rfl
   ·omega)
theorem u8_wrap(x:Int):IntKind.u8.wrap x=x % 256:=by simp only[IntKind.wrap,IntKind.bits,IntKind.signed];simp
theorem u8_in(x:Int)(h0:0≤x)(h1:x<256):IntKind.u8.wrap x=x:=by rw[u8_wrap];omega
def be:Nat→Int→List Int
 |0,_=>[]
 |k+1,n=>n / 256^k % 256::be k n
theorem qw(k:Nat)(n:Int):(be k n).length=k:=by induction k with
 |zero=>rfl
 |succ k ih=>simp[be,ih]
theorem be_at(k:Nat)(n:Int)(i:Nat)(h:i<k):(be k n)[i]? =some (n / 256^(k-1-i) % 256):=by
 induction k generalizing i with
 |zero=>omega
 |succ k ih=>
  cases i with
  |zero=>simp[be]
  |succ i=>
   simp only[be,List.getElem?_cons_succ]
   rw[ih i (by omega),show k+1-1-(i+1)=k-1-i from by omega]
theorem be_take(k:Nat)(n:Int)(i:Nat)(h:i<k):(be k n).take (i+1)=(be k n).take i++[n / 256^(k-1-i) % 256]:=by
 rw[List.take_add_one,be_at k n i h];rfl
theorem zD(k:Nat)(n:Int):∀x∈be k n,0≤x∧x<256:=by
 induction k with
 |zero=>intro x hx;cases hx
 |succ k ih=>
  intro x hx
  simp only[be,List.mem_cons] at hx
  rcases hx with rfl|hx
  ·omega
  ·exact ih x hx
theorem add_mk(g o i:Nat):(⟨g,o,none⟩:Addr).add i=⟨g,o+i,none⟩:=by
 unfold Addr.add
 split
 ·rename_i e;subst e;rfl
 ·rfl
def bitAt(L:List Int)(p:Nat):Int:=(L[p / 8]?.getD 0) / 2^(7-p % 8) % 2
def bv(L:List Int)(p:Nat):Nat→Int
 |0=>0
 |j+1=>bv L p j*2+bitAt L (p+j)
theorem bitAt_bd(L:List Int)(p:Nat):0≤bitAt L p∧bitAt L p<2:=by unfold bitAt;omega
theorem bv_bd(L:List Int)(p j:Nat):0≤bv L p j∧bv L p j<2^j:=by
 induction j with
 |zero=>simp[bv]
 |succ j ih=>
  have:=bitAt_bd L (p+j)
  simp only[bv]
  rw[Int.pow_succ]
  omega
theorem or_bit(n b:Int)(h0:0≤n)(h1:n<9223372036854775808)(hb:0≤b∧b<2):bits BinOp.or IntKind.u64 (n*2) b=n*2+b:=by
 obtain⟨m,rfl⟩:∃m:Nat,n=m:=⟨n.toNat,by omega⟩
 obtain⟨c,rfl⟩:∃c:Nat,b=c:=⟨b.toNat,by omega⟩
 have e:((m:Int)*2)=((m*2:Nat):Int):=by push_cast;rfl
 rw[e,bits_or_u64_nat _ _ (by omega) (by omega)]
 have hc:c=0∨c=1:=by omega
 rcases hc with rfl|rfl
 ·simp
 ·have:m*2|||1=m*2+1:=by
   have:=Nat.two_pow_add_eq_or_of_lt (i:=1) (b:=1) (by omega) m
   rw[Nat.mul_comm m 2]
   simpa using this.symm
  rw[this];omega
theorem and_bit(x:Int)(h0:0≤x)(h1:x<256):bits BinOp.and IntKind.u8 x 1=x % 2:=by
 obtain⟨m,rfl⟩:∃m:Nat,x=m:=⟨x.toNat,by omega⟩
 have h:∀m:Nat,m<256→bits BinOp.and IntKind.u8 (m:Int) 1=(m:Int) % 2:=by decide+kernel
 exact h m (by omega)
def Rs{α:Type}(V:α→Value)(w:World)(B:Nat)(a:Option Addr)(len:Nat)(zs:List α):Prop:=
 zs.length=len∧∀i (h:i<zs.length),∃x,a=some x∧x.block<B∧w.cell? (x.add i)=some (V zs[i])
section
variable {α:Type}{V:α→Value}{w w':World}{B B' len:Nat}{a:Option Addr}{zs:List α}
theorem Rs.nil(V:α→Value)(w:World)(B:Nat)(a:Option Addr):Rs V w B a 0 []:=⟨rfl,λi h=>absurd h (Nat.not_lt_zero _)⟩
theorem Rs.at(h:Rs V w B a len zs){i:Nat}(hi:i<len):∃x z,a=some x∧x.block<B∧zs[i]? =some z∧w.cell? (x.add i)=some (V z):=by
 have hl:=h.1
 obtain⟨x,e,hb,hc⟩:=h.2 i (by omega)
 exact⟨x,zs[i]'(by omega),e,hb,by simp,hc⟩
theorem Rs.keep{S:Nat→Prop}(h:Rs V w B a len zs)(g:Chg S w w')(hS:∀j,j<B→¬S j):Rs V w' B a len zs:=
 ⟨h.1,λi hi=>by
  obtain⟨x,e,hb,hc⟩:=h.2 i hi
  have hx:=zw x i
  exact⟨x,e,hb,by rw[g.cell (qP hc) (λs=>hS _ hb (hx▸s)),hc]⟩⟩
theorem Rs.more(h:Rs V w B a len zs)(hB:B≤B'):Rs V w B' a len zs:=
 ⟨h.1,λi hi=>by
  obtain⟨x,e,hb,hc⟩:=h.2 i hi
  exact⟨x,e,by omega,hc⟩⟩
theorem Rs.of_own{base e:Nat}{v:Value}{n:Nat}{zs:List α}(h:w.ownsRow base e 1 v n (zs.map V)):∃a c,v= .slice a n c∧Rs V w w.heap.size a n zs∧(a=none→c=0):=by
 have hl:zs.length=n:=by have:=h.1;simpa using this
 rcases h.2 with ⟨rfl,rfl⟩|⟨g,cap,cur,rfl,hb,hg,_⟩
 ·obtain rfl:=List.eq_nil_of_length_eq_zero hl
  exact⟨_,_,rfl,Rs.nil _ _ _ _,λ_=>rfl⟩
 ·refine⟨_,_,rfl,⟨hl,λi hi=>⟨_,rfl,qX hg,?_⟩⟩,λe=>by cases e⟩
  have:=qr h i (V zs[i]) (by simp[List.getElem?_eq_getElem hi])
  rw[add_mk,Nat.zero_add];exact this
end
def ElOk(t e:TypeId)(bytes:Nat):Prop:=Tryz.prog.underlying t=some (.slice e)∧∃i z,Tryz.prog.info? e=some i∧i.zero=some z∧i.size=1∧i.bytes=bytes∧z.cells.size=1
theorem el8:ElOk 33 5 1:=by
 obtain⟨i,h1,h2,h3,h4⟩:=info5
 exact⟨Tryz.underlying33,i,_,h1,h2,h3,h4,rfl⟩
theorem elI:ElOk 22 3 8:=by
 obtain⟨i,h1,h2,h3,h4⟩:=info3
 exact⟨Tryz.underlying22,i,_,h1,h2,h3,h4,rfl⟩
theorem appS{α:Type}{V:α→Value}{w:World}{ops:Array Oper}{rest:List Oper}{o:Oper}{a:Act}{Q:Exit→Act→World→Prop}{t e:TypeId}{bytes:Nat}(he:ElOk t e bytes)(hgd:o.guard=none)(s x:Operand)
  (ho:o.op= .call {callee:= .builtin .append,args:=#[s,x],argTypes:=#[t,t]})
  (base:Nat) (v:Value) (n:Nat) (xs:List Value) (hs:a.eval s=v) (hown:w.ownsRow base e 1 v n xs)
  (B:Nat) (A:Option Addr) (m c:Nat) (zs:List α) (hx:a.eval x= .slice A m c) (hA:A=none→c=0) (hr:Rs V w B A m zs) (h1:∀z,(V z).oneCell'=true)
  (hb:bytes≤8) (h63:n+m≤1000000000) (hbase:base≤w.heap.size)
  (h:∀v' w',w'.ownsRow base e 1 v' (n+m) (xs++zs.map V)→w.grownBy w' v.ownBlock→(v'.ownBlock=v.ownBlock∨v'.ownBlock=some w.heap.size)→wpList Tryz.prog ops Q rest (a.put o.dst v') w'):wpList Tryz.prog ops Q (o::rest) a w:=by
 obtain⟨ht,i,z,h1i,h2i,h3i,h4i,h5i⟩:=he
 have hbb:(n+m)*bytes≤(n+m)*8:=Nat.mul_le_mul_left _ hb
 rcases A with _|ad
 ·obtain rfl:=hA rfl
  have hm:m=0:=by
   rcases Nat.eq_zero_or_pos m with h0|h0
   ·exact h0
   ·obtain⟨x,z,e,_⟩:=hr.at h0;cases e
  subst hm
  have hz:zs=[]:=List.eq_nil_of_length_eq_zero hr.1
  subst hz
  exact wpList_append_own_none hgd s x t ho base e i 1 ht h1i v n xs hs hown hx (h v w (by simpa using hown) ⟨rfl,rfl,rfl,Nat.le_refl _,λ_ _ _=>rfl⟩ (.inl rfl))
 ·refine wpList_append_own_at w hgd s x t ho base e i z 1 bytes ht h1i h2i h3i h4i h5i (by decide) v n xs hs hown ad m c (zs.map V) hx (by simp[hr.1]) (λj u hu=>?_) (λu hu=>?_) (by unfold maxLen;omega) (by omega) hbase (λv' w' k1 k2 _ k4=>h v' w' k1 k2 k4)
  ·rw[List.getElem?_map] at hu
   have hj:j<m:=by
    rcases Nat.lt_or_ge j m with hj|hj
    ·exact hj
    ·rw[List.getElem?_eq_none (by rw[hr.1];exact hj)] at hu;cases hu
   obtain⟨y,z,e,_,hz,hc⟩:=hr.at hj
   cases e
   rw[hz] at hu;simp at hu;rw[←hu];exact hc
  ·rw[List.mem_map] at hu
   obtain⟨z,_,rfl⟩:=hu
   exact h1 z
theorem app1{α:Type}{V:α→Value}{w:World}{ops:Array Oper}{rest:List Oper}{o:Oper}{a:Act}{Q:Exit→Act→World→Prop}{t e:TypeId}{bytes:Nat}(he:ElOk t e bytes)(hgd:o.guard=none)(s x:Operand)
  (ho:o.op= .call {callee:= .builtin .append,args:=#[s,x],argTypes:=#[t,t]})
  (base:Nat) (v:Value) (n:Nat) (xs:List Value) (hs:a.eval s=v) (hown:w.ownsRow base e 1 v n xs)
  (sb:Nat) (z:α) (hx:a.eval x= .slice (some ⟨sb,0,none⟩) 1 1) (hc:w.cell? ⟨sb,0,none⟩=some (V z)) (h1:(V z).oneCell'=true)
  (hb:bytes≤8) (h63:n+1≤1000000000) (hbase:base≤w.heap.size)
  (h:∀v' w',w'.ownsRow base e 1 v' (n+1) (xs++[V z])→w.grownBy w' v.ownBlock→(v'.ownBlock=v.ownBlock∨v'.ownBlock=some w.heap.size)→wpList Tryz.prog ops Q rest (a.put o.dst v') w'):wpList Tryz.prog ops Q (o::rest) a w:=by
 refine appS (V:=λ_:Unit=>V z) he hgd s x ho base v n xs hs hown (sb+1) (some ⟨sb,0,none⟩) 1 1 [()] hx (λe=>by cases e) ⟨rfl,λi hi=>⟨_,rfl,Nat.lt_succ_self _,?_⟩⟩ (λ_=>h1) hb h63 hbase h
 have:i=0:=by simp at hi;exact hi
 subst this
 exact hc
def PNew{α:Type}(V:α→Value)(e:TypeId)(w:World)(zs:List α)(en:Ending)(w':World):Prop:=
 ∃v,en= .returned v∧w'.ownsRow w.heap.size e 1 v zs.length (zs.map V)∧Chg (λ_=>False) w w'
structure Wr(w:World)(b:Nat)(v:Value)(L:List Int):Prop where
 blk:w.heap[b]? =some (.cells #[v,.int .i64 (8*L.length:Nat)] 180 (0,0))
 own:w.ownsRow (b+1) 5 1 v L.length (L.map V8)
theorem Wr.c0{w:World}{b:Nat}{v:Value}{L:List Int}(h:Wr w b v L):w.cell? ⟨b,0,none⟩=some v:=by rw[qJ h.blk];rfl
theorem Wr.c1{w:World}{b:Nat}{v:Value}{L:List Int}(h:Wr w b v L):w.cell? ⟨b,1,none⟩=some (.int .i64 (8*L.length:Nat)):=by rw[qJ h.blk];rfl
theorem Wr.f{w:World}{b:Nat}{v:Value}{L:List Int}(h:Wr w b v L)(o:Nat):w.frozen? ⟨b,o,none⟩=false:=qK h.blk o
theorem good_any(k:Nat)(hk:k≤64)(w:World):Calls Tryz.prog 154 #[.int .i64 k] w λe w'=>e= .returned (.bool true)∧w'=w:=by
 have h:(k:Int)≤64:=by omega
 go_enter Tryz.func154,Tryz.ntmps154
 go_wp2
 go_ret
 exact⟨rfl,rfl⟩
structure PutAt(w0:World)(b:Nat)(L:List Int)(v:Value)(w:World):Prop where
 wr:Wr w b v L
 chg:CW 5 b w0 w
theorem PutAt.start{w:World}{b:Nat}{v:Value}{L:List Int}(h:Wr w b v L):PutAt w b L v w:=⟨h,CW.refl _ _ _⟩
structure PutMid(w0:World)(b:Nat)(M:List Int)(v v2:Value)(w:World):Prop where
 blk:w.heap[b]? =some (.cells #[v,.int .i64 (8*M.length:Nat)] 180 (0,0))
 own:w.ownsRow (b+1) 5 1 v2 (M.length+1) (M.map V8++[V8 0])
 chg:CW 5 b w0 w
section
variable {w0 w w':World}{b:Nat}{v v2:Value}{M:List Int}
theorem PutMid.c0(h:PutMid w0 b M v v2 w):w.cell? ⟨b,0,none⟩=some v:=by rw[qJ h.blk];rfl
theorem PutMid.c1(h:PutMid w0 b M v v2 w):w.cell? ⟨b,1,none⟩=some (.int .i64 (8*M.length:Nat)):=by rw[qJ h.blk];rfl
theorem PutMid.f(h:PutMid w0 b M v v2 w)(o:Nat):w.frozen? ⟨b,o,none⟩=false:=qK h.blk o
theorem PutMid.store(h:PutMid w0 b M v v2 w):PutMid w0 b M v2 v2 (w.setCell ⟨b,0,none⟩ v2):=by
 have g:Chg (· =b) w (w.setCell ⟨b,0,none⟩ v2):=Chg.set w ⟨b,0,none⟩ _ rfl
 refine⟨?_,qY h.own g (λk hk e=>?_),h.chg.trans (CW.self g)⟩
 ·have:=qB h.blk 0 v2;simpa using this
 ·have:=(qT h.own hk).1;have:k=b:=e;omega
theorem PutMid.kept(h:PutMid w0 b M v v2 w)(g:Chg (λ_=>False) w w'):PutMid w0 b M v v2 w':=
 ⟨Chg.keep g h.blk (λe=>e),qY h.own g (λ_ _ e=>e),h.chg.trans (CW.none g)⟩
theorem PutMid.done{g cap:Nat}(h:PutMid w0 b M (.slice (some ⟨g,0,none⟩) (M.length+1) cap) (.slice (some ⟨g,0,none⟩) (M.length+1) cap) w)(r:Int)(m:Int)(hm:m=(8*(M.length+1):Nat)):
  PutAt w0 b (M++[r]) (.slice (some ⟨g,0,none⟩) (M.length+1) cap) ((w.setCell ⟨g,M.length,none⟩ (.int .u8 r)).setCell ⟨b,1,none⟩ (.int .i64 m)):=by
 obtain⟨hgb,hgl⟩:=qT h.own (j:=g) rfl
 have g1:Chg (· =g) w (w.setCell ⟨g,M.length,none⟩ (.int .u8 r)):=Chg.set w ⟨g,M.length,none⟩ _ rfl
 have g1':=CW.row h.own (g1.mono (λj _ e=>by rw[show j=g from e];rfl))
 have hb1:=Chg.keep g1 h.blk (λe=>by have:b=g:=e;omega)
 have ho1:=own_set h.own M.length (.int .u8 r) (by omega)
 generalize w.setCell ⟨g,M.length,none⟩ (.int .u8 r)=w1 at *
 have g2:Chg (· =b) w1 (w1.setCell ⟨b,1,none⟩ (.int .i64 m)):=Chg.set w1 ⟨b,1,none⟩ _ rfl
 refine⟨⟨?_,?_⟩,(h.chg.trans g1').trans (CW.self g2)⟩
 ·have:=qB hb1 1 (.int .i64 m)
  rw[this,hm];simp
 ·have:=qY ho1 g2 (λk hk e=>by cases hk;have:g=b:=e;omega)
  have e:(M.map V8++[V8 0]).set M.length (.int .u8 r)=(M++[r]).map V8:=by
   have e1:(M.map V8).length=M.length:=by simp
   rw[List.set_append,if_neg (by omega),e1];simp[V8]
  rw[e] at this
  simpa using this
theorem PutAt.app{o:Obj}(h:PutAt w0 b M v w)(hown:w'.ownsRow (b+1) 5 1 v2 (M.length+1) (M.map V8++[.int .u8 0]))(hgr:(w.alloc o).grownBy w' v.ownBlock):PutMid w0 b M v v2 w':=by
 have ga:=Chg.alloc (λ_=>False) w o
 have g:=qH (S:=λj=>v.ownBlock=some j) hgr (λj e=>e)
 have hoa:=qY h.wr.own ga (λ_ _ e=>e)
 refine⟨Chg.keep g (Chg.keep ga h.wr.blk (λe=>e)) (λe=>?_),hown,(h.chg.trans (CW.none ga)).trans (CW.row hoa g)⟩
 have:=(qT h.wr.own e).1;omega
end
def PPut(w:World)(b:Nat)(L:List Int)(e:Ending)(w':World):Prop:=
 e= .returned (.tuple #[])∧∃v',Wr w' b v' L∧CW 5 b w w'
theorem put_any(k:Nat)(hk:k≤8)(n:Int)(hn:0≤n)(hn2:n<18446744073709551616)(w:World)(b:Nat)(v:Value)(L:List Int)(h:Wr w b v L)(hL:L.length≤100000):
  Calls Tryz.prog 100 #[.pointer (some ⟨b,0,none⟩),.int .u64 n,.int .i64 (8*k:Nat)] w (PPut w b (L++be k n)):=by
 have hg:=good_any (8*k) (by omega)
 have hk2:((8*k:Nat):Int)≤64:=by omega
 have hk3:0≤((8*k:Nat):Int):=by omega
 have H:=qQ h
 clear h
 go_enter Tryz.func100,Tryz.ntmps100
 go_wp2_with fail
 refine (hg _).mono ?_
 rintro e w1 ⟨rfl,rfl⟩
 go_wp2_with fail
 go_loopw [6] (λu6 wr=>∃(i:Nat) (v':Value),i≤k∧u6= .int .i64 (8*(k-i):Nat)∧PutAt w1 b (L++(be k n).take i) v' wr) (λu6 _=>(intOf u6).toNat)
 case atStart=>exact⟨0,v,by omega,rfl,by simpa using PutAt.start H.out⟩
 case round=>
  obtain⟨i,v',hi,rfl,hP⟩:=hrel
  by_cases hlt:i<k
  ·obtain⟨M,hM⟩:=qZ (L++(be k n).take i)
   rw[←hM] at hP
   have hMl:M.length≤100008:=by rw[hM];simp[qw];omega
   obtain⟨lf,hlf⟩:∃lf:Int,lf=((8*(k-i):Nat):Int):=⟨_,rfl⟩
   rw[←hlf]
   have h8:8≤lf:=by omega
   have h64:lf≤64:=by omega
   have hl0:0<lf:=by omega
   have c0:=hP.wr.c0
   have c1:=hP.wr.c1
   have f0:=hP.wr.f 0
   obtain⟨m8,hm8⟩:∃m8:Int,m8=((8*M.length:Nat):Int):=⟨_,rfl⟩
   rw[←hm8] at c1
   have hl8:m8 % 8=0:=by omega
   have hl9:0≤m8:=by omega
   have hl7:m8≤1000000:=by omega
   have HP:=qQ hP
   have HM:=qQ hM
   have HLF:=qQ hlf
   have HM8:=qQ hm8
   clear hP hM hlf hm8
   go_wp2_with (at_builtin;go_loud (refine app8 rfl (.tmp 30) (.tmp 31) rfl (b+1) v' M.length (M.map V8) rfl (HP.out.wr.own.alloc _) ⟨wr.heap.size,0,none⟩ 1 1 [.int .u8 0] rfl rfl ?c1 ?c2 (by omega) ?hb ?grow))
   case c1=>intro j u hj;match j,hj with|0,hj=>simp at hj;subst hj;simp[Addr.add]
   case c2=>intro u hu;simp at hu;subst hu;rfl
   case hb=>simp;have:=qX HP.out.wr.blk;omega
   case grow=>
    intro v2 w2 hown hgr hnil
    have P2:=PutAt.app HP.out hown hgr
    clear hown hgr hnil c0 c1 f0
    obtain⟨g,cap,_,rfl,hgb,_,_,_,_,_⟩:=kZ P2.own (by omega)
    have c0:=P2.c0
    have c1:=P2.c1
    rw[←HM8.out] at c1
    have f0:=P2.f 0
    have f1:=P2.f 1
    have hgb2:g≠b:=by omega
    have d0:=qr P2.own M.length (V8 0) (by simp)
    have df:=jB P2.own M.length
    have HP2:=qQ P2
    have HO:=qQ hgb
    clear P2 hgb
    go_wp2_with fail
    have e1:IntKind.i64.wrap (lf-8)=lf-8:=IntWalk.i64_in _ (by omega)
    have e2:lf-8≤64:=by omega
    obtain⟨q,e3⟩:∃q,n / 2^(lf-8).toNat=q:=⟨_,rfl⟩
    obtain⟨r,e4⟩:∃r,IntKind.u8.wrap q=r:=⟨_,rfl⟩
    have hr0:0≤r∧r<256:=by rw[←e4,u8_wrap];omega
    have e5:IntKind.u8.wrap 256=0:=by decide
    have e6:IntKind.u8.wrap (-1)=255:=by decide
    have e7:=and255 r hr0.1 hr0.2
    with_reducible refine wp_region_still_lit (by kernel_rfl) (by kernel_rfl) ?_
    repeat (with_reducible refine wpStill_step (λK hK=>?_);go_simp;with_reducible refine hK _ ?_;clear hK K)
    with_reducible refine wpStill_nil ?_
    change Exit.then _ _ _ _ (w2.setCell ⟨b,0,none⟩ (Value.slice (some ⟨g,0,none⟩) (M.length+1) cap)).drew
    have P3:=(HP2.out.store).kept (Chg.drew (λ_=>False) _)
    clear e1 e2 e5 e6 e7 c0 c1 f0 f1 d0 df HP2
    generalize (w2.setCell ⟨b,0,none⟩ (Value.slice (some ⟨g,0,none⟩) (M.length+1) cap)).drew=w3 at *
    have c0:=P3.c0
    have d0:=qr P3.own M.length (V8 0) (by simp)
    unfold V8 at d0
    have HP3:=qQ P3
    clear P3
    obtain⟨ml,hml⟩:∃ml:Int,ml=M.length:=⟨_,rfl⟩
    have e1:IntKind.i64.wrap (M.length:Int)=M.length:=IntWalk.i64_in _ (by omega)
    have e2:IntKind.u8.wrap r=r:=u8_in r hr0.1 hr0.2
    have e5:=or0 r hr0.1 hr0.2
    have e6:IntKind.i64.wrap 0=0:=by decide
    have i1:(M.length:Int)<(M.length:Int)+1:=by omega
    have HR:=qQ e4
    clear e4
    go_wp2_with fail
    go_still_tail 19,(by kernel_rfl)
    change wpList _ _ _ _ _ w3.drew
    clear e1 e2 e5 e6 d0 c0
    have P4:=HP3.out.kept (Chg.drew (λ_=>False) w3)
    clear HP3
    generalize w3.drew=w4 at *
    have c1:=P4.c1
    rw[←HM8.out] at c1
    have f1:=P4.f 1
    have df:=jB P4.own M.length
    have d0:=qr P4.own M.length (V8 0) (by simp)
    unfold V8 at d0
    have HP4:=qQ P4
    clear P4
    go_wp2_with fail
    have hnx:L++(be k n).take (i+1)=M++[r]:=by
     rw[be_take k n i hlt,←List.append_assoc,←HM.out,←HR.out,u8_wrap,←e3,HLF.out,
      show (((8*(k-i):Nat):Int)-8).toNat=8*(k-1-i) from by omega,Int.pow_mul]
     rfl
    have PE:=HP4.out.done r (m8+8) (by rw[HM8.out];omega)
    rw[←hnx] at PE
    have hle:lf-8=((8*(k-(i+1)):Nat):Int):=by rw[HLF.out];omega
    have HX:=qQ (And.intro PE hle)
    clear PE hle hnx e3
    go_roundw
    case measure=>simp[intOf];omega
    case rel=>exact⟨i+1,_,by omega,congrArg _ HX.out.2,HX.out.1⟩
  ·obtain rfl:i=k:=by omega
   have hz:((8*(i-i):Nat):Int)=0:=by simp
   rw[hz]
   have HP:=qQ hP
   clear hP hz H
   go_wp2_with fail
   go_end0
   have h:=HP.out
   rw[List.take_of_length_le (by rw[qw];omega)] at h
   exact⟨rfl,_,h.wr,h.chg⟩
theorem text_any(w:World)(b:Nat)(v:Value)(L:List Int)(a:Option Addr)(len cap:Nat)(zs:List Int)(h:Wr w b v L)(hs:Rs V8 w b a len zs)(hz:∀z∈zs,0≤z∧z<256)(hL:L.length+len≤100000):
  Calls Tryz.prog 101 #[.pointer (some ⟨b,0,none⟩),.slice a len cap] w (PPut w b (L++zs)):=by
 have H:=qQ h
 have HS:=qQ hs
 have HZ:=qQ hz
 have hlen:len≤100000:=by omega
 clear h hs hz
 go_enter Tryz.func101,Tryz.ntmps101
 go_wp2_with fail
 go_loopw [8] (λi wr=>∃(k:Nat) (v':Value),k≤len∧i= .int .i64 k∧PutAt w b (L++zs.take k) v' wr) (λi _=>len-(intOf i).toNat)
 case atStart=>exact⟨0,v,by omega,rfl,by simpa using PutAt.start H.out⟩
 case round=>
  obtain⟨k,v',hk,rfl,hP⟩:=hrel
  have HP:=qQ hP
  clear hP
  by_cases hlt:k<len
  ·obtain⟨x,z,rfl,hxb,hz,hc⟩:=(HS.out.keep HP.out.chg.chg (λj h1 h2=>by omega)).at hlt
   obtain⟨z0,z1⟩:=HZ.out z (List.mem_of_getElem? hz)
   have HX:=qQ hz
   unfold V8 at hc
   clear hz
   go_wp2_with fail
   have hl2:(L++zs.take k).length≤100000:=by have:=HS.out.1;simp;omega
   have hp:=put_any 1 (by omega) z z0 (by omega) wr b v' (L++zs.take k) HP.out.wr hl2
   rw[show ((8*1:Nat):Int)=8 from rfl] at hp
   refine hp.mono ?_
   rintro e w1 ⟨rfl,v1,W1,C1⟩
   have hn:L++zs.take k++be 1 z=L++zs.take (k+1):=by
    rw[List.take_add_one,HX.out,List.append_assoc]
    congr 2
    simp[be];omega
   rw[hn] at W1
   have hn3:(k:Int)+1≤100000:=by omega
   have HN:Hid (PutAt w b (L++zs.take (k+1)) v1 w1):=qQ ⟨W1,HP.out.chg.trans C1⟩
   clear hn W1 C1 hp hl2 hc
   go_wp2_with fail
   go_roundw
   case measure=>simp[intOf];omega
   case rel=>exact⟨k+1,_,by omega,by go_num,HN.out⟩
  ·obtain rfl:k=len:=by omega
   go_wp2_with fail
   go_end0
   have h:=HP.out
   rw[List.take_of_length_le (by have:=HS.out.1;omega)] at h
   exact⟨rfl,_,h.wr,h.chg⟩
theorem bytes_any(w:World)(b:Nat)(v:Value)(L:List Int)(h:Wr w b v L)(hL:L.length≤100000):
  Calls Tryz.prog 103 #[.pointer (some ⟨b,0,none⟩)] w (PNew V8 5 w L):=by
 have c0:=h.c0
 obtain⟨A,c,rfl,hr,hA⟩:=Rs.of_own h.own
 have HA:=qQ hA
 have HR:=qQ hr
 clear h hA hr
 go_enter Tryz.func103,Tryz.ntmps103
 go_wp2_with (at_builtin;go_loud (refine appS el8 rfl (.const (.slice none 0 0)) (.tmp 8) rfl w.heap.size (.slice none 0 0) 0 [] rfl (World.ownsRow_nil _ _ _ _) w.heap.size A L.length c L rfl HA.out HR.out (λ_=>rfl) (by omega) (by omega) (Nat.le_refl _) ?grow))
 case grow=>
  intro v' w' hown hgr hat
  have g:=qH (S:=λ_=>False) hgr (λj e=>by cases e)
  have HO:=qQ (And.intro hown g)
  clear hown hgr hat g
  go_wp2_with fail
  go_ret
  exact⟨_,rfl,HO.out.1,HO.out.2⟩
end Go.Proofs.YtnpihllannobgaaGreatDoor
