/- Steps of the proof, part H01. No condition. -/
import Derived.Test.YtnpihllannobgaaGreatDoorRows
import Derived.WalkKit
import Derived.ProofKit
import Derived.OpenShut
import Derived.Outline
import Derived.BigQuiet
import Derived.Deep.QuietTactic
import Derived.Lib.Hide
import Derived.ShutString
import Derived.ChangeOld
import Derived.Below
import Derived.Deep.Slices
import Derived.Deep.Fields
import Derived.ChangeSame
import Derived.Laws.AppendOwn
import Derived.Laws.AppendOwnNone
import Derived.Maps.AppendAt
import Derived.StillTailTactics
import Derived.IntWalk
import Derived.Laws.Bits64b
import Derived.Deep.RegionHeld3
import Derived.WalkSpells
namespace Go.Proofs.YtnpihllannobgaaGreatDoor
set_option linter.unusedVariables false
set_option linter.unusedSimpArgs false
set_option maxRecDepth 100000
set_option maxHeartbeats 32000000
open Go.ChangeShapes Go.WideShapes Go.ChangeAt Go.RowKit
theorem qQ{p:Prop}(h:p):Hid p:=Lib.hid h
theorem qZ{α:Sort _}(a:α):∃x,x=a:=⟨a,rfl⟩
structure Chg(S:Nat→Prop)(w w':World):Prop where
 os:w'.os=w.os
 tape:w'.tape=w.tape
 output:w'.output=w.output
 size:w.heap.size≤w'.heap.size
 block:∀k,k<w.heap.size→¬S k→w'.heap[k]? =w.heap[k]?
theorem Chg.refl(S:Nat→Prop)(w:World):Chg S w w:=⟨rfl,rfl,rfl,Nat.le_refl _,λ_ _ _=>rfl⟩
theorem Chg.trans{S:Nat→Prop}{a b c:World}(h:Chg S a b)(k:Chg S b c):Chg S a c:=
 ⟨k.os.trans h.os,k.tape.trans h.tape,k.output.trans h.output,Nat.le_trans h.size k.size,
  λi hi hn=>(k.block i (Nat.lt_of_lt_of_le hi h.size) hn).trans (h.block i hi hn)⟩
theorem Chg.mono{S T:Nat→Prop}{w w':World}(h:Chg S w w')(hs:∀k,k<w.heap.size→S k→T k):Chg T w w':=
 ⟨h.os,h.tape,h.output,h.size,λk hk hn=>h.block k hk (λhh=>hn (hs k hk hh))⟩
theorem Chg.alloc(S:Nat→Prop)(w:World)(o:Obj):Chg S w (w.alloc o):=
 ⟨rfl,rfl,rfl,by simp,λk hk _=>Below.heap_alloc _ _ _ hk⟩
theorem Chg.set{S:Nat→Prop}(w:World)(a:Addr)(v:Value)(h:S a.block):Chg S w (w.setCell a v):=
 ⟨rfl,rfl,rfl,by simp,λk _ hn=>Below.heap_setCell _ _ _ _ (λe=>hn (e▸h))⟩
theorem Chg.drewN(S:Nat→Prop)(w:World)(n:Nat):Chg S w (w.drewN n):=⟨rfl,rfl,rfl,Nat.le_refl _,λ_ _ _=>rfl⟩
theorem Chg.drew(S:Nat→Prop)(w:World):Chg S w w.drew:=⟨rfl,rfl,rfl,Nat.le_refl _,λ_ _ _=>rfl⟩
theorem Chg.none{S:Nat→Prop}{w w':World}(h:Chg (λ_=>False) w w'):Chg S w w':=h.mono (λ_ _ f=>f.elim)
theorem Chg.one{B b:Nat}{w w':World}(h:Chg (λk=>k=b) w w')(hb:B≤b):Chg (λk=>B≤k) w w':=h.mono (λ_ _ f=>by omega)
theorem Chg.fresh{w w':World}(h:Chg (λk=>w.heap.size≤k) w w'):Chg (λ_=>False) w w':=h.mono (λ_ hk f=>absurd f (by omega))
theorem Chg.below{B:Nat}{w w':World}(h:Chg (λk=>B≤k) w w')(hB:B≤w.heap.size):Below B w w':=
 ⟨h.os,h.tape,h.output,h.size,λk hk=>h.block k (by omega) (by omega)⟩
theorem Chg.cell{S:Nat→Prop}{w w':World}{p:Addr}(h:Chg S w w')(hp:p.block<w.heap.size)(hs:¬S p.block):w'.cell? p=w.cell? p:=
 World.cell?_of_block (w:=w) (h.block p.block hp hs)
def PTrue(w:World)(e:Ending)(w':World):Prop:=e= .returned (.bool true)∧Chg (λ_=>False) w w'
theorem PTrue.below{w w':World}{e:Ending}(h:PTrue w e w'):e= .returned (.bool true)∧Below w.heap.size w w':=
 ⟨h.1,(h.2.none).below (Nat.le_refl _)⟩
theorem qX{w:World}{b:Nat}{o:Obj}(h:w.heap[b]? =some o):b<w.heap.size:=by
 rcases Nat.lt_or_ge b w.heap.size with h1|h1
 ·exact h1
 ·rw[Array.getElem?_eq_none h1] at h;cases h
theorem qG{w:World}{p:Addr}{v:Value}(h:w.cell? p=some v):p.block<w.heap.size:=by
 unfold World.cell? at h
 cases hb:w.heap[p.block]? with
 |none=>rw[hb] at h;cases h
 |some o=>exact qX hb
theorem qJ{w:World}{b:Nat}{c:Array Value}{t:TypeId}{fr:Nat×Nat}(h:w.heap[b]? =some (.cells c t fr)) (o:Nat):
  w.cell? ⟨b,o,none⟩=c[o]? :=by
 simp[World.cell?,h]
theorem qK{w:World}{b:Nat}{c:Array Value}{t:TypeId}(h:w.heap[b]? =some (.cells c t (0,0))) (o:Nat):
  w.frozen? ⟨b,o,none⟩=false:=by
 simp[World.frozen?,h]
theorem qB{w:World}{b:Nat}{c:Array Value}{t:TypeId}{fr:Nat×Nat}(h:w.heap[b]? =some (.cells c t fr)) (o:Nat) (v:Value):
  (w.setCell ⟨b,o,none⟩ v).heap[b]? =some (.cells (c.setIfInBounds o v) t fr):=by
 simp[World.setCell,Array.getElem?_modify,h]
theorem qV(w:World)(o:Obj):(w.alloc o).heap[w.heap.size]? =some o:=by
 show (w.heap.push o)[w.heap.size]? =_
 simp
theorem Chg.keep{S:Nat→Prop}{w w':World}{b:Nat}{o:Obj}(h:Chg S w w')(hb:w.heap[b]? =some o) (hs:¬S b):w'.heap[b]? =some o:=by
 rw[h.block b (qX hb) hs,hb]
def Sl{α:Type}(V:α→Value)(w:World)(a:Option Addr)(len:Nat)(zs:List α):Prop:=
 zs.length=len∧len≤maxLen∧∀i (h:i<zs.length),∃x,a=some x∧x.block<w.heap.size∧w.cell? (x.add i)=some (V zs[i])
theorem zJ(x:Addr)(i:Nat):(x.add i).block=x.block:=by unfold Addr.add;split <;> rfl
theorem Sl.at{α:Type}{V:α→Value}{w w':World}{a:Option Addr}{len:Nat}{zs:List α}(h:Sl V w a len zs)(g:Chg (λk=>w.heap.size≤k) w w'){i:Nat}(hi:i<len):
  ∃x z,a=some x∧zs[i]? =some z∧w'.cell? (x.add i)=some (V z):=by
 obtain⟨h1,h2,h3⟩:=h
 obtain⟨x,e,hb,hc⟩:=h3 i (by omega)
 have e2:=zJ x i
 refine⟨x,zs[i]'(by omega),e,by simp,?_⟩
 rw[g.cell (by omega) (by omega),hc]
def Sls{α:Type}(s:Nat)(V:α→List Value)(w:World)(a:Option Addr)(len:Nat)(zs:List α):Prop:=
 zs.length=len∧len≤maxLen∧∀i (h:i<zs.length),∃x,a=some x∧x.block<w.heap.size∧∀j,j<s→w.cell? ((x.add (i*s)).add j)=(V zs[i])[j]?
theorem Sls.at{α:Type}{s:Nat}{V:α→List Value}{w w':World}{a:Option Addr}{len:Nat}{zs:List α}(h:Sls s V w a len zs)(g:Chg (λk=>w.heap.size≤k) w w'){i:Nat}(hi:i<len):
  ∃x z,a=some x∧zs[i]? =some z∧∀j,j<s→w'.cell? ((x.add (i*s)).add j)=(V z)[j]? :=by
 obtain⟨h1,h2,h3⟩:=h
 obtain⟨x,e,hb,hc⟩:=h3 i (by omega)
 refine⟨x,zs[i]'(by omega),e,by simp,λj hj=>?_⟩
 have e2:=zJ x (i*s)
 have e3:=zJ (x.add (i*s)) j
 rw[g.cell (by omega) (by omega),hc j hj]
theorem Sls.len{α:Type}{s:Nat}{V:α→List Value}{w:World}{a:Option Addr}{len:Nat}{zs:List α}(h:Sls s V w a len zs):len≤9223372036854775807:=by
 have:=h.2.1;unfold maxLen at this;omega
section
variable {H:Type}{enc:TypeId×Value→H}{P:Program}{w:World}{base:Nat}{spare:Nat→Bool}{held:Bool}
open Go.Deep
theorem list_of_fn{α:Type}{Q:Nat→α→Prop}:∀n:Nat,(∀i,i<n→∃z,Q i z)→∃zs:List α,zs.length=n∧∀i (h:i<zs.length),Q i zs[i]
 |0,_=>⟨[],rfl,λi h=>absurd h (Nat.not_lt_zero _)⟩
 |n+1,h=>by
  obtain⟨zs,hl,hz⟩:=list_of_fn n (λi hi=>h i (by omega))
  obtain⟨z,hq⟩:=h n (by omega)
  refine⟨zs++[z],by simp[hl],λi hi=>?_⟩
  by_cases hlt:i<zs.length
  ·rw[List.getElem_append_left hlt];exact hz i hlt
  ·have:i=zs.length:=by simp at hi;omega
   subst this
   simp only[List.getElem_append_right (Nat.le_refl _),Nat.sub_self,List.getElem_cons_zero]
   rw[hl];exact hq
theorem sls_of_trod{α:Type}(s:Nat)(V:α→List Value)(Good:α→Prop){t e:TypeId}{a:Option Addr}{len cap:Nat}{d:DataW H}{ps:List MemPlace}(ht:P.underlying t=some (.slice e))(hc:P.cellsOf e=s)
  (hone:∀(n:Nat) (cs:List Value) (y:DataW H×List MemPlace),cs.length=s→DataW.trod enc P w base spare held n e cs=some y→∃z,cs=V z∧Good z) (hs:0<s)
  (h:DataW.Trod enc P w base spare held t (.slice a len cap) d ps):∃zs:List α,Sls s V w a len zs∧∀z∈zs,Good z:=by
 obtain⟨fuel,hf⟩:=h
 rcases open_slice ht hf with ⟨hcs,_⟩|⟨x,l,c,m,n,D,Pl,hcs,hb,hl,hm,hmm,_,hx⟩
 ·simp[Value.cells] at hcs
  obtain⟨rfl,rfl,rfl⟩:=hcs
  exact⟨[],⟨rfl,by simp[maxLen],λi h=>absurd h (Nat.not_lt_zero _)⟩,by simp⟩
 ·simp[Value.cells] at hcs
  obtain⟨rfl,rfl,rfl⟩:=hcs
  rw[hc] at hx
  have hle:len≤m:=by rw[hmm];split <;> omega
  obtain⟨zs,hzl,hz⟩:=list_of_fn (Q:=λi z=>(∀j,j<s→w.cell? ((x.add (i*s)).add j)=(V z)[j]?)∧(V z).length=s∧Good z) len (λi hi=>by
   obtain⟨cs,h1,h2⟩:=hx i (by omega)
   obtain⟨_,hlen,hcell⟩:=World.cells?_some h1
   obtain⟨z,h3,h4⟩:=hone _ _ _ hlen h2
   exact⟨z,λj hj=>by rw[hcell j hj,h3],h3▸hlen,h4⟩)
  refine⟨zs,⟨hzl,by omega,λi hi=>?_⟩,λz hz'=>?_⟩
  ·obtain⟨h1,h2,_⟩:=hz i hi
   have h3:=h1 0 hs
   rw[List.getElem?_eq_getElem (by omega)] at h3
   have h4:=qG h3
   exact⟨x,rfl,by rw[zJ,zJ] at h4;exact h4,h1⟩
  ·obtain⟨i,hi,rfl⟩:=List.getElem_of_mem hz'
   exact (hz i hi).2.2
end
theorem umod(n m:Int)(h0:0<m)(h1:m≤4611686018427387904):∃k:Nat,(k:Int)<m∧wrap64 ((IntKind.u64.wrap n).tmod m)=k:=by
 have h:0≤IntKind.u64.wrap n:=by
  simp only[IntKind.wrap,IntKind.bits,IntKind.signed]
  simp;omega
 have h2:(IntKind.u64.wrap n).tmod m=(IntKind.u64.wrap n) % m:=by
  rw[Int.tmod_eq_emod_of_nonneg h]
 have h3:=Int.emod_lt_of_pos (IntKind.u64.wrap n) h0
 have h4:=Int.emod_nonneg (IntKind.u64.wrap n) (Int.ne_of_gt h0)
 refine⟨((IntKind.u64.wrap n) % m).toNat,by omega,?_⟩
 rw[h2]
 unfold wrap64
 omega
def V8(x:Int):Value:= .int .u8 x
def VI(x:Int):Value:= .int .i64 x
theorem ret_int{k:IntKind}{a b:Int}(h:a=b):Ending.returned (.int k a)= .returned (.int k b):=by rw[h]
theorem chg1(w:World)(b o:Nat)(v:Value):Chg (· =b) w (w.setCell ⟨b,o,none⟩ v):=Chg.set w ⟨b,o,none⟩ v rfl
theorem qH{S:Nat→Prop}{w w':World}{row:Option Nat}(h:w.grownBy w' row)(hr:∀k,row=some k→S k):Chg S w w':=
 ⟨h.os,h.tape,h.output,h.size,λk hk hn=>h.block k hk (λe=>hn (hr k e.symm))⟩
theorem qY{S:Nat→Prop}{w w':World}{base e size n:Nat}{v:Value}{xs:List Value}(h:w.ownsRow base e size v n xs)(g:Chg S w w')(hS:∀k,v.ownBlock=some k→¬S k):w'.ownsRow base e size v n xs:=by
 refine⟨h.1,?_⟩
 rcases h.2 with hn|⟨k,cap,cur,rfl,hb,hgg,rest⟩
 ·exact .inl hn
 ·exact .inr ⟨k,cap,cur,rfl,hb,Chg.keep g hgg (hS k rfl),rest⟩
theorem Chg.old{S:Nat→Prop}{w w':World}(h:Chg (λk=>S k∨w.heap.size≤k) w w'):Chg S w w':=
 h.mono (λk hk e=>by rcases e with e|e;exact e;omega)
theorem Tryz.info5:(Tryz.prog.info? 5).map (λi=>(i.zero,i.size,i.bytes))=some (some (.int .u8 0),1,1):=by kernel_rfl
theorem Tryz.info3:(Tryz.prog.info? 3).map (λi=>(i.zero,i.size,i.bytes))=some (some (.int .i64 0),1,8):=by kernel_rfl
theorem info5:∃i,Tryz.prog.info? 5=some i∧i.zero=some (.int .u8 0)∧i.size=1∧i.bytes=1:=by
 obtain⟨i0,hi,hx⟩:=Option.map_eq_some_iff.1 Tryz.info5
 simp only[Prod.mk.injEq] at hx
 exact⟨i0,hi,hx⟩
theorem info3:∃i,Tryz.prog.info? 3=some i∧i.zero=some (.int .i64 0)∧i.size=1∧i.bytes=8:=by
 obtain⟨i0,hi,hx⟩:=Option.map_eq_some_iff.1 Tryz.info3
 simp only[Prod.mk.injEq] at hx
 exact⟨i0,hi,hx⟩
theorem app8{w:World}{ops:Array Oper}{rest:List Oper}{o:Oper}{a:Act}{Q:Exit→Act→World→Prop}(hgd:o.guard=none)(s x:Operand)
  (ho:o.op= .call {callee:= .builtin .append,args:=#[s,x],argTypes:=#[33,33]})
  (base:Nat) (v:Value) (n:Nat) (xs:List Value) (hs:a.eval s=v) (hown:w.ownsRow base 5 1 v n xs)
  (ad:Addr) (m c:Nat) (news:List Value) (hx:a.eval x= .slice (some ad) m c) (hl:news.length=m) (hnews:∀j u,news[j]? =some u→w.cell? (ad.add j)=some u) (h1:∀u∈news,u.oneCell'=true)
  (h63:n+m≤1000000000) (hbase:base≤w.heap.size)
  (h:∀v' w',w'.ownsRow base 5 1 v' (n+m) (xs++news)→w.grownBy w' v.ownBlock→(v'= .slice none 0 0↔v= .slice none 0 0∧m=0)→wpList Tryz.prog ops Q rest (a.put o.dst v') w'):wpList Tryz.prog ops Q (o::rest) a w:=by
 obtain⟨i,h1i,h2i,h3i,h4i⟩:=info5
 exact wpList_append_own w hgd s x 33 ho base 5 i (.int .u8 0) 1 1 Tryz.underlying33 h1i h2i h3i h4i rfl (by decide) v n xs hs hown ad m c news hx (by omega) hnews h1 (by unfold maxLen;omega) (by omega) hbase h
section
variable {w:World}{base e n:Nat}{v:Value}{xs:List Value}
theorem vL(h:w.ownsRow base e 1 v n xs)(hn:0<n):∃g cap cur,v= .slice (some ⟨g,0,none⟩) n cap∧base≤g∧w.heap[g]? =some (.cells cur e (0,0))∧cur.toList.take n=xs∧n≤cap∧cap≤maxLen∧cur.size=cap:=by
 obtain⟨h1,h2⟩:=h
 rcases h2 with ⟨_,rfl⟩|⟨g,cap,cur,rfl,hb,hg,hc,hm,hs,ht⟩
 ·omega
 ·exact⟨g,cap,cur,rfl,hb,hg,by simpa using ht,hc,hm,by simpa using hs⟩
theorem qp{g cap:Nat}(h:w.ownsRow base e 1 (.slice (some ⟨g,0,none⟩) n cap) n xs)(i:Nat)(x:Value)(hi:xs[i]? =some x):w.cell? ⟨g,i,none⟩=some x:=by
 obtain⟨h1,h2⟩:=h
 rcases h2 with ⟨h2,_⟩|⟨g',cap',cur,he,hb,hg,hc,hm,hs,ht⟩
 ·cases h2
 ·cases he
  rw[qJ hg]
  have hi2:=(List.getElem?_eq_some_iff.1 hi).1
  rw[←ht,List.getElem?_take] at hi
  split at hi
  ·rw[←hi];simp
  ·cases hi
theorem zw{g cap:Nat}(h:w.ownsRow base e 1 (.slice (some ⟨g,0,none⟩) n cap) n xs)(i:Nat):w.frozen? ⟨g,i,none⟩=false:=by
 obtain⟨h1,h2⟩:=h
 rcases h2 with ⟨h2,_⟩|⟨g',cap',cur,he,hb,hg,hc,hm,hs,ht⟩
 ·cases h2
 ·cases he;exact qK hg i
theorem vq{g cap:Nat}(h:w.ownsRow base e 1 (.slice (some ⟨g,0,none⟩) n cap) n xs)(i:Nat)(x:Value)(hi:i<n):(w.setCell ⟨g,i,none⟩ x).ownsRow base e 1 (.slice (some ⟨g,0,none⟩) n cap) n (xs.set i x):=by
 obtain⟨h1,h2⟩:=h
 refine⟨by simpa using h1,?_⟩
 rcases h2 with ⟨h2,_⟩|⟨g',cap',cur,he,hb,hg,hc,hm,hs,ht⟩
 ·cases h2
 ·cases he
  refine .inr ⟨g,cap,cur.setIfInBounds i x,rfl,hb,qB hg i x,hc,hm,by simpa using hs,?_⟩
  rw[←ht]
  simp[List.take_set]
theorem qS(h:w.ownsRow base e 1 v n xs){j:Nat}(hj:v.ownBlock=some j):base≤j∧j<w.heap.size:=h.lt j hj
end
theorem and255(r:Int)(h0:0≤r)(h1:r<256):bits BinOp.and IntKind.u8 r 255=r:=by
 obtain⟨m,rfl⟩:∃m:Nat,r=m:=⟨r.toNat,by omega⟩
 have h:∀m:Nat,m<256→bits BinOp.and IntKind.u8 (m:Int) 255=m:=by decide+kernel
 exact h m (by omega)
theorem or0(r:Int)(h0:0≤r)(h1:r<256):bits BinOp.or IntKind.u8 0 r=r:=by
 obtain⟨m,rfl⟩:∃m:Nat,r=m:=⟨r.toNat,by omega⟩
 have h:∀m:Nat,m<256→bits BinOp.or IntKind.u8 0 (m:Int)=m:=by decide+kernel
 exact h m (by omega)
def RowBl(e b:Nat)(w:World)(j:Nat):Prop:=j=b∨(b<j∧∃cur,w.heap[j]? =some (.cells cur e (0,0)))
def CW(e b:Nat)(w w':World):Prop:=Chg (RowBl e b w) w w'
theorem CW.refl(e b:Nat)(w:World):CW e b w w:=Chg.refl _ _
theorem CW.trans{e b:Nat}{w0 w1 w2:World}(h:CW e b w0 w1)(k:CW e b w1 w2):CW e b w0 w2:=
 ⟨k.os.trans h.os,k.tape.trans h.tape,k.output.trans h.output,Nat.le_trans h.size k.size,λi hi hn=>by
  have h1:=h.block i hi hn
  rw[k.block i (Nat.lt_of_lt_of_le hi h.size) (λhS=>hn ?_),h1]
  rcases hS with e|⟨hb,cur,hc⟩
  ·exact .inl e
  ·exact .inr ⟨hb,cur,by rw[←h1];exact hc⟩⟩
theorem CW.none{e b:Nat}{w w':World}(h:Chg (λ_=>False) w w'):CW e b w w':=h.none
theorem CW.self{e b:Nat}{w w':World}(h:Chg (· =b) w w'):CW e b w w':=Chg.mono h (λ_ _ e=> .inl e)
theorem CW.row{e b:Nat}{w w':World}{n size:Nat}{v:Value}{xs:List Value}(ho:w.ownsRow (b+1) e size v n xs)(h:Chg (λj=>v.ownBlock=some j) w w'):CW e b w w':=
 Chg.mono h (λj hj hS=>by
  rcases ho.2 with ⟨rfl,_⟩|⟨g,cap,cur,rfl,hb,hg,_⟩
  ·cases hS
  ·cases hS;exact .inr ⟨Nat.lt_of_lt_of_le (Nat.lt_succ_self b) hb,cur,hg⟩)
theorem CW.chg{e b:Nat}{w w':World}(h:CW e b w w'):Chg (λj=>b≤j) w w':=Chg.mono h (λj _ hS=>by rcases hS with rfl|⟨h1,_⟩ <;> omega)
theorem CW.keep{e b:Nat}{w w':World}(h:CW e b w w'){j:Nat}{cs:Array Value}{t:TypeId}{fr:Nat×Nat}(hj:w.heap[j]? =some (.cells cs t fr)) (hb:j≠b) (ht:t≠e∨j<b):w'.heap[j]? =some (.cells cs t fr):=
 Chg.keep h hj (λhS=>by
  rcases hS with rfl|⟨h1,cur,h2⟩
  ·exact hb rfl
  ·rw[hj] at h2;cases h2;rcases ht with ht|ht
   ·exact ht rfl
   ·omega)
theorem u8_wrap(x:Int):IntKind.u8.wrap x=x % 256:=by simp only[IntKind.wrap,IntKind.bits,IntKind.signed];simp
theorem u8_in(x:Int)(h0:0≤x)(h1:x<256):IntKind.u8.wrap x=x:=by rw[u8_wrap];omega
def be:Nat→Int→List Int
 |0,_=>[]
 |k+1,n=>n / 256^k % 256::be k n
theorem qq(k:Nat)(n:Int):(be k n).length=k:=by induction k with
 |zero=>rfl
 |succ k ih=>simp[be,ih]
theorem be_at(k:Nat)(n:Int)(i:Nat)(h:i<k):(be k n)[i]? =some (n / 256^(k-1-i) % 256):=by
 induction k generalizing i with
 |zero=>omega
 |succ k ih=>
  cases i with
  |zero=>simp[be]
  |succ i=>
   simp only[be,List.getElem?_cons_succ]
   rw[ih i (by omega),show k+1-1-(i+1)=k-1-i from by omega]
theorem be_take(k:Nat)(n:Int)(i:Nat)(h:i<k):(be k n).take (i+1)=(be k n).take i++[n / 256^(k-1-i) % 256]:=by
 rw[List.take_add_one,be_at k n i h];rfl
theorem zK(k:Nat)(n:Int):∀x∈be k n,0≤x∧x<256:=by
 induction k with
 |zero=>intro x hx;cases hx
 |succ k ih=>
  intro x hx
  simp only[be,List.mem_cons] at hx
  rcases hx with rfl|hx
  ·omega
  ·exact ih x hx
theorem add_mk(g o i:Nat):(⟨g,o,none⟩:Addr).add i=⟨g,o+i,none⟩:=by
 unfold Addr.add
 split
 ·rename_i e;subst e;rfl
 ·rfl
def bitAt(L:List Int)(p:Nat):Int:=(L[p / 8]?.getD 0) / 2^(7-p % 8) % 2
def bv(L:List Int)(p:Nat):Nat→Int
 |0=>0
 |j+1=>bv L p j*2+bitAt L (p+j)
theorem bitAt_bd(L:List Int)(p:Nat):0≤bitAt L p∧bitAt L p<2:=by unfold bitAt;omega
theorem bv_bd(L:List Int)(p j:Nat):0≤bv L p j∧bv L p j<2^j:=by
 induction j with
 |zero=>simp[bv]
 |succ j ih=>
  have:=bitAt_bd L (p+j)
  simp only[bv]
  rw[Int.pow_succ]
  omega
theorem or_bit(n b:Int)(h0:0≤n)(h1:n<9223372036854775808)(hb:0≤b∧b<2):bits BinOp.or IntKind.u64 (n*2) b=n*2+b:=by
 obtain⟨m,rfl⟩:∃m:Nat,n=m:=⟨n.toNat,by omega⟩
 obtain⟨c,rfl⟩:∃c:Nat,b=c:=⟨b.toNat,by omega⟩
 have e:((m:Int)*2)=((m*2:Nat):Int):=by push_cast;rfl
 rw[e,bits_or_u64_nat _ _ (by omega) (by omega)]
 have hc:c=0∨c=1:=by omega
 rcases hc with rfl|rfl
 ·simp
 ·have:m*2|||1=m*2+1:=by
   have:=Nat.two_pow_add_eq_or_of_lt (i:=1) (b:=1) (by omega) m
   rw[Nat.mul_comm m 2]
   simpa using this.symm
  rw[this];omega
theorem and_bit(x:Int)(h0:0≤x)(h1:x<256):bits BinOp.and IntKind.u8 x 1=x % 2:=by
 obtain⟨m,rfl⟩:∃m:Nat,x=m:=⟨x.toNat,by omega⟩
 have h:∀m:Nat,m<256→bits BinOp.and IntKind.u8 (m:Int) 1=(m:Int) % 2:=by decide+kernel
 exact h m (by omega)
def Rs{α:Type}(V:α→Value)(w:World)(B:Nat)(a:Option Addr)(len:Nat)(zs:List α):Prop:=
 zs.length=len∧∀i (h:i<zs.length),∃x,a=some x∧x.block<B∧w.cell? (x.add i)=some (V zs[i])
section
variable {α:Type}{V:α→Value}{w w':World}{B B' len:Nat}{a:Option Addr}{zs:List α}
theorem Rs.nil(V:α→Value)(w:World)(B:Nat)(a:Option Addr):Rs V w B a 0 []:=⟨rfl,λi h=>absurd h (Nat.not_lt_zero _)⟩
theorem Rs.at(h:Rs V w B a len zs){i:Nat}(hi:i<len):∃x z,a=some x∧x.block<B∧zs[i]? =some z∧w.cell? (x.add i)=some (V z):=by
 have hl:=h.1
 obtain⟨x,e,hb,hc⟩:=h.2 i (by omega)
 exact⟨x,zs[i]'(by omega),e,hb,by simp,hc⟩
theorem Rs.keep{S:Nat→Prop}(h:Rs V w B a len zs)(g:Chg S w w')(hS:∀j,j<B→¬S j):Rs V w' B a len zs:=
 ⟨h.1,λi hi=>by
  obtain⟨x,e,hb,hc⟩:=h.2 i hi
  have hx:=zJ x i
  exact⟨x,e,hb,by rw[g.cell (qG hc) (λs=>hS _ hb (hx▸s)),hc]⟩⟩
theorem Rs.more(h:Rs V w B a len zs)(hB:B≤B'):Rs V w B' a len zs:=
 ⟨h.1,λi hi=>by
  obtain⟨x,e,hb,hc⟩:=h.2 i hi
  exact⟨x,e,by omega,hc⟩⟩
theorem Rs.of_own{base e:Nat}{v:Value}{n:Nat}{zs:List α}(h:w.ownsRow base e 1 v n (zs.map V)):∃a c,v= .slice a n c∧Rs V w w.heap.size a n zs∧(a=none→c=0):=by
 have hl:zs.length=n:=by have:=h.1;simpa using this
 rcases h.2 with ⟨rfl,rfl⟩|⟨g,cap,cur,rfl,hb,hg,_⟩
 ·obtain rfl:=List.eq_nil_of_length_eq_zero hl
  exact⟨_,_,rfl,Rs.nil _ _ _ _,λ_=>rfl⟩
 ·refine⟨_,_,rfl,⟨hl,λi hi=>⟨_,rfl,qX hg,?_⟩⟩,λe=>by cases e⟩
  have:=qp h i (V zs[i]) (by simp[List.getElem?_eq_getElem hi])
  rw[add_mk,Nat.zero_add];exact this
end
def ElOk(t e:TypeId)(bytes:Nat):Prop:=Tryz.prog.underlying t=some (.slice e)∧∃i z,Tryz.prog.info? e=some i∧i.zero=some z∧i.size=1∧i.bytes=bytes∧z.cells.size=1
theorem el8:ElOk 33 5 1:=by
 obtain⟨i,h1,h2,h3,h4⟩:=info5
 exact⟨Tryz.underlying33,i,_,h1,h2,h3,h4,rfl⟩
theorem elI:ElOk 22 3 8:=by
 obtain⟨i,h1,h2,h3,h4⟩:=info3
 exact⟨Tryz.underlying22,i,_,h1,h2,h3,h4,rfl⟩
theorem appS{α:Type}{V:α→Value}{w:World}{ops:Array Oper}{rest:List Oper}{o:Oper}{a:Act}{Q:Exit→Act→World→Prop}{t e:TypeId}{bytes:Nat}(he:ElOk t e bytes)(hgd:o.guard=none)(s x:Operand)
  (ho:o.op= .call {callee:= .builtin .append,args:=#[s,x],argTypes:=#[t,t]})
  (base:Nat) (v:Value) (n:Nat) (xs:List Value) (hs:a.eval s=v) (hown:w.ownsRow base e 1 v n xs)
  (B:Nat) (A:Option Addr) (m c:Nat) (zs:List α) (hx:a.eval x= .slice A m c) (hA:A=none→c=0) (hr:Rs V w B A m zs) (h1:∀z,(V z).oneCell'=true)
  (hb:bytes≤8) (h63:n+m≤1000000000) (hbase:base≤w.heap.size)
  (h:∀v' w',w'.ownsRow base e 1 v' (n+m) (xs++zs.map V)→w.grownBy w' v.ownBlock→(v'.ownBlock=v.ownBlock∨v'.ownBlock=some w.heap.size)→wpList Tryz.prog ops Q rest (a.put o.dst v') w'):wpList Tryz.prog ops Q (o::rest) a w:=by
 obtain⟨ht,i,z,h1i,h2i,h3i,h4i,h5i⟩:=he
 have hbb:(n+m)*bytes≤(n+m)*8:=Nat.mul_le_mul_left _ hb
 rcases A with _|ad
 ·obtain rfl:=hA rfl
  have hm:m=0:=by
   rcases Nat.eq_zero_or_pos m with h0|h0
   ·exact h0
   ·obtain⟨x,z,e,_⟩:=hr.at h0;cases e
  subst hm
  have hz:zs=[]:=List.eq_nil_of_length_eq_zero hr.1
  subst hz
  exact wpList_append_own_none hgd s x t ho base e i 1 ht h1i v n xs hs hown hx (h v w (by simpa using hown) ⟨rfl,rfl,rfl,Nat.le_refl _,λ_ _ _=>rfl⟩ (.inl rfl))
 ·refine wpList_append_own_at w hgd s x t ho base e i z 1 bytes ht h1i h2i h3i h4i h5i (by decide) v n xs hs hown ad m c (zs.map V) hx (by simp[hr.1]) (λj u hu=>?_) (λu hu=>?_) (by unfold maxLen;omega) (by omega) hbase (λv' w' k1 k2 _ k4=>h v' w' k1 k2 k4)
  ·rw[List.getElem?_map] at hu
   have hj:j<m:=by
    rcases Nat.lt_or_ge j m with hj|hj
    ·exact hj
    ·rw[List.getElem?_eq_none (by rw[hr.1];exact hj)] at hu;cases hu
   obtain⟨y,z,e,_,hz,hc⟩:=hr.at hj
   cases e
   rw[hz] at hu;simp at hu;rw[←hu];exact hc
  ·rw[List.mem_map] at hu
   obtain⟨z,_,rfl⟩:=hu
   exact h1 z
theorem app1{α:Type}{V:α→Value}{w:World}{ops:Array Oper}{rest:List Oper}{o:Oper}{a:Act}{Q:Exit→Act→World→Prop}{t e:TypeId}{bytes:Nat}(he:ElOk t e bytes)(hgd:o.guard=none)(s x:Operand)
  (ho:o.op= .call {callee:= .builtin .append,args:=#[s,x],argTypes:=#[t,t]})
  (base:Nat) (v:Value) (n:Nat) (xs:List Value) (hs:a.eval s=v) (hown:w.ownsRow base e 1 v n xs)
  (sb:Nat) (z:α) (hx:a.eval x= .slice (some ⟨sb,0,none⟩) 1 1) (hc:w.cell? ⟨sb,0,none⟩=some (V z)) (h1:(V z).oneCell'=true)
  (hb:bytes≤8) (h63:n+1≤1000000000) (hbase:base≤w.heap.size)
  (h:∀v' w',w'.ownsRow base e 1 v' (n+1) (xs++[V z])→w.grownBy w' v.ownBlock→(v'.ownBlock=v.ownBlock∨v'.ownBlock=some w.heap.size)→wpList Tryz.prog ops Q rest (a.put o.dst v') w'):wpList Tryz.prog ops Q (o::rest) a w:=by
 refine appS (V:=λ_:Unit=>V z) he hgd s x ho base v n xs hs hown (sb+1) (some ⟨sb,0,none⟩) 1 1 [()] hx (λe=>by cases e) ⟨rfl,λi hi=>⟨_,rfl,Nat.lt_succ_self _,?_⟩⟩ (λ_=>h1) hb h63 hbase h
 have:i=0:=by simp at hi;exact hi
 subst this
 exact hc
def PNew{α:Type}(V:α→Value)(e:TypeId)(w:World)(zs:List α)(en:Ending)(w':World):Prop:=
 ∃v,en= .returned v∧w'.ownsRow w.heap.size e 1 v zs.length (zs.map V)∧Chg (λ_=>False) w w'
structure Wr(w:World)(b:Nat)(v:Value)(L:List Int):Prop where
 blk:w.heap[b]? =some (.cells #[v,.int .i64 (8*L.length:Nat)] 180 (0,0))
 own:w.ownsRow (b+1) 5 1 v L.length (L.map V8)
theorem Wr.c0{w:World}{b:Nat}{v:Value}{L:List Int}(h:Wr w b v L):w.cell? ⟨b,0,none⟩=some v:=by rw[qJ h.blk];rfl
theorem Wr.c1{w:World}{b:Nat}{v:Value}{L:List Int}(h:Wr w b v L):w.cell? ⟨b,1,none⟩=some (.int .i64 (8*L.length:Nat)):=by rw[qJ h.blk];rfl
theorem Wr.f{w:World}{b:Nat}{v:Value}{L:List Int}(h:Wr w b v L)(o:Nat):w.frozen? ⟨b,o,none⟩=false:=qK h.blk o
theorem good_any(k:Nat)(hk:k≤64)(w:World):Calls Tryz.prog 154 #[.int .i64 k] w λe w'=>e= .returned (.bool true)∧w'=w:=by
 have h:(k:Int)≤64:=by omega
 go_enter Tryz.func154,Tryz.ntmps154
 go_wp2
 go_ret
 exact⟨rfl,rfl⟩
structure PutAt(w0:World)(b:Nat)(L:List Int)(v:Value)(w:World):Prop where
 wr:Wr w b v L
 chg:CW 5 b w0 w
theorem PutAt.start{w:World}{b:Nat}{v:Value}{L:List Int}(h:Wr w b v L):PutAt w b L v w:=⟨h,CW.refl _ _ _⟩
structure PutMid(w0:World)(b:Nat)(M:List Int)(v v2:Value)(w:World):Prop where
 blk:w.heap[b]? =some (.cells #[v,.int .i64 (8*M.length:Nat)] 180 (0,0))
 own:w.ownsRow (b+1) 5 1 v2 (M.length+1) (M.map V8++[V8 0])
 chg:CW 5 b w0 w
section
variable {w0 w w':World}{b:Nat}{v v2:Value}{M:List Int}
theorem PutMid.c0(h:PutMid w0 b M v v2 w):w.cell? ⟨b,0,none⟩=some v:=by rw[qJ h.blk];rfl
theorem PutMid.c1(h:PutMid w0 b M v v2 w):w.cell? ⟨b,1,none⟩=some (.int .i64 (8*M.length:Nat)):=by rw[qJ h.blk];rfl
theorem PutMid.f(h:PutMid w0 b M v v2 w)(o:Nat):w.frozen? ⟨b,o,none⟩=false:=qK h.blk o
theorem PutMid.store(h:PutMid w0 b M v v2 w):PutMid w0 b M v2 v2 (w.setCell ⟨b,0,none⟩ v2):=by
 have g:Chg (· =b) w (w.setCell ⟨b,0,none⟩ v2):=Chg.set w ⟨b,0,none⟩ _ rfl
 refine⟨?_,qY h.own g (λk hk e=>?_),h.chg.trans (CW.self g)⟩
 ·have:=qB h.blk 0 v2;simpa using this
 ·have:=(qS h.own hk).1;have:k=b:=e;omega
theorem PutMid.kept(h:PutMid w0 b M v v2 w)(g:Chg (λ_=>False) w w'):PutMid w0 b M v v2 w':=
 ⟨Chg.keep g h.blk (λe=>e),qY h.own g (λ_ _ e=>e),h.chg.trans (CW.none g)⟩
theorem PutMid.done{g cap:Nat}(h:PutMid w0 b M (.slice (some ⟨g,0,none⟩) (M.length+1) cap) (.slice (some ⟨g,0,none⟩) (M.length+1) cap) w)(r:Int)(m:Int)(hm:m=(8*(M.length+1):Nat)):
  PutAt w0 b (M++[r]) (.slice (some ⟨g,0,none⟩) (M.length+1) cap) ((w.setCell ⟨g,M.length,none⟩ (.int .u8 r)).setCell ⟨b,1,none⟩ (.int .i64 m)):=by
 obtain⟨hgb,hgl⟩:=qS h.own (j:=g) rfl
 have g1:Chg (· =g) w (w.setCell ⟨g,M.length,none⟩ (.int .u8 r)):=Chg.set w ⟨g,M.length,none⟩ _ rfl
 have g1':=CW.row h.own (g1.mono (λj _ e=>by rw[show j=g from e];rfl))
 have hb1:=Chg.keep g1 h.blk (λe=>by have:b=g:=e;omega)
 have ho1:=vq h.own M.length (.int .u8 r) (by omega)
 generalize w.setCell ⟨g,M.length,none⟩ (.int .u8 r)=w1 at *
 have g2:Chg (· =b) w1 (w1.setCell ⟨b,1,none⟩ (.int .i64 m)):=Chg.set w1 ⟨b,1,none⟩ _ rfl
 refine⟨⟨?_,?_⟩,(h.chg.trans g1').trans (CW.self g2)⟩
 ·have:=qB hb1 1 (.int .i64 m)
  rw[this,hm];simp
 ·have:=qY ho1 g2 (λk hk e=>by cases hk;have:g=b:=e;omega)
  have e:(M.map V8++[V8 0]).set M.length (.int .u8 r)=(M++[r]).map V8:=by
   have e1:(M.map V8).length=M.length:=by simp
   rw[List.set_append,if_neg (by omega),e1];simp[V8]
  rw[e] at this
  simpa using this
theorem PutAt.app{o:Obj}(h:PutAt w0 b M v w)(hown:w'.ownsRow (b+1) 5 1 v2 (M.length+1) (M.map V8++[.int .u8 0]))(hgr:(w.alloc o).grownBy w' v.ownBlock):PutMid w0 b M v v2 w':=by
 have ga:=Chg.alloc (λ_=>False) w o
 have g:=qH (S:=λj=>v.ownBlock=some j) hgr (λj e=>e)
 have hoa:=qY h.wr.own ga (λ_ _ e=>e)
 refine⟨Chg.keep g (Chg.keep ga h.wr.blk (λe=>e)) (λe=>?_),hown,(h.chg.trans (CW.none ga)).trans (CW.row hoa g)⟩
 have:=(qS h.wr.own e).1;omega
end
def PPut(w:World)(b:Nat)(L:List Int)(e:Ending)(w':World):Prop:=
 e= .returned (.tuple #[])∧∃v',Wr w' b v' L∧CW 5 b w w'
theorem put_any(k:Nat)(hk:k≤8)(n:Int)(hn:0≤n)(hn2:n<18446744073709551616)(w:World)(b:Nat)(v:Value)(L:List Int)(h:Wr w b v L)(hL:L.length≤100000):
  Calls Tryz.prog 100 #[.pointer (some ⟨b,0,none⟩),.int .u64 n,.int .i64 (8*k:Nat)] w (PPut w b (L++be k n)):=by
 have hg:=good_any (8*k) (by omega)
 have hk2:((8*k:Nat):Int)≤64:=by omega
 have hk3:0≤((8*k:Nat):Int):=by omega
 have H:=qQ h
 clear h
 go_enter Tryz.func100,Tryz.ntmps100
 go_wp2_with fail
 refine (hg _).mono ?_
 rintro e w1 ⟨rfl,rfl⟩
 go_wp2_with fail
 go_loopw [6] (λu6 wr=>∃(i:Nat) (v':Value),i≤k∧u6= .int .i64 (8*(k-i):Nat)∧PutAt w1 b (L++(be k n).take i) v' wr) (λu6 _=>(intOf u6).toNat)
 case atStart=>exact⟨0,v,by omega,rfl,by simpa using PutAt.start H.out⟩
 case round=>
  obtain⟨i,v',hi,rfl,hP⟩:=hrel
  by_cases hlt:i<k
  ·obtain⟨M,hM⟩:=qZ (L++(be k n).take i)
   rw[←hM] at hP
   have hMl:M.length≤100008:=by rw[hM];simp[qq];omega
   obtain⟨lf,hlf⟩:∃lf:Int,lf=((8*(k-i):Nat):Int):=⟨_,rfl⟩
   rw[←hlf]
   have h8:8≤lf:=by omega
   have h64:lf≤64:=by omega
   have hl0:0<lf:=by omega
   have c0:=hP.wr.c0
   have c1:=hP.wr.c1
   have f0:=hP.wr.f 0
   obtain⟨m8,hm8⟩:∃m8:Int,m8=((8*M.length:Nat):Int):=⟨_,rfl⟩
   rw[←hm8] at c1
   have hl8:m8 % 8=0:=by omega
   have hl9:0≤m8:=by omega
   have hl7:m8≤1000000:=by omega
   have HP:=qQ hP
   have HM:=qQ hM
   have HLF:=qQ hlf
   have HM8:=qQ hm8
   clear hP hM hlf hm8
   go_wp2_with (at_builtin;go_loud (refine app8 rfl (.tmp 30) (.tmp 31) rfl (b+1) v' M.length (M.map V8) rfl (HP.out.wr.own.alloc _) ⟨wr.heap.size,0,none⟩ 1 1 [.int .u8 0] rfl rfl ?c1 ?c2 (by omega) ?hb ?grow))
   case c1=>intro j u hj;match j,hj with|0,hj=>simp at hj;subst hj;simp[Addr.add]
   case c2=>intro u hu;simp at hu;subst hu;rfl
   case hb=>simp;have:=qX HP.out.wr.blk;omega
   case grow=>
    intro v2 w2 hown hgr hnil
    have P2:=PutAt.app HP.out hown hgr
    clear hown hgr hnil c0 c1 f0
    obtain⟨g,cap,_,rfl,hgb,_,_,_,_,_⟩:=vL P2.own (by omega)
    have c0:=P2.c0
    have c1:=P2.c1
    rw[←HM8.out] at c1
    have f0:=P2.f 0
    have f1:=P2.f 1
    have hgb2:g≠b:=by omega
    have d0:=qp P2.own M.length (V8 0) (by simp)
    have df:=zw P2.own M.length
    have HP2:=qQ P2
    have HO:=qQ hgb
    clear P2 hgb
    go_wp2_with fail
    have e1:IntKind.i64.wrap (lf-8)=lf-8:=IntWalk.i64_in _ (by omega)
    have e2:lf-8≤64:=by omega
    obtain⟨q,e3⟩:∃q,n / 2^(lf-8).toNat=q:=⟨_,rfl⟩
    obtain⟨r,e4⟩:∃r,IntKind.u8.wrap q=r:=⟨_,rfl⟩
    have hr0:0≤r∧r<256:=by rw[←e4,u8_wrap];omega
    have e5:IntKind.u8.wrap 256=0:=by decide
    have e6:IntKind.u8.wrap (-1)=255:=by decide
    have e7:=and255 r hr0.1 hr0.2
    with_reducible refine wp_region_still_lit (by kernel_rfl) (by kernel_rfl) ?_
    repeat (with_reducible refine wpStill_step (λK hK=>?_);go_simp;with_reducible refine hK _ ?_;clear hK K)
    with_reducible refine wpStill_nil ?_
    change Exit.then _ _ _ _ (w2.setCell ⟨b,0,none⟩ (Value.slice (some ⟨g,0,none⟩) (M.length+1) cap)).drew
    have P3:=(HP2.out.store).kept (Chg.drew (λ_=>False) _)
    clear e1 e2 e5 e6 e7 c0 c1 f0 f1 d0 df HP2
    generalize (w2.setCell ⟨b,0,none⟩ (Value.slice (some ⟨g,0,none⟩) (M.length+1) cap)).drew=w3 at *
    have c0:=P3.c0
    have d0:=qp P3.own M.length (V8 0) (by simp)
    unfold V8 at d0
    have HP3:=qQ P3
    clear P3
    obtain⟨ml,hml⟩:∃ml:Int,ml=M.length:=⟨_,rfl⟩
    have e1:IntKind.i64.wrap (M.length:Int)=M.length:=IntWalk.i64_in _ (by omega)
    have e2:IntKind.u8.wrap r=r:=u8_in r hr0.1 hr0.2
    have e5:=or0 r hr0.1 hr0.2
    have e6:IntKind.i64.wrap 0=0:=by decide
    have i1:(M.length:Int)<(M.length:Int)+1:=by omega
    have HR:=qQ e4
    clear e4
    go_wp2_with fail
    go_still_tail 19,(by kernel_rfl)
    change wpList _ _ _ _ _ w3.drew
    clear e1 e2 e5 e6 d0 c0
    have P4:=HP3.out.kept (Chg.drew (λ_=>False) w3)
    clear HP3
    generalize w3.drew=w4 at *
    have c1:=P4.c1
    rw[←HM8.out] at c1
    have f1:=P4.f 1
    have df:=zw P4.own M.length
    have d0:=qp P4.own M.length (V8 0) (by simp)
    unfold V8 at d0
    have HP4:=qQ P4
    clear P4
    go_wp2_with fail
    have hnx:L++(be k n).take (i+1)=M++[r]:=by
     rw[be_take k n i hlt,←List.append_assoc,←HM.out,←HR.out,u8_wrap,←e3,HLF.out,
      show (((8*(k-i):Nat):Int)-8).toNat=8*(k-1-i) from by omega,Int.pow_mul]
     rfl
    have PE:=HP4.out.done r (m8+8) (by rw[HM8.out];omega)
    rw[←hnx] at PE
    have hle:lf-8=((8*(k-(i+1)):Nat):Int):=by rw[HLF.out];omega
    have HX:=qQ (And.intro PE hle)
    clear PE hle hnx e3
    go_roundw
    case measure=>simp[intOf];omega
    case rel=>exact⟨i+1,_,by omega,congrArg _ HX.out.2,HX.out.1⟩
  ·obtain rfl:i=k:=by omega
   have hz:((8*(i-i):Nat):Int)=0:=by simp
   rw[hz]
   have HP:=qQ hP
   clear hP hz H
   go_wp2_with fail
   go_end0
   have h:=HP.out
   rw[List.take_of_length_le (by rw[qq];omega)] at h
   exact⟨rfl,_,h.wr,h.chg⟩
theorem text_any(w:World)(b:Nat)(v:Value)(L:List Int)(a:Option Addr)(len cap:Nat)(zs:List Int)(h:Wr w b v L)(hs:Rs V8 w b a len zs)(hz:∀z∈zs,0≤z∧z<256)(hL:L.length+len≤100000):
  Calls Tryz.prog 101 #[.pointer (some ⟨b,0,none⟩),.slice a len cap] w (PPut w b (L++zs)):=by
 have H:=qQ h
 have HS:=qQ hs
 have HZ:=qQ hz
 have hlen:len≤100000:=by omega
 clear h hs hz
 go_enter Tryz.func101,Tryz.ntmps101
 go_wp2_with fail
 go_loopw [8] (λi wr=>∃(k:Nat) (v':Value),k≤len∧i= .int .i64 k∧PutAt w b (L++zs.take k) v' wr) (λi _=>len-(intOf i).toNat)
 case atStart=>exact⟨0,v,by omega,rfl,by simpa using PutAt.start H.out⟩
 case round=>
  obtain⟨k,v',hk,rfl,hP⟩:=hrel
  have HP:=qQ hP
  clear hP
  by_cases hlt:k<len
  ·obtain⟨x,z,rfl,hxb,hz,hc⟩:=(HS.out.keep HP.out.chg.chg (λj h1 h2=>by omega)).at hlt
   obtain⟨z0,z1⟩:=HZ.out z (List.mem_of_getElem? hz)
   have HX:=qQ hz
   unfold V8 at hc
   clear hz
   go_wp2_with fail
   have hl2:(L++zs.take k).length≤100000:=by have:=HS.out.1;simp;omega
   have hp:=put_any 1 (by omega) z z0 (by omega) wr b v' (L++zs.take k) HP.out.wr hl2
   rw[show ((8*1:Nat):Int)=8 from rfl] at hp
   refine hp.mono ?_
   rintro e w1 ⟨rfl,v1,W1,C1⟩
   have hn:L++zs.take k++be 1 z=L++zs.take (k+1):=by
    rw[List.take_add_one,HX.out,List.append_assoc]
    congr 2
    simp[be];omega
   rw[hn] at W1
   have hn3:(k:Int)+1≤100000:=by omega
   have HN:Hid (PutAt w b (L++zs.take (k+1)) v1 w1):=qQ ⟨W1,HP.out.chg.trans C1⟩
   clear hn W1 C1 hp hl2 hc
   go_wp2_with fail
   go_roundw
   case measure=>simp[intOf];omega
   case rel=>exact⟨k+1,_,by omega,by go_num,HN.out⟩
  ·obtain rfl:k=len:=by omega
   go_wp2_with fail
   go_end0
   have h:=HP.out
   rw[List.take_of_length_le (by have:=HS.out.1;omega)] at h
   exact⟨rfl,_,h.wr,h.chg⟩
theorem bytes_any(w:World)(b:Nat)(v:Value)(L:List Int)(h:Wr w b v L)(hL:L.length≤100000):
  Calls Tryz.prog 103 #[.pointer (some ⟨b,0,none⟩)] w (PNew V8 5 w L):=by
 have c0:=h.c0
 obtain⟨A,c,rfl,hr,hA⟩:=Rs.of_own h.own
 have HA:=qQ hA
 have HR:=qQ hr
 clear h hA hr
 go_enter Tryz.func103,Tryz.ntmps103
 go_wp2_with (at_builtin;go_loud (refine appS el8 rfl (.const (.slice none 0 0)) (.tmp 8) rfl w.heap.size (.slice none 0 0) 0 [] rfl (World.ownsRow_nil _ _ _ _) w.heap.size A L.length c L rfl HA.out HR.out (λ_=>rfl) (by omega) (by omega) (Nat.le_refl _) ?grow))
 case grow=>
  intro v' w' hown hgr hat
  have g:=qH (S:=λ_=>False) hgr (λj e=>by cases e)
  have HO:=qQ (And.intro hown g)
  clear hown hgr hat g
  go_wp2_with fail
  go_ret
  exact⟨_,rfl,HO.out.1,HO.out.2⟩
structure Rd(w:World)(r:Nat)(a:Option Addr)(c:Nat)(L:List Int)(p:Int)(e:Int):Prop where
 blk:w.heap[r]? =some (.cells #[.slice a L.length c,.int .i64 p,.int .i64 e] 237 (0,0))
 rd:Rs V8 w r a L.length L
section
variable {w w':World}{r c:Nat}{a:Option Addr}{L:List Int}{p e:Int}
theorem Rd.c0(h:Rd w r a c L p e):w.cell? ⟨r,0,none⟩=some (.slice a L.length c):=by rw[qJ h.blk];rfl
theorem Rd.c1(h:Rd w r a c L p e):w.cell? ⟨r,1,none⟩=some (.int .i64 p):=by rw[qJ h.blk];rfl
theorem Rd.c2(h:Rd w r a c L p e):w.cell? ⟨r,2,none⟩=some (.int .i64 e):=by rw[qJ h.blk];rfl
theorem Rd.f(h:Rd w r a c L p e)(o:Nat):w.frozen? ⟨r,o,none⟩=false:=qK h.blk o
theorem Rd.kept(h:Rd w r a c L p e)(g:Chg (λ_=>False) w w'):Rd w' r a c L p e:=⟨Chg.keep g h.blk (λe=>e),h.rd.keep g (λ_ _ e=>e)⟩
theorem Rd.keep{S:Nat→Prop}(h:Rd w r a c L p e)(g:Chg S w w')(hS:∀j,j≤r→¬S j):Rd w' r a c L p e:=⟨Chg.keep g h.blk (hS r (Nat.le_refl _)),h.rd.keep g (λj hj=>hS j (by omega))⟩
theorem Rd.set1(h:Rd w r a c L p e)(q:Int):Rd (w.setCell ⟨r,1,none⟩ (.int .i64 q)) r a c L q e:=
 ⟨by have:=qB h.blk 1 (.int .i64 q);simpa using this,h.rd.keep (Chg.set (S:=(· =r)) w ⟨r,1,none⟩ _ rfl) (λj h1 h2=>by have:j=r:=h2;omega)⟩
end
def PRd(w:World)(r:Nat)(a:Option Addr)(c:Nat)(L:List Int)(p e:Int)(v:Value)(en:Ending)(w':World):Prop:=
 en= .returned v∧Rd w' r a c L p e∧Chg (· =r) w w'
theorem left_any(w:World)(r:Nat)(a:Option Addr)(c:Nat)(L:List Int)(p e:Int)(h:Rd w r a c L p e)(hL:L.length≤100000)(hp:0≤p∧p≤800000):
  Calls Tryz.prog 165 #[.pointer (some ⟨r,0,none⟩)] w λen w'=>en= .returned (.int .i64 (8*L.length-p))∧w'=w.drew:=by
 obtain⟨hp0,hp1⟩:=hp
 have c0:=h.c0
 have c1:=h.c1
 clear h
 have e1:IntKind.i64.wrap (8*(L.length:Int))=8*L.length:=IntWalk.i64_in _ (by omega)
 have e2:IntKind.i64.wrap (8*(L.length:Int)-p)=8*L.length-p:=IntWalk.i64_in _ (by omega)
 go_enter Tryz.func165,Tryz.ntmps165
 go_wp2_with fail
 with_reducible refine wp_region_still_lit (by kernel_rfl) (by kernel_rfl) ?_
 repeat (with_reducible refine wpStill_step (λK hK=>?_);go_simp;with_reducible refine hK _ ?_;clear hK K)
 with_reducible refine wpStill_nil ?_
 clear e1 e2
 change Exit.then _ _ _ _ w.drew
 go_wp2_with fail
 go_ret
 exact⟨rfl,rfl⟩
theorem rbytes_any(w:World)(r:Nat)(a:Option Addr)(c:Nat)(L:List Int)(p e:Int)(h:Rd w r a c L p e):
  Calls Tryz.prog 164 #[.pointer (some ⟨r,0,none⟩)] w λen w'=>en= .returned (.slice a L.length c)∧w'=w:=by
 have c0:=h.c0
 clear h
 go_enter Tryz.func164,Tryz.ntmps164
 go_wp2_with fail
 go_ret
 exact⟨rfl,rfl⟩
theorem fails_any(w:World)(r:Nat)(a:Option Addr)(c:Nat)(L:List Int)(p e:Int)(h:Rd w r a c L p e)(x:Int):
  Calls Tryz.prog 214 #[.pointer (some ⟨r,0,none⟩),.int .i64 x] w (PRd w r none 0 [] 0 x (.tuple #[])):=by
 have c0:=h.c0
 have c1:=h.c1
 have c2:=h.c2
 have f0:=h.f 0
 have f1:=h.f 1
 have f2:=h.f 2
 have hb:=h.blk
 have H:=qQ hb
 clear h hb
 go_enter Tryz.func214,Tryz.ntmps214
 go_wp2_with fail
 go_end0
 have h1:=qB H.out 2 (.int .i64 x)
 have h2:=qB h1 0 (.slice none 0 0)
 have h3:=qB h2 1 (.int .i64 0)
 refine⟨rfl,⟨?_,Rs.nil _ _ _ _⟩,((chg1 _ _ _ _).trans (chg1 _ _ _ _)).trans (chg1 _ _ _ _)⟩
 simpa using h3
theorem ready_ok(w:World)(r:Nat)(a:Option Addr)(c:Nat)(L:List Int)(p n:Int)(h:Rd w r a c L p 0)(hL:L.length≤100000)(hp:0≤p∧p≤800000)(hn:n≤8*L.length-p):
  Calls Tryz.prog 163 #[.pointer (some ⟨r,0,none⟩),.int .i64 n] w (PRd w r a c L p 0 (.bool true)):=by
 have c2:=h.c2
 have hl:=left_any w r a c L p 0 h hL hp
 have H:=qQ h
 obtain⟨q,hq⟩:∃q:Int,q=8*(L.length:Int)-p:=⟨_,rfl⟩
 rw[←hq] at hl hn
 clear h hq hL hp
 go_enter Tryz.func163,Tryz.ntmps163
 go_wp2_with fail
 refine hl.mono ?_
 rintro e w1 ⟨rfl,rfl⟩
 go_wp2_with fail
 go_ret
 exact⟨rfl,H.out.kept (Chg.drew _ _),Chg.drew _ _⟩
theorem ready_short(w:World)(r:Nat)(a:Option Addr)(c:Nat)(L:List Int)(p n:Int)(h:Rd w r a c L p 0)(hL:L.length≤100000)(hp:0≤p∧p≤800000)(hn:8*L.length-p<n):
  Calls Tryz.prog 163 #[.pointer (some ⟨r,0,none⟩),.int .i64 n] w (PRd w r none 0 [] 0 2 (.bool false)):=by
 have c2:=h.c2
 have hl:=left_any w r a c L p 0 h hL hp
 have H:=qQ h
 obtain⟨q,hq⟩:∃q:Int,q=8*(L.length:Int)-p:=⟨_,rfl⟩
 rw[←hq] at hl hn
 clear h hq hL hp
 go_enter Tryz.func163,Tryz.ntmps163
 go_wp2_with fail
 refine hl.mono ?_
 rintro e w1 ⟨rfl,rfl⟩
 go_wp2_with fail
 refine (fails_any _ _ _ _ _ _ _ (H.out.kept (Chg.drew _ _)) 2).mono ?_
 rintro e w1 ⟨rfl,R,G⟩
 have HR:=qQ (And.intro R G)
 clear R G hl
 go_wp2_with fail
 go_ret
 exact⟨rfl,HR.out.1,(Chg.drew _ _).trans HR.out.2⟩
theorem ready_bad(w:World)(r:Nat)(a:Option Addr)(c:Nat)(L:List Int)(p n e:Int)(h:Rd w r a c L p e)(he:(e==0)=false):
  Calls Tryz.prog 163 #[.pointer (some ⟨r,0,none⟩),.int .i64 n] w (PRd w r a c L p e (.bool false)):=by
 have c2:=h.c2
 have H:=qQ h
 have he2:(e != 0)=true:=by simpa using he
 clear h
 go_enter Tryz.func163,Tryz.ntmps163
 go_wp2_with fail
 go_ret
 exact⟨rfl,H.out,Chg.refl _ _⟩
theorem bit_any(w:World)(r:Nat)(a:Option Addr)(c:Nat)(L:List Int)(p:Nat)(h:Rd w r a c L p 0)(hb:∀x∈L,0≤x∧x<256)(hL:L.length≤100000)(hp:p<8*L.length):
  Calls Tryz.prog 213 #[.pointer (some ⟨r,0,none⟩)] w (PRd w r a c L ((p+1:Nat):Int) 0 (.int .u64 (bitAt L p))):=by
 have c0:=h.c0
 have c1:=h.c1
 obtain⟨x,z,rfl,hx,hz,hc⟩:=h.rd.at (i:=p / 8) (by omega)
 unfold V8 at hc
 obtain⟨z0,z1⟩:=hb z (List.mem_of_getElem? hz)
 have f1:=h.f 1
 have hba:bitAt L p=z / 2^(7-p % 8) % 2:=by unfold bitAt;rw[hz];rfl
 rw[hba]
 obtain⟨q,hq⟩:∃q:Nat,q=p / 8:=⟨_,rfl⟩
 obtain⟨j,hj⟩:∃j:Nat,j=p % 8:=⟨_,rfl⟩
 rw[←hq] at hc hz
 rw[←hj]
 obtain⟨P,hP⟩:∃P:Int,P=(p:Int):=⟨_,rfl⟩
 rw[←hP] at c1
 have H:=qQ h
 have e1:P.tdiv 8=(q:Int):=by rw[hP,Int.tdiv_eq_ediv_of_nonneg (by omega)];omega
 have e2:P.tmod 8=(j:Int):=by rw[hP,Int.tmod_eq_emod_of_nonneg (by omega)];omega
 have e3:IntKind.i64.wrap (7-(j:Int))=7-j:=IntWalk.i64_in _ (by omega)
 have e4:IntKind.i64.wrap (q:Int)=q:=IntWalk.i64_in _ (by omega)
 have e5:(j:Int)≤7:=by omega
 have e6:7-(j:Int)≤8:=by omega
 have i1:(q:Int)<(L.length:Int):=by omega
 have e7:(7-(j:Int)).toNat=7-j:=by omega
 obtain⟨y,hy⟩:=qZ (z / 2^(7-j))
 have hy0:0≤y∧y<256:=by
  rw[hy]
  have h2:(0:Int)<2^(7-j):=Int.pow_pos (by omega)
  exact⟨Int.ediv_nonneg z0 (Int.le_of_lt h2),Int.lt_of_le_of_lt (Int.ediv_le_self _ z0) z1⟩
 have e8:=and_bit y hy0.1 hy0.2
 rw[←hy]
 have e9:=hy.symm
 have HP:=qQ hP
 have HB:=qQ (show 0≤y % 2∧y % 2<2∧P≤800000∧0≤P from by omega)
 clear hba hq hj hP hx hz h hp hL hb hy hy0 z0 z1
 go_enter Tryz.func213,Tryz.ntmps213
 go_wp2_with fail
 with_reducible refine wp_region_still_lit (by kernel_rfl) (by kernel_rfl) ?_
 repeat (with_reducible refine wpStill_step (λK hK=>?_);go_simp;with_reducible refine hK _ ?_;clear hK K)
 with_reducible refine wpStill_nil ?_
 change Exit.then _ _ _ _ w.drew
 have H1:=qQ (H.out.kept (Chg.drew (λ_=>False) w))
 clear e1 e2 e3 e4 e5 e6 e7 e8 e9 i1 c0 hc H
 have g1:=Chg.drew (· =r) w
 generalize w.drew=w1 at *
 obtain⟨b0,b1,b2,b3⟩:=HB.out
 generalize y % 2=z at *
 have HG:=qQ g1
 clear g1 HB c1 f1
 have c1:=H1.out.c1
 rw[←HP.out] at c1
 have f1:=H1.out.f 1
 go_wp2_with fail
 go_ret
 refine⟨rfl,?_,HG.out.trans (chg1 _ _ _ _)⟩
 have:=H1.out.set1 (P+1)
 rw[HP.out] at this ⊢
 exact this
def take(L:List Int)(k m:Nat):Int:=bv L (8*k) (8*m)
theorem take_ok(w:World)(r:Nat)(a:Option Addr)(c:Nat)(L:List Int)(k m:Nat)(h:Rd w r a c L (8*k:Nat) 0)(hb:∀x∈L,0≤x∧x<256)(hL:L.length≤100000)(hm:m≤8)(hk:k+m≤L.length):
  Calls Tryz.prog 162 #[.pointer (some ⟨r,0,none⟩),.int .i64 (8*m:Nat)] w (PRd w r a c L (8*(k+m):Nat) 0 (.int .u64 (take L k m))):=by
 have h88:((8*m:Nat):Int)≤64:=by omega
 have hg:=good_any (8*m) (by omega)
 have hr:=ready_ok w r a c L (8*k:Nat) (8*m:Nat) h hL (by omega) (by omega)
 obtain⟨N,hN⟩:∃N:Nat,N=8*m:=⟨_,rfl⟩
 obtain⟨P,hP⟩:∃P:Nat,P=8*k:=⟨_,rfl⟩
 rw[←hN] at hg hr ⊢
 rw[←hP] at hr
 have hN64:(N:Int)≤64:=by omega
 have hpn:P+N≤8*L.length:=by omega
 have hfin:take L k m=bv L P N:=by rw[hP,hN];rfl
 rw[hfin,show 8*(k+m)=P+N from by omega]
 have HB:=qQ hb
 clear h hb hfin hP hk hm h88 hN
 go_enter Tryz.func162,Tryz.ntmps162
 go_wp2_with fail
 refine (hg _).mono ?_
 rintro e w1 ⟨rfl,rfl⟩
 go_wp2_with fail
 refine hr.mono ?_
 rintro e w2 ⟨rfl,R2,G2⟩
 have H2:=qQ (And.intro R2 G2)
 clear R2 G2 hg hr
 go_wp2_with fail
 go_loopw [5,16] (λu5 i wr=>∃(j:Nat),j≤N∧u5= .int .u64 (bv L P j)∧i= .int .i64 j∧Rd wr r a c L (P+j:Nat) 0∧Chg (· =r) w1 wr) (λ_ i _=>N-(intOf i).toNat)
 case atStart=>exact⟨0,by omega,rfl,rfl,H2.out.1,H2.out.2⟩
 case round=>
  obtain⟨j,hj,rfl,rfl,hR,hG⟩:=hrel
  have HR:=qQ (And.intro hR hG)
  have hbv:=bv_bd L P j
  have hbt:=bitAt_bd L (P+j)
  clear hR hG
  by_cases hlt:j<N
  ·have hsm:bv L P j<9223372036854775808:=by
    have h2:=Nat.pow_le_pow_right (n:=2) (by omega) (show j≤63 by omega)
    have h3:((2^j:Nat):Int)=(2:Int)^j:=by push_cast;rfl
    have h4:(2:Nat)^63=9223372036854775808:=by decide
    omega
   obtain⟨x,hx⟩:=qZ (bv L P j)
   obtain⟨y,hy⟩:=qZ (bitAt L (P+j))
   have hbit:=bit_any wr r a c L (P+j) HR.out.1 HB.out hL (by omega)
   rw[←hx] at hbv hsm ⊢
   rw[←hy] at hbt hbit
   have hnx:bv L P (j+1)=x*2+y:=by simp only[bv];rw[hx,hy]
   obtain⟨x0,_⟩:=hbv
   obtain⟨y0,y1⟩:=hbt
   have hor:=or_bit x y x0 hsm ⟨y0,y1⟩
   have HNX:=qQ hnx
   have HBT:=qQ hbit
   clear hbit hnx hx hy
   have hwr:IntKind.u64.wrap (x*2)=x*2:=by
    simp only[IntKind.wrap,IntKind.bits,IntKind.signed];simp;omega
   have HOR:=qQ hor
   have HWR:=qQ hwr
   clear hor hwr
   have hwr2:=HWR.out
   go_wp2_with fail
   clear hwr2
   refine HBT.out.mono ?_
   rintro e w3 ⟨rfl,R3,G3⟩
   rw[show P+j+1=P+(j+1) from by omega] at R3
   have H3:=qQ (And.intro R3 (HR.out.2.trans G3))
   have hor:=HOR.out
   clear R3 G3 HBT
   go_wp2_with fail
   go_roundw
   case measure=>simp[intOf];omega
   case rel=>exact⟨j+1,by omega,by rw[HNX.out],by go_num,H3.out.1,H3.out.2⟩
  ·obtain rfl:j=N:=by omega
   go_wp2_with fail
   go_ret
   exact⟨rfl,HR.out.1,HR.out.2⟩
theorem take_short(w:World)(r:Nat)(a:Option Addr)(c:Nat)(L:List Int)(k m:Nat)(h:Rd w r a c L (8*k:Nat) 0)(hL:L.length≤100000)(hm:m≤8)(hk0:k≤L.length)(hk:L.length<k+m):
  Calls Tryz.prog 162 #[.pointer (some ⟨r,0,none⟩),.int .i64 (8*m:Nat)] w (PRd w r none 0 [] 0 2 (.int .u64 0)):=by
 have hg:=good_any (8*m) (by omega)
 have hr:=ready_short w r a c L (8*k:Nat) (8*m:Nat) h hL (by omega) (by omega)
 obtain⟨N,hN⟩:∃N:Nat,N=8*m:=⟨_,rfl⟩
 rw[←hN] at hg hr ⊢
 clear h hk hm hN hk0 hL
 go_enter Tryz.func162,Tryz.ntmps162
 go_wp2_with fail
 refine (hg _).mono ?_
 rintro e w1 ⟨rfl,rfl⟩
 go_wp2_with fail
 refine hr.mono ?_
 rintro e w2 ⟨rfl,R2,G2⟩
 have H2:=qQ (And.intro R2 G2)
 clear R2 G2 hg hr
 go_wp2_with fail
 go_ret
 exact⟨rfl,H2.out.1,H2.out.2⟩
theorem take_bad(w:World)(r:Nat)(a:Option Addr)(c:Nat)(L:List Int)(p e:Int)(m:Nat)(h:Rd w r a c L p e)(he:(e==0)=false)(hm:m≤8):
  Calls Tryz.prog 162 #[.pointer (some ⟨r,0,none⟩),.int .i64 (8*m:Nat)] w (PRd w r a c L p e (.int .u64 0)):=by
 have hg:=good_any (8*m) (by omega)
 have hr:=ready_bad w r a c L p (8*m:Nat) e h he
 obtain⟨N,hN⟩:∃N:Nat,N=8*m:=⟨_,rfl⟩
 rw[←hN] at hg hr ⊢
 clear h hm hN
 go_enter Tryz.func162,Tryz.ntmps162
 go_wp2_with fail
 refine (hg _).mono ?_
 rintro e w1 ⟨rfl,rfl⟩
 go_wp2_with fail
 refine hr.mono ?_
 rintro e w2 ⟨rfl,R2,G2⟩
 have H2:=qQ (And.intro R2 G2)
 clear R2 G2 hg hr
 go_wp2_with fail
 go_ret
 exact⟨rfl,H2.out.1,H2.out.2⟩
theorem end_ok(w:World)(r:Nat)(a:Option Addr)(c:Nat)(L:List Int)(h:Rd w r a c L (8*L.length:Nat) 0)(hL:L.length≤100000):
  Calls Tryz.prog 114 #[.pointer (some ⟨r,0,none⟩)] w λen w'=>en= .returned (.int .i64 0)∧w'=w.drew:=by
 have c2:=h.c2
 have hl:=left_any w r a c L _ 0 h hL (by omega)
 rw[show 8*(L.length:Int)-((8*L.length:Nat):Int)=0 from by omega] at hl
 clear h hL
 go_enter Tryz.func114,Tryz.ntmps114
 go_wp2_with fail
 refine hl.mono ?_
 rintro e w2 ⟨rfl,rfl⟩
 go_wp2_with fail
 go_ret
 exact⟨rfl,rfl⟩
theorem end_more(w:World)(r:Nat)(a:Option Addr)(c:Nat)(L:List Int)(k:Nat)(h:Rd w r a c L (8*k:Nat) 0)(hL:L.length≤100000)(hk:k<L.length):
  Calls Tryz.prog 114 #[.pointer (some ⟨r,0,none⟩)] w λen w'=>en= .returned (.int .i64 3)∧w'=w.drew:=by
 have c2:=h.c2
 have hl:=left_any w r a c L _ 0 h hL (by omega)
 obtain⟨q,hq⟩:∃q:Int,q=8*(L.length:Int)-((8*k:Nat):Int):=⟨_,rfl⟩
 rw[←hq] at hl
 have hq0:0<q:=by omega
 clear h hL hk hq
 go_enter Tryz.func114,Tryz.ntmps114
 go_wp2_with fail
 refine hl.mono ?_
 rintro e w2 ⟨rfl,rfl⟩
 go_wp2_with fail
 go_ret
 exact⟨rfl,rfl⟩
theorem end_bad(w:World)(r:Nat)(a:Option Addr)(c:Nat)(L:List Int)(p e:Int)(h:Rd w r a c L p e)(he:(e==0)=false):
  Calls Tryz.prog 114 #[.pointer (some ⟨r,0,none⟩)] w λen w'=>en= .returned (.int .i64 e)∧w'=w:=by
 have c2:=h.c2
 clear h
 go_enter Tryz.func114,Tryz.ntmps114
 go_wp2_with fail
 go_ret
 exact⟨rfl,rfl⟩
theorem bv_byte(L:List Int)(k m:Nat)(x:Int)(hx:L[k+m]? =some x) (h0:0≤x) (h1:x<256):take L k (m+1)=take L k m*256+x:=by
 unfold take
 have e:∀i,i<8→bitAt L (8*k+(8*m+i))=x / 2^(7-i) % 2:=λi hi=>by
  unfold bitAt
  rw[show (8*k+(8*m+i)) / 8=k+m from by omega,show (8*k+(8*m+i)) % 8=i from by omega,hx];rfl
 rw[show 8*(m+1)=8*m+7+1 from by omega]
 simp only[bv,Nat.add_assoc]
 rw[e 7 (by omega)]
 have e0:=e 0 (by omega);have e1:=e 1 (by omega);have e2:=e 2 (by omega);have e3:=e 3 (by omega)
 have e4:=e 4 (by omega);have e5:=e 5 (by omega);have e6:=e 6 (by omega)
 rw[e1,e2,e3,e4,e5,e6]
 rw[show (8*k+8*m)=8*k+(8*m+0) from by omega,e0]
 simp only[Nat.sub_zero,Nat.reduceSub,Nat.sub_self,Int.reducePow,Int.pow_zero,Int.ediv_one,Int.pow_one]
 generalize bv L (8*k) (8*m)=y
 omega
theorem take_zero(L:List Int)(k:Nat):take L k 0=0:=rfl
theorem take_one(L:List Int)(k:Nat)(x:Int)(hx:L[k]? =some x) (h0:0≤x) (h1:x<256):take L k 1=x:=by
 rw[bv_byte L k 0 x hx h0 h1,take_zero];omega
def PNewRd(w:World)(L:List Int)(en:Ending)(w':World):Prop:=
 ∃r a c,en= .returned (.pointer (some ⟨r,0,none⟩))∧Rd w' r a c L 0 0∧w.heap.size≤r∧Chg (λ_=>False) w w'
theorem newrd_any(w:World)(A:Option Addr)(len c:Nat)(L:List Int)(h:Rs V8 w w.heap.size A len L)(hA:A=none→c=0)(hL:len≤100000):
  Calls Tryz.prog 111 #[.slice A len c] w (PNewRd w L):=by
 have HA:=qQ hA
 have HR:=qQ h
 clear h hA
 go_enter Tryz.func111,Tryz.ntmps111
 go_wp2_with (at_builtin;go_loud (refine appS el8 rfl (.const (.slice none 0 0)) (.tmp 3) rfl w.heap.size (.slice none 0 0) 0 [] rfl (World.ownsRow_nil _ _ _ _) w.heap.size A len c L rfl HA.out HR.out (λ_=>rfl) (by omega) (by omega) (Nat.le_refl _) ?grow))
 case grow=>
  intro v' w' hown hgr hat
  have g:=qH (S:=λ_=>False) hgr (λj e=>by cases e)
  obtain⟨a2,c2,rfl,hr2,_⟩:=Rs.of_own (V:=V8) (zs:=L) (by simpa using hown)
  have HO:=qQ (And.intro hr2 g)
  have hlen:=HR.out.1
  clear hown hgr hat g hr2
  go_wp2_with fail
  go_ret
  have ga:=Chg.alloc (λ_=>False) w' (.cells #[.slice a2 len c2,.int .i64 0,.int .i64 0] 237)
  refine⟨w'.heap.size,a2,c2,rfl,⟨by rw[hlen];exact qV _ _,?_⟩,HO.out.2.size,HO.out.2.trans ga⟩
  rw[hlen]
  exact HO.out.1.keep ga (λ_ _ e=>e)
def PText(w:World)(r:Nat)(a:Option Addr)(c:Nat)(L:List Int)(p e:Int)(zs:List Int)(en:Ending)(w':World):Prop:=
 ∃v,en= .returned v∧w'.ownsRow w.heap.size 5 1 v zs.length (zs.map V8)∧Rd w' r a c L p e∧Chg (· =r) w w'
theorem rtext_zero(w:World)(r:Nat)(a:Option Addr)(c:Nat)(L:List Int)(p e:Int)(n:Int)(h:Rd w r a c L p e)(hn:n≤0):
  Calls Tryz.prog 113 #[.pointer (some ⟨r,0,none⟩),.int .i64 n] w (PText w r a c L p e []):=by
 have H:=qQ h
 clear h
 go_enter Tryz.func113,Tryz.ntmps113
 go_wp2_with fail
 go_ret
 exact⟨_,rfl,World.ownsRow_nil _ _ _ _,H.out,Chg.refl _ _⟩
theorem rtext_bad(w:World)(r:Nat)(a:Option Addr)(c:Nat)(L:List Int)(p e:Int)(n:Int)(h:Rd w r a c L p e)(he:(e==0)=false)(hn:0<n)(hn2:n≤100000)(hL:L.length≤100000):
  Calls Tryz.prog 113 #[.pointer (some ⟨r,0,none⟩),.int .i64 n] w (PText w r a c L p e []):=by
 have hb:=rbytes_any w r a c L p e h
 have hr:=λm=>ready_bad w r a c L p m e h he
 have hl2:(L.length:Int)≤100000:=by omega
 clear h hL
 rcases (by omega:(L.length:Int)+1<n∨n≤(L.length:Int)+1) with hc|hc
 all_goals
  go_enter Tryz.func113,Tryz.ntmps113
  go_wp2_with fail
  refine hb.mono ?_
  rintro e w1 ⟨rfl,rfl⟩
  go_wp2_with fail
  refine (hr _).mono ?_
  rintro e w2 ⟨rfl,R2,G2⟩
  have H2:=qQ (And.intro R2 G2)
  clear R2 G2 hr hb
  go_wp2_with fail
  go_ret
  exact⟨_,rfl,World.ownsRow_nil _ _ _ _,H2.out.1,H2.out.2⟩
theorem rtext_short(w:World)(r:Nat)(a:Option Addr)(c:Nat)(L:List Int)(k:Nat)(n:Int)(h:Rd w r a c L (8*k:Nat) 0)(hn:0<n)(hn2:n≤100000)(hL:L.length≤100000)(hk0:k≤L.length)(hk:L.length<k+n):
  Calls Tryz.prog 113 #[.pointer (some ⟨r,0,none⟩),.int .i64 n] w (PText w r none 0 [] 0 2 []):=by
 have hb:=rbytes_any w r a c L _ _ h
 have hr:=λ(m:Int) (hm:8*(L.length:Int)-((8*k:Nat):Int)<m)=>ready_short w r a c L (8*k:Nat) m h hL (by omega) hm
 have hl2:(L.length:Int)≤100000:=by omega
 rcases (by omega:(L.length:Int)+1<n∨n≤(L.length:Int)+1) with hc|hc
 ·have hr2:=hr (((L.length:Int)+1)*8) (by omega)
  clear h hL hr hk hk0
  go_enter Tryz.func113,Tryz.ntmps113
  go_wp2_with fail
  refine hb.mono ?_
  rintro e w1 ⟨rfl,rfl⟩
  go_wp2_with fail
  refine hr2.mono ?_
  rintro e w2 ⟨rfl,R2,G2⟩
  have H2:=qQ (And.intro R2 G2)
  clear R2 G2 hr2 hb
  go_wp2_with fail
  go_ret
  exact⟨_,rfl,World.ownsRow_nil _ _ _ _,H2.out.1,H2.out.2⟩
 ·have hr2:=hr (n*8) (by omega)
  clear h hL hr hk hk0
  go_enter Tryz.func113,Tryz.ntmps113
  go_wp2_with fail
  refine hb.mono ?_
  rintro e w1 ⟨rfl,rfl⟩
  go_wp2_with fail
  refine hr2.mono ?_
  rintro e w2 ⟨rfl,R2,G2⟩
  have H2:=qQ (And.intro R2 G2)
  clear R2 G2 hr2 hb
  go_wp2_with fail
  go_ret
  exact⟨_,rfl,World.ownsRow_nil _ _ _ _,H2.out.1,H2.out.2⟩
structure TAt(w0:World)(r:Nat)(a:Option Addr)(c:Nat)(L:List Int)(k j:Nat)(v:Value)(w:World):Prop where
 rd:Rd w r a c L (8*(k+j):Nat) 0
 own:w.ownsRow w0.heap.size 5 1 v j (((L.drop k).take j).map V8)
 chg:Chg (λi=>i=r∨w0.heap.size≤i) w0 w
theorem rtext_ok(w:World)(r:Nat)(a:Option Addr)(c:Nat)(L:List Int)(k n:Nat)(h:Rd w r a c L (8*k:Nat) 0)(hb:∀x∈L,0≤x∧x<256)(hn:0<n)(hL:L.length≤100000)(hk:k+n≤L.length):
  Calls Tryz.prog 113 #[.pointer (some ⟨r,0,none⟩),.int .i64 n] w (PText w r a c L (8*(k+n):Nat) 0 ((L.drop k).take n)):=by
 have hby:=rbytes_any w r a c L _ _ h
 have hr:=ready_ok w r a c L (8*k:Nat) ((n:Int)*8) h hL (by omega) (by omega)
 have hc:(n:Int)<(L.length:Int)+1:=by omega
 have hn1:0<(n:Int):=by omega
 have hl2:(L.length:Int)≤100000:=by omega
 have hrw:=qX h.blk
 have HB:=qQ hb
 have HRW:=qQ hrw
 have HK:=qQ (And.intro hL hk)
 have hn2:(n:Int)≤100000:=by omega
 clear h hL hk hn hb hrw
 go_enter Tryz.func113,Tryz.ntmps113
 go_wp2_with fail
 refine hby.mono ?_
 rintro e w1 ⟨rfl,rfl⟩
 go_wp2_with fail
 refine hr.mono ?_
 rintro e w2 ⟨rfl,R2,G2⟩
 have T2:TAt w1 r a c L k 0 (.slice none 0 0) w2:=⟨by simpa using R2,World.ownsRow_nil _ _ _ _,G2.mono (λj _ h=> .inl h)⟩
 have HT:=qQ T2
 clear R2 G2 T2 hr hby
 go_wp2_with fail
 go_loopw [5,21] (λu5 i wr=>∃(j:Nat),j≤n∧i= .int .i64 j∧TAt w1 r a c L k j u5 wr) (λ_ i _=>n-(intOf i).toNat)
 case atStart=>exact⟨0,by omega,rfl,HT.out⟩
 case round=>
  obtain⟨j,hj,rfl,hT⟩:=hrel
  have HT2:=qQ hT
  clear hT HT
  by_cases hlt:j<n
  ·have htk:=take_ok wr r a c L (k+j) 1 HT2.out.rd HB.out HK.out.1 (by omega) (by have:=HK.out.2;omega)
   rw[show ((8*1:Nat):Int)=8 from rfl] at htk
   obtain⟨x,hx⟩:∃x,L[k+j]? =some x:=⟨_,List.getElem?_eq_getElem (by have:=HK.out.2;omega)⟩
   obtain⟨x0,x1⟩:=HB.out x (List.mem_of_getElem? hx)
   rw[take_one L (k+j) x hx x0 x1] at htk
   have hnx:(L.drop k).take (j+1)=(L.drop k).take j++[x]:=by
    rw[List.take_add_one,List.getElem?_drop,hx];rfl
   have HN:=qQ hnx
   have HTK:=qQ htk
   have hw8:IntKind.u8.wrap x=x:=u8_in x x0 x1
   have HW8:=qQ hw8
   clear hnx htk hx hw8
   go_wp2_with fail
   refine HTK.out.mono ?_
   rintro e w3 ⟨rfl,R3,G3⟩
   have HR3:=qQ (And.intro R3 G3)
   have hsz:=G3.size
   have hO3:w3.ownsRow w1.heap.size 5 1 u5 j (((L.drop k).take j).map V8):=qY HT2.out.own G3 (λi hi e=>by
    have:=(qS HT2.out.own hi).1
    have:=HRW.out
    have:i=r:=e
    omega)
   have HO3:=qQ hO3
   have HSZ:=qQ (show w1.heap.size≤w3.heap.size from Nat.le_trans HT2.out.chg.size hsz)
   have hw8:=HW8.out
   clear R3 G3 HTK hO3 hsz
   go_wp2_with (at_builtin;go_loud (refine app1 (V:=V8) el8 rfl (.tmp 23) (.tmp 27) rfl w1.heap.size u5 j (((L.drop k).take j).map V8) rfl (HO3.out.alloc _) w3.heap.size x rfl ?c1 rfl (by omega) (by omega) ?hb ?grow))
   case c1=>simp[V8]
   case hb=>have:=HSZ.out;simp;omega
   case grow=>
    intro v4 w4 hown hgr hat
    have ga:=Chg.alloc (λ_=>False) w3 (.cells #[.int .u8 x] 5)
    have gg:=qH (S:=λi=>w1.heap.size≤i) hgr (λi hi=>(qS HO3.out hi).1)
    have T4:TAt w1 r a c L k (j+1) v4 w4:=by
     refine⟨?_,?_,?_⟩
     ·have:=(HR3.out.1.kept ga).keep gg (λi hi h2=>by have:=HRW.out;omega)
      rw[show k+(j+1)=k+j+1 from by omega];exact this
     ·rw[HN.out,List.map_append,List.map_take,List.map_drop];exact hown
     ·exact ((HT2.out.chg.trans (HR3.out.2.mono (λi _ h=> .inl h))).trans ga.none).trans (gg.mono (λi _ h=> .inr h))
    have HT4:=qQ T4
    clear hown hgr hat ga gg T4 hw8
    go_wp2_with fail
    go_roundw
    case measure=>simp[intOf];omega
    case rel=>exact⟨j+1,by omega,by go_num,HT4.out⟩
  ·obtain rfl:j=n:=by omega
   go_wp2_with fail
   go_ret
   have hl:((L.drop k).take j).length=j:=by have:=HK.out.2;simp;omega
   exact⟨_,rfl,by rw[hl];exact HT2.out.own,HT2.out.rd,HT2.out.chg.old⟩
def sumBit(s:Int):Int:=bits BinOp.xor IntKind.u16 (s / 2) (bits BinOp.and IntKind.u16 33800 (IntKind.u16.wrap (-(bits BinOp.and IntKind.u16 s 1))))
def vC:Nat→Int→Int
 |0,s=>s
 |n+1,s=>sumBit (vC n s)
def sumByte(s c:Int):Int:=vC 8 (bits BinOp.xor IntKind.u16 s c)
def jt(l:List Int):Int:=l.foldl sumByte 0
theorem sum_any(w:World)(A:Option Addr)(len c:Nat)(L:List Int)(h:Rs V8 w w.heap.size A len L)(hb:∀x∈L,0≤x∧x<256)(hL:len≤100000):
  Calls Tryz.prog 155 #[.slice A len c] w λe w'=>e= .returned (.int .u16 (jt L))∧w'=w:=by
 have HB:=qQ hb
 have HR:=qQ h
 have hl:(len:Int)≤100000:=by omega
 clear h hb
 go_enter Tryz.func155,Tryz.ntmps155
 go_wp2_with fail
 go_loop [3,8] (λu3 i=>∃(k:Nat),k≤len∧i= .int .i64 k∧u3= .int .u16 (jt (L.take k))) (λ_ i=>len-(intOf i).toNat)
 case atStart=>exact⟨0,by omega,rfl,rfl⟩
 case round=>
  obtain⟨k,hk,rfl,rfl⟩:=hrel
  by_cases hlt:k<len
  ·obtain⟨x,z,rfl,_,hz,hc⟩:=HR.out.at hlt
   obtain⟨z0,z1⟩:=HB.out z (List.mem_of_getElem? hz)
   unfold V8 at hc
   have hnx:jt (L.take (k+1))=sumByte (jt (L.take k)) z:=by
    unfold jt;rw[List.take_add_one,hz,List.foldl_append];rfl
   obtain⟨s,hs⟩:=qZ (jt (L.take k))
   rw[←hs] at hnx ⊢
   have HN:=qQ hnx
   clear hnx hs hz
   go_wp2_with fail
   obtain⟨y,hy⟩:=qZ (bits BinOp.xor IntKind.u16 s z)
   rw[←hy]
   have HY:=qQ hy
   clear hy
   go_loop [3,16] (λu3 i=>∃(j:Nat),j≤8∧i= .int .i64 j∧u3= .int .u16 (vC j y)) (λ_ i=>8-(intOf i).toNat)
   case atStart=>exact⟨0,by omega,rfl,rfl⟩
   case round=>
    obtain⟨j,hj,rfl,rfl⟩:=hrel
    by_cases h8:j<8
    ·have hnj:vC (j+1) y=sumBit (vC j y):=rfl
     obtain⟨q,hq⟩:=qZ (vC j y)
     rw[←hq] at hnj ⊢
     have HNJ:=qQ hnj
     clear hnj hq
     go_wp2_with fail
     go_round
     case measure=>simp[intOf];omega
     case rel=>exact⟨j+1,by omega,by go_num,by rw[HNJ.out];rfl⟩
    ·obtain rfl:j=8:=by omega
     go_wp2_with fail
     go_round
     case measure=>simp[intOf];omega
     case rel=>exact⟨k+1,by omega,by go_num,by rw[HN.out,HY.out];rfl⟩
  ·obtain rfl:k=len:=by omega
   go_wp2_with fail
   go_ret
   refine⟨?_,rfl⟩
   rw[List.take_of_length_le (by have:=HR.out.1;omega)]
   rfl
theorem nil_eq{P:Program}{t e:TypeId}(h:P.underlying t=some (.slice e))(w:World)(n c:Nat):(binOp .eql t (.slice none n c) (.slice none 0 0)).run P w= .ok (.bool true) w:=
 Lib.run_eql_slice_nil w t e none n c 0 0 h
theorem some_eq{P:Program}{t e:TypeId}(h:P.underlying t=some (.slice e))(w:World)(x:Addr)(n c:Nat):(binOp .eql t (.slice (some x) n c) (.slice none 0 0)).run P w= .ok (.bool false) w:=
 Lib.run_eql_slice_nil w t e (some x) n c 0 0 h
theorem vX(w:World)(A:Option Addr)(len c:Nat)(L:List Int)(h:Rs V8 w w.heap.size A len L)(hA:A=none→c=0)(hL:len≤100000):
  Calls Tryz.prog 41 #[.slice A len c] w (PNew V8 5 w L):=by
 have HR:=qQ h
 have HA:=qQ hA
 have hl:=h.1
 cases A with
 |none=>
  have hm:L=[]:=by
   rcases Nat.eq_zero_or_pos len with h0|h0
   ·exact List.eq_nil_of_length_eq_zero (by omega)
   ·obtain⟨x,z,e,_⟩:=h.at h0;cases e
  subst hm
  have hn:=nil_eq (P:=Tryz.prog) Tryz.underlying33
  clear h hA hl
  go_enter Tryz.func41,Tryz.ntmps41
  go_wp2_with fail
  go_ret
  exact⟨_,rfl,World.ownsRow_nil _ _ _ _,Chg.refl _ _⟩
 |some x=>
  have hn:=some_eq (P:=Tryz.prog) Tryz.underlying33
  clear h hA
  go_enter Tryz.func41,Tryz.ntmps41
  go_wp2_with (at_builtin;go_loud (refine appS el8 rfl (.tmp 5) (.tmp 6) rfl w.heap.size (.slice (some ⟨w.heap.size,0,none⟩) 0 0) 0 [] rfl (World.ownsRow_made _ #[] 0 (Nat.le_refl _) (by decide) rfl) w.heap.size (some x) len c L rfl HA.out (HR.out.keep (Chg.alloc (λ_=>False) w _) (λ_ _ e=>e)) (λ_=>rfl) (by omega) (by omega) (by simp) ?grow))
  case grow=>
   intro v' w' hown hgr hat
   have ga:=Chg.alloc (λ_=>False) w (.cells #[] 5)
   have g:=qH (S:=λi=>w.heap.size≤i) hgr (λj e=>by cases e;exact Nat.le_refl _)
   have HO:=qQ (And.intro hown (ga.none.trans g).fresh)
   clear hown hgr hat g ga
   go_wp2_with fail
   go_ret
   refine⟨_,rfl,?_,HO.out.2⟩
   have:=HO.out.1
   rw[hl]
   simpa using this
theorem u16_wrap(x:Int):IntKind.u16.wrap x=x % 65536:=by simp only[IntKind.wrap,IntKind.bits,IntKind.signed];simp
theorem bits16(op:BinOp)(x y:Int):0≤bits op .u16 x y∧bits op .u16 x y<65536:=by
 unfold bits;simp only[];rw[u16_wrap];omega
theorem sumBits_bd(n:Nat)(s:Int):0≤vC (n+1) s∧vC (n+1) s<65536:=by
 simp only[vC,sumBit];exact bits16 _ _ _
theorem crcSum_bd(L:List Int):0≤jt L∧jt L<65536:=by
 unfold jt
 rcases List.eq_nil_or_concat L with rfl|⟨M,x,rfl⟩
 ·decide
 ·rw[List.concat_eq_append,List.foldl_append];exact sumBits_bd 7 _
def jJ(L:List Int):List Int:=[jt L % 256,jt L / 256]
theorem crcAppend_any(w:World)(A:Option Addr)(len c:Nat)(L:List Int)(h:Rs V8 w w.heap.size A len L)(hA:A=none→c=0)(hb:∀x∈L,0≤x∧x<256)(hL:len≤100000):
  Calls Tryz.prog 102 #[.slice A len c] w (PNew V8 5 w (L++jJ L)):=by
 have hs:=sum_any w A len c L h hb hL
 have hc:=vX w A len c L h hA hL
 have hl:=h.1
 obtain⟨s0,s1⟩:=crcSum_bd L
 have htl:jJ L=[jt L % 256,jt L / 256]:=rfl
 rw[htl]
 clear htl h hA hb
 generalize jt L=s at *
 have e1:IntKind.u8.wrap s=s % 256:=u8_wrap s
 have e2:IntKind.u8.wrap (s / 256)=s / 256:=u8_in _ (by omega) (by omega)
 have HE:=qQ (And.intro e1 e2)
 clear e1 e2
 go_enter Tryz.func102,Tryz.ntmps102
 go_wp2_with fail
 refine hs.mono ?_
 rintro e w1 ⟨rfl,rfl⟩
 go_wp2_with fail
 refine hc.mono ?_
 rintro e w2 ⟨v,rfl,hown,G⟩
 have HO:=qQ hown
 have HG:=qQ G
 obtain⟨e1,e2⟩:=HE.out
 clear hown G hs hc
 go_wp2_with (at_builtin;go_loud (refine appS (V:=V8) el8 rfl (.tmp 7) (.tmp 13) rfl w1.heap.size v L.length (L.map V8) rfl (HO.out.alloc _) (w2.heap.size+1) (some ⟨w2.heap.size,0,none⟩) 2 2 [s % 256,s / 256] rfl (λe=>by cases e) ?c1 (λ_=>rfl) (by omega) (by omega) ?c2 ?grow))
 case c1=>
  refine⟨rfl,λi hi=>⟨_,rfl,Nat.lt_succ_self _,?_⟩⟩
  match i,hi with
  |0,_=>simp[Addr.add,V8]
  |1,_=>simp[Addr.add,V8]
  |i+2,hi=>exact absurd hi (by simp)
 case c2=>have:=HG.out.size;simp;omega
 case grow=>
  intro v' w' hown hgr hat
  have ga:=Chg.alloc (λi=>w1.heap.size≤i) w2 (.cells #[.int .u8 (s % 256),.int .u8 (s / 256)] 5)
  have g:=qH (S:=λi=>w1.heap.size≤i) hgr (λj e=>(qS HO.out e).1)
  have HX:=qQ (And.intro hown ((HG.out.none.trans (ga.trans g)).fresh))
  clear hown hgr hat g ga
  go_wp2_with fail
  go_ret
  refine⟨_,rfl,?_,HX.out.2⟩
  have:=HX.out.1
  simpa [hl] using this
theorem list_ne{α:Type}{l m:List α}(i:Nat)(h:l[i]?≠m[i]?):l≠m:=λe=>h (by rw[e])
theorem equal8_any(w:World)(A B:Option Addr)(m n c d:Nat)(L M:List Int)(h:Rs V8 w w.heap.size A m L)(k:Rs V8 w w.heap.size B n M)(hm:m≤200000)(hn:n≤200000):
  Calls Tryz.prog 161 #[.slice A m c,.slice B n d] w λe w'=>e= .returned (.bool (decide (L=M)))∧Chg (λ_=>False) w w':=by
 have HR:=qQ h
 have HK:=qQ k
 have hlL:=h.1
 have hlM:=k.1
 have hm1:(m:Int)≤200000:=by omega
 have hn1:(n:Int)≤200000:=by omega
 clear h k
 by_cases hmn:m=n
 ·subst hmn
  have HL:=qQ hlL
  have HM:=qQ hlM
  clear hlL hlM
  go_enter Tryz.func161,Tryz.ntmps161
  go_wp2_with fail
  go_loopw [13] (λi wr=>∃(k:Nat),k≤m∧i= .int .i64 k∧(∀j,j<k→L[j]? =M[j]?)∧Chg (λ_=>False) w wr) (λi _=>m-(intOf i).toNat)
  case atStart=>exact⟨0,by omega,rfl,λj hj=>absurd hj (by omega),Chg.refl _ _⟩
  case round=>
   obtain⟨k,hk,rfl,he,hG⟩:=hrel
   have HE:=qQ he
   have HG:=qQ hG
   clear he hG
   by_cases hlt:k<m
   ·obtain⟨x,z,rfl,_,hz,hc⟩:=((HR.out.keep HG.out (λ_ _ e=>e)).keep (Chg.drew (λ_=>False) wr) (λ_ _ e=>e)).at hlt
    obtain⟨y,u,rfl,_,hu,hd⟩:=((HK.out.keep HG.out (λ_ _ e=>e)).keep (Chg.drew (λ_=>False) wr) (λ_ _ e=>e)).at hlt
    unfold V8 at hc hd
    have i1:(k:Int)<(m:Int):=by omega
    have HZ:=qQ (And.intro hz hu)
    clear hz hu
    by_cases hzu:z=u
    ·have hb:(z != u)=false:=by simpa using hzu
     have he1:∀j,j<k+1→L[j]? =M[j]? :=λj hj=>by
      by_cases e:j=k
      ·subst e;rw[HZ.out.1,HZ.out.2,hzu]
      ·exact HE.out j (by omega)
     have HE1:=qQ (And.intro he1 (HG.out.trans (Chg.drew (λ_=>False) wr)))
     clear hzu he1 HE HG
     go_wp2_with fail
     with_reducible refine wp_region_still_lit (by kernel_rfl) (by kernel_rfl) ?_
     repeat (with_reducible refine wpStill_step (λK hK=>?_);go_simp;with_reducible refine hK _ ?_;clear hK K)
     with_reducible refine wpStill_nil ?_
     change Exit.then _ _ _ _ wr.drew
     clear hc hd
     generalize wr.drew=w3 at *
     go_wp2_with fail
     go_roundw
     case measure=>simp[intOf];omega
     case rel=>exact⟨k+1,by omega,by go_num,HE1.out.1,HE1.out.2⟩
    ·have hb:(z != u)=true:=by simpa using hzu
     have hne:L≠M:=list_ne k (by rw[HZ.out.1,HZ.out.2];simpa using hzu)
     have HE1:=qQ (And.intro hne (HG.out.trans (Chg.drew (λ_=>False) wr)))
     clear hzu hne HE HG
     go_wp2_with fail
     with_reducible refine wp_region_still_lit (by kernel_rfl) (by kernel_rfl) ?_
     repeat (with_reducible refine wpStill_step (λK hK=>?_);go_simp;with_reducible refine hK _ ?_;clear hK K)
     with_reducible refine wpStill_nil ?_
     change Exit.then _ _ _ _ wr.drew
     clear hc hd
     generalize wr.drew=w3 at *
     go_wp2_with fail
     go_ret
     refine⟨?_,HE1.out.2⟩
     rw[decide_eq_false HE1.out.1];rfl
   ·obtain rfl:k=m:=by omega
    go_wp2_with fail
    go_ret
    refine⟨?_,HG.out⟩
    rw[decide_eq_true (List.ext_getElem? (λj=>by
     by_cases hj:j<k
     ·exact HE.out j hj
     ·rw[List.getElem?_eq_none (by rw[HL.out];omega),List.getElem?_eq_none (by rw[HM.out];omega)]))]
    rfl
 ·have hb:((m:Int) != (n:Int))=true:=by simp;omega
  have hb2:(m != n)=true:=by simpa using hmn
  have hne:L≠M:=λe=>hmn (by rw[←hlL,←hlM,e])
  have HNE:=qQ hne
  clear hne hlL hlM
  go_enter Tryz.func161,Tryz.ntmps161
  go_wp2_with fail
  go_ret
  refine⟨?_,Chg.refl _ _⟩
  rw[decide_eq_false HNE.out];rfl
def BS(w:World)(B:Nat)(v:Value)(L:List Int):Prop:=
 ∃A c,v= .slice A L.length c∧Rs V8 w B A L.length L∧(A=none→c=0)∧L.length≤c∧c≤maxLen∧∀x∈L,0≤x∧x<256
section
variable {w w':World}{B B':Nat}{v:Value}{L:List Int}
theorem BS.keep{S:Nat→Prop}(h:BS w B v L)(g:Chg S w w')(hS:∀j,j<B→¬S j):BS w' B v L:=by
 obtain⟨A,c,h1,h2,h3⟩:=h
 exact⟨A,c,h1,h2.keep g hS,h3⟩
theorem BS.kept(h:BS w B v L)(g:Chg (λ_=>False) w w'):BS w' B v L:=h.keep g (λ_ _ e=>e)
theorem BS.more(h:BS w B v L)(hB:B≤B'):BS w B' v L:=by
 obtain⟨A,c,h1,h2,h3⟩:=h
 exact⟨A,c,h1,h2.more hB,h3⟩
theorem BS.of_own{base:Nat}(h:w.ownsRow base 5 1 v L.length (L.map V8))(hb:∀x∈L,0≤x∧x<256):BS w w.heap.size v L:=by
 obtain⟨A,c,rfl,h2,h3⟩:=Rs.of_own h
 refine⟨A,c,rfl,h2,h3,?_,?_,hb⟩
 ·rcases h.2 with ⟨e,h0⟩|⟨g,cap,cur,e,_,_,hc,hm,_⟩
  ·rw[h0];omega
  ·cases e;exact hc
 ·rcases h.2 with ⟨e,h0⟩|⟨g,cap,cur,e,_,_,hc,hm,_⟩
  ·simp at e;rw[e.2.2];exact Nat.zero_le _
  ·cases e;exact hm
end
def jV(L:List Int):Bool:=decide (2≤L.length)&&decide (L.take (L.length-2)++jJ (L.take (L.length-2))=L)
theorem Rs.take{α:Type}{V:α→Value}{w:World}{B len:Nat}{a:Option Addr}{zs:List α}(h:Rs V w B a len zs)(k:Nat)(hk:k≤len):Rs V w B a k (zs.take k):=by
 have hl:=h.1
 refine⟨by simp;omega,λi hi=>?_⟩
 obtain⟨x,e,hb,hc⟩:=h.2 i (by simp at hi;omega)
 exact⟨x,e,hb,by rw[hc];simp⟩
theorem crcGood_any(w:World)(v:Value)(L:List Int)(h:BS w w.heap.size v L)(hL:L.length≤100000):
  Calls Tryz.prog 110 #[v] w λe w'=>e= .returned (.bool (jV L))∧Chg (λ_=>False) w w':=by
 obtain⟨A,c,rfl,hr,hA,hc,hm,hb⟩:=h
 by_cases h2:2≤L.length
 ·have happ:=crcAppend_any w A (L.length-2) c (L.take (L.length-2)) (hr.take _ (by omega)) hA (λx hx=>hb x (List.mem_of_mem_take hx)) (by omega)
  obtain⟨N,hN⟩:=qZ (L.length-2)
  rw[←hN] at happ
  have e1:IntKind.i64.wrap ((L.length:Int)-2)=(N:Int):=by rw[IntWalk.i64_in _ (by omega)];omega
  have e2:(L.length:Int)-2=(N:Int):=by omega
  have hg:jV L=decide (L.take N++jJ (L.take N)=L):=by unfold jV;rw[decide_eq_true h2,←hN];rfl
  rw[hg]
  have hXl:(L.take N++jJ (L.take N)).length≤200000:=by have:(jJ (L.take N)).length=2:=rfl;simp;omega
  generalize L.take N++jJ (L.take N)=X at *
  obtain⟨xl,hxl⟩:=qZ X.length
  have i1:(N:Int)≤c:=by omega
  have i2:N≤c:=by omega
  have i3:(2:Int)≤L.length:=by omega
  have HR:=qQ hr
  have HA:=qQ happ
  have HL:=qQ hL
  have HXL:=qQ (And.intro hXl hxl)
  unfold maxLen at hm
  clear hr happ hL hg hN hA hb hXl hxl
  go_enter Tryz.func110,Tryz.ntmps110
  go_wp2_with fail
  refine HA.out.mono ?_
  rintro e w1 ⟨v1,rfl,hown,G⟩
  obtain⟨A1,c1,rfl,hr1,_⟩:=Rs.of_own hown
  have heq:=equal8_any w1 A1 A X.length L.length c1 c X L hr1 ((HR.out.keep G (λ_ _ e=>e)).more G.size) HXL.out.1 (by have:=HL.out;omega)
  rw[←HXL.out.2] at heq ⊢
  have HQ:=qQ heq
  have HG:=qQ G
  clear hown hr1 heq G
  go_wp2_with fail
  with_reducible refine HQ.out.mono ?_
  rintro e w2 ⟨rfl,G2⟩
  have HG2:=qQ (HG.out.trans G2)
  clear G2 HQ HG
  go_wp2_with fail
  go_ret
  exact⟨rfl,HG2.out⟩
 ·have hg:jV L=false:=by unfold jV;rw[decide_eq_false h2];rfl
  rw[hg]
  have i3:(L.length:Int)<2:=by omega
  clear hr hA hb hg
  go_enter Tryz.func110,Tryz.ntmps110
  go_wp2_with fail
  go_ret
  exact⟨rfl,Chg.refl _ _⟩
def VU(x:Int):Value:= .int .u64 x
theorem Tryz.info23:(Tryz.prog.info? 23).map (λi=>(i.zero,i.size,i.bytes))=some (some (.int .u64 0),1,8):=by kernel_rfl
theorem Tryz.info2:(Tryz.prog.info? 2).map (λi=>(i.zero,i.size,i.bytes))=some (some (.int .i64 0),1,8):=by kernel_rfl
theorem elU:ElOk 24 23 8:=by
 obtain⟨i0,hi,hx⟩:=Option.map_eq_some_iff.1 Tryz.info23
 simp only[Prod.mk.injEq] at hx
 exact⟨Tryz.underlying24,i0,_,hi,hx.1,hx.2.1,hx.2.2,rfl⟩
theorem elL:ElOk 58 2 8:=by
 obtain⟨i0,hi,hx⟩:=Option.map_eq_some_iff.1 Tryz.info2
 simp only[Prod.mk.injEq] at hx
 exact⟨Tryz.underlying58,i0,_,hi,hx.1,hx.2.1,hx.2.2,rfl⟩
theorem jF(w:World)(A:Option Addr)(len c:Nat)(L:List Int)(h:Rs VI w w.heap.size A len L)(hA:A=none→c=0)(hL:len≤100000):
  Calls Tryz.prog 29 #[.slice A len c] w (PNew VI 3 w L):=by
 have HR:=qQ h
 have HA:=qQ hA
 have hl:=h.1
 cases A with
 |none=>
  have hm:L=[]:=by
   rcases Nat.eq_zero_or_pos len with h0|h0
   ·exact List.eq_nil_of_length_eq_zero (by omega)
   ·obtain⟨x,z,e,_⟩:=h.at h0;cases e
  subst hm
  have hn:=nil_eq (P:=Tryz.prog) Tryz.underlying22
  clear h hA hl
  go_enter Tryz.func29,Tryz.ntmps29
  go_wp2_with fail
  go_ret
  exact⟨_,rfl,World.ownsRow_nil _ _ _ _,Chg.refl _ _⟩
 |some x=>
  have hn:=some_eq (P:=Tryz.prog) Tryz.underlying22
  clear h hA
  go_enter Tryz.func29,Tryz.ntmps29
  go_wp2_with (at_builtin;go_loud (refine appS elI rfl (.tmp 5) (.tmp 6) rfl w.heap.size (.slice (some ⟨w.heap.size,0,none⟩) 0 0) 0 [] rfl (World.ownsRow_made _ #[] 0 (Nat.le_refl _) (by decide) rfl) w.heap.size (some x) len c L rfl HA.out (HR.out.keep (Chg.alloc (λ_=>False) w _) (λ_ _ e=>e)) (λ_=>rfl) (by omega) (by omega) (by simp) ?grow))
  case grow=>
   intro v' w' hown hgr hat
   have ga:=Chg.alloc (λ_=>False) w (.cells #[] 3)
   have g:=qH (S:=λi=>w.heap.size≤i) hgr (λj e=>by cases e;exact Nat.le_refl _)
   have HO:=qQ (And.intro hown (ga.none.trans g).fresh)
   clear hown hgr hat g ga
   go_wp2_with fail
   go_ret
   refine⟨_,rfl,?_,HO.out.2⟩
   have:=HO.out.1
   rw[hl]
   simpa using this
theorem cloneU_any(w:World)(A:Option Addr)(len c:Nat)(L:List Int)(h:Rs VU w w.heap.size A len L)(hA:A=none→c=0)(hL:len≤100000):
  Calls Tryz.prog 28 #[.slice A len c] w (PNew VU 23 w L):=by
 have HR:=qQ h
 have HA:=qQ hA
 have hl:=h.1
 cases A with
 |none=>
  have hm:L=[]:=by
   rcases Nat.eq_zero_or_pos len with h0|h0
   ·exact List.eq_nil_of_length_eq_zero (by omega)
   ·obtain⟨x,z,e,_⟩:=h.at h0;cases e
  subst hm
  have hn:=nil_eq (P:=Tryz.prog) Tryz.underlying24
  clear h hA hl
  go_enter Tryz.func28,Tryz.ntmps28
  go_wp2_with fail
  go_ret
  exact⟨_,rfl,World.ownsRow_nil _ _ _ _,Chg.refl _ _⟩
 |some x=>
  have hn:=some_eq (P:=Tryz.prog) Tryz.underlying24
  clear h hA
  go_enter Tryz.func28,Tryz.ntmps28
  go_wp2_with (at_builtin;go_loud (refine appS elU rfl (.tmp 5) (.tmp 6) rfl w.heap.size (.slice (some ⟨w.heap.size,0,none⟩) 0 0) 0 [] rfl (World.ownsRow_made _ #[] 0 (Nat.le_refl _) (by decide) rfl) w.heap.size (some x) len c L rfl HA.out (HR.out.keep (Chg.alloc (λ_=>False) w _) (λ_ _ e=>e)) (λ_=>rfl) (by omega) (by omega) (by simp) ?grow))
  case grow=>
   intro v' w' hown hgr hat
   have ga:=Chg.alloc (λ_=>False) w (.cells #[] 23)
   have g:=qH (S:=λi=>w.heap.size≤i) hgr (λj e=>by cases e;exact Nat.le_refl _)
   have HO:=qQ (And.intro hown (ga.none.trans g).fresh)
   clear hown hgr hat g ga
   go_wp2_with fail
   go_ret
   refine⟨_,rfl,?_,HO.out.2⟩
   have:=HO.out.1
   rw[hl]
   simpa using this
theorem cloneL_any(w:World)(A:Option Addr)(len c:Nat)(L:List Int)(h:Rs VI w w.heap.size A len L)(hA:A=none→c=0)(hL:len≤100000):
  Calls Tryz.prog 55 #[.slice A len c] w (PNew VI 2 w L):=by
 have HR:=qQ h
 have HA:=qQ hA
 have hl:=h.1
 cases A with
 |none=>
  have hm:L=[]:=by
   rcases Nat.eq_zero_or_pos len with h0|h0
   ·exact List.eq_nil_of_length_eq_zero (by omega)
   ·obtain⟨x,z,e,_⟩:=h.at h0;cases e
  subst hm
  have hn:=nil_eq (P:=Tryz.prog) Tryz.underlying58
  clear h hA hl
  go_enter Tryz.func55,Tryz.ntmps55
  go_wp2_with fail
  go_ret
  exact⟨_,rfl,World.ownsRow_nil _ _ _ _,Chg.refl _ _⟩
 |some x=>
  have hn:=some_eq (P:=Tryz.prog) Tryz.underlying58
  clear h hA
  go_enter Tryz.func55,Tryz.ntmps55
  go_wp2_with (at_builtin;go_loud (refine appS elL rfl (.tmp 5) (.tmp 6) rfl w.heap.size (.slice (some ⟨w.heap.size,0,none⟩) 0 0) 0 [] rfl (World.ownsRow_made _ #[] 0 (Nat.le_refl _) (by decide) rfl) w.heap.size (some x) len c L rfl HA.out (HR.out.keep (Chg.alloc (λ_=>False) w _) (λ_ _ e=>e)) (λ_=>rfl) (by omega) (by omega) (by simp) ?grow))
  case grow=>
   intro v' w' hown hgr hat
   have ga:=Chg.alloc (λ_=>False) w (.cells #[] 2)
   have g:=qH (S:=λi=>w.heap.size≤i) hgr (λj e=>by cases e;exact Nat.le_refl _)
   have HO:=qQ (And.intro hown (ga.none.trans g).fresh)
   clear hown hgr hat g ga
   go_wp2_with fail
   go_ret
   refine⟨_,rfl,?_,HO.out.2⟩
   have:=HO.out.1
   rw[hl]
   simpa using this
end Go.Proofs.YtnpihllannobgaaGreatDoor
