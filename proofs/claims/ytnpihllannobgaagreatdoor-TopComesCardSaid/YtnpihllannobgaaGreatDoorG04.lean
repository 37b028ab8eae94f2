/- Steps of the proof, part G04. No condition. -/
import Derived.Test.YtnpihllannobgaaGreatDoorG03
import Derived.RegionTactic
import Derived.ChangeAlike
namespace Go.Proofs.YtnpihllannobgaaGreatDoor
set_option linter.unusedVariables false
set_option linter.unusedSimpArgs false
set_option maxRecDepth 100000
set_option maxHeartbeats 32000000
structure El where
 kind:Int
 asn:Int
 rank:Int
 ticks:Int
 list:List Int
 deriving DecidableEq
structure Fr where
 kind:Int
 src:Int
 dst:Int
 seq:Int
 ies:List El
 data:List Int
 deriving DecidableEq
structure Pk where
 src:Int
 dst:Int
 n:Int
 life:Int
 path:List Int
 data:List Int
 deriving DecidableEq
structure Ev where
 kind:Int
 i:Int
 src:Int
 code:Int
 p:Pk
 deriving DecidableEq
def el0:El:=⟨0,0,0,0,[]⟩
def fr0:Fr:=⟨0,0,0,0,[],[]⟩
def pk0:Pk:=⟨0,0,0,0,[],[]⟩
def inR(n a b:Int):Bool:=decide (a≤n)&&decide (n≤b)
/- elements -/
def ofE(k:Int):Bool:=inR k 1 4
def plainE(e:El):El:=
 if e.kind=1 then ⟨1,e.asn,e.rank,0,[]⟩ else if e.kind=2 then ⟨2,0,0,e.ticks,[]⟩ else ⟨e.kind,0,0,0,e.list⟩
def zC(e:El):Bool:=
 if e.kind=1 then inR e.asn 0 1099511627775&&inR e.rank 0 255 else if e.kind=2 then inR e.ticks (-32768) 32767
 else decide (e.list.length≤16)&&e.list.all (λn=>inR n 0 255)
def mayE(e:El):Bool:=ofE e.kind&&(zC e&&decide (e=plainE e))
def bodyE(e:El):List Int:=
 if e.kind=1 then 6::(be 5 e.asn++be 1 e.rank) else if e.kind=2 then 2::be 2 (IntKind.u64.wrap e.ticks) else (e.list.length:Int)::e.list
def encE(e:El):List Int:=e.kind::bodyE e
def encI(l:List El):List Int:=(l.length:Int)::l.flatMap encE
def zH(l:List El)(k:Int):Option El:=l.find? (λe=>e.kind==k)
def zq(s:RS):Bool:=rEnd s==2
def vD(k n:Int):Bool:=if k=1 then n==6 else if k=2 then n==2 else decide (n≤16)
def i16(x:Int):Int:=if x<32768 then x else x-65536
def takeE(s:RS)(k n:Int):El:=
 if k=1 then ⟨1,ql s 5,ql (qS s 5) 1,0,[]⟩ else if k=2 then ⟨2,0,0,i16 (ql s 2),[]⟩ else ⟨k,0,0,0,js s n⟩
def j7(s:RS)(k n:Int):RS:=
 if k=1 then qS (qS s 5) 1 else if k=2 then qS s 2 else zr s n
def oneE(s:RS):Int×El×RS:=
 let k:=ql s 1
 let s1:=qS s 1
 if zq s1 then (2,el0,s1) else if !ofE k then (3,el0,s1) else
 let n:=ql s1 1
 let s2:=qS s1 1
 if zq s2 then (2,el0,s2) else if !vD k n then (3,el0,s2) else
 let s3:=j7 s2 k n
 if zq s3 then (2,el0,s3) else (0,takeE s2 k n,s3)
def loopE:Nat→List El→RS→Int×List El×RS
 |0,acc,s=>(0,acc,s)
 |n+1,acc,s=>match oneE s with
  |(g,e,s')=>if g=0 then loopE n (acc++[e]) s' else (g,[],s')
def decI(L:List Int):Int×List El:=
 let s:RS:=⟨L,0⟩
 let n:=ql s 1
 let s1:=qS s 1
 if zq s1 then (2,[]) else if 4<n then (3,[]) else
 match loopE n.toNat [] s1 with
 |(g,es,s2)=>if g≠0 then (g,[]) else if rEnd s2≠0 then (rEnd s2,[]) else (0,es)
/- frames -/
def qt(n:Int):Bool:=inR n 0 15
def zY(f:Fr):Bool:=
 let one:=f.dst != 64
 if f.kind=2∨f.kind=4 then one&&decide (f.data=[]) else if f.kind=3 then !one&&decide (f.data=[])&&(zH f.ies 1).isSome
 else if f.kind=1∨f.kind=5 then one&& !decide (f.data=[]) else false
def mayF(f:Fr):Bool:=
 qt f.src&&(qt f.dst||f.dst==64)&&f.dst != f.src&&inR f.seq 0 255&&decide (f.ies.length≤4)&&f.ies.all mayE&&decide (f.data.length≤64)&&zY f
def headF(f:Fr):List Int:=be 1 197++be 1 f.kind++be 1 f.src++be 1 f.dst++be 1 f.seq
def bodyF(f:Fr):List Int:=headF f++be 1 (encI f.ies).length++encI f.ies++be 1 f.data.length++f.data
def encF(f:Fr):List Int:=bodyF f++jh (bodyF f)
def readF(s:RS):Int×Fr×List Int×RS:=
 let s1:=qS s 1
 let s2:=qS s1 1
 let s3:=qS s2 1
 let s4:=qS s3 1
 let s5:=qS s4 1
 let s6:=qS s5 1
 let s7:=zr s6 (ql s5 1)
 let s8:=qS s7 1
 (ql s 1,⟨ql s1 1,ql s2 1,ql s3 1,ql s4 1,[],js s8 (ql s7 1)⟩,js s6 (ql s5 1),zr s8 (ql s7 1))
def decF(L:List Int):Int×Fr:=
 if L.length<9 then (2,fr0) else if !jj L then (4,fr0) else
 match readF ⟨L.take (L.length-2),0⟩ with
 |(first,f,els,s)=>if first≠197∨rEnd s≠0 then (3,fr0) else
  match decI els with
  |(e,ies)=>if e≠0 then (e,fr0) else if mayF {f with ies:=ies} then (0,{f with ies:=ies}) else (3,fr0)
/- packets -/
def jQ(l:List Int):Bool:=l.all qt&&decide l.Nodup&&decide (l.length≤16)
def mayP(p:Pk):Bool:=
 qt p.src&&qt p.dst&&p.src != p.dst&&inR p.n 0 70368744177663&&inR p.life 0 15&&jQ p.path&&inR p.data.length 1 24
def encP(p:Pk):List Int:=
 be 1 p.src++be 1 p.dst++be 6 p.n++be 1 p.life++be 1 p.path.length++p.path++be 1 p.data.length++p.data
open Go.ChangeShapes Go.WideShapes Go.ChangeAt Go.RowKit
theorem equalI_any(w:World)(A B:Option Addr)(m n c d:Nat)(L M:List Int)(h:Rs VI w w.heap.size A m L)(k:Rs VI w w.heap.size B n M)(hm:m≤200000)(hn:n≤200000):
  Calls Tryz.prog 246 #[.slice A m c,.slice B n d] w λe w'=>e= .returned (.bool (decide (L=M)))∧Chg (λ_=>False) w w':=by
 have HR:=qQ h
 have HK:=qQ k
 have hlL:=h.1
 have hlM:=k.1
 have hm1:(m:Int)≤200000:=by omega
 have hn1:(n:Int)≤200000:=by omega
 clear h k
 by_cases hmn:m=n
 ·subst hmn
  have HL:=qQ hlL
  have HM:=qQ hlM
  clear hlL hlM
  go_enter Tryz.func246,Tryz.ntmps246
  go_wp2_with fail
  go_loopw [13] (λi wr=>∃(k:Nat),k≤m∧i= .int .i64 k∧(∀j,j<k→L[j]? =M[j]?)∧Chg (λ_=>False) w wr) (λi _=>m-(intOf i).toNat)
  case atStart=>exact⟨0,by omega,rfl,λj hj=>absurd hj (by omega),Chg.refl _ _⟩
  case round=>
   obtain⟨k,hk,rfl,he,hG⟩:=hrel
   have HE:=qQ he
   have HG:=qQ hG
   clear he hG
   by_cases hlt:k<m
   ·obtain⟨x,z,rfl,_,hz,hc⟩:=((HR.out.keep HG.out (λ_ _ e=>e)).keep (Chg.drew (λ_=>False) wr) (λ_ _ e=>e)).at hlt
    obtain⟨y,u,rfl,_,hu,hd⟩:=((HK.out.keep HG.out (λ_ _ e=>e)).keep (Chg.drew (λ_=>False) wr) (λ_ _ e=>e)).at hlt
    unfold VI at hc hd
    have i1:(k:Int)<(m:Int):=by omega
    have HZ:=qQ (And.intro hz hu)
    clear hz hu
    by_cases hzu:z=u
    ·have hb:(z != u)=false:=by simpa using hzu
     have he1:∀j,j<k+1→L[j]? =M[j]? :=λj hj=>by
      by_cases e:j=k
      ·subst e;rw[HZ.out.1,HZ.out.2,hzu]
      ·exact HE.out j (by omega)
     have HE1:=qQ (And.intro he1 (HG.out.trans (Chg.drew (λ_=>False) wr)))
     clear hzu he1 HE HG
     go_wp2_with fail
     with_reducible refine wp_region_still_lit (by kernel_rfl) (by kernel_rfl) ?_
     repeat (with_reducible refine wpStill_step (λK hK=>?_);go_simp;with_reducible refine hK _ ?_;clear hK K)
     with_reducible refine wpStill_nil ?_
     change Exit.then _ _ _ _ wr.drew
     clear hc hd
     generalize wr.drew=w3 at *
     go_wp2_with fail
     go_roundw
     case measure=>simp[intOf];omega
     case rel=>exact⟨k+1,by omega,by go_num,HE1.out.1,HE1.out.2⟩
    ·have hb:(z != u)=true:=by simpa using hzu
     have hne:L≠M:=list_ne k (by rw[HZ.out.1,HZ.out.2];simpa using hzu)
     have HE1:=qQ (And.intro hne (HG.out.trans (Chg.drew (λ_=>False) wr)))
     clear hzu hne HE HG
     go_wp2_with fail
     with_reducible refine wp_region_still_lit (by kernel_rfl) (by kernel_rfl) ?_
     repeat (with_reducible refine wpStill_step (λK hK=>?_);go_simp;with_reducible refine hK _ ?_;clear hK K)
     with_reducible refine wpStill_nil ?_
     change Exit.then _ _ _ _ wr.drew
     clear hc hd
     generalize wr.drew=w3 at *
     go_wp2_with fail
     go_ret
     refine⟨?_,HE1.out.2⟩
     rw[decide_eq_false HE1.out.1];rfl
   ·obtain rfl:k=m:=by omega
    go_wp2_with fail
    go_ret
    refine⟨?_,HG.out⟩
    rw[decide_eq_true (List.ext_getElem? (λj=>by
     by_cases hj:j<k
     ·exact HE.out j hj
     ·rw[List.getElem?_eq_none (by rw[HL.out];omega),List.getElem?_eq_none (by rw[HM.out];omega)]))]
    rfl
 ·have hb:((m:Int) != (n:Int))=true:=by simp;omega
  have hb2:(m != n)=true:=by simpa using hmn
  have hne:L≠M:=λe=>hmn (by rw[←hlL,←hlM,e])
  have HNE:=qQ hne
  clear hne hlL hlM
  go_enter Tryz.func246,Tryz.ntmps246
  go_wp2_with fail
  go_ret
  refine⟨?_,Chg.refl _ _⟩
  rw[decide_eq_false HNE.out];rfl
def elV(e:El)(lv:Value):Value:= .agg #[.int .i64 e.kind,.int .i64 e.asn,.int .i64 e.rank,.int .i64 e.ticks,lv]
def Ce(w:World)(g o:Nat)(e:El)(lv:Value):Prop:=
 w.cell? ⟨g,o,none⟩=some (.int .i64 e.kind)∧w.cell? ⟨g,o+1,none⟩=some (.int .i64 e.asn)∧w.cell? ⟨g,o+2,none⟩=some (.int .i64 e.rank)∧
  w.cell? ⟨g,o+3,none⟩=some (.int .i64 e.ticks)∧w.cell? ⟨g,o+4,none⟩=some lv
theorem Ce.keep{S:Nat→Prop}{w w':World}{g o:Nat}{e:El}{lv:Value}(h:Ce w g o e lv)(c:Chg S w w')(hS:¬S g):Ce w' g o e lv:=by
 obtain⟨c0,c1,c2,c3,c4⟩:=h
 have k:∀j u,w.cell? ⟨g,j,none⟩=some u→w'.cell? ⟨g,j,none⟩=some u:=λj u hc=>by rw[c.cell (qP hc) hS,hc]
 exact⟨k _ _ c0,k _ _ c1,k _ _ c2,k _ _ c3,k _ _ c4⟩
def IeO(w:World)(own:Cls)(v:Value)(l:List El):Prop:=
 (v= .slice none 0 0∧l=[])∨∃g c,v= .slice (some ⟨g,0,none⟩) l.length c∧own g=0∧l.length≤c∧c≤maxLen∧g<w.heap.size∧
  ∀i (h:i<l.length),∃lv,Ce w g (i*5) l[i] lv∧RV VI w own lv l[i].list
section
variable {w w':World}{own own':Cls}{v:Value}{e:El}{l:List El}
theorem IeO.nil(w:World)(own:Cls):IeO w own (.slice none 0 0) []:= .inl ⟨rfl,rfl⟩
theorem IeO.keep{S:Nat→Prop}(h:IeO w own v l)(k:Chg S w w')(hS:∀j,own j=0→¬S j):IeO w' own v l:=by
 rcases h with h|⟨g,c,h1,h2,h3,h4,h0,h5⟩
 ·exact .inl h
 ·exact .inr ⟨g,c,h1,h2,h3,h4,Nat.lt_of_lt_of_le h0 k.size,λi hi=>by
   obtain⟨lv,h6,h7⟩:=h5 i hi
   exact⟨lv,h6.keep k (hS g h2),h7.keep k hS⟩⟩
theorem IeO.ext(h:IeO w own v l)(x:Ext w own own'):IeO w own' v l:=by
 rcases h with h|⟨g,c,h1,h2,h3,h4,h0,h5⟩
 ·exact .inl h
 ·exact .inr ⟨g,c,h1,(x g h0).trans h2,h3,h4,h0,λi hi=>by
   obtain⟨lv,h6,h7⟩:=h5 i hi
   exact⟨lv,h6,h7.ext x⟩⟩
theorem IeO.at(h:IeO w own v l){i:Nat}{e:El}(hi:l[i]? =some e):∃g c lv,v= .slice (some ⟨g,0,none⟩) l.length c∧Ce w g (i*5) e lv∧RV VI w own lv e.list:=by
 obtain⟨hl,rfl⟩:=List.getElem?_eq_some_iff.1 hi
 rcases h with ⟨_,rfl⟩|⟨g,c,h1,h2,h3,h4,h0,h5⟩
 ·cases hl
 ·obtain⟨lv,h6,h7⟩:=h5 i hl
  exact⟨g,c,lv,h1,h6,h7⟩
theorem IeO.val(h:IeO w own v l):∃A c,v= .slice A l.length c:=by
 rcases h with ⟨rfl,rfl⟩|⟨g,c,h1,_⟩
 ·exact⟨_,_,rfl⟩
 ·exact⟨_,_,h1⟩
theorem RV.rs{V:Int→Value}{L:List Int}(h:RV V w own v L):∃A c,v= .slice A L.length c∧Rs V w w.heap.size A L.length L∧(A=none→c=0)∧L.length≤c∧c≤maxLen:=by
 obtain⟨A,c,h1,h2,h3,h4,h5⟩:=h
 exact⟨A,c,h1,h2.rs,h3,h4,h5⟩
end
def PV(v:Value)(w:World)(e:Ending)(w':World):Prop:=e= .returned v∧Chg (λ_=>False) w w'
theorem of_1(a b c:Int)(lv:Value)(w:World):Calls Tryz.prog 153 #[.agg #[.int .i64 1,.int .i64 a,.int .i64 b,.int .i64 c,lv]] w (PV (.iface 273 (.agg #[.int .i64 a,.int .i64 b])) w):=by
 go_enter Tryz.func153,Tryz.ntmps153
 go_wp2_with fail
 go_ret
 exact⟨rfl,Chg.alloc _ _ _⟩
theorem of_2(a b c:Int)(lv:Value)(w:World):Calls Tryz.prog 153 #[.agg #[.int .i64 2,.int .i64 a,.int .i64 b,.int .i64 c,lv]] w (PV (.iface 275 (.agg #[.int .i64 c])) w):=by
 go_enter Tryz.func153,Tryz.ntmps153
 go_wp2_with fail
 go_ret
 exact⟨rfl,Chg.alloc _ _ _⟩
theorem of_l(k a b c:Int)(A:Option Addr)(n cp:Nat)(w:World)(hk:k=3∨k=4):Calls Tryz.prog 153 #[.agg #[.int .i64 k,.int .i64 a,.int .i64 b,.int .i64 c,.slice A n cp]] w (PV (.iface 277 (.agg #[.slice A n cp])) w):=by
 rcases hk with rfl|rfl
 all_goals
  go_enter Tryz.func153,Tryz.ntmps153
  go_wp2_with fail
  go_ret
  exact⟨rfl,Chg.alloc _ _ _⟩
theorem of_no(k a b c:Int)(lv:Value)(w:World)(hk:ofE k=false):Calls Tryz.prog 153 #[.agg #[.int .i64 k,.int .i64 a,.int .i64 b,.int .i64 c,lv]] w (PV .nilIface w):=by
 have h:¬(1≤k∧k≤4):=by intro h;simp[ofE,inR] at hk;omega
 have h1:(k==1)=false:=by simp;omega
 have h2:(k==2)=false:=by simp;omega
 have h3:(k==3)=false:=by simp;omega
 have h4:(k==4)=false:=by simp;omega
 clear hk h
 go_enter Tryz.func153,Tryz.ntmps153
 go_wp2_with fail
 go_ret
 exact⟨rfl,Chg.alloc _ _ _⟩
theorem ta_273_273(x:Value)(w:World):(Instr.typeAssert (.iface 273 x) 227 273 true).run Tryz.prog w= .ok (.tuple #[x,.bool true]) w:=by kernel_rfl
theorem ta_273_275(x:Value)(w:World):(Instr.typeAssert (.iface 273 x) 227 275 true).run Tryz.prog w= .ok (.tuple #[.agg #[.int .i64 0],.bool false]) w:=by kernel_rfl
theorem ta_273_277(x:Value)(w:World):(Instr.typeAssert (.iface 273 x) 227 277 true).run Tryz.prog w= .ok (.tuple #[.agg #[.slice none 0 0],.bool false]) w:=by kernel_rfl
theorem ta_275_273(x:Value)(w:World):(Instr.typeAssert (.iface 275 x) 227 273 true).run Tryz.prog w= .ok (.tuple #[.agg #[.int .i64 0,.int .i64 0],.bool false]) w:=by kernel_rfl
theorem ta_275_275(x:Value)(w:World):(Instr.typeAssert (.iface 275 x) 227 275 true).run Tryz.prog w= .ok (.tuple #[x,.bool true]) w:=by kernel_rfl
theorem ta_275_277(x:Value)(w:World):(Instr.typeAssert (.iface 275 x) 227 277 true).run Tryz.prog w= .ok (.tuple #[.agg #[.slice none 0 0],.bool false]) w:=by kernel_rfl
theorem ta_277_273(x:Value)(w:World):(Instr.typeAssert (.iface 277 x) 227 273 true).run Tryz.prog w= .ok (.tuple #[.agg #[.int .i64 0,.int .i64 0],.bool false]) w:=by kernel_rfl
theorem ta_277_275(x:Value)(w:World):(Instr.typeAssert (.iface 277 x) 227 275 true).run Tryz.prog w= .ok (.tuple #[.agg #[.int .i64 0],.bool false]) w:=by kernel_rfl
theorem ta_277_277(x:Value)(w:World):(Instr.typeAssert (.iface 277 x) 227 277 true).run Tryz.prog w= .ok (.tuple #[x,.bool true]) w:=by kernel_rfl
theorem plain_1(k a b:Int)(w:World):Calls Tryz.prog 198 #[.int .i64 k,.iface 273 (.agg #[.int .i64 a,.int .i64 b])] w (PV (.agg #[.int .i64 k,.int .i64 a,.int .i64 b,.int .i64 0,.slice none 0 0]) w):=by
 have t1:=λw=>ta_273_273 (.agg #[.int .i64 a,.int .i64 b]) w
 have t2:=λw=>ta_273_275 (.agg #[.int .i64 a,.int .i64 b]) w
 have t3:=λw=>ta_273_277 (.agg #[.int .i64 a,.int .i64 b]) w
 go_enter Tryz.func198,Tryz.ntmps198
 go_wp2_with fail
 go_region
 all_goals
  go_wp2_with fail
  exact bodyPost_ret (v:= .agg #[.int .i64 k,.int .i64 a,.int .i64 b,.int .i64 0,.slice none 0 0]) (by simp[results,Tryz.results198,go_sem]) rfl ⟨rfl,Chg.fresh (by
   repeat (first|exact Chg.refl _ _|refine Chg.trans ?_ (Chg.alloc _ _ _)|refine Chg.trans ?_ (Chg.drew _ _)|refine Chg.trans ?_ (Chg.set _ _ _ (by simp <;> omega))))⟩
theorem plain_2(k a:Int)(w:World):Calls Tryz.prog 198 #[.int .i64 k,.iface 275 (.agg #[.int .i64 a])] w (PV (.agg #[.int .i64 k,.int .i64 0,.int .i64 0,.int .i64 a,.slice none 0 0]) w):=by
 have t1:=λw=>ta_275_273 (.agg #[.int .i64 a]) w
 have t2:=λw=>ta_275_275 (.agg #[.int .i64 a]) w
 have t3:=λw=>ta_275_277 (.agg #[.int .i64 a]) w
 go_enter Tryz.func198,Tryz.ntmps198
 go_wp2_with fail
 exact bodyPost_ret (v:= .agg #[.int .i64 k,.int .i64 0,.int .i64 0,.int .i64 a,.slice none 0 0]) (by simp[results,Tryz.results198,go_sem]) rfl ⟨rfl,((((Chg.alloc _ _ _).trans (Chg.alloc _ _ _)).trans (Chg.alloc _ _ _)).trans (Chg.alloc _ _ _)).trans (Chg.alloc _ _ _)⟩
theorem plain_3(k:Int)(A:Option Addr)(n cp:Nat)(w:World):Calls Tryz.prog 198 #[.int .i64 k,.iface 277 (.agg #[.slice A n cp])] w (PV (.agg #[.int .i64 k,.int .i64 0,.int .i64 0,.int .i64 0,.slice A n cp]) w):=by
 have t1:=λw=>ta_277_273 (.agg #[.slice A n cp]) w
 have t2:=λw=>ta_277_275 (.agg #[.slice A n cp]) w
 have t3:=λw=>ta_277_277 (.agg #[.slice A n cp]) w
 go_enter Tryz.func198,Tryz.ntmps198
 go_wp2_with fail
 exact bodyPost_ret (v:= .agg #[.int .i64 k,.int .i64 0,.int .i64 0,.int .i64 0,.slice A n cp]) (by simp[results,Tryz.results198,go_sem]) rfl ⟨rfl,((((Chg.alloc _ _ _).trans (Chg.alloc _ _ _)).trans (Chg.alloc _ _ _)).trans (Chg.alloc _ _ _)).trans (Chg.alloc _ _ _)⟩
def vd(k1 a1 b1 c1 k2 a2 b2 c2:Int)(L M:List Int):Bool:=k1==k2&&(a1==a2&&(b1==b2&&(c1==c2&&decide (L=M))))
theorem same_any(k1 a1 b1 c1 k2 a2 b2 c2:Int)(A B:Option Addr)(n m c d:Nat)(L M:List Int)(w:World)(h:Rs VI w w.heap.size A n L)(k:Rs VI w w.heap.size B m M)(hn:n≤200000)(hm:m≤200000):
  Calls Tryz.prog 197 #[.agg #[.int .i64 k1,.int .i64 a1,.int .i64 b1,.int .i64 c1,.slice A n c],.agg #[.int .i64 k2,.int .i64 a2,.int .i64 b2,.int .i64 c2,.slice B m d]] w (PV (.bool (vd k1 a1 b1 c1 k2 a2 b2 c2 L M)) w):=by
 have HR:=qQ h
 have HK:=qQ k
 clear h k
 have hfin:∀r,vd k1 a1 b1 c1 k2 a2 b2 c2 L M=r→∀w',Chg (λ_=>False) w w'→PV (.bool (vd k1 a1 b1 c1 k2 a2 b2 c2 L M)) w (.returned (.bool r)) w':=λr hr w' g=>⟨by rw[hr],g⟩
 have HF:=qQ hfin
 clear hfin
 have g2:Chg (λ_=>False) w ((w.alloc (.cells #[.int .i64 k1,.int .i64 a1,.int .i64 b1,.int .i64 c1,.slice A n c] 172)).alloc (.cells #[.int .i64 k2,.int .i64 a2,.int .i64 b2,.int .i64 c2,.slice B m d] 172)):=(Chg.alloc _ _ _).trans (Chg.alloc _ _ _)
 have HG:=qQ g2
 clear g2
 by_cases e1:(k1==k2)=true
 ·by_cases e2:(a1==a2)=true
  ·by_cases e3:(b1==b2)=true
   ·by_cases e4:(c1==c2)=true
    ·have hv:vd k1 a1 b1 c1 k2 a2 b2 c2 L M=decide (L=M):=by simp only[vd,e1,e2,e3,e4,Bool.true_and]
     have HV:=qQ hv
     clear hv
     go_enter Tryz.func197,Tryz.ntmps197
     go_wp2_with fail
     (with_reducible refine (equalI_any _ A B n m c d L M ((HR.out.keep HG.out (λ_ _ e=>e)).more HG.out.size) ((HK.out.keep HG.out (λ_ _ e=>e)).more HG.out.size) hn hm).mono ?_)
     rintro e w1 ⟨rfl,G⟩
     have H1:=qQ (HG.out.trans G)
     clear G
     go_wp2_with fail
     go_ret
     exact HF.out _ HV.out _ H1.out
    ·have e4:(c1==c2)=false:=by simpa using e4
     have hv:vd k1 a1 b1 c1 k2 a2 b2 c2 L M=false:=by simp only[vd,e1,e2,e3,e4,Bool.true_and,Bool.false_and]
     have HV:=qQ hv
     clear hv
     go_enter Tryz.func197,Tryz.ntmps197
     go_wp2_with fail
     go_ret
     exact HF.out _ HV.out _ HG.out
   ·have e3:(b1==b2)=false:=by simpa using e3
    have hv:vd k1 a1 b1 c1 k2 a2 b2 c2 L M=false:=by simp only[vd,e1,e2,e3,Bool.true_and,Bool.false_and]
    have HV:=qQ hv
    clear hv
    go_enter Tryz.func197,Tryz.ntmps197
    go_wp2_with fail
    go_ret
    exact HF.out _ HV.out _ HG.out
  ·have e2:(a1==a2)=false:=by simpa using e2
   have hv:vd k1 a1 b1 c1 k2 a2 b2 c2 L M=false:=by simp only[vd,e1,e2,Bool.true_and,Bool.false_and]
   have HV:=qQ hv
   clear hv
   go_enter Tryz.func197,Tryz.ntmps197
   go_wp2_with fail
   go_ret
   exact HF.out _ HV.out _ HG.out
 ·have e1:(k1==k2)=false:=by simpa using e1
  have hv:vd k1 a1 b1 c1 k2 a2 b2 c2 L M=false:=by simp only[vd,e1,Bool.true_and,Bool.false_and]
  have HV:=qQ hv
  clear hv
  go_enter Tryz.func197,Tryz.ntmps197
  go_wp2_with fail
  go_ret
  exact HF.out _ HV.out _ HG.out
def indexP{α:Type}(L:List α)(p:α→Bool):Int:=match L.findIdx? p with|some i=>i|none=> -1
theorem indexP_at{α:Type}(L:List α)(p:α→Bool)(k:Nat)(x:α)(hk:L[k]? =some x) (hp:p x=true) (h:∀j y,j<k→L[j]? =some y→p y=false):indexP L p=k:=by
 have hlt:=(List.getElem?_eq_some_iff.1 hk).1
 have:L.findIdx? p=some k:=by
  rw[List.findIdx?_eq_some_iff_getElem]
  refine⟨hlt,by rw[List.getElem?_eq_getElem hlt] at hk;simp at hk;rw[hk];exact hp,λj hj=>?_⟩
  have h2:=h j L[j] hj (List.getElem?_eq_getElem (by omega))
  simpa using h2
 unfold indexP;rw[this]
theorem indexP_no{α:Type}(L:List α)(p:α→Bool)(h:∀(j:Nat) y,L[j]? =some y→p y=false):indexP L p= -1:=by
 have:L.findIdx? p=none:=by
  rw[List.findIdx?_eq_none_iff]
  intro y hy
  obtain⟨j,hj,rfl⟩:=List.getElem_of_mem hy
  exact h j _ (List.getElem?_eq_getElem hj)
 unfold indexP;rw[this]
theorem indexP_pos{α:Type}(L:List α)(p:α→Bool):decide (0≤indexP L p)=L.any p:=by
 unfold indexP
 cases h:L.findIdx? p with
 |none=>
  rw[List.findIdx?_eq_none_iff] at h
  have:L.any p=false:=by simpa using h
  rw[this];rfl
 |some i=>
  rw[List.findIdx?_eq_some_iff_getElem] at h
  obtain⟨hi,he,_⟩:=h
  have:L.any p=true:=by rw[List.any_eq_true];exact⟨_,List.getElem_mem _,he⟩
  rw[this];simp
structure FnI(w:World)(n:Nat)(caps:Array Value)(L:List Int)(p:Int→Bool):Prop where
 cf:∀(args:Array Value) (w':World),(callFunc n args).run Tryz.prog w'= .ok (.enter n args) w'
 at':∀(z:Int) (w':World),z∈L→Chg (λ_=>False) w w'→Calls Tryz.prog n (#[.int .i64 z]++caps) w' (PV (.bool (p z)) w')
theorem cf322(args:Array Value)(w':World):(callFunc 322 args).run Tryz.prog w'= .ok (.enter 322 args) w':=by kernel_rfl
theorem indexFI_any(w:World)(A:Option Addr)(len c n:Nat)(caps:Array Value)(L:List Int)(p:Int→Bool)(h:Rs VI w w.heap.size A len L)(hL:len≤100000)(hf:FnI w n caps L p):
  Calls Tryz.prog 195 #[.slice A len c,.func (.func n) #[] caps] w (PV (.int .i64 (indexP L p)) w):=by
 have HR:=qQ h
 have HF:=qQ hf
 have hl:(len:Int)≤100000:=by omega
 clear h hf
 go_enter Tryz.func195,Tryz.ntmps195
 go_wp2_with fail
 go_loopw [8] (λi wr=>∃(k:Nat),k≤len∧i= .int .i64 k∧(∀j y,j<k→L[j]? =some y→p y=false)∧Chg (λ_=>False) w wr) (λi _=>len-(intOf i).toNat)
 case atStart=>exact⟨0,by omega,rfl,(λj y hj=>absurd hj (by omega)),Chg.refl _ _⟩
 case round=>
  obtain⟨k,hk,rfl,hno,hG⟩:=hrel
  have HN:=qQ hno
  have HG:=qQ hG
  clear hno hG
  by_cases hlt:k<len
  ·obtain⟨y,z,rfl,_,hz,hc⟩:=(HR.out.keep HG.out (λ_ _ e=>e)).at hlt
   unfold VI at hc
   have hmem:=List.mem_of_getElem? hz
   have hcf:=HF.out.cf
   have hat:=HF.out.at' z wr hmem HG.out
   have HA:=qQ hat
   have HZ:=qQ hz
   clear hz hat hmem
   go_wp2_with fail
   clear hcf hc
   with_reducible refine HA.out.mono ?_
   rintro e w1 ⟨rfl,G1⟩
   have HG1:=qQ (HG.out.trans G1)
   clear G1 HA HG
   by_cases hp:p z=true
   ·rw[hp]
    have hi:=indexP_at L p k z HZ.out hp HN.out
    have HI:=qQ hi
    clear hi hp
    go_wp2_with fail
    go_ret
    rw[HI.out];exact⟨rfl,HG1.out⟩
   ·have hp:p z=false:=by simpa using hp
    rw[hp]
    have hn:∀j y,j<k+1→L[j]? =some y→p y=false:=λj y hj hy=>by
     by_cases e:j=k
     ·subst e;rw[HZ.out] at hy;cases hy;exact hp
     ·exact HN.out j y (by omega) hy
    have HN1:=qQ hn
    clear hn hp
    go_wp2_with fail
    go_roundw
    case measure=>simp[intOf];omega
    case rel=>exact⟨k+1,by omega,by go_num,HN1.out,HG1.out⟩
  ·obtain rfl:k=len:=by omega
   have hi:=indexP_no L p (λj y hj=>HN.out j y (by have:=(List.getElem?_eq_some_iff.1 hj).1;rw[HR.out.1] at this;exact this) hj)
   have HI:=qQ hi
   clear hi
   go_wp2_with fail
   go_ret
   rw[HI.out];exact⟨rfl,HG.out⟩
theorem containsFI_any(w:World)(A:Option Addr)(len c n:Nat)(caps:Array Value)(L:List Int)(p:Int→Bool)(h:Rs VI w w.heap.size A len L)(hL:len≤100000)(hf:FnI w n caps L p):
  Calls Tryz.prog 250 #[.slice A len c,.func (.func n) #[] caps] w (PV (.bool (L.any p)) w):=by
 have hi:=indexFI_any w A len c n caps L p h hL hf
 have hp:=indexP_pos L p
 rw[←hp]
 clear h hp hf
 generalize indexP L p=q at *
 go_enter Tryz.func250,Tryz.ntmps250
 go_wp2_with fail
 with_reducible refine hi.mono ?_
 rintro e w1 ⟨rfl,G⟩
 have HG:=qQ G
 clear G hi
 go_wp2_with fail
 go_ret
 exact⟨rfl,HG.out⟩
theorem lmay1(z:Int)(w:World):Calls Tryz.prog 322 #[.int .i64 z] w (PV (.bool (!inR z 0 255)) w):=by
 by_cases h1:z<0
 ·go_enter Tryz.func322,Tryz.ntmps322
  go_wp2_with fail
  go_ret
  refine⟨vF ?_,Chg.refl _ _⟩
  simp[inR];omega
 ·have h2:0≤z:=by omega
  go_enter Tryz.func322,Tryz.ntmps322
  go_wp2_with fail
  go_ret
  refine⟨vF ?_,Chg.refl _ _⟩
  have e1:decide (0≤z)=true:=by simpa using h2
  unfold inR
  rw[e1,Bool.true_and]
  by_cases h3:255<z
  ·rw[decide_eq_false (show¬z≤255 by omega)];simp;omega
  ·rw[decide_eq_true (show z≤255 by omega)];simp;omega
theorem qW{P:Program}{id:Nat}{Q:Exit→Act→World→Prop}{a:Act}{w:World}{l:List Oper}{I:Type}(F:I→World)(hm:P.follows .mixedOrders=true)(hB:Region.lexB .any l.toArray=true)
  (hC:∃n,w.drew=F n) (h:wpQuiet P l.toArray (λw'=>∃n,w'=F n) (λa'=>∀w',(∃n,w'=F n)→Q .normal a' w') l a):(Code.region id l.toArray true).wp P Q a w:=
 wp_region_quiet (C:=λw'=>∃n,w'=F n) hm hB hC (by simpa using h)
theorem clsF(w:World):∃(I:Type) (F:I→World),Nonempty I∧(∀n,Chg (λ_=>False) w (F n))∧(∀W,Chg (λ_=>False) w W→∃n,W=F n):=
 ⟨{W:World // Chg (λ_=>False) w W},Subtype.val,⟨⟨w,Chg.refl _ _⟩⟩,λn=>n.2,λW h=>⟨⟨W,h⟩,rfl⟩⟩
theorem PV.cls{I:Type}{F:I→World}{w:World}(hF:∀n,Chg (λ_=>False) w (F n))(hA:∀W,Chg (λ_=>False) w W→∃n,W=F n){f:FuncId}{args:Array Value}{v:Value}{n:I}
  (h:Calls Tryz.prog f args (F n) (PV v (F n))):Calls Tryz.prog f args (F n) (λe w'=>e= .returned v∧∃m,w'=F m):=
 h.mono λe w' ⟨he,g⟩=>⟨he,hA _ ((hF n).trans g)⟩
theorem qF{I:Type}{F:I→World}{w:World}(hF:∀n,Chg (λ_=>False) w (F n)){p:Addr}{v:Value}(h:w.cell? p=some v)(n:I):(F n).cell? p=some v:=by
 rw[(hF n).cell (qP h) (λe=>e),h]
end Go.Proofs.YtnpihllannobgaaGreatDoor
