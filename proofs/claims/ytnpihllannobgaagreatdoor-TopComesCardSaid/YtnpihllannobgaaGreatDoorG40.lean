/- Steps of the proof, part G40. No condition. -/
import Derived.Test.YtnpihllannobgaaGreatDoorG39
import Derived.Test.YtnpihllannobgaaGreatDoorG32
import Derived.Test.YtnpihllannobgaaGreatDoorG38
import Derived.Test.YtnpihllannobgaaGreatDoorG33
import Derived.StillTailTactics
import Derived.Laws.CopyRow
namespace Go.Proofs.YtnpihllannobgaaGreatDoor
set_option linter.unusedVariables false
set_option linter.unusedSimpArgs false
set_option maxRecDepth 100000
set_option maxHeartbeats 32000000
open Go.ChangeShapes Go.WideShapes Go.ChangeAt Go.RowKit
structure Wo1(w:World)(wb g:Nat)(d:ByteArray):Prop where
 blk:w.heap[wb]? =some (.cells #[.slice (some ⟨g,1,none⟩) 1 1,.bool false] 117 (0,0))
 cell:w.cell? ⟨g,1,none⟩=some (.string d)
def Wo0(w:World)(wb:Nat):Prop:=∃A c,w.heap[wb]? =some (.cells #[.slice A 0 c,.bool false] 117 (0,0))
def PWo(v:Value)(wb:Nat)(w:World)(e:Ending)(w':World):Prop:=e= .returned v∧Wo0 w' wb∧Chg (λq=>q=wb) w w'
section
variable {d:ByteArray}{k:Int}{w:World}{wb g:Nat}
theorem cell2{b:Nat}{t:TypeId}{v0 v1:Value}(h:w.heap[b]? =some (.cells #[v0,v1] t (0,0))):w.cell? ⟨b,0,none⟩=some v0∧w.cell? ⟨b,1,none⟩=some v1:=by
 refine⟨?_,?_⟩ <;> rw[qJ h] <;> rfl
theorem wnext_any(h:Wo1 w wb g d):Calls Tryz.prog 139 #[.pointer (some ⟨wb,0,none⟩)] w (PWo (.string d) wb w):=by
 obtain⟨c0,c1⟩:=cell2 h.blk
 have f0:=qK h.blk 0
 have cg:=h.cell
 have HB:=qQ h.blk
 clear h
 go_enter Tryz.func139,Tryz.ntmps139
 go_wp2_with fail
 go_ret
 exact⟨rfl,⟨_,_,qB HB.out 0 _⟩,Chg.set _ _ _ rfl⟩
theorem Wo0.step{S:Nat→Prop}{w':World}(h:Wo0 w wb)(g:Chg S w w')(hS:¬S wb):Wo0 w' wb:=by
 obtain⟨A,c,h⟩:=h
 exact⟨A,c,Chg.keep g h hS⟩
theorem vw(h:Wo1 w wb g d)(hd:Dg k d):Calls Tryz.prog 132 #[.pointer (some ⟨wb,0,none⟩)] w (PWo (.int .i64 k) wb w):=by
 have HN:=qQ (wnext_any h)
 have HP:=qQ (λw=>parse_any hd w)
 have HF:=qQ (λw=>format_any hd w)
 have bq:(d.toList==d.toList)=true:=by simp
 clear h hd
 go_enter Tryz.func132,Tryz.ntmps132
 go_wp2_with fail
 with_reducible refine HN.out.mono ?_
 rintro en w1 ⟨rfl,h0,G⟩
 have H1:=qQ (And.intro h0 G)
 clear HN h0 G
 go_wp2_with fail
 (with_reducible refine (HP.out _).mono ?_)
 rintro en w2 ⟨rfl,G⟩
 obtain⟨A,c,hb⟩:=H1.out.1.step G (λe=>e)
 obtain⟨c0,c1⟩:=cell2 hb
 have f1:=qK hb 1
 have H2:=qQ (And.intro hb (H1.out.2.trans G.none))
 clear HP G hb
 go_wp2_with fail
 (with_reducible refine (HF.out _).mono ?_)
 rintro en w3 ⟨rfl,rfl⟩
 clear HF
 go_wp2_with fail
 go_ret
 refine⟨rfl,⟨_,_,qB H2.out.1 1 _⟩,H2.out.2.trans (Chg.set _ _ _ rfl)⟩
theorem wfrom_any(h:Wo1 w wb g d)(hd:Dg k d)(lo hi:Int)(h1:lo≤k)(h2:k≤hi):Calls Tryz.prog 129 #[.pointer (some ⟨wb,0,none⟩),.int .i64 lo,.int .i64 hi] w (PWo (.int .i64 k) wb w):=by
 have HN:=qQ (vw h hd)
 have b1:decide (k<lo)=false:=by simp;omega
 have b2:decide (hi<k)=false:=by simp;omega
 clear h hd h1 h2
 go_enter Tryz.func129,Tryz.ntmps129
 go_wp2_with fail
 with_reducible refine HN.out.mono ?_
 rintro en w1 ⟨rfl,h0,G⟩
 obtain⟨A,c,hb⟩:=h0
 obtain⟨c0,c1⟩:=cell2 hb
 have f1:=qK hb 1
 have H1:=qQ (And.intro hb G)
 clear HN hb G
 go_wp2_with fail
 go_ret
 refine⟨rfl,⟨_,_,qB H1.out.1 1 _⟩,H1.out.2.trans (Chg.set _ _ _ rfl)⟩
theorem wdone_any(h:Wo0 w wb):Calls Tryz.prog 91 #[.pointer (some ⟨wb,0,none⟩)] w (λe w'=>e= .returned (.bool true)∧w'=w):=by
 obtain⟨A,c,hb⟩:=h
 obtain⟨c0,c1⟩:=cell2 hb
 clear hb
 go_enter Tryz.func91,Tryz.ntmps91
 go_wp2_with fail
 go_ret
 exact⟨rfl,rfl⟩
end
section
variable {w:World}
theorem mul64_any(w:World):Calls Tryz.prog 265 #[.int .u64 1,.int .u64 16] w (λe w'=>e= .returned (.tuple #[.int .u64 0,.int .u64 16])∧w'=w):=by
 have b1:bits BinOp.and IntKind.u64 1 4294967295=1:=by decide+kernel
 have b2:bits BinOp.and IntKind.u64 16 4294967295=16:=by decide+kernel
 have b3:bits BinOp.and IntKind.u64 0 4294967295=0:=by decide+kernel
 go_enter Tryz.func265,Tryz.ntmps265
 go_wp2_with fail
 go_ret2
 exact⟨rfl,rfl⟩
theorem mul_any(w:World):Calls Tryz.prog 235 #[.int .u64 1,.int .u64 16] w (λe w'=>e= .returned (.tuple #[.int .u64 0,.int .u64 16])∧w'=w):=by
 have H:=qQ (mul64_any w)
 go_enter Tryz.func235,Tryz.ntmps235
 go_wp2_with fail
 with_reducible refine H.out.mono ?_
 rintro en w1 ⟨rfl,rfl⟩
 go_wp2_with fail
 go_ret2
 exact⟨rfl,rfl⟩
def zs16:Array Value:=#[.int .i64 0,.int .i64 0,.int .i64 0,.int .i64 0,.int .i64 0,.int .i64 0,.int .i64 0,.int .i64 0,.int .i64 0,.int .i64 0,.int .i64 0,.int .i64 0,.int .i64 0,.int .i64 0,.int .i64 0,.int .i64 0]
theorem copy0{wx:World}{b:Nat}(hb:wx.heap[b]? =some (.cells zs16 3 (0,0))) (o n dL dC sL sC:Nat) (src:Addr) (hn:n=Nat.min sL dL) (hs:∀j,j<n→wx.cell? (src.add j)=some (.int .i64 0)) (hf:o+n≤16)
  (hz:(zs16.toList.take o++List.replicate n (Value.int .i64 0)++zs16.toList.drop (o+n)).toArray=zs16):
  (Builtin.copy_ #[22,22] 3 #[.slice (some ⟨b,o,none⟩) dL dC,.slice (some src) sL sC]).run Tryz.prog wx= .ok (.int .i64 n) wx:=by
 have h:=run_copy_row Tryz.prog wx 22 22 3 3 b o dL dC src sL sC zs16 3 (List.replicate n (.int .i64 0)) Tryz.underlying22 (by kernel_rfl) hb (by simp[hn]) (λj v hj=>by
  rw[List.getElem?_replicate] at hj
  split at hj
  ·cases hj;exact hs j (by assumption)
  ·cases hj) (by rw[List.length_replicate];exact hf) (λv hv=>by rw[List.mem_replicate] at hv;rw[hv.2];rfl)
 rw[List.length_replicate,hz,setRow_self _ _ _ _ _ hb] at h
 exact h
theorem repeat_any{g:Nat}(hb:w.heap[g]? =some (.cells #[.int .i64 0] 3 (0,0))):Calls Tryz.prog 181 #[.slice (some ⟨g,0,none⟩) 1 1,.int .i64 16] w (λe w'=>e= .returned (.slice (some ⟨w.heap.size,0,none⟩) 16 16)∧w'.heap[w.heap.size]? =some (.cells zs16 3 (0,0))∧Chg (λ_=>False) w w'):=by
 have H:=qQ (mul_any w)
 have hk:∀wx:World,(Instr.makeSlice 22 (.int .i64 16) (.int .i64 16)).run Tryz.prog wx= .ok (.slice (some ⟨wx.heap.size,0,none⟩) 16 16) (wx.alloc (.cells zs16 3)):=λwx=>by kernel_rfl
 have hN:=qV w (.cells zs16 3)
 have hG:=Chg.alloc (λ_=>False) w (.cells zs16 3)
 have hg:(w.alloc (.cells zs16 3)).cell? ⟨g,0,none⟩=some (.int .i64 0):=by rw[qJ (Chg.keep hG hb (λe=>e))];rfl
 have h0:=copy0 hN 0 1 16 16 1 1 ⟨g,0,none⟩ rfl (λj hj=>by rw[show j=0 from Nat.lt_one_iff.1 hj];exact hg) (by decide) (by rfl)
 have HX:=qQ (And.intro hN hG)
 clear hN hG hg hb
 go_enter Tryz.func181,Tryz.ntmps181
 go_wp2_with fail
 with_reducible refine H.out.mono ?_
 rintro en w1 ⟨rfl,rfl⟩
 clear H
 go_wp2_with fail
 generalize w1.alloc (.cells zs16 3)=W at *
 obtain⟨b,hbe⟩:=qZ w1.heap.size
 rw[←hbe] at HX ⊢
 have HBE:=qQ hbe
 clear hk h0 hbe
 go_loopw [8] (λi wr=>∃(n:Nat),(n=1∨n=2∨n=4∨n=8∨n=16)∧i= .int .i64 n∧wr.heap[b]? =some (.cells zs16 3 (0,0))∧Chg (λ_=>False) w1 wr) (λi _=>16-(intOf i).toNat)
 case atStart=>exact⟨1,.inl rfl,rfl,HX.out⟩
 case round=>
  obtain⟨n,hn,rfl,hb,hg⟩:=hrel
  have hbd:wr.drew.heap[b]? =some (.cells zs16 3 (0,0)):=hb
  have HG:=qQ (And.intro hbd (hg.trans (Chg.drew _ wr)))
  have HG0:=qQ (And.intro hb hg)
  have hz:∀j,j<16→wr.drew.cell? ((⟨b,0,none⟩:Addr).add j)=some (.int .i64 0):=λj hj=>by
   rw[show (⟨b,0,none⟩:Addr).add j=⟨b,0+j,none⟩ by unfold Addr.add;split <;> simp_all,qJ hbd]
   have hj:j=0∨j=1∨j=2∨j=3∨j=4∨j=5∨j=6∨j=7∨j=8∨j=9∨j=10∨j=11∨j=12∨j=13∨j=14∨j=15:=by omega
   rcases hj with rfl|rfl|rfl|rfl|rfl|rfl|rfl|rfl|rfl|rfl|rfl|rfl|rfl|rfl|rfl|rfl <;> rfl
  rcases hn with rfl|rfl|rfl|rfl|rfl
  ·have h1:=copy0 hbd 1 1 15 15 1 16 ⟨b,0,none⟩ rfl (λj hj=>hz j (by omega)) (by decide) rfl
   clear hz hb hg hbd
   go_wp2_with fail
   with_reducible refine wp_region_still_lit (by kernel_rfl) (by kernel_rfl) ?_
   repeat (with_reducible refine wpStill_step (λK hK=>?_);go_simp;with_reducible refine hK _ ?_;clear hK K)
   with_reducible refine wpStill_nil ?_
   change Exit.inBlock _ _ _ _ wr.drew
   go_roundw
   case measure=>simp[intOf];decide
   case rel=>exact⟨_,_,_,_,_,_,_,_,_,_,_,_,_,_,⟨2,by omega,by go_num,HG.out⟩,rfl⟩
  ·have h1:=copy0 hbd 2 2 14 14 2 16 ⟨b,0,none⟩ rfl (λj hj=>hz j (by omega)) (by decide) rfl
   clear hz hb hg hbd
   go_wp2_with fail
   with_reducible refine wp_region_still_lit (by kernel_rfl) (by kernel_rfl) ?_
   repeat (with_reducible refine wpStill_step (λK hK=>?_);go_simp;with_reducible refine hK _ ?_;clear hK K)
   with_reducible refine wpStill_nil ?_
   change Exit.inBlock _ _ _ _ wr.drew
   go_roundw
   case measure=>simp[intOf];decide
   case rel=>exact⟨_,_,_,_,_,_,_,_,_,_,_,_,_,_,⟨4,by omega,by go_num,HG.out⟩,rfl⟩
  ·have h1:=copy0 hbd 4 4 12 12 4 16 ⟨b,0,none⟩ rfl (λj hj=>hz j (by omega)) (by decide) rfl
   clear hz hb hg hbd
   go_wp2_with fail
   with_reducible refine wp_region_still_lit (by kernel_rfl) (by kernel_rfl) ?_
   repeat (with_reducible refine wpStill_step (λK hK=>?_);go_simp;with_reducible refine hK _ ?_;clear hK K)
   with_reducible refine wpStill_nil ?_
   change Exit.inBlock _ _ _ _ wr.drew
   go_roundw
   case measure=>simp[intOf];decide
   case rel=>exact⟨_,_,_,_,_,_,_,_,_,_,_,_,_,_,⟨8,by omega,by go_num,HG.out⟩,rfl⟩
  ·have h1:=copy0 hbd 8 8 8 8 8 16 ⟨b,0,none⟩ rfl (λj hj=>hz j (by omega)) (by decide) rfl
   clear hz hb hg hbd
   go_wp2_with fail
   with_reducible refine wp_region_still_lit (by kernel_rfl) (by kernel_rfl) ?_
   repeat (with_reducible refine wpStill_step (λK hK=>?_);go_simp;with_reducible refine hK _ ?_;clear hK K)
   with_reducible refine wpStill_nil ?_
   change Exit.inBlock _ _ _ _ wr.drew
   go_roundw
   case measure=>simp[intOf];decide
   case rel=>exact⟨_,_,_,_,_,_,_,_,_,_,_,_,_,_,⟨16,by omega,by go_num,HG.out⟩,rfl⟩
  ·clear hz hb hg hbd
   go_wp2_with fail
   go_ret
   rw[←HBE.out]
   exact⟨rfl,HG0.out⟩
theorem row_any(w:World):Calls Tryz.prog 131 #[.int .i64 16,.int .i64 0] w (λe w'=>∃b,e= .returned (.slice (some ⟨b,0,none⟩) 16 16)∧w'.heap[b]? =some (.cells zs16 3 (0,0))∧w.heap.size≤b∧Chg (λ_=>False) w w'):=by
 have H:=qQ (repeat_any (qV w (.cells #[.int .i64 0] 3)))
 have HG:=qQ (Chg.alloc (λ_=>False) w (.cells #[.int .i64 0] 3))
 go_enter Tryz.func131,Tryz.ntmps131
 go_wp2_with fail
 with_reducible refine H.out.mono ?_
 rintro en w1 ⟨rfl,hb,G⟩
 rw[show (w.alloc (.cells #[.int .i64 0] 3)).heap.size=w.heap.size+1 by simp] at hb
 have H1:=qQ (And.intro hb G)
 clear hb G H
 go_wp2_with fail
 go_ret
 refine⟨_,rfl,H1.out.1,by simp,HG.out.trans H1.out.2⟩
end
def c5:Cfg:=⟨5,[6,13,11,22,8],[11,15,20,25],300,3,20,60,8,10⟩
def nearK:Nat→Array Value
 |0=>#[.int .u64 0,.int .u64 0,.int .u64 0,.int .u64 0,.int .u64 0]
 |1=>#[.int .u64 2,.int .u64 1,.int .u64 0,.int .u64 0,.int .u64 0]
 |2=>#[.int .u64 6,.int .u64 1,.int .u64 1,.int .u64 0,.int .u64 0]
 |3=>#[.int .u64 6,.int .u64 5,.int .u64 3,.int .u64 0,.int .u64 0]
 |4=>#[.int .u64 6,.int .u64 13,.int .u64 3,.int .u64 2,.int .u64 0]
 |5=>#[.int .u64 6,.int .u64 13,.int .u64 11,.int .u64 6,.int .u64 0]
 |_=>#[.int .u64 6,.int .u64 13,.int .u64 11,.int .u64 22,.int .u64 8]
theorem alloc5(w:World)(o0 o1 o2 o3 o4:Obj):∀W,W=((((w.alloc o0).alloc o1).alloc o2).alloc o3).alloc o4→W.heap[w.heap.size]? =some o0∧W.heap[w.heap.size+1]? =some o1∧W.heap[w.heap.size+1+1]? =some o2∧W.heap[w.heap.size+1+1+1]? =some o3∧W.heap[w.heap.size+1+1+1+1]? =some o4∧Chg (λ_=>False) w W:=by
 intro W h
 have s0:(w.alloc o0).heap.size=w.heap.size+1:=by simp
 have s1:((w.alloc o0).alloc o1).heap.size=w.heap.size+1+1:=by simp
 have s2:(((w.alloc o0).alloc o1).alloc o2).heap.size=w.heap.size+1+1+1:=by simp
 have s3:((((w.alloc o0).alloc o1).alloc o2).alloc o3).heap.size=w.heap.size+1+1+1+1:=by simp
 have g0:=Chg.alloc (λ_=>False) w o0
 have g1:=Chg.alloc (λ_=>False) (w.alloc o0) o1
 have g2:=Chg.alloc (λ_=>False) ((w.alloc o0).alloc o1) o2
 have g3:=Chg.alloc (λ_=>False) (((w.alloc o0).alloc o1).alloc o2) o3
 have g4:=Chg.alloc (λ_=>False) ((((w.alloc o0).alloc o1).alloc o2).alloc o3) o4
 have b0:=qV w o0
 have b1:=qV (w.alloc o0) o1
 have b2:=qV ((w.alloc o0).alloc o1) o2
 have b3:=qV (((w.alloc o0).alloc o1).alloc o2) o3
 have b4:=qV ((((w.alloc o0).alloc o1).alloc o2).alloc o3) o4
 rw[s0] at b1
 rw[s1] at b2
 rw[s2] at b3
 rw[s3] at b4
 rw[←h] at g4 b4
 have k3:=g3.trans g4
 have k2:=g2.trans k3
 have k1:=g1.trans k2
 exact⟨Chg.keep k1 b0 (λe=>e),Chg.keep k2 b1 (λe=>e),Chg.keep k3 b2 (λe=>e),Chg.keep g4 b3 (λe=>e),b4,g0.trans k1⟩
structure FiK(w0:World)(n nb hb cb pb:Nat)(N:Array Value)(w:World):Prop where
 n1:w.heap[n]? =some (.cells #[.int .i64 0,.slice none 0 0,.slice none 0 0,.int .i64 0,.int .i64 0,.int .i64 0,.int .i64 0,.int .i64 0,.int .i64 0] 26 (0,0))
 n2:w.heap[nb]? =some (.cells N 23 (0,0))
 n3:w.heap[hb]? =some (.cells #[.int .i64 11,.int .i64 15,.int .i64 20,.int .i64 25] 3 (0,0))
 n4:w.heap[cb]? =some (.cells #[.int .i64 5,.slice (some ⟨nb,0,none⟩) 5 5,.slice (some ⟨hb,0,none⟩) 4 4,.int .i64 300,.int .i64 3,.int .i64 20,.int .i64 60,.int .i64 8,.int .i64 10] 26 (0,0))
 n5:w.heap[pb]? =some (.cells #[.int .i64 0,.int .i64 1,.int .i64 0,.int .i64 2,.int .i64 1,.int .i64 2,.int .i64 1,.int .i64 3,.int .i64 2,.int .i64 3,.int .i64 3,.int .i64 4] 154 (0,0))
 g:Chg (λ_=>False) w0 w
 lt:w0.heap.size≤n∧n<nb∧nb<hb∧hb<cb∧cb<pb
section
variable {w0 w w':World}{n nb hb cb pb:Nat}{N:Array Value}
theorem FiK.kept(h:FiK w0 n nb hb cb pb N w)(g:Chg (λ_=>False) w w'):FiK w0 n nb hb cb pb N w':=
 ⟨Chg.keep g h.n1 (λe=>e),Chg.keep g h.n2 (λe=>e),Chg.keep g h.n3 (λe=>e),Chg.keep g h.n4 (λe=>e),Chg.keep g h.n5 (λe=>e),h.g.trans g,h.lt⟩
theorem FiK.set(h:FiK w0 n nb hb cb pb N w)(a:Nat)(v:Value):FiK w0 n nb hb cb pb (N.setIfInBounds a v) (w.setCell ⟨nb,a,none⟩ v):=by
 have g:Chg (λq=>q=nb) w (w.setCell ⟨nb,a,none⟩ v):=Chg.set _ _ _ rfl
 have hl:=h.lt
 refine⟨Chg.keep g h.n1 (by omega),qB h.n2 a v,Chg.keep g h.n3 (by omega),Chg.keep g h.n4 (by omega),Chg.keep g h.n5 (by omega),?_,h.lt⟩
 have k:Chg (λq=>w0.heap.size≤q) w (w.setCell ⟨nb,a,none⟩ v):=g.mono (λq _ e=>by omega)
 exact (h.g.none.trans k).fresh
theorem pair_set{x a b:Nat}{v:Value}(hx:w.heap[x]? =some (.cells #[.int .i64 a,.int .i64 b] 154 (0,0))) (q:Nat) (hne:x≠nb):(w.setCell ⟨nb,q,none⟩ v).heap[x]? =some (.cells #[.int .i64 a,.int .i64 b] 154 (0,0)):=
 Chg.keep (S:=λq=>q=nb) (Chg.set _ _ _ rfl) hx hne
end
theorem cfirst_any(w:World):Calls Tryz.prog 42 #[] w (λe w'=>∃nb hb,e= .returned (cfgV c5 (.slice (some ⟨nb,0,none⟩) 5 5) (.slice (some ⟨hb,0,none⟩) 4 4))∧w'.heap[nb]? =some (.cells (nearK 6) 23 (0,0))∧w'.heap[hb]? =some (.cells #[.int .i64 11,.int .i64 15,.int .i64 20,.int .i64 25] 3 (0,0))∧w.heap.size≤nb∧w.heap.size≤hb∧Chg (λ_=>False) w w'):=by
 have hk:∀wx:World,(Instr.makeSlice 24 (.int .i64 5) (.int .i64 5)).run Tryz.prog wx= .ok (.slice (some ⟨wx.heap.size,0,none⟩) 5 5) (wx.alloc (.cells (nearK 0) 23)):=λwx=>by kernel_rfl
 go_enter Tryz.func42,Tryz.ntmps42
 go_wp2_with fail
 obtain⟨b0,b1,b2,b3,b4,G⟩:=alloc5 w _ _ _ _ _ _ rfl
 have H0:=qQ (FiK.mk (N:=nearK 0) b0 b1 b2 b3 b4 G (by omega))
 clear b0 b1 b2 b3 b4 G
 obtain⟨n,hn⟩:=qZ w.heap.size
 have HL:=qQ (show w.heap.size≤n+1∧w.heap.size≤n+1+1∧n<n+1∧n+1<n+1+1 by omega)
 rw[←hn] at H0 ⊢
 generalize ((((w.alloc _).alloc _).alloc _).alloc _).alloc _=W at *
 generalize n+1=nb at *
 generalize nb+1=hb at *
 generalize hb+1=cb at *
 generalize cb+1=pb at *
 clear hk hn
 go_loopw [15] (λi wr=>∃(k:Nat),k≤6∧i= .int .i64 k∧FiK w n nb hb cb pb (nearK k) wr) (λi _=>6-(intOf i).toNat)
 case atStart=>exact⟨0,by omega,rfl,H0.out⟩
 case round=>
  obtain⟨k,hk,rfl,hF⟩:=hrel
  clear H0
  have HF:=qQ hF
  clear hF
  obtain rfl|rfl|rfl|rfl|rfl|rfl|rfl:k=0∨k=1∨k=2∨k=3∨k=4∨k=5∨k=6:=by omega
  ·have q0:wr.cell? ⟨pb,0,none⟩=some (.int .i64 0):=by rw[qJ HF.out.n5];rfl
   have q1:wr.cell? ⟨pb,1,none⟩=some (.int .i64 1):=by rw[qJ HF.out.n5];rfl
   go_wp2_with fail
   have hl:=HF.out.lt
   have hxl:=qX HF.out.n5
   have hx:=qV wr (.cells #[.int .i64 0,.int .i64 1] 154)
   have HX:=qQ (HF.out.kept (Chg.alloc (λ_=>False) wr (.cells #[.int .i64 0,.int .i64 1] 154)))
   obtain⟨x,hxe⟩:=qZ wr.heap.size
   rw[←hxe] at hx ⊢
   have HN:=qQ (show x≠nb by omega)
   clear q0 q1 hl hxl hxe
   generalize wr.alloc (.cells #[.int .i64 0,.int .i64 1] 154)=wx at *
   have HXX:=qQ hx
   have c0:wx.drew.cell? ⟨x,0,none⟩=some (.int .i64 0):=by rw[qJ (w:=wx.drew) hx];rfl
   have c1:wx.drew.cell? ⟨x,1,none⟩=some (.int .i64 1):=by rw[qJ (w:=wx.drew) hx];rfl
   have d1:wx.drew.cell? ⟨cb,1,none⟩=some (.slice (some ⟨nb,0,none⟩) 5 5):=by rw[qJ (w:=wx.drew) HX.out.n4];rfl
   have n0:wx.drew.cell? ⟨nb,0,none⟩=some (.int .u64 0):=by rw[qJ (w:=wx.drew) HX.out.n2];rfl
   have f0:wx.drew.frozen? ⟨nb,0,none⟩=false:=qK (w:=wx.drew) HX.out.n2 0
   have o1:bits BinOp.or IntKind.u64 0 2=2:=by decide+kernel
   clear hx
   go_still_tail 11,(by kernel_rfl)
   change wpList _ _ _ _ _ wx.drew
   go_wp2_with fail
   clear c0 c1 d1 n0 f0
   rw[o1]
   have HY:=qQ ((HX.out.set 0 (.int .u64 2)).kept (Chg.drew _ _))
   have hy:((wx.setCell ⟨nb,0,none⟩ (.int .u64 2)).drew).heap[x]? =some (.cells #[.int .i64 0,.int .i64 1] 154 (0,0)):=pair_set HXX.out _ HN.out
   generalize (wx.setCell ⟨nb,0,none⟩ (.int .u64 2)).drew=wy at *
   have c0:wy.drew.cell? ⟨x,0,none⟩=some (.int .i64 0):=by rw[qJ (w:=wy.drew) hy];rfl
   have c1:wy.drew.cell? ⟨x,1,none⟩=some (.int .i64 1):=by rw[qJ (w:=wy.drew) hy];rfl
   have d1:wy.drew.cell? ⟨cb,1,none⟩=some (.slice (some ⟨nb,0,none⟩) 5 5):=by rw[qJ (w:=wy.drew) HY.out.n4];rfl
   have n0:wy.drew.cell? ⟨nb,1,none⟩=some (.int .u64 0):=by rw[qJ (w:=wy.drew) HY.out.n2];rfl
   have f0:wy.drew.frozen? ⟨nb,1,none⟩=false:=qK (w:=wy.drew) HY.out.n2 1
   have o2:bits BinOp.or IntKind.u64 0 1=1:=by decide+kernel
   clear hy o1
   go_still_tail 11,(by kernel_rfl)
   change wpList _ _ _ _ _ wy.drew
   go_wp2_with fail
   exact⟨⟨1,by omega,rfl,(HY.out.set 1 (.int .u64 1)).kept (Chg.drew _ _)⟩,by simp[intOf]⟩
  ·have q0:wr.cell? ⟨pb,2,none⟩=some (.int .i64 0):=by rw[qJ HF.out.n5];rfl
   have q1:wr.cell? ⟨pb,3,none⟩=some (.int .i64 2):=by rw[qJ HF.out.n5];rfl
   go_wp2_with fail
   have hl:=HF.out.lt
   have hxl:=qX HF.out.n5
   have hx:=qV wr (.cells #[.int .i64 0,.int .i64 2] 154)
   have HX:=qQ (HF.out.kept (Chg.alloc (λ_=>False) wr (.cells #[.int .i64 0,.int .i64 2] 154)))
   obtain⟨x,hxe⟩:=qZ wr.heap.size
   rw[←hxe] at hx ⊢
   have HN:=qQ (show x≠nb by omega)
   clear q0 q1 hl hxl hxe
   generalize wr.alloc (.cells #[.int .i64 0,.int .i64 2] 154)=wx at *
   have HXX:=qQ hx
   have c0:wx.drew.cell? ⟨x,0,none⟩=some (.int .i64 0):=by rw[qJ (w:=wx.drew) hx];rfl
   have c1:wx.drew.cell? ⟨x,1,none⟩=some (.int .i64 2):=by rw[qJ (w:=wx.drew) hx];rfl
   have d1:wx.drew.cell? ⟨cb,1,none⟩=some (.slice (some ⟨nb,0,none⟩) 5 5):=by rw[qJ (w:=wx.drew) HX.out.n4];rfl
   have n0:wx.drew.cell? ⟨nb,0,none⟩=some (.int .u64 2):=by rw[qJ (w:=wx.drew) HX.out.n2];rfl
   have f0:wx.drew.frozen? ⟨nb,0,none⟩=false:=qK (w:=wx.drew) HX.out.n2 0
   have o1:bits BinOp.or IntKind.u64 2 4=6:=by decide+kernel
   clear hx
   go_still_tail 11,(by kernel_rfl)
   change wpList _ _ _ _ _ wx.drew
   go_wp2_with fail
   clear c0 c1 d1 n0 f0
   rw[o1]
   have HY:=qQ ((HX.out.set 0 (.int .u64 6)).kept (Chg.drew _ _))
   have hy:((wx.setCell ⟨nb,0,none⟩ (.int .u64 6)).drew).heap[x]? =some (.cells #[.int .i64 0,.int .i64 2] 154 (0,0)):=pair_set HXX.out _ HN.out
   generalize (wx.setCell ⟨nb,0,none⟩ (.int .u64 6)).drew=wy at *
   have c0:wy.drew.cell? ⟨x,0,none⟩=some (.int .i64 0):=by rw[qJ (w:=wy.drew) hy];rfl
   have c1:wy.drew.cell? ⟨x,1,none⟩=some (.int .i64 2):=by rw[qJ (w:=wy.drew) hy];rfl
   have d1:wy.drew.cell? ⟨cb,1,none⟩=some (.slice (some ⟨nb,0,none⟩) 5 5):=by rw[qJ (w:=wy.drew) HY.out.n4];rfl
   have n0:wy.drew.cell? ⟨nb,2,none⟩=some (.int .u64 0):=by rw[qJ (w:=wy.drew) HY.out.n2];rfl
   have f0:wy.drew.frozen? ⟨nb,2,none⟩=false:=qK (w:=wy.drew) HY.out.n2 2
   have o2:bits BinOp.or IntKind.u64 0 1=1:=by decide+kernel
   clear hy o1
   go_still_tail 11,(by kernel_rfl)
   change wpList _ _ _ _ _ wy.drew
   go_wp2_with fail
   exact⟨⟨2,by omega,rfl,(HY.out.set 2 (.int .u64 1)).kept (Chg.drew _ _)⟩,by simp[intOf]⟩
  ·have q0:wr.cell? ⟨pb,4,none⟩=some (.int .i64 1):=by rw[qJ HF.out.n5];rfl
   have q1:wr.cell? ⟨pb,5,none⟩=some (.int .i64 2):=by rw[qJ HF.out.n5];rfl
   go_wp2_with fail
   have hl:=HF.out.lt
   have hxl:=qX HF.out.n5
   have hx:=qV wr (.cells #[.int .i64 1,.int .i64 2] 154)
   have HX:=qQ (HF.out.kept (Chg.alloc (λ_=>False) wr (.cells #[.int .i64 1,.int .i64 2] 154)))
   obtain⟨x,hxe⟩:=qZ wr.heap.size
   rw[←hxe] at hx ⊢
   have HN:=qQ (show x≠nb by omega)
   clear q0 q1 hl hxl hxe
   generalize wr.alloc (.cells #[.int .i64 1,.int .i64 2] 154)=wx at *
   have HXX:=qQ hx
   have c0:wx.drew.cell? ⟨x,0,none⟩=some (.int .i64 1):=by rw[qJ (w:=wx.drew) hx];rfl
   have c1:wx.drew.cell? ⟨x,1,none⟩=some (.int .i64 2):=by rw[qJ (w:=wx.drew) hx];rfl
   have d1:wx.drew.cell? ⟨cb,1,none⟩=some (.slice (some ⟨nb,0,none⟩) 5 5):=by rw[qJ (w:=wx.drew) HX.out.n4];rfl
   have n0:wx.drew.cell? ⟨nb,1,none⟩=some (.int .u64 1):=by rw[qJ (w:=wx.drew) HX.out.n2];rfl
   have f0:wx.drew.frozen? ⟨nb,1,none⟩=false:=qK (w:=wx.drew) HX.out.n2 1
   have o1:bits BinOp.or IntKind.u64 1 4=5:=by decide+kernel
   clear hx
   go_still_tail 11,(by kernel_rfl)
   change wpList _ _ _ _ _ wx.drew
   go_wp2_with fail
   clear c0 c1 d1 n0 f0
   rw[o1]
   have HY:=qQ ((HX.out.set 1 (.int .u64 5)).kept (Chg.drew _ _))
   have hy:((wx.setCell ⟨nb,1,none⟩ (.int .u64 5)).drew).heap[x]? =some (.cells #[.int .i64 1,.int .i64 2] 154 (0,0)):=pair_set HXX.out _ HN.out
   generalize (wx.setCell ⟨nb,1,none⟩ (.int .u64 5)).drew=wy at *
   have c0:wy.drew.cell? ⟨x,0,none⟩=some (.int .i64 1):=by rw[qJ (w:=wy.drew) hy];rfl
   have c1:wy.drew.cell? ⟨x,1,none⟩=some (.int .i64 2):=by rw[qJ (w:=wy.drew) hy];rfl
   have d1:wy.drew.cell? ⟨cb,1,none⟩=some (.slice (some ⟨nb,0,none⟩) 5 5):=by rw[qJ (w:=wy.drew) HY.out.n4];rfl
   have n0:wy.drew.cell? ⟨nb,2,none⟩=some (.int .u64 1):=by rw[qJ (w:=wy.drew) HY.out.n2];rfl
   have f0:wy.drew.frozen? ⟨nb,2,none⟩=false:=qK (w:=wy.drew) HY.out.n2 2
   have o2:bits BinOp.or IntKind.u64 1 2=3:=by decide+kernel
   clear hy o1
   go_still_tail 11,(by kernel_rfl)
   change wpList _ _ _ _ _ wy.drew
   go_wp2_with fail
   exact⟨⟨3,by omega,rfl,(HY.out.set 2 (.int .u64 3)).kept (Chg.drew _ _)⟩,by simp[intOf]⟩
  ·have q0:wr.cell? ⟨pb,6,none⟩=some (.int .i64 1):=by rw[qJ HF.out.n5];rfl
   have q1:wr.cell? ⟨pb,7,none⟩=some (.int .i64 3):=by rw[qJ HF.out.n5];rfl
   go_wp2_with fail
   have hl:=HF.out.lt
   have hxl:=qX HF.out.n5
   have hx:=qV wr (.cells #[.int .i64 1,.int .i64 3] 154)
   have HX:=qQ (HF.out.kept (Chg.alloc (λ_=>False) wr (.cells #[.int .i64 1,.int .i64 3] 154)))
   obtain⟨x,hxe⟩:=qZ wr.heap.size
   rw[←hxe] at hx ⊢
   have HN:=qQ (show x≠nb by omega)
   clear q0 q1 hl hxl hxe
   generalize wr.alloc (.cells #[.int .i64 1,.int .i64 3] 154)=wx at *
   have HXX:=qQ hx
   have c0:wx.drew.cell? ⟨x,0,none⟩=some (.int .i64 1):=by rw[qJ (w:=wx.drew) hx];rfl
   have c1:wx.drew.cell? ⟨x,1,none⟩=some (.int .i64 3):=by rw[qJ (w:=wx.drew) hx];rfl
   have d1:wx.drew.cell? ⟨cb,1,none⟩=some (.slice (some ⟨nb,0,none⟩) 5 5):=by rw[qJ (w:=wx.drew) HX.out.n4];rfl
   have n0:wx.drew.cell? ⟨nb,1,none⟩=some (.int .u64 5):=by rw[qJ (w:=wx.drew) HX.out.n2];rfl
   have f0:wx.drew.frozen? ⟨nb,1,none⟩=false:=qK (w:=wx.drew) HX.out.n2 1
   have o1:bits BinOp.or IntKind.u64 5 8=13:=by decide+kernel
   clear hx
   go_still_tail 11,(by kernel_rfl)
   change wpList _ _ _ _ _ wx.drew
   go_wp2_with fail
   clear c0 c1 d1 n0 f0
   rw[o1]
   have HY:=qQ ((HX.out.set 1 (.int .u64 13)).kept (Chg.drew _ _))
   have hy:((wx.setCell ⟨nb,1,none⟩ (.int .u64 13)).drew).heap[x]? =some (.cells #[.int .i64 1,.int .i64 3] 154 (0,0)):=pair_set HXX.out _ HN.out
   generalize (wx.setCell ⟨nb,1,none⟩ (.int .u64 13)).drew=wy at *
   have c0:wy.drew.cell? ⟨x,0,none⟩=some (.int .i64 1):=by rw[qJ (w:=wy.drew) hy];rfl
   have c1:wy.drew.cell? ⟨x,1,none⟩=some (.int .i64 3):=by rw[qJ (w:=wy.drew) hy];rfl
   have d1:wy.drew.cell? ⟨cb,1,none⟩=some (.slice (some ⟨nb,0,none⟩) 5 5):=by rw[qJ (w:=wy.drew) HY.out.n4];rfl
   have n0:wy.drew.cell? ⟨nb,3,none⟩=some (.int .u64 0):=by rw[qJ (w:=wy.drew) HY.out.n2];rfl
   have f0:wy.drew.frozen? ⟨nb,3,none⟩=false:=qK (w:=wy.drew) HY.out.n2 3
   have o2:bits BinOp.or IntKind.u64 0 2=2:=by decide+kernel
   clear hy o1
   go_still_tail 11,(by kernel_rfl)
   change wpList _ _ _ _ _ wy.drew
   go_wp2_with fail
   exact⟨⟨4,by omega,rfl,(HY.out.set 3 (.int .u64 2)).kept (Chg.drew _ _)⟩,by simp[intOf]⟩
  ·have q0:wr.cell? ⟨pb,8,none⟩=some (.int .i64 2):=by rw[qJ HF.out.n5];rfl
   have q1:wr.cell? ⟨pb,9,none⟩=some (.int .i64 3):=by rw[qJ HF.out.n5];rfl
   go_wp2_with fail
   have hl:=HF.out.lt
   have hxl:=qX HF.out.n5
   have hx:=qV wr (.cells #[.int .i64 2,.int .i64 3] 154)
   have HX:=qQ (HF.out.kept (Chg.alloc (λ_=>False) wr (.cells #[.int .i64 2,.int .i64 3] 154)))
   obtain⟨x,hxe⟩:=qZ wr.heap.size
   rw[←hxe] at hx ⊢
   have HN:=qQ (show x≠nb by omega)
   clear q0 q1 hl hxl hxe
   generalize wr.alloc (.cells #[.int .i64 2,.int .i64 3] 154)=wx at *
   have HXX:=qQ hx
   have c0:wx.drew.cell? ⟨x,0,none⟩=some (.int .i64 2):=by rw[qJ (w:=wx.drew) hx];rfl
   have c1:wx.drew.cell? ⟨x,1,none⟩=some (.int .i64 3):=by rw[qJ (w:=wx.drew) hx];rfl
   have d1:wx.drew.cell? ⟨cb,1,none⟩=some (.slice (some ⟨nb,0,none⟩) 5 5):=by rw[qJ (w:=wx.drew) HX.out.n4];rfl
   have n0:wx.drew.cell? ⟨nb,2,none⟩=some (.int .u64 3):=by rw[qJ (w:=wx.drew) HX.out.n2];rfl
   have f0:wx.drew.frozen? ⟨nb,2,none⟩=false:=qK (w:=wx.drew) HX.out.n2 2
   have o1:bits BinOp.or IntKind.u64 3 8=11:=by decide+kernel
   clear hx
   go_still_tail 11,(by kernel_rfl)
   change wpList _ _ _ _ _ wx.drew
   go_wp2_with fail
   clear c0 c1 d1 n0 f0
   rw[o1]
   have HY:=qQ ((HX.out.set 2 (.int .u64 11)).kept (Chg.drew _ _))
   have hy:((wx.setCell ⟨nb,2,none⟩ (.int .u64 11)).drew).heap[x]? =some (.cells #[.int .i64 2,.int .i64 3] 154 (0,0)):=pair_set HXX.out _ HN.out
   generalize (wx.setCell ⟨nb,2,none⟩ (.int .u64 11)).drew=wy at *
   have c0:wy.drew.cell? ⟨x,0,none⟩=some (.int .i64 2):=by rw[qJ (w:=wy.drew) hy];rfl
   have c1:wy.drew.cell? ⟨x,1,none⟩=some (.int .i64 3):=by rw[qJ (w:=wy.drew) hy];rfl
   have d1:wy.drew.cell? ⟨cb,1,none⟩=some (.slice (some ⟨nb,0,none⟩) 5 5):=by rw[qJ (w:=wy.drew) HY.out.n4];rfl
   have n0:wy.drew.cell? ⟨nb,3,none⟩=some (.int .u64 2):=by rw[qJ (w:=wy.drew) HY.out.n2];rfl
   have f0:wy.drew.frozen? ⟨nb,3,none⟩=false:=qK (w:=wy.drew) HY.out.n2 3
   have o2:bits BinOp.or IntKind.u64 2 4=6:=by decide+kernel
   clear hy o1
   go_still_tail 11,(by kernel_rfl)
   change wpList _ _ _ _ _ wy.drew
   go_wp2_with fail
   exact⟨⟨5,by omega,rfl,(HY.out.set 3 (.int .u64 6)).kept (Chg.drew _ _)⟩,by simp[intOf]⟩
  ·have q0:wr.cell? ⟨pb,10,none⟩=some (.int .i64 3):=by rw[qJ HF.out.n5];rfl
   have q1:wr.cell? ⟨pb,11,none⟩=some (.int .i64 4):=by rw[qJ HF.out.n5];rfl
   go_wp2_with fail
   have hl:=HF.out.lt
   have hxl:=qX HF.out.n5
   have hx:=qV wr (.cells #[.int .i64 3,.int .i64 4] 154)
   have HX:=qQ (HF.out.kept (Chg.alloc (λ_=>False) wr (.cells #[.int .i64 3,.int .i64 4] 154)))
   obtain⟨x,hxe⟩:=qZ wr.heap.size
   rw[←hxe] at hx ⊢
   have HN:=qQ (show x≠nb by omega)
   clear q0 q1 hl hxl hxe
   generalize wr.alloc (.cells #[.int .i64 3,.int .i64 4] 154)=wx at *
   have HXX:=qQ hx
   have c0:wx.drew.cell? ⟨x,0,none⟩=some (.int .i64 3):=by rw[qJ (w:=wx.drew) hx];rfl
   have c1:wx.drew.cell? ⟨x,1,none⟩=some (.int .i64 4):=by rw[qJ (w:=wx.drew) hx];rfl
   have d1:wx.drew.cell? ⟨cb,1,none⟩=some (.slice (some ⟨nb,0,none⟩) 5 5):=by rw[qJ (w:=wx.drew) HX.out.n4];rfl
   have n0:wx.drew.cell? ⟨nb,3,none⟩=some (.int .u64 6):=by rw[qJ (w:=wx.drew) HX.out.n2];rfl
   have f0:wx.drew.frozen? ⟨nb,3,none⟩=false:=qK (w:=wx.drew) HX.out.n2 3
   have o1:bits BinOp.or IntKind.u64 6 16=22:=by decide+kernel
   clear hx
   go_still_tail 11,(by kernel_rfl)
   change wpList _ _ _ _ _ wx.drew
   go_wp2_with fail
   clear c0 c1 d1 n0 f0
   rw[o1]
   have HY:=qQ ((HX.out.set 3 (.int .u64 22)).kept (Chg.drew _ _))
   have hy:((wx.setCell ⟨nb,3,none⟩ (.int .u64 22)).drew).heap[x]? =some (.cells #[.int .i64 3,.int .i64 4] 154 (0,0)):=pair_set HXX.out _ HN.out
   generalize (wx.setCell ⟨nb,3,none⟩ (.int .u64 22)).drew=wy at *
   have c0:wy.drew.cell? ⟨x,0,none⟩=some (.int .i64 3):=by rw[qJ (w:=wy.drew) hy];rfl
   have c1:wy.drew.cell? ⟨x,1,none⟩=some (.int .i64 4):=by rw[qJ (w:=wy.drew) hy];rfl
   have d1:wy.drew.cell? ⟨cb,1,none⟩=some (.slice (some ⟨nb,0,none⟩) 5 5):=by rw[qJ (w:=wy.drew) HY.out.n4];rfl
   have n0:wy.drew.cell? ⟨nb,4,none⟩=some (.int .u64 0):=by rw[qJ (w:=wy.drew) HY.out.n2];rfl
   have f0:wy.drew.frozen? ⟨nb,4,none⟩=false:=qK (w:=wy.drew) HY.out.n2 4
   have o2:bits BinOp.or IntKind.u64 0 8=8:=by decide+kernel
   clear hy o1
   go_still_tail 11,(by kernel_rfl)
   change wpList _ _ _ _ _ wy.drew
   go_wp2_with fail
   exact⟨⟨6,by omega,rfl,(HY.out.set 4 (.int .u64 8)).kept (Chg.drew _ _)⟩,by simp[intOf]⟩
  ·obtain⟨b0,b1,b2,b3,b4,b5,b6,b7,b8⟩:=kW HF.out.n4
   obtain⟨a0,a1,a2,a3,a4,a5,a6,a7,a8⟩:=kW HF.out.n1
   have f0:=qK HF.out.n1 0
   have f1:=qK HF.out.n1 1
   have f2:=qK HF.out.n1 2
   have f3:=qK HF.out.n1 3
   have f4:=qK HF.out.n1 4
   have f5:=qK HF.out.n1 5
   have f6:=qK HF.out.n1 6
   have f7:=qK HF.out.n1 7
   have f8:=qK HF.out.n1 8
   go_wp2_with fail
   have hl:=HF.out.lt
   have B:=qB (qB (qB (qB (qB (qB (qB (qB (qB HF.out.n1 0 (.int .i64 5)) 1 (.slice (some ⟨nb,0,none⟩) 5 5)) 2 (.slice (some ⟨hb,0,none⟩) 4 4)) 3 (.int .i64 300)) 4 (.int .i64 3)) 5 (.int .i64 20)) 6 (.int .i64 60)) 7 (.int .i64 8)) 8 (.int .i64 10)
   have G:Chg (λq=>q=n) wr _:=((((((((Chg.set (S:=λq=>q=n) wr ⟨n,0,none⟩ (.int .i64 5) rfl).trans (Chg.set _ ⟨n,1,none⟩ (.slice (some ⟨nb,0,none⟩) 5 5) rfl)).trans (Chg.set _ ⟨n,2,none⟩ (.slice (some ⟨hb,0,none⟩) 4 4) rfl)).trans (Chg.set _ ⟨n,3,none⟩ (.int .i64 300) rfl)).trans (Chg.set _ ⟨n,4,none⟩ (.int .i64 3) rfl)).trans (Chg.set _ ⟨n,5,none⟩ (.int .i64 20) rfl)).trans (Chg.set _ ⟨n,6,none⟩ (.int .i64 60) rfl)).trans (Chg.set _ ⟨n,7,none⟩ (.int .i64 8) rfl)).trans (Chg.set _ ⟨n,8,none⟩ (.int .i64 10) rfl)
   have N2:=Chg.keep G HF.out.n2 (by omega)
   have N3:=Chg.keep G HF.out.n3 (by omega)
   have GG:Chg (λq=>w.heap.size≤q) wr _:=G.mono (λq _ e=>by omega)
   have G2:=(HF.out.g.none.trans GG).fresh
   clear a0 a1 a2 a3 a4 a5 a6 a7 a8 b0 b1 b2 b3 b4 b5 b6 b7 b8 f0 f1 f2 f3 f4 f5 f6 f7 f8 G GG
   generalize ((((((((wr.setCell ⟨n,0,none⟩ _).setCell ⟨n,1,none⟩ _).setCell ⟨n,2,none⟩ _).setCell ⟨n,3,none⟩ _).setCell ⟨n,4,none⟩ _).setCell ⟨n,5,none⟩ _).setCell ⟨n,6,none⟩ _).setCell ⟨n,7,none⟩ _).setCell ⟨n,8,none⟩ _=wz at *
   have B:wz.heap[n]? =some (.cells #[.int .i64 5,.slice (some ⟨nb,0,none⟩) 5 5,.slice (some ⟨hb,0,none⟩) 4 4,.int .i64 300,.int .i64 3,.int .i64 20,.int .i64 60,.int .i64 8,.int .i64 10] 26 (0,0)):=B
   obtain⟨k0,k1,k2,k3,k4,k5,k6,k7,k8⟩:=kW B
   exact bodyPost_ret (v:=cfgV c5 (.slice (some ⟨nb,0,none⟩) 5 5) (.slice (some ⟨hb,0,none⟩) 4 4)) (by simp[results,Tryz.results42,go_sem,cfgV,c5,k0,k1,k2,k3,k4,k5,k6,k7,k8]) rfl ⟨nb,hb,rfl,N2,N3,by omega,by omega,G2⟩
def d5:Dr:=⟨[0,0,0,0,0,0,0,0,0,0,0,0,0,0,0,0],[],[],[]⟩
theorem c5_ok:CfgOk c5:=by
 refine⟨by decide,by decide,rfl,?_,⟨by decide,by decide,by decide,by decide⟩,by decide,by decide,by decide,by decide,by decide,by decide⟩
 intro i z hz
 have hz:([6,13,11,22,8]:List Int)[i]? =some z:=hz
 show 0≤z∧z<65536∧z<2^5∧z / 2^i % 2=0
 match i,hz with
 |0,hz=>cases hz;decide
 |1,hz=>cases hz;decide
 |2,hz=>cases hz;decide
 |3,hz=>cases hz;decide
 |4,hz=>cases hz;decide
 |(n+5),hz=>simp at hz
def z5(a m:Int):Bool:=decide (-m≤a)&&decide (a≤m)
def n5(i:Nat)(s:NSt):Bool:=
 (z5 s.base 1000&&(z5 s.sum 1000&&(decide (0≤s.slots)&&(decide (s.slots≤1000)&&(decide (0≤s.listened)&&(decide (s.listened≤1000)&&(decide (0≤s.seq)&&decide (s.seq≤255))))))))&&
  ((i==0|| !s.synced)&&(s.q.isEmpty&&(s.ev.isEmpty&&(!s.sopen&&s.p.isNone))))
theorem n5_of{i:Nat}{s:NSt}(h:n5 i s=true):((-1000≤s.base∧s.base≤1000)∧(-1000≤s.sum∧s.sum≤1000)∧(0≤s.slots∧s.slots≤1000)∧(0≤s.listened∧s.listened≤1000)∧(0≤s.seq∧s.seq≤255))∧
  (i=0∨s.synced=false)∧s.q=[]∧s.ev=[]∧s.sopen=false∧s.p=none:=by
 simp only[n5,z5,Bool.and_eq_true,Bool.or_eq_true,decide_eq_true_eq,List.isEmpty_iff,Bool.not_eq_true',beq_iff_eq,Option.isNone_iff_eq_none] at h
 obtain⟨⟨⟨a1,a2⟩,⟨a3,a4⟩,a5,a6,a7,a8,a9,b0⟩,b1,b2,b3,b4,b5⟩:=h
 exact⟨⟨⟨a1,a2⟩,⟨a3,a4⟩,⟨a5,a6⟩,⟨a7,a8⟩,a9,b0⟩,b1,b2,b3,b4,b5⟩
theorem n5_un{i:Nat}{s:NSt}{P:Prop}(h:i=0∨s.synced=false)(hy:s.synced=true)(h0:i≠0):P:=by
 rcases h with e|e
 ·exact absurd e h0
 ·rw[e] at hy;cases hy
theorem n5_plan{i:Nat}{s:NSt}(h:n5 i s=true):PlanOk i s:=by
 obtain⟨⟨a1,a2,a3,a4,a5⟩,b1,b2,b3,b4,b5⟩:=n5_of h
 exact⟨λhy h0=>n5_un b1 hy h0,λhf=>absurd (by unfold qM;rw[b5]) hf,by rw[b2];exact⟨by simp,λp hp=>by cases hp⟩,a5,by omega,by omega,by omega⟩
theorem n5_hear{i:Nat}{s:NSt}(h:n5 i s=true)(hp:∀n L,s.paths n=some L→L.length≤100000):s.ev=[]∧(-1000000000000000≤s.base∧s.base≤1000000000000000)∧(s.synced=true→i≠0→s.p≠none∧s.k≠none)∧(s.q.length≤900∧∀n L,s.paths n=some L→L.length≤100000):=by
 obtain⟨⟨a1,a2,a3,a4,a5⟩,b1,b2,b3,b4,b5⟩:=n5_of h
 exact⟨b3,by omega,λhy h0=>n5_un b1 hy h0,by rw[b2];simp,hp⟩
def b5(t:Int)(x:WM):Bool:=
 (x.bound.all (λz=>z5 z 1)&&((qR d5 5 x).bound.length==5&&((qR d5 5 x).bound.all (λz=>z5 z 1)&&(zp c5 d5 5 t x).air.all (λz=>z5 z.2.2 1000&&decide (z.2.1.length≤1000)))))&&
 ((List.range 5).all (λq=>n5 q (x.nd q)&&(n5 q ((iter (jT c5 t) q (slotA d5 c5 x)).nd q)&&(n5 q ((iter (qj c5 d5 (qR d5 5 x).bound t qG) q (kD c5 d5 t x)).nd q)&&
  (n5 q ((iter (ackV c5 d5 (qR d5 5 x).bound t) q (zW c5 d5 5 t qG x)).nd q)&&(n5 q ((iter (endV c5 (qR d5 5 x).bound t) q (vY c5 d5 5 t qG x)).nd q)&&
  decide (((jk c5 d5 (iter (ackV c5 d5 (qR d5 5 x).bound t) q (zW c5 d5 5 t qG x)) q).getD []).length≤1000))))))&&
 (List.range 6).all (λq=>(iter (qj c5 d5 (qR d5 5 x).bound t qG) q (kD c5 d5 t x)).ev.isEmpty&&((iter (ackV c5 d5 (qR d5 5 x).bound t) q (zW c5 d5 5 t qG x)).ev.isEmpty&&(iter (endV c5 (qR d5 5 x).bound t) q (vY c5 d5 5 t qG x)).ev.isEmpty)))
theorem all5{f:Nat→Bool}{n q:Nat}(h:(List.range n).all f=true)(hq:q<n):f q=true:=List.all_eq_true.1 h q (List.mem_range.2 hq)
theorem z5_of{a m:Int}(h:z5 a m=true): -m≤a∧a≤m:=by
 simp only[z5,Bool.and_eq_true,decide_eq_true_eq] at h
 exact h
theorem b5_ok{t:Int}{x:WM}(h:b5 t x=true)(hp:∀q,q<5→∀n L,((iter (qj c5 d5 (qR d5 5 x).bound t qG) q (kD c5 d5 t x)).nd q).paths n=some L→L.length≤100000):SlotOkV c5 d5 qG t x:=by
 simp only[b5,Bool.and_eq_true] at h
 obtain⟨⟨h1,h2,h3,h4⟩,h5,h6⟩:=h
 have k5:=λq (hq:q<5)=>by
  have:=all5 h5 hq
  simp only[Bool.and_eq_true] at this
  exact this
 have k6:=λq (hq:q<6)=>by
  have:=all5 h6 hq
  simp only[Bool.and_eq_true,List.isEmpty_iff] at this
  exact this
 have hair:∀j,OffOk ((zp c5 d5 5 t x).snd j).2.2∧((zp c5 d5 5 t x).snd j).2.1.length≤1000:=λj=>by
  unfold WM.snd
  by_cases hj:j<(zp c5 d5 5 t x).air.length
  ·rw[List.getD_eq_getElem?_getD,List.getElem?_eq_getElem hj,Option.getD_some]
   have:=List.all_eq_true.1 h4 _ (List.getElem_mem hj)
   simp only[Bool.and_eq_true,decide_eq_true_eq] at this
   have h9:=z5_of this.1
   exact⟨⟨by show-1000000000000000000≤_;omega,by show _≤(1000000000000000000:Int);omega⟩,this.2⟩
  ·rw[List.getD_eq_getElem?_getD,List.getElem?_eq_none (by omega)]
   exact⟨⟨by decide,by decide⟩,by decide⟩
 have ha:∀q,q≤5→(iter (qj c5 d5 (qR d5 5 x).bound t qG) q (kD c5 d5 t x)).air=(zp c5 d5 5 t x).air:=λq _=>(iterV_air c5 d5 _ t qG (kD c5 d5 t x) q).1
 have hs:∀q,q≤5→∀j,(iter (qj c5 d5 (qR d5 5 x).bound t qG) q (kD c5 d5 t x)).snd j=(zp c5 d5 5 t x).snd j:=λq hq j=>by unfold WM.snd;rw[ha q hq]
 refine⟨λi hi=>?_,λi=>?_,⟨beq_iff_eq.1 h2,λz hz=>?_⟩,λq hq=>?_,λj=>(hair j).1,λq hq=>?_,λq hq=>?_,λq hq _=>?_,λq hq=>?_,λq hq=>?_,λq hq=>?_⟩
 ·obtain⟨⟨a1,a2,a3,a4,a5⟩,_⟩:=n5_of (k5 i hi).1
  exact⟨by omega,by omega,by omega⟩
 ·unfold atL
  by_cases hj:i<x.bound.length
  ·rw[List.getD_eq_getElem?_getD,List.getElem?_eq_getElem hj,Option.getD_some]
   have h9:=z5_of (List.all_eq_true.1 h1 _ (List.getElem_mem hj))
   exact⟨h9.1,by show _≤(1000000000:Int);omega⟩
  ·rw[List.getD_eq_getElem?_getD,List.getElem?_eq_none (by omega)]
   exact⟨by decide,by decide⟩
 ·have h9:=z5_of (List.all_eq_true.1 h3 z hz)
  exact⟨h9.1,by omega⟩
 ·exact n5_plan (k5 q hq).2.1
 ·intro _
  refine⟨n5_hear (k5 q hq).2.2.1 (hp q hq),λj hj=>?_,λ_ b hb=>by cases hb⟩
  have:=(hair j).2
  have e:=hs q (Nat.le_of_lt hq) j
  show ((iter (qj c5 d5 (qR d5 5 x).bound t qG) q (kD c5 d5 t x)).snd j).2.1.length≤100000
  rw[e];omega
 ·show (iter (qj c5 d5 (qR d5 5 x).bound t qG) q (kD c5 d5 t x)).ev.length≤100000
  rw[(k6 q (Nat.lt_succ_of_le hq)).1];simp
 ·show ((zW c5 d5 5 t qG x).snd q).2.1.length≤100000∧AckOkV c5 q ((iter (ackV c5 d5 (qR d5 5 x).bound t) q (zW c5 d5 5 t qG x)).nd q) ((jk c5 d5 (iter (ackV c5 d5 (qR d5 5 x).bound t) q (zW c5 d5 5 t qG x)) q).getD []) t
  have k:=(k5 q hq).2.2.2
  have e:=hs 5 (Nat.le_refl _) q
  have e3:zW c5 d5 5 t qG x=iter (qj c5 d5 (qR d5 5 x).bound t qG) 5 (kD c5 d5 t x):=rfl
  rw[←e3] at e
  have kl:=of_decide_eq_true k.2.2
  have kn:=n5_of k.1
  have kh:=(hair q).2
  rw[e]
  generalize (zp c5 d5 5 t x).snd q=z at *
  generalize (jk c5 d5 (iter (ackV c5 d5 (qR d5 5 x).bound t) q (zW c5 d5 5 t qG x)) q).getD []=L at *
  generalize (iter (ackV c5 d5 (qR d5 5 x).bound t) q (zW c5 d5 5 t qG x)).nd q=s at *
  obtain⟨_,_,_,b3,b4,_⟩:=kn
  exact⟨by omega,b3,by omega,.inl (.inr (.inl b4))⟩
 ·show (iter (ackV c5 d5 (qR d5 5 x).bound t) q (zW c5 d5 5 t qG x)).ev.length≤100000
  rw[(k6 q (Nat.lt_succ_of_le hq)).2.1];simp
 ·obtain⟨_,b1,_,b3,_,_⟩:=n5_of (k5 q hq).2.2.2.2.1
  exact⟨b3,.inl b1⟩
 ·show (iter (endV c5 (qR d5 5 x).bound t) q (vY c5 d5 5 t qG x)).ev.length≤100000
  rw[(k6 q (Nat.lt_succ_of_le hq)).2.2];simp
def w5a:WM:=qp c5 d5 5 0 qG (newW c5)
def w5b:WM:=qp c5 d5 5 1 qG (zX w5a)
theorem w5_facts:w5a.ev.length=0∧w5b.ev.length=0∧atL w5b.bound 3= -1∧atL w5b.bound 0=0∧offN (w5b.nd 3)=0:=by decide+kernel
theorem w5_nb:(n5 3 ((zX w5b).nd 3)=true)∧(zX w5b).bound.length=5:=by decide+kernel
theorem w5_b0:b5 0 (newW c5)=true:=by decide+kernel
theorem w5_b1:b5 1 (zX w5a)=true:=by decide+kernel
theorem nop{f g:Int→Option (List Int)}(h:f=g)(hg:∀n,g n=none):∀n L,f n=some L→L.length≤100000:=λn L k=>by rw[h,hg] at k;cases k
def noP:Int→Option (List Int):=λ_=>none
theorem w5_p0:∀q,q<5→((iter (qj c5 d5 (qR d5 5 (newW c5)).bound 0 qG) q (kD c5 d5 0 (newW c5))).nd q).paths=noP
 |0,_=>by kernel_rfl
 |1,_=>by kernel_rfl
 |2,_=>by kernel_rfl
 |3,_=>by kernel_rfl
 |4,_=>by kernel_rfl
 |(n+5),h=>absurd h (by omega)
theorem w5_p1:∀q,q<5→((iter (qj c5 d5 (qR d5 5 (zX w5a)).bound 1 qG) q (kD c5 d5 1 (zX w5a))).nd q).paths=noP
 |0,_=>by kernel_rfl
 |1,_=>by kernel_rfl
 |2,_=>by kernel_rfl
 |3,_=>by kernel_rfl
 |4,_=>by kernel_rfl
 |(n+5),h=>absurd h (by omega)
theorem w5_slot0:SlotOkV c5 d5 qG 0 (newW c5):=b5_ok w5_b0 (λq hq=>nop (w5_p0 q hq) (λ_=>rfl))
theorem w5_slot1:SlotOkV c5 d5 qG 1 (zX w5a):=b5_ok w5_b1 (λq hq=>nop (w5_p1 q hq) (λ_=>rfl))
end Go.Proofs.YtnpihllannobgaaGreatDoor
