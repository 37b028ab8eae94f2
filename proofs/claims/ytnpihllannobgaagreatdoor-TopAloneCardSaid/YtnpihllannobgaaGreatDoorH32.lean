/- Steps of the proof, part H32. No condition. -/
import Derived.Test.YtnpihllannobgaaGreatDoorH03
import Derived.Test.YtnpihllannobgaaGreatDoorH23
namespace Go.Proofs.YtnpihllannobgaaGreatDoor
set_option linter.unusedVariables false
set_option linter.unusedSimpArgs false
set_option maxRecDepth 100000
set_option maxHeartbeats 32000000
open Go.ChangeShapes Go.WideShapes Go.ChangeAt Go.RowKit
def c5:Cfg:=⟨5,[6,13,11,22,8],[11,15,20,25],300,3,20,60,8,10⟩
def nearK:Nat→Array Value
 |0=>#[.int .u64 0,.int .u64 0,.int .u64 0,.int .u64 0,.int .u64 0]
 |1=>#[.int .u64 2,.int .u64 1,.int .u64 0,.int .u64 0,.int .u64 0]
 |2=>#[.int .u64 6,.int .u64 1,.int .u64 1,.int .u64 0,.int .u64 0]
 |3=>#[.int .u64 6,.int .u64 5,.int .u64 3,.int .u64 0,.int .u64 0]
 |4=>#[.int .u64 6,.int .u64 13,.int .u64 3,.int .u64 2,.int .u64 0]
 |5=>#[.int .u64 6,.int .u64 13,.int .u64 11,.int .u64 6,.int .u64 0]
 |_=>#[.int .u64 6,.int .u64 13,.int .u64 11,.int .u64 22,.int .u64 8]
theorem alloc5(w:World)(o0 o1 o2 o3 o4:Obj):∀W,W=((((w.alloc o0).alloc o1).alloc o2).alloc o3).alloc o4→W.heap[w.heap.size]? =some o0∧W.heap[w.heap.size+1]? =some o1∧W.heap[w.heap.size+1+1]? =some o2∧W.heap[w.heap.size+1+1+1]? =some o3∧W.heap[w.heap.size+1+1+1+1]? =some o4∧Chg (λ_=>False) w W:=by
 intro W h
 have s0:(w.alloc o0).heap.size=w.heap.size+1:=by simp
 have s1:((w.alloc o0).alloc o1).heap.size=w.heap.size+1+1:=by simp
 have s2:(((w.alloc o0).alloc o1).alloc o2).heap.size=w.heap.size+1+1+1:=by simp
 have s3:((((w.alloc o0).alloc o1).alloc o2).alloc o3).heap.size=w.heap.size+1+1+1+1:=by simp
 have g0:=Chg.alloc (λ_=>False) w o0
 have g1:=Chg.alloc (λ_=>False) (w.alloc o0) o1
 have g2:=Chg.alloc (λ_=>False) ((w.alloc o0).alloc o1) o2
 have g3:=Chg.alloc (λ_=>False) (((w.alloc o0).alloc o1).alloc o2) o3
 have g4:=Chg.alloc (λ_=>False) ((((w.alloc o0).alloc o1).alloc o2).alloc o3) o4
 have b0:=qV w o0
 have b1:=qV (w.alloc o0) o1
 have b2:=qV ((w.alloc o0).alloc o1) o2
 have b3:=qV (((w.alloc o0).alloc o1).alloc o2) o3
 have b4:=qV ((((w.alloc o0).alloc o1).alloc o2).alloc o3) o4
 rw[s0] at b1
 rw[s1] at b2
 rw[s2] at b3
 rw[s3] at b4
 rw[←h] at g4 b4
 have k3:=g3.trans g4
 have k2:=g2.trans k3
 have k1:=g1.trans k2
 exact⟨Chg.keep k1 b0 (λe=>e),Chg.keep k2 b1 (λe=>e),Chg.keep k3 b2 (λe=>e),Chg.keep g4 b3 (λe=>e),b4,g0.trans k1⟩
structure FiK(w0:World)(n nb hb cb pb:Nat)(N:Array Value)(w:World):Prop where
 n1:w.heap[n]? =some (.cells #[.int .i64 0,.slice none 0 0,.slice none 0 0,.int .i64 0,.int .i64 0,.int .i64 0,.int .i64 0,.int .i64 0,.int .i64 0] 26 (0,0))
 n2:w.heap[nb]? =some (.cells N 23 (0,0))
 n3:w.heap[hb]? =some (.cells #[.int .i64 11,.int .i64 15,.int .i64 20,.int .i64 25] 3 (0,0))
 n4:w.heap[cb]? =some (.cells #[.int .i64 5,.slice (some ⟨nb,0,none⟩) 5 5,.slice (some ⟨hb,0,none⟩) 4 4,.int .i64 300,.int .i64 3,.int .i64 20,.int .i64 60,.int .i64 8,.int .i64 10] 26 (0,0))
 n5:w.heap[pb]? =some (.cells #[.int .i64 0,.int .i64 1,.int .i64 0,.int .i64 2,.int .i64 1,.int .i64 2,.int .i64 1,.int .i64 3,.int .i64 2,.int .i64 3,.int .i64 3,.int .i64 4] 154 (0,0))
 g:Chg (λ_=>False) w0 w
 lt:w0.heap.size≤n∧n<nb∧nb<hb∧hb<cb∧cb<pb
section
variable {w0 w w':World}{n nb hb cb pb:Nat}{N:Array Value}
theorem FiK.kept(h:FiK w0 n nb hb cb pb N w)(g:Chg (λ_=>False) w w'):FiK w0 n nb hb cb pb N w':=
 ⟨Chg.keep g h.n1 (λe=>e),Chg.keep g h.n2 (λe=>e),Chg.keep g h.n3 (λe=>e),Chg.keep g h.n4 (λe=>e),Chg.keep g h.n5 (λe=>e),h.g.trans g,h.lt⟩
theorem FiK.set(h:FiK w0 n nb hb cb pb N w)(a:Nat)(v:Value):FiK w0 n nb hb cb pb (N.setIfInBounds a v) (w.setCell ⟨nb,a,none⟩ v):=by
 have g:Chg (λq=>q=nb) w (w.setCell ⟨nb,a,none⟩ v):=Chg.set _ _ _ rfl
 have hl:=h.lt
 refine⟨Chg.keep g h.n1 (by omega),qB h.n2 a v,Chg.keep g h.n3 (by omega),Chg.keep g h.n4 (by omega),Chg.keep g h.n5 (by omega),?_,h.lt⟩
 have k:Chg (λq=>w0.heap.size≤q) w (w.setCell ⟨nb,a,none⟩ v):=g.mono (λq _ e=>by omega)
 exact (h.g.none.trans k).fresh
theorem kJ{x a b:Nat}{v:Value}(hx:w.heap[x]? =some (.cells #[.int .i64 a,.int .i64 b] 154 (0,0))) (q:Nat) (hne:x≠nb):(w.setCell ⟨nb,q,none⟩ v).heap[x]? =some (.cells #[.int .i64 a,.int .i64 b] 154 (0,0)):=
 Chg.keep (S:=λq=>q=nb) (Chg.set _ _ _ rfl) hx hne
end
theorem cfirst_any(w:World):Calls Tryz.prog 42 #[] w (λe w'=>∃nb hb,e= .returned (cfgV c5 (.slice (some ⟨nb,0,none⟩) 5 5) (.slice (some ⟨hb,0,none⟩) 4 4))∧w'.heap[nb]? =some (.cells (nearK 6) 23 (0,0))∧w'.heap[hb]? =some (.cells #[.int .i64 11,.int .i64 15,.int .i64 20,.int .i64 25] 3 (0,0))∧w.heap.size≤nb∧w.heap.size≤hb∧Chg (λ_=>False) w w'):=by
 have hk:∀wx:World,(Instr.makeSlice 24 (.int .i64 5) (.int .i64 5)).run Tryz.prog wx= .ok (.slice (some ⟨wx.heap.size,0,none⟩) 5 5) (wx.alloc (.cells (nearK 0) 23)):=λwx=>by kernel_rfl
 go_enter Tryz.func42,Tryz.ntmps42
 go_wp2_with fail
 obtain⟨b0,b1,b2,b3,b4,G⟩:=alloc5 w _ _ _ _ _ _ rfl
 have H0:=qQ (FiK.mk (N:=nearK 0) b0 b1 b2 b3 b4 G (by omega))
 clear b0 b1 b2 b3 b4 G
 obtain⟨n,hn⟩:=qZ w.heap.size
 have HL:=qQ (show w.heap.size≤n+1∧w.heap.size≤n+1+1∧n<n+1∧n+1<n+1+1 by omega)
 rw[←hn] at H0 ⊢
 generalize ((((w.alloc _).alloc _).alloc _).alloc _).alloc _=W at *
 generalize n+1=nb at *
 generalize nb+1=hb at *
 generalize hb+1=cb at *
 generalize cb+1=pb at *
 clear hk hn
 go_loopw [15] (λi wr=>∃(k:Nat),k≤6∧i= .int .i64 k∧FiK w n nb hb cb pb (nearK k) wr) (λi _=>6-(intOf i).toNat)
 case atStart=>exact⟨0,by omega,rfl,H0.out⟩
 case round=>
  obtain⟨k,hk,rfl,hF⟩:=hrel
  clear H0
  have HF:=qQ hF
  clear hF
  obtain rfl|rfl|rfl|rfl|rfl|rfl|rfl:k=0∨k=1∨k=2∨k=3∨k=4∨k=5∨k=6:=by omega
  ·have q0:wr.cell? ⟨pb,0,none⟩=some (.int .i64 0):=by rw[qJ HF.out.n5];rfl
   have q1:wr.cell? ⟨pb,1,none⟩=some (.int .i64 1):=by rw[qJ HF.out.n5];rfl
   go_wp2_with fail
   have hl:=HF.out.lt
   have hxl:=qX HF.out.n5
   have hx:=qV wr (.cells #[.int .i64 0,.int .i64 1] 154)
   have HX:=qQ (HF.out.kept (Chg.alloc (λ_=>False) wr (.cells #[.int .i64 0,.int .i64 1] 154)))
   obtain⟨x,hxe⟩:=qZ wr.heap.size
   rw[←hxe] at hx ⊢
   have HN:=qQ (show x≠nb by omega)
   clear q0 q1 hl hxl hxe
   generalize wr.alloc (.cells #[.int .i64 0,.int .i64 1] 154)=wx at *
   have HXX:=qQ hx
   have c0:wx.drew.cell? ⟨x,0,none⟩=some (.int .i64 0):=by rw[qJ (w:=wx.drew) hx];rfl
   have c1:wx.drew.cell? ⟨x,1,none⟩=some (.int .i64 1):=by rw[qJ (w:=wx.drew) hx];rfl
   have d1:wx.drew.cell? ⟨cb,1,none⟩=some (.slice (some ⟨nb,0,none⟩) 5 5):=by rw[qJ (w:=wx.drew) HX.out.n4];rfl
   have n0:wx.drew.cell? ⟨nb,0,none⟩=some (.int .u64 0):=by rw[qJ (w:=wx.drew) HX.out.n2];rfl
   have f0:wx.drew.frozen? ⟨nb,0,none⟩=false:=qK (w:=wx.drew) HX.out.n2 0
   have o1:bits BinOp.or IntKind.u64 0 2=2:=by decide+kernel
   clear hx
   go_still_tail 11,(by kernel_rfl)
   change wpList _ _ _ _ _ wx.drew
   go_wp2_with fail
   clear c0 c1 d1 n0 f0
   rw[o1]
   have HY:=qQ ((HX.out.set 0 (.int .u64 2)).kept (Chg.drew _ _))
   have hy:((wx.setCell ⟨nb,0,none⟩ (.int .u64 2)).drew).heap[x]? =some (.cells #[.int .i64 0,.int .i64 1] 154 (0,0)):=kJ HXX.out _ HN.out
   generalize (wx.setCell ⟨nb,0,none⟩ (.int .u64 2)).drew=wy at *
   have c0:wy.drew.cell? ⟨x,0,none⟩=some (.int .i64 0):=by rw[qJ (w:=wy.drew) hy];rfl
   have c1:wy.drew.cell? ⟨x,1,none⟩=some (.int .i64 1):=by rw[qJ (w:=wy.drew) hy];rfl
   have d1:wy.drew.cell? ⟨cb,1,none⟩=some (.slice (some ⟨nb,0,none⟩) 5 5):=by rw[qJ (w:=wy.drew) HY.out.n4];rfl
   have n0:wy.drew.cell? ⟨nb,1,none⟩=some (.int .u64 0):=by rw[qJ (w:=wy.drew) HY.out.n2];rfl
   have f0:wy.drew.frozen? ⟨nb,1,none⟩=false:=qK (w:=wy.drew) HY.out.n2 1
   have o2:bits BinOp.or IntKind.u64 0 1=1:=by decide+kernel
   clear hy o1
   go_still_tail 11,(by kernel_rfl)
   change wpList _ _ _ _ _ wy.drew
   go_wp2_with fail
   exact⟨⟨1,by omega,rfl,(HY.out.set 1 (.int .u64 1)).kept (Chg.drew _ _)⟩,by simp[intOf]⟩
  ·have q0:wr.cell? ⟨pb,2,none⟩=some (.int .i64 0):=by rw[qJ HF.out.n5];rfl
   have q1:wr.cell? ⟨pb,3,none⟩=some (.int .i64 2):=by rw[qJ HF.out.n5];rfl
   go_wp2_with fail
   have hl:=HF.out.lt
   have hxl:=qX HF.out.n5
   have hx:=qV wr (.cells #[.int .i64 0,.int .i64 2] 154)
   have HX:=qQ (HF.out.kept (Chg.alloc (λ_=>False) wr (.cells #[.int .i64 0,.int .i64 2] 154)))
   obtain⟨x,hxe⟩:=qZ wr.heap.size
   rw[←hxe] at hx ⊢
   have HN:=qQ (show x≠nb by omega)
   clear q0 q1 hl hxl hxe
   generalize wr.alloc (.cells #[.int .i64 0,.int .i64 2] 154)=wx at *
   have HXX:=qQ hx
   have c0:wx.drew.cell? ⟨x,0,none⟩=some (.int .i64 0):=by rw[qJ (w:=wx.drew) hx];rfl
   have c1:wx.drew.cell? ⟨x,1,none⟩=some (.int .i64 2):=by rw[qJ (w:=wx.drew) hx];rfl
   have d1:wx.drew.cell? ⟨cb,1,none⟩=some (.slice (some ⟨nb,0,none⟩) 5 5):=by rw[qJ (w:=wx.drew) HX.out.n4];rfl
   have n0:wx.drew.cell? ⟨nb,0,none⟩=some (.int .u64 2):=by rw[qJ (w:=wx.drew) HX.out.n2];rfl
   have f0:wx.drew.frozen? ⟨nb,0,none⟩=false:=qK (w:=wx.drew) HX.out.n2 0
   have o1:bits BinOp.or IntKind.u64 2 4=6:=by decide+kernel
   clear hx
   go_still_tail 11,(by kernel_rfl)
   change wpList _ _ _ _ _ wx.drew
   go_wp2_with fail
   clear c0 c1 d1 n0 f0
   rw[o1]
   have HY:=qQ ((HX.out.set 0 (.int .u64 6)).kept (Chg.drew _ _))
   have hy:((wx.setCell ⟨nb,0,none⟩ (.int .u64 6)).drew).heap[x]? =some (.cells #[.int .i64 0,.int .i64 2] 154 (0,0)):=kJ HXX.out _ HN.out
   generalize (wx.setCell ⟨nb,0,none⟩ (.int .u64 6)).drew=wy at *
   have c0:wy.drew.cell? ⟨x,0,none⟩=some (.int .i64 0):=by rw[qJ (w:=wy.drew) hy];rfl
   have c1:wy.drew.cell? ⟨x,1,none⟩=some (.int .i64 2):=by rw[qJ (w:=wy.drew) hy];rfl
   have d1:wy.drew.cell? ⟨cb,1,none⟩=some (.slice (some ⟨nb,0,none⟩) 5 5):=by rw[qJ (w:=wy.drew) HY.out.n4];rfl
   have n0:wy.drew.cell? ⟨nb,2,none⟩=some (.int .u64 0):=by rw[qJ (w:=wy.drew) HY.out.n2];rfl
   have f0:wy.drew.frozen? ⟨nb,2,none⟩=false:=qK (w:=wy.drew) HY.out.n2 2
   have o2:bits BinOp.or IntKind.u64 0 1=1:=by decide+kernel
   clear hy o1
   go_still_tail 11,(by kernel_rfl)
   change wpList _ _ _ _ _ wy.drew
   go_wp2_with fail
   exact⟨⟨2,by omega,rfl,(HY.out.set 2 (.int .u64 1)).kept (Chg.drew _ _)⟩,by simp[intOf]⟩
  ·have q0:wr.cell? ⟨pb,4,none⟩=some (.int .i64 1):=by rw[qJ HF.out.n5];rfl
   have q1:wr.cell? ⟨pb,5,none⟩=some (.int .i64 2):=by rw[qJ HF.out.n5];rfl
   go_wp2_with fail
   have hl:=HF.out.lt
   have hxl:=qX HF.out.n5
   have hx:=qV wr (.cells #[.int .i64 1,.int .i64 2] 154)
   have HX:=qQ (HF.out.kept (Chg.alloc (λ_=>False) wr (.cells #[.int .i64 1,.int .i64 2] 154)))
   obtain⟨x,hxe⟩:=qZ wr.heap.size
   rw[←hxe] at hx ⊢
   have HN:=qQ (show x≠nb by omega)
   clear q0 q1 hl hxl hxe
   generalize wr.alloc (.cells #[.int .i64 1,.int .i64 2] 154)=wx at *
   have HXX:=qQ hx
   have c0:wx.drew.cell? ⟨x,0,none⟩=some (.int .i64 1):=by rw[qJ (w:=wx.drew) hx];rfl
   have c1:wx.drew.cell? ⟨x,1,none⟩=some (.int .i64 2):=by rw[qJ (w:=wx.drew) hx];rfl
   have d1:wx.drew.cell? ⟨cb,1,none⟩=some (.slice (some ⟨nb,0,none⟩) 5 5):=by rw[qJ (w:=wx.drew) HX.out.n4];rfl
   have n0:wx.drew.cell? ⟨nb,1,none⟩=some (.int .u64 1):=by rw[qJ (w:=wx.drew) HX.out.n2];rfl
   have f0:wx.drew.frozen? ⟨nb,1,none⟩=false:=qK (w:=wx.drew) HX.out.n2 1
   have o1:bits BinOp.or IntKind.u64 1 4=5:=by decide+kernel
   clear hx
   go_still_tail 11,(by kernel_rfl)
   change wpList _ _ _ _ _ wx.drew
   go_wp2_with fail
   clear c0 c1 d1 n0 f0
   rw[o1]
   have HY:=qQ ((HX.out.set 1 (.int .u64 5)).kept (Chg.drew _ _))
   have hy:((wx.setCell ⟨nb,1,none⟩ (.int .u64 5)).drew).heap[x]? =some (.cells #[.int .i64 1,.int .i64 2] 154 (0,0)):=kJ HXX.out _ HN.out
   generalize (wx.setCell ⟨nb,1,none⟩ (.int .u64 5)).drew=wy at *
   have c0:wy.drew.cell? ⟨x,0,none⟩=some (.int .i64 1):=by rw[qJ (w:=wy.drew) hy];rfl
   have c1:wy.drew.cell? ⟨x,1,none⟩=some (.int .i64 2):=by rw[qJ (w:=wy.drew) hy];rfl
   have d1:wy.drew.cell? ⟨cb,1,none⟩=some (.slice (some ⟨nb,0,none⟩) 5 5):=by rw[qJ (w:=wy.drew) HY.out.n4];rfl
   have n0:wy.drew.cell? ⟨nb,2,none⟩=some (.int .u64 1):=by rw[qJ (w:=wy.drew) HY.out.n2];rfl
   have f0:wy.drew.frozen? ⟨nb,2,none⟩=false:=qK (w:=wy.drew) HY.out.n2 2
   have o2:bits BinOp.or IntKind.u64 1 2=3:=by decide+kernel
   clear hy o1
   go_still_tail 11,(by kernel_rfl)
   change wpList _ _ _ _ _ wy.drew
   go_wp2_with fail
   exact⟨⟨3,by omega,rfl,(HY.out.set 2 (.int .u64 3)).kept (Chg.drew _ _)⟩,by simp[intOf]⟩
  ·have q0:wr.cell? ⟨pb,6,none⟩=some (.int .i64 1):=by rw[qJ HF.out.n5];rfl
   have q1:wr.cell? ⟨pb,7,none⟩=some (.int .i64 3):=by rw[qJ HF.out.n5];rfl
   go_wp2_with fail
   have hl:=HF.out.lt
   have hxl:=qX HF.out.n5
   have hx:=qV wr (.cells #[.int .i64 1,.int .i64 3] 154)
   have HX:=qQ (HF.out.kept (Chg.alloc (λ_=>False) wr (.cells #[.int .i64 1,.int .i64 3] 154)))
   obtain⟨x,hxe⟩:=qZ wr.heap.size
   rw[←hxe] at hx ⊢
   have HN:=qQ (show x≠nb by omega)
   clear q0 q1 hl hxl hxe
   generalize wr.alloc (.cells #[.int .i64 1,.int .i64 3] 154)=wx at *
   have HXX:=qQ hx
   have c0:wx.drew.cell? ⟨x,0,none⟩=some (.int .i64 1):=by rw[qJ (w:=wx.drew) hx];rfl
   have c1:wx.drew.cell? ⟨x,1,none⟩=some (.int .i64 3):=by rw[qJ (w:=wx.drew) hx];rfl
   have d1:wx.drew.cell? ⟨cb,1,none⟩=some (.slice (some ⟨nb,0,none⟩) 5 5):=by rw[qJ (w:=wx.drew) HX.out.n4];rfl
   have n0:wx.drew.cell? ⟨nb,1,none⟩=some (.int .u64 5):=by rw[qJ (w:=wx.drew) HX.out.n2];rfl
   have f0:wx.drew.frozen? ⟨nb,1,none⟩=false:=qK (w:=wx.drew) HX.out.n2 1
   have o1:bits BinOp.or IntKind.u64 5 8=13:=by decide+kernel
   clear hx
   go_still_tail 11,(by kernel_rfl)
   change wpList _ _ _ _ _ wx.drew
   go_wp2_with fail
   clear c0 c1 d1 n0 f0
   rw[o1]
   have HY:=qQ ((HX.out.set 1 (.int .u64 13)).kept (Chg.drew _ _))
   have hy:((wx.setCell ⟨nb,1,none⟩ (.int .u64 13)).drew).heap[x]? =some (.cells #[.int .i64 1,.int .i64 3] 154 (0,0)):=kJ HXX.out _ HN.out
   generalize (wx.setCell ⟨nb,1,none⟩ (.int .u64 13)).drew=wy at *
   have c0:wy.drew.cell? ⟨x,0,none⟩=some (.int .i64 1):=by rw[qJ (w:=wy.drew) hy];rfl
   have c1:wy.drew.cell? ⟨x,1,none⟩=some (.int .i64 3):=by rw[qJ (w:=wy.drew) hy];rfl
   have d1:wy.drew.cell? ⟨cb,1,none⟩=some (.slice (some ⟨nb,0,none⟩) 5 5):=by rw[qJ (w:=wy.drew) HY.out.n4];rfl
   have n0:wy.drew.cell? ⟨nb,3,none⟩=some (.int .u64 0):=by rw[qJ (w:=wy.drew) HY.out.n2];rfl
   have f0:wy.drew.frozen? ⟨nb,3,none⟩=false:=qK (w:=wy.drew) HY.out.n2 3
   have o2:bits BinOp.or IntKind.u64 0 2=2:=by decide+kernel
   clear hy o1
   go_still_tail 11,(by kernel_rfl)
   change wpList _ _ _ _ _ wy.drew
   go_wp2_with fail
   exact⟨⟨4,by omega,rfl,(HY.out.set 3 (.int .u64 2)).kept (Chg.drew _ _)⟩,by simp[intOf]⟩
  ·have q0:wr.cell? ⟨pb,8,none⟩=some (.int .i64 2):=by rw[qJ HF.out.n5];rfl
   have q1:wr.cell? ⟨pb,9,none⟩=some (.int .i64 3):=by rw[qJ HF.out.n5];rfl
   go_wp2_with fail
   have hl:=HF.out.lt
   have hxl:=qX HF.out.n5
   have hx:=qV wr (.cells #[.int .i64 2,.int .i64 3] 154)
   have HX:=qQ (HF.out.kept (Chg.alloc (λ_=>False) wr (.cells #[.int .i64 2,.int .i64 3] 154)))
   obtain⟨x,hxe⟩:=qZ wr.heap.size
   rw[←hxe] at hx ⊢
   have HN:=qQ (show x≠nb by omega)
   clear q0 q1 hl hxl hxe
   generalize wr.alloc (.cells #[.int .i64 2,.int .i64 3] 154)=wx at *
   have HXX:=qQ hx
   have c0:wx.drew.cell? ⟨x,0,none⟩=some (.int .i64 2):=by rw[qJ (w:=wx.drew) hx];rfl
   have c1:wx.drew.cell? ⟨x,1,none⟩=some (.int .i64 3):=by rw[qJ (w:=wx.drew) hx];rfl
   have d1:wx.drew.cell? ⟨cb,1,none⟩=some (.slice (some ⟨nb,0,none⟩) 5 5):=by rw[qJ (w:=wx.drew) HX.out.n4];rfl
   have n0:wx.drew.cell? ⟨nb,2,none⟩=some (.int .u64 3):=by rw[qJ (w:=wx.drew) HX.out.n2];rfl
   have f0:wx.drew.frozen? ⟨nb,2,none⟩=false:=qK (w:=wx.drew) HX.out.n2 2
   have o1:bits BinOp.or IntKind.u64 3 8=11:=by decide+kernel
   clear hx
   go_still_tail 11,(by kernel_rfl)
   change wpList _ _ _ _ _ wx.drew
   go_wp2_with fail
   clear c0 c1 d1 n0 f0
   rw[o1]
   have HY:=qQ ((HX.out.set 2 (.int .u64 11)).kept (Chg.drew _ _))
   have hy:((wx.setCell ⟨nb,2,none⟩ (.int .u64 11)).drew).heap[x]? =some (.cells #[.int .i64 2,.int .i64 3] 154 (0,0)):=kJ HXX.out _ HN.out
   generalize (wx.setCell ⟨nb,2,none⟩ (.int .u64 11)).drew=wy at *
   have c0:wy.drew.cell? ⟨x,0,none⟩=some (.int .i64 2):=by rw[qJ (w:=wy.drew) hy];rfl
   have c1:wy.drew.cell? ⟨x,1,none⟩=some (.int .i64 3):=by rw[qJ (w:=wy.drew) hy];rfl
   have d1:wy.drew.cell? ⟨cb,1,none⟩=some (.slice (some ⟨nb,0,none⟩) 5 5):=by rw[qJ (w:=wy.drew) HY.out.n4];rfl
   have n0:wy.drew.cell? ⟨nb,3,none⟩=some (.int .u64 2):=by rw[qJ (w:=wy.drew) HY.out.n2];rfl
   have f0:wy.drew.frozen? ⟨nb,3,none⟩=false:=qK (w:=wy.drew) HY.out.n2 3
   have o2:bits BinOp.or IntKind.u64 2 4=6:=by decide+kernel
   clear hy o1
   go_still_tail 11,(by kernel_rfl)
   change wpList _ _ _ _ _ wy.drew
   go_wp2_with fail
   exact⟨⟨5,by omega,rfl,(HY.out.set 3 (.int .u64 6)).kept (Chg.drew _ _)⟩,by simp[intOf]⟩
  ·have q0:wr.cell? ⟨pb,10,none⟩=some (.int .i64 3):=by rw[qJ HF.out.n5];rfl
   have q1:wr.cell? ⟨pb,11,none⟩=some (.int .i64 4):=by rw[qJ HF.out.n5];rfl
   go_wp2_with fail
   have hl:=HF.out.lt
   have hxl:=qX HF.out.n5
   have hx:=qV wr (.cells #[.int .i64 3,.int .i64 4] 154)
   have HX:=qQ (HF.out.kept (Chg.alloc (λ_=>False) wr (.cells #[.int .i64 3,.int .i64 4] 154)))
   obtain⟨x,hxe⟩:=qZ wr.heap.size
   rw[←hxe] at hx ⊢
   have HN:=qQ (show x≠nb by omega)
   clear q0 q1 hl hxl hxe
   generalize wr.alloc (.cells #[.int .i64 3,.int .i64 4] 154)=wx at *
   have HXX:=qQ hx
   have c0:wx.drew.cell? ⟨x,0,none⟩=some (.int .i64 3):=by rw[qJ (w:=wx.drew) hx];rfl
   have c1:wx.drew.cell? ⟨x,1,none⟩=some (.int .i64 4):=by rw[qJ (w:=wx.drew) hx];rfl
   have d1:wx.drew.cell? ⟨cb,1,none⟩=some (.slice (some ⟨nb,0,none⟩) 5 5):=by rw[qJ (w:=wx.drew) HX.out.n4];rfl
   have n0:wx.drew.cell? ⟨nb,3,none⟩=some (.int .u64 6):=by rw[qJ (w:=wx.drew) HX.out.n2];rfl
   have f0:wx.drew.frozen? ⟨nb,3,none⟩=false:=qK (w:=wx.drew) HX.out.n2 3
   have o1:bits BinOp.or IntKind.u64 6 16=22:=by decide+kernel
   clear hx
   go_still_tail 11,(by kernel_rfl)
   change wpList _ _ _ _ _ wx.drew
   go_wp2_with fail
   clear c0 c1 d1 n0 f0
   rw[o1]
   have HY:=qQ ((HX.out.set 3 (.int .u64 22)).kept (Chg.drew _ _))
   have hy:((wx.setCell ⟨nb,3,none⟩ (.int .u64 22)).drew).heap[x]? =some (.cells #[.int .i64 3,.int .i64 4] 154 (0,0)):=kJ HXX.out _ HN.out
   generalize (wx.setCell ⟨nb,3,none⟩ (.int .u64 22)).drew=wy at *
   have c0:wy.drew.cell? ⟨x,0,none⟩=some (.int .i64 3):=by rw[qJ (w:=wy.drew) hy];rfl
   have c1:wy.drew.cell? ⟨x,1,none⟩=some (.int .i64 4):=by rw[qJ (w:=wy.drew) hy];rfl
   have d1:wy.drew.cell? ⟨cb,1,none⟩=some (.slice (some ⟨nb,0,none⟩) 5 5):=by rw[qJ (w:=wy.drew) HY.out.n4];rfl
   have n0:wy.drew.cell? ⟨nb,4,none⟩=some (.int .u64 0):=by rw[qJ (w:=wy.drew) HY.out.n2];rfl
   have f0:wy.drew.frozen? ⟨nb,4,none⟩=false:=qK (w:=wy.drew) HY.out.n2 4
   have o2:bits BinOp.or IntKind.u64 0 8=8:=by decide+kernel
   clear hy o1
   go_still_tail 11,(by kernel_rfl)
   change wpList _ _ _ _ _ wy.drew
   go_wp2_with fail
   exact⟨⟨6,by omega,rfl,(HY.out.set 4 (.int .u64 8)).kept (Chg.drew _ _)⟩,by simp[intOf]⟩
  ·obtain⟨b0,b1,b2,b3,b4,b5,b6,b7,b8⟩:=vd HF.out.n4
   obtain⟨a0,a1,a2,a3,a4,a5,a6,a7,a8⟩:=vd HF.out.n1
   have f0:=qK HF.out.n1 0
   have f1:=qK HF.out.n1 1
   have f2:=qK HF.out.n1 2
   have f3:=qK HF.out.n1 3
   have f4:=qK HF.out.n1 4
   have f5:=qK HF.out.n1 5
   have f6:=qK HF.out.n1 6
   have f7:=qK HF.out.n1 7
   have f8:=qK HF.out.n1 8
   go_wp2_with fail
   have hl:=HF.out.lt
   have B:=qB (qB (qB (qB (qB (qB (qB (qB (qB HF.out.n1 0 (.int .i64 5)) 1 (.slice (some ⟨nb,0,none⟩) 5 5)) 2 (.slice (some ⟨hb,0,none⟩) 4 4)) 3 (.int .i64 300)) 4 (.int .i64 3)) 5 (.int .i64 20)) 6 (.int .i64 60)) 7 (.int .i64 8)) 8 (.int .i64 10)
   have G:Chg (λq=>q=n) wr _:=((((((((Chg.set (S:=λq=>q=n) wr ⟨n,0,none⟩ (.int .i64 5) rfl).trans (Chg.set _ ⟨n,1,none⟩ (.slice (some ⟨nb,0,none⟩) 5 5) rfl)).trans (Chg.set _ ⟨n,2,none⟩ (.slice (some ⟨hb,0,none⟩) 4 4) rfl)).trans (Chg.set _ ⟨n,3,none⟩ (.int .i64 300) rfl)).trans (Chg.set _ ⟨n,4,none⟩ (.int .i64 3) rfl)).trans (Chg.set _ ⟨n,5,none⟩ (.int .i64 20) rfl)).trans (Chg.set _ ⟨n,6,none⟩ (.int .i64 60) rfl)).trans (Chg.set _ ⟨n,7,none⟩ (.int .i64 8) rfl)).trans (Chg.set _ ⟨n,8,none⟩ (.int .i64 10) rfl)
   have N2:=Chg.keep G HF.out.n2 (by omega)
   have N3:=Chg.keep G HF.out.n3 (by omega)
   have GG:Chg (λq=>w.heap.size≤q) wr _:=G.mono (λq _ e=>by omega)
   have G2:=(HF.out.g.none.trans GG).fresh
   clear a0 a1 a2 a3 a4 a5 a6 a7 a8 b0 b1 b2 b3 b4 b5 b6 b7 b8 f0 f1 f2 f3 f4 f5 f6 f7 f8 G GG
   generalize ((((((((wr.setCell ⟨n,0,none⟩ _).setCell ⟨n,1,none⟩ _).setCell ⟨n,2,none⟩ _).setCell ⟨n,3,none⟩ _).setCell ⟨n,4,none⟩ _).setCell ⟨n,5,none⟩ _).setCell ⟨n,6,none⟩ _).setCell ⟨n,7,none⟩ _).setCell ⟨n,8,none⟩ _=wz at *
   have B:wz.heap[n]? =some (.cells #[.int .i64 5,.slice (some ⟨nb,0,none⟩) 5 5,.slice (some ⟨hb,0,none⟩) 4 4,.int .i64 300,.int .i64 3,.int .i64 20,.int .i64 60,.int .i64 8,.int .i64 10] 26 (0,0)):=B
   obtain⟨k0,k1,k2,k3,k4,k5,k6,k7,k8⟩:=vd B
   exact bodyPost_ret (v:=cfgV c5 (.slice (some ⟨nb,0,none⟩) 5 5) (.slice (some ⟨hb,0,none⟩) 4 4)) (by simp[results,Tryz.results42,go_sem,cfgV,c5,k0,k1,k2,k3,k4,k5,k6,k7,k8]) rfl ⟨nb,hb,rfl,N2,N3,by omega,by omega,G2⟩
end Go.Proofs.YtnpihllannobgaaGreatDoor
