/- Steps of the proof, part H04. No condition. -/
import Derived.Test.YtnpihllannobgaaGreatDoorH02
namespace Go.Proofs.YtnpihllannobgaaGreatDoor
set_option linter.unusedVariables false
set_option linter.unusedSimpArgs false
set_option maxRecDepth 100000
set_option maxHeartbeats 32000000
open Go.ChangeShapes Go.WideShapes Go.ChangeAt Go.RowKit
def vy{α:Type}(L:List α)(p:α→Bool):Int:=match L.findIdx? p with|some i=>i|none=> -1
theorem indexP_at{α:Type}(L:List α)(p:α→Bool)(k:Nat)(x:α)(hk:L[k]? =some x) (hp:p x=true) (h:∀j y,j<k→L[j]? =some y→p y=false):vy L p=k:=by
 have hlt:=(List.getElem?_eq_some_iff.1 hk).1
 have:L.findIdx? p=some k:=by
  rw[List.findIdx?_eq_some_iff_getElem]
  refine⟨hlt,by rw[List.getElem?_eq_getElem hlt] at hk;simp at hk;rw[hk];exact hp,λj hj=>?_⟩
  have h2:=h j L[j] hj (List.getElem?_eq_getElem (by omega))
  simpa using h2
 unfold vy;rw[this]
theorem vx{α:Type}(L:List α)(p:α→Bool)(h:∀(j:Nat) y,L[j]? =some y→p y=false):vy L p= -1:=by
 have:L.findIdx? p=none:=by
  rw[List.findIdx?_eq_none_iff]
  intro y hy
  obtain⟨j,hj,rfl⟩:=List.getElem_of_mem hy
  exact h j _ (List.getElem?_eq_getElem hj)
 unfold vy;rw[this]
theorem indexP_pos{α:Type}(L:List α)(p:α→Bool):decide (0≤vy L p)=L.any p:=by
 unfold vy
 cases h:L.findIdx? p with
 |none=>
  rw[List.findIdx?_eq_none_iff] at h
  have:L.any p=false:=by simpa using h
  rw[this];rfl
 |some i=>
  rw[List.findIdx?_eq_some_iff_getElem] at h
  obtain⟨hi,he,_⟩:=h
  have:L.any p=true:=by rw[List.any_eq_true];exact⟨_,List.getElem_mem _,he⟩
  rw[this];simp
structure FnI(w:World)(n:Nat)(caps:Array Value)(L:List Int)(p:Int→Bool):Prop where
 cf:∀(args:Array Value) (w':World),(callFunc n args).run Tryz.prog w'= .ok (.enter n args) w'
 at':∀(z:Int) (w':World),z∈L→Chg (λ_=>False) w w'→Calls Tryz.prog n (#[.int .i64 z]++caps) w' (PV (.bool (p z)) w')
theorem cf322(args:Array Value)(w':World):(callFunc 322 args).run Tryz.prog w'= .ok (.enter 322 args) w':=by kernel_rfl
theorem indexFI_any(w:World)(A:Option Addr)(len c n:Nat)(caps:Array Value)(L:List Int)(p:Int→Bool)(h:Rs VI w w.heap.size A len L)(hL:len≤100000)(hf:FnI w n caps L p):
  Calls Tryz.prog 195 #[.slice A len c,.func (.func n) #[] caps] w (PV (.int .i64 (vy L p)) w):=by
 have HR:=qQ h
 have HF:=qQ hf
 have hl:(len:Int)≤100000:=by omega
 clear h hf
 go_enter Tryz.func195,Tryz.ntmps195
 go_wp2_with fail
 go_loopw [8] (λi wr=>∃(k:Nat),k≤len∧i= .int .i64 k∧(∀j y,j<k→L[j]? =some y→p y=false)∧Chg (λ_=>False) w wr) (λi _=>len-(intOf i).toNat)
 case atStart=>exact⟨0,by omega,rfl,(λj y hj=>absurd hj (by omega)),Chg.refl _ _⟩
 case round=>
  obtain⟨k,hk,rfl,hno,hG⟩:=hrel
  have HN:=qQ hno
  have HG:=qQ hG
  clear hno hG
  by_cases hlt:k<len
  ·obtain⟨y,z,rfl,_,hz,hc⟩:=(HR.out.keep HG.out (λ_ _ e=>e)).at hlt
   unfold VI at hc
   have hmem:=List.mem_of_getElem? hz
   have hcf:=HF.out.cf
   have hat:=HF.out.at' z wr hmem HG.out
   have HA:=qQ hat
   have HZ:=qQ hz
   clear hz hat hmem
   go_wp2_with fail
   clear hcf hc
   with_reducible refine HA.out.mono ?_
   rintro e w1 ⟨rfl,G1⟩
   have HG1:=qQ (HG.out.trans G1)
   clear G1 HA HG
   by_cases hp:p z=true
   ·rw[hp]
    have hi:=indexP_at L p k z HZ.out hp HN.out
    have HI:=qQ hi
    clear hi hp
    go_wp2_with fail
    go_ret
    rw[HI.out];exact⟨rfl,HG1.out⟩
   ·have hp:p z=false:=by simpa using hp
    rw[hp]
    have hn:∀j y,j<k+1→L[j]? =some y→p y=false:=λj y hj hy=>by
     by_cases e:j=k
     ·subst e;rw[HZ.out] at hy;cases hy;exact hp
     ·exact HN.out j y (by omega) hy
    have HN1:=qQ hn
    clear hn hp
    go_wp2_with fail
    go_roundw
    case measure=>simp[intOf];omega
    case rel=>exact⟨k+1,by omega,by go_num,HN1.out,HG1.out⟩
  ·obtain rfl:k=len:=by omega
   have hi:=vx L p (λj y hj=>HN.out j y (by have:=(List.getElem?_eq_some_iff.1 hj).1;rw[HR.out.1] at this;exact this) hj)
   have HI:=qQ hi
   clear hi
   go_wp2_with fail
   go_ret
   rw[HI.out];exact⟨rfl,HG.out⟩
theorem containsFI_any(w:World)(A:Option Addr)(len c n:Nat)(caps:Array Value)(L:List Int)(p:Int→Bool)(h:Rs VI w w.heap.size A len L)(hL:len≤100000)(hf:FnI w n caps L p):
  Calls Tryz.prog 250 #[.slice A len c,.func (.func n) #[] caps] w (PV (.bool (L.any p)) w):=by
 have hi:=indexFI_any w A len c n caps L p h hL hf
 have hp:=indexP_pos L p
 rw[←hp]
 clear h hp hf
 generalize vy L p=q at *
 go_enter Tryz.func250,Tryz.ntmps250
 go_wp2_with fail
 with_reducible refine hi.mono ?_
 rintro e w1 ⟨rfl,G⟩
 have HG:=qQ G
 clear G hi
 go_wp2_with fail
 go_ret
 exact⟨rfl,HG.out⟩
theorem lmay1(z:Int)(w:World):Calls Tryz.prog 322 #[.int .i64 z] w (PV (.bool (!inR z 0 255)) w):=by
 by_cases h1:z<0
 ·go_enter Tryz.func322,Tryz.ntmps322
  go_wp2_with fail
  go_ret
  refine⟨jr ?_,Chg.refl _ _⟩
  simp[inR];omega
 ·have h2:0≤z:=by omega
  go_enter Tryz.func322,Tryz.ntmps322
  go_wp2_with fail
  go_ret
  refine⟨jr ?_,Chg.refl _ _⟩
  have e1:decide (0≤z)=true:=by simpa using h2
  unfold inR
  rw[e1,Bool.true_and]
  by_cases h3:255<z
  ·rw[decide_eq_false (show¬z≤255 by omega)];simp;omega
  ·rw[decide_eq_true (show z≤255 by omega)];simp;omega
theorem qW{P:Program}{id:Nat}{Q:Exit→Act→World→Prop}{a:Act}{w:World}{l:List Oper}{I:Type}(F:I→World)(hm:P.follows .mixedOrders=true)(hB:Region.lexB .any l.toArray=true)
  (hC:∃n,w.drew=F n) (h:wpQuiet P l.toArray (λw'=>∃n,w'=F n) (λa'=>∀w',(∃n,w'=F n)→Q .normal a' w') l a):(Code.region id l.toArray true).wp P Q a w:=
 wp_region_quiet (C:=λw'=>∃n,w'=F n) hm hB hC (by simpa using h)
theorem clsF(w:World):∃(I:Type) (F:I→World),Nonempty I∧(∀n,Chg (λ_=>False) w (F n))∧(∀W,Chg (λ_=>False) w W→∃n,W=F n):=
 ⟨{W:World // Chg (λ_=>False) w W},Subtype.val,⟨⟨w,Chg.refl _ _⟩⟩,λn=>n.2,λW h=>⟨⟨W,h⟩,rfl⟩⟩
theorem PV.cls{I:Type}{F:I→World}{w:World}(hF:∀n,Chg (λ_=>False) w (F n))(hA:∀W,Chg (λ_=>False) w W→∃n,W=F n){f:FuncId}{args:Array Value}{v:Value}{n:I}
  (h:Calls Tryz.prog f args (F n) (PV v (F n))):Calls Tryz.prog f args (F n) (λe w'=>e= .returned v∧∃m,w'=F m):=
 h.mono λe w' ⟨he,g⟩=>⟨he,hA _ ((hF n).trans g)⟩
theorem qF{I:Type}{F:I→World}{w:World}(hF:∀n,Chg (λ_=>False) w (F n)){p:Addr}{v:Value}(h:w.cell? p=some v)(n:I):(F n).cell? p=some v:=by
 rw[(hF n).cell (qG h) (λe=>e),h]
theorem zT{n a b:Int}(h:a≤n)(k:n≤b):inR n a b=true:=by unfold inR;rw[decide_eq_true h,decide_eq_true k];rfl
theorem vP{n a b:Int}(h:n<a):inR n a b=false:=by unfold inR;rw[decide_eq_false (by omega)];rfl
theorem jC{n a b:Int}(h:b<n):inR n a b=false:=by unfold inR;rw[decide_eq_false (show¬n≤b by omega)];simp
theorem smay_any(a b:Int)(w:World):Calls Tryz.prog 316 #[.agg #[.int .i64 a,.int .i64 b]] w (PV (.bool (inR a 0 1099511627775&&inR b 0 255)) w):=by
 by_cases h1:0≤a
 ·by_cases h2:a<1099511627776
  ·by_cases h3:0≤b
   ·by_cases h4:b≤255
    ·have hv:(inR a 0 1099511627775&&inR b 0 255)=true:=by rw[zT h1 (show a≤1099511627775 by omega),zT h3 h4];rfl
     rw[hv]
     clear hv
     go_enter Tryz.func316,Tryz.ntmps316
     go_wp2_with fail
     go_ret
     exact⟨rfl,Chg.alloc _ _ _⟩
    ·have h4:255<b:=by omega
     have hv:(inR a 0 1099511627775&&inR b 0 255)=false:=by rw[jC (n:=b) h4];simp
     rw[hv]
     clear hv
     go_enter Tryz.func316,Tryz.ntmps316
     go_wp2_with fail
     go_ret
     exact⟨rfl,Chg.alloc _ _ _⟩
   ·have h3:b<0:=by omega
    have hv:(inR a 0 1099511627775&&inR b 0 255)=false:=by rw[vP (n:=b) h3];simp
    rw[hv]
    clear hv
    go_enter Tryz.func316,Tryz.ntmps316
    go_wp2_with fail
    go_ret
    exact⟨rfl,Chg.alloc _ _ _⟩
  ·have h2:1099511627776≤a:=by omega
   have hv:(inR a 0 1099511627775&&inR b 0 255)=false:=by rw[jC (show (1099511627775:Int)<a by omega)];rfl
   rw[hv]
   clear hv
   go_enter Tryz.func316,Tryz.ntmps316
   go_wp2_with fail
   go_ret
   exact⟨rfl,Chg.alloc _ _ _⟩
 ·have h1:a<0:=by omega
  have hv:(inR a 0 1099511627775&&inR b 0 255)=false:=by rw[vP h1];rfl
  rw[hv]
  clear hv
  go_enter Tryz.func316,Tryz.ntmps316
  go_wp2_with fail
  go_ret
  exact⟨rfl,Chg.alloc _ _ _⟩
theorem cmay_any(a:Int)(w:World):Calls Tryz.prog 318 #[.agg #[.int .i64 a]] w (PV (.bool (inR a (-32768) 32767)) w):=by
 by_cases h1: -32768≤a
 ·by_cases h2:a≤32767
  ·have hv:(inR a (-32768) 32767)=true:=zT h1 h2
   rw[hv]
   clear hv
   go_enter Tryz.func318,Tryz.ntmps318
   go_wp2_with fail
   go_ret
   exact⟨rfl,Chg.alloc _ _ _⟩
  ·have h2:32767<a:=by omega
   have hv:(inR a (-32768) 32767)=false:=jC h2
   rw[hv]
   clear hv
   go_enter Tryz.func318,Tryz.ntmps318
   go_wp2_with fail
   go_ret
   exact⟨rfl,Chg.alloc _ _ _⟩
 ·have h1:a< -32768:=by omega
  have hv:(inR a (-32768) 32767)=false:=vP h1
  rw[hv]
  clear hv
  go_enter Tryz.func318,Tryz.ntmps318
  go_wp2_with fail
  go_ret
  exact⟨rfl,Chg.alloc _ _ _⟩
theorem all_not(L:List Int):L.all (λn=>inR n 0 255)= !(L.any (λn=>!inR n 0 255)):=by
 induction L with
 |nil=>rfl
 |cons x l ih=>simp only[List.all_cons,List.any_cons,ih];cases inR x 0 255 <;> simp
theorem fn322(w:World)(L:List Int):FnI w 322 #[] L (λn=>!inR n 0 255):=⟨cf322,λz w' _ _=>lmay1 z w'⟩
theorem lmay_any(w:World)(A:Option Addr)(n c:Nat)(L:List Int)(h:Rs VI w w.heap.size A n L)(hn:n≤100000):
  Calls Tryz.prog 320 #[.agg #[.slice A n c]] w (PV (.bool (decide (L.length≤16)&&L.all (λn=>inR n 0 255))) w):=by
 have hl:=h.1
 by_cases h1:n≤16
 ·have e1:decide (L.length≤16)=true:=by simpa [hl] using h1
  rw[e1,all_not,Bool.true_and]
  have g1:=Chg.alloc (λ_=>False) w (.cells #[.slice A n c] 277)
  have hc:=containsFI_any _ A n c 322 #[] L _ ((h.keep g1 (λ_ _ e=>e)).more g1.size) hn (fn322 _ L)
  have HC:=qQ hc
  have HG:=qQ g1
  have h2:(n:Int)≤16:=by omega
  clear hc g1 hl h e1
  go_enter Tryz.func320,Tryz.ntmps320
  go_wp2_with fail
  with_reducible refine HC.out.mono ?_
  rintro e w1 ⟨rfl,G⟩
  have HG1:=qQ (HG.out.trans G)
  clear G HC
  go_wp2_with fail
  go_ret
  exact⟨rfl,HG1.out⟩
 ·have e1:decide (L.length≤16)=false:=by simpa [hl] using h1
  rw[e1,Bool.false_and]
  have h2:16<(n:Int):=by omega
  clear h hl
  go_enter Tryz.func320,Tryz.ntmps320
  go_wp2_with fail
  go_ret
  exact⟨rfl,Chg.alloc _ _ _⟩
theorem nil_ne(w:World):(binOp .neq 227 .nilIface .nilIface).run Tryz.prog w= .ok (.bool false) w:=by kernel_rfl
theorem if_ne1(x:Value)(w:World):(binOp .neq 227 (.iface 273 x) .nilIface).run Tryz.prog w= .ok (.bool true) w:=by kernel_rfl
theorem if_ne2(x:Value)(w:World):(binOp .neq 227 (.iface 275 x) .nilIface).run Tryz.prog w= .ok (.bool true) w:=by kernel_rfl
theorem if_ne3(x:Value)(w:World):(binOp .neq 227 (.iface 277 x) .nilIface).run Tryz.prog w= .ok (.bool true) w:=by kernel_rfl
theorem iemay_no(k a b c:Int)(A:Option Addr)(n cp:Nat)(w:World)(hk:ofE k=false):Calls Tryz.prog 150 #[.agg #[.int .i64 k,.int .i64 a,.int .i64 b,.int .i64 c,.slice A n cp]] w (PV (.bool false) w):=by
 have hn:=nil_ne
 have g0:=Chg.alloc (λ_=>False) w (.cells #[.int .i64 k,.int .i64 a,.int .i64 b,.int .i64 c,.slice A n cp] 172)
 have HG:=qQ g0
 clear g0
 go_enter Tryz.func150,Tryz.ntmps150
 go_wp2_with fail
 (with_reducible refine (of_no k a b c _ _ hk).mono ?_)
 rintro e w1 ⟨rfl,G⟩
 have HG1:=qQ (HG.out.trans G)
 clear G HG hk
 go_wp2_with fail
 with_reducible refine wp_region_still_lit (by kernel_rfl) (by kernel_rfl) ?_
 repeat (with_reducible refine wpStill_step (λK hK=>?_);go_simp;with_reducible refine hK _ ?_;clear hK K)
 with_reducible refine wpStill_nil ?_
 change Exit.then _ _ _ _ w1.drew
 go_wp2_with fail
 go_ret
 exact⟨rfl,HG1.out.trans (Chg.drew _ _)⟩
theorem m316 (x : Value) (w : World) : (method 476 273 x "campanile/ie.may").run Tryz.prog w = .ok (316, x) w := by kernel_rfl
theorem m318 (x : Value) (w : World) : (method 476 275 x "campanile/ie.may").run Tryz.prog w = .ok (318, x) w := by kernel_rfl
theorem m320 (x : Value) (w : World) : (method 476 277 x "campanile/ie.may").run Tryz.prog w = .ok (320, x) w := by kernel_rfl
theorem zB{w:World}{b:Nat}{v0 v1 v2 v3 v4:Value}{t:TypeId}(h:w.heap[b]? =some (.cells #[v0,v1,v2,v3,v4] t (0,0))):
  w.cell? ⟨b,0,none⟩=some v0∧w.cell? ⟨b,1,none⟩=some v1∧w.cell? ⟨b,2,none⟩=some v2∧w.cell? ⟨b,3,none⟩=some v3∧w.cell? ⟨b,4,none⟩=some v4:=by
 refine⟨?_,?_,?_,?_,?_⟩ <;> (rw[qJ h];rfl)
theorem iemay_1(a b c:Int)(A:Option Addr)(n cp:Nat)(L:List Int)(w:World)(h:Rs VI w w.heap.size A n L)(hn:n≤100000)(hin:(inR a 0 1099511627775&&inR b 0 255)=true):
  Calls Tryz.prog 150 #[.agg #[.int .i64 1,.int .i64 a,.int .i64 b,.int .i64 c,.slice A n cp]] w (PV (.bool (jy 1 a b c 1 a b 0 L [])) w):=by
 have hne:=if_ne1 (.agg #[.int .i64 a,.int .i64 b])
 have hm:=m316 (.agg #[.int .i64 a,.int .i64 b])
 have hb0:=qV w (.cells #[.int .i64 1,.int .i64 a,.int .i64 b,.int .i64 c,.slice A n cp] 172)
 have g0:=Chg.alloc (λ_=>False) w (.cells #[.int .i64 1,.int .i64 a,.int .i64 b,.int .i64 c,.slice A n cp] 172)
 have HG:=qQ (And.intro g0 hb0)
 have HR:=qQ h
 have HI:=qQ hin
 clear g0 hb0 h hin
 go_enter Tryz.func150,Tryz.ntmps150
 go_wp2_with fail
 (with_reducible refine (of_1 a b c _ _).mono ?_)
 rintro e w1 ⟨rfl,G⟩
 have hb1:=Chg.keep G HG.out.2 (λe=>e)
 have HG1:=qQ (And.intro (HG.out.1.trans G) hb1)
 clear G HG hb1
 go_wp2_with fail
 obtain⟨I,F,hI,hF,hA⟩:=clsF w1
 obtain⟨j0,j1,j2,j3,j4⟩:=zB HG1.out.2
 have j0:=qF hF j0
 have j1:=qF hF j1
 have j2:=qF hF j2
 have j3:=qF hF j3
 have j4:=qF hF j4
 have hmay:∀m,Calls Tryz.prog 316 #[(.agg #[.int .i64 a,.int .i64 b])] (F m) (λe w'=>e= .returned (.bool true)∧∃m,w'=F m):=λm=>PV.cls hF hA (HI.out▸smay_any a b (F m))
 have HM:=qQ hmay
 have hpl:∀m,Calls Tryz.prog 198 #[.int .i64 1,.iface 273 (.agg #[.int .i64 a,.int .i64 b])] (F m) (λe w'=>e= .returned (.agg #[.int .i64 1,.int .i64 a,.int .i64 b,.int .i64 0,.slice none 0 0])∧∃m,w'=F m):=λm=>PV.cls hF hA (plain_1 1 a b (F m))
 have hsm:∀m,Calls Tryz.prog 197 #[.agg #[.int .i64 1,.int .i64 a,.int .i64 b,.int .i64 c,.slice A n cp],.agg #[.int .i64 1,.int .i64 a,.int .i64 b,.int .i64 0,.slice none 0 0]] (F m) (λe w'=>e= .returned (.bool (jy 1 a b c 1 a b 0 L []))∧∃m,w'=F m):=λm=>PV.cls hF hA (same_any 1 a b c 1 a b 0 A none n 0 cp 0 L [] (F m) ((HR.out.keep (HG1.out.1.trans (hF m)) (λ_ _ e=>e)).more (HG1.out.1.trans (hF m)).size) (Rs.nil _ _ _ _) (by omega) (by omega))
 have HP:=qQ hpl
 have HS:=qQ hsm
 clear hpl hsm
 have HF:=qQ hF
 have HA:=qQ (hA _ (Chg.drew _ _))
 clear hmay hF hA
 with_reducible refine qW F (by kernel_rfl) (by kernel_rfl) HA.out ?_
 repeat (with_reducible refine wpQuiet_step (λK hK=>?_);go_simp;first|(with_reducible refine hK _ ?_;clear hK K)|(apply Exists.intro;with_reducible refine⟨λ_=>?_,hK _ ?_⟩;(first|exact HM.out _|exact HP.out _|exact HS.out _);clear hK K))
 with_reducible refine wpQuiet_nil ?_
 intro _ hw'
 obtain⟨nq,rfl⟩:=hw'
 have HGF:=qQ (HG1.out.1.trans (HF.out nq))
 clear HF HG1 j0 j1 j2 j3 j4 HA
 go_wp2_with fail
 go_ret
 exact⟨rfl,HGF.out⟩
theorem iemay_1no(a b c:Int)(A:Option Addr)(n cp:Nat)(L:List Int)(w:World)(h:Rs VI w w.heap.size A n L)(hn:n≤100000)(hin:(inR a 0 1099511627775&&inR b 0 255)=false):
  Calls Tryz.prog 150 #[.agg #[.int .i64 1,.int .i64 a,.int .i64 b,.int .i64 c,.slice A n cp]] w (PV (.bool false) w):=by
 have hne:=if_ne1 (.agg #[.int .i64 a,.int .i64 b])
 have hm:=m316 (.agg #[.int .i64 a,.int .i64 b])
 have hb0:=qV w (.cells #[.int .i64 1,.int .i64 a,.int .i64 b,.int .i64 c,.slice A n cp] 172)
 have g0:=Chg.alloc (λ_=>False) w (.cells #[.int .i64 1,.int .i64 a,.int .i64 b,.int .i64 c,.slice A n cp] 172)
 have HG:=qQ (And.intro g0 hb0)
 have HR:=qQ h
 have HI:=qQ hin
 clear g0 hb0 h hin
 go_enter Tryz.func150,Tryz.ntmps150
 go_wp2_with fail
 (with_reducible refine (of_1 a b c _ _).mono ?_)
 rintro e w1 ⟨rfl,G⟩
 have hb1:=Chg.keep G HG.out.2 (λe=>e)
 have HG1:=qQ (And.intro (HG.out.1.trans G) hb1)
 clear G HG hb1
 go_wp2_with fail
 obtain⟨I,F,hI,hF,hA⟩:=clsF w1
 obtain⟨j0,j1,j2,j3,j4⟩:=zB HG1.out.2
 have j0:=qF hF j0
 have j1:=qF hF j1
 have j2:=qF hF j2
 have j3:=qF hF j3
 have j4:=qF hF j4
 have hmay:∀m,Calls Tryz.prog 316 #[(.agg #[.int .i64 a,.int .i64 b])] (F m) (λe w'=>e= .returned (.bool false)∧∃m,w'=F m):=λm=>PV.cls hF hA (HI.out▸smay_any a b (F m))
 have HM:=qQ hmay
 have HF:=qQ hF
 have HA:=qQ (hA _ (Chg.drew _ _))
 clear hmay hF hA
 with_reducible refine qW F (by kernel_rfl) (by kernel_rfl) HA.out ?_
 repeat (with_reducible refine wpQuiet_step (λK hK=>?_);go_simp;first|(with_reducible refine hK _ ?_;clear hK K)|(apply Exists.intro;with_reducible refine⟨λ_=>?_,hK _ ?_⟩;(first|exact HM.out _);clear hK K))
 with_reducible refine wpQuiet_nil ?_
 intro _ hw'
 obtain⟨nq,rfl⟩:=hw'
 have HGF:=qQ (HG1.out.1.trans (HF.out nq))
 clear HF HG1 j0 j1 j2 j3 j4 HA
 go_wp2_with fail
 go_ret
 exact⟨rfl,HGF.out⟩
theorem iemay_2(a b c:Int)(A:Option Addr)(n cp:Nat)(L:List Int)(w:World)(h:Rs VI w w.heap.size A n L)(hn:n≤100000)(hin:(inR c (-32768) 32767)=true):
  Calls Tryz.prog 150 #[.agg #[.int .i64 2,.int .i64 a,.int .i64 b,.int .i64 c,.slice A n cp]] w (PV (.bool (jy 2 a b c 2 0 0 c L [])) w):=by
 have hne:=if_ne2 (.agg #[.int .i64 c])
 have hm:=m318 (.agg #[.int .i64 c])
 have hb0:=qV w (.cells #[.int .i64 2,.int .i64 a,.int .i64 b,.int .i64 c,.slice A n cp] 172)
 have g0:=Chg.alloc (λ_=>False) w (.cells #[.int .i64 2,.int .i64 a,.int .i64 b,.int .i64 c,.slice A n cp] 172)
 have HG:=qQ (And.intro g0 hb0)
 have HR:=qQ h
 have HI:=qQ hin
 clear g0 hb0 h hin
 go_enter Tryz.func150,Tryz.ntmps150
 go_wp2_with fail
 (with_reducible refine (of_2 a b c _ _).mono ?_)
 rintro e w1 ⟨rfl,G⟩
 have hb1:=Chg.keep G HG.out.2 (λe=>e)
 have HG1:=qQ (And.intro (HG.out.1.trans G) hb1)
 clear G HG hb1
 go_wp2_with fail
 obtain⟨I,F,hI,hF,hA⟩:=clsF w1
 obtain⟨j0,j1,j2,j3,j4⟩:=zB HG1.out.2
 have j0:=qF hF j0
 have j1:=qF hF j1
 have j2:=qF hF j2
 have j3:=qF hF j3
 have j4:=qF hF j4
 have hmay:∀m,Calls Tryz.prog 318 #[(.agg #[.int .i64 c])] (F m) (λe w'=>e= .returned (.bool true)∧∃m,w'=F m):=λm=>PV.cls hF hA (HI.out▸cmay_any c (F m))
 have HM:=qQ hmay
 have hpl:∀m,Calls Tryz.prog 198 #[.int .i64 2,.iface 275 (.agg #[.int .i64 c])] (F m) (λe w'=>e= .returned (.agg #[.int .i64 2,.int .i64 0,.int .i64 0,.int .i64 c,.slice none 0 0])∧∃m,w'=F m):=λm=>PV.cls hF hA (plain_2 2 c (F m))
 have hsm:∀m,Calls Tryz.prog 197 #[.agg #[.int .i64 2,.int .i64 a,.int .i64 b,.int .i64 c,.slice A n cp],.agg #[.int .i64 2,.int .i64 0,.int .i64 0,.int .i64 c,.slice none 0 0]] (F m) (λe w'=>e= .returned (.bool (jy 2 a b c 2 0 0 c L []))∧∃m,w'=F m):=λm=>PV.cls hF hA (same_any 2 a b c 2 0 0 c A none n 0 cp 0 L [] (F m) ((HR.out.keep (HG1.out.1.trans (hF m)) (λ_ _ e=>e)).more (HG1.out.1.trans (hF m)).size) (Rs.nil _ _ _ _) (by omega) (by omega))
 have HP:=qQ hpl
 have HS:=qQ hsm
 clear hpl hsm
 have HF:=qQ hF
 have HA:=qQ (hA _ (Chg.drew _ _))
 clear hmay hF hA
 with_reducible refine qW F (by kernel_rfl) (by kernel_rfl) HA.out ?_
 repeat (with_reducible refine wpQuiet_step (λK hK=>?_);go_simp;first|(with_reducible refine hK _ ?_;clear hK K)|(apply Exists.intro;with_reducible refine⟨λ_=>?_,hK _ ?_⟩;(first|exact HM.out _|exact HP.out _|exact HS.out _);clear hK K))
 with_reducible refine wpQuiet_nil ?_
 intro _ hw'
 obtain⟨nq,rfl⟩:=hw'
 have HGF:=qQ (HG1.out.1.trans (HF.out nq))
 clear HF HG1 j0 j1 j2 j3 j4 HA
 go_wp2_with fail
 go_ret
 exact⟨rfl,HGF.out⟩
theorem iemay_2no(a b c:Int)(A:Option Addr)(n cp:Nat)(L:List Int)(w:World)(h:Rs VI w w.heap.size A n L)(hn:n≤100000)(hin:(inR c (-32768) 32767)=false):
  Calls Tryz.prog 150 #[.agg #[.int .i64 2,.int .i64 a,.int .i64 b,.int .i64 c,.slice A n cp]] w (PV (.bool false) w):=by
 have hne:=if_ne2 (.agg #[.int .i64 c])
 have hm:=m318 (.agg #[.int .i64 c])
 have hb0:=qV w (.cells #[.int .i64 2,.int .i64 a,.int .i64 b,.int .i64 c,.slice A n cp] 172)
 have g0:=Chg.alloc (λ_=>False) w (.cells #[.int .i64 2,.int .i64 a,.int .i64 b,.int .i64 c,.slice A n cp] 172)
 have HG:=qQ (And.intro g0 hb0)
 have HR:=qQ h
 have HI:=qQ hin
 clear g0 hb0 h hin
 go_enter Tryz.func150,Tryz.ntmps150
 go_wp2_with fail
 (with_reducible refine (of_2 a b c _ _).mono ?_)
 rintro e w1 ⟨rfl,G⟩
 have hb1:=Chg.keep G HG.out.2 (λe=>e)
 have HG1:=qQ (And.intro (HG.out.1.trans G) hb1)
 clear G HG hb1
 go_wp2_with fail
 obtain⟨I,F,hI,hF,hA⟩:=clsF w1
 obtain⟨j0,j1,j2,j3,j4⟩:=zB HG1.out.2
 have j0:=qF hF j0
 have j1:=qF hF j1
 have j2:=qF hF j2
 have j3:=qF hF j3
 have j4:=qF hF j4
 have hmay:∀m,Calls Tryz.prog 318 #[(.agg #[.int .i64 c])] (F m) (λe w'=>e= .returned (.bool false)∧∃m,w'=F m):=λm=>PV.cls hF hA (HI.out▸cmay_any c (F m))
 have HM:=qQ hmay
 have HF:=qQ hF
 have HA:=qQ (hA _ (Chg.drew _ _))
 clear hmay hF hA
 with_reducible refine qW F (by kernel_rfl) (by kernel_rfl) HA.out ?_
 repeat (with_reducible refine wpQuiet_step (λK hK=>?_);go_simp;first|(with_reducible refine hK _ ?_;clear hK K)|(apply Exists.intro;with_reducible refine⟨λ_=>?_,hK _ ?_⟩;(first|exact HM.out _);clear hK K))
 with_reducible refine wpQuiet_nil ?_
 intro _ hw'
 obtain⟨nq,rfl⟩:=hw'
 have HGF:=qQ (HG1.out.1.trans (HF.out nq))
 clear HF HG1 j0 j1 j2 j3 j4 HA
 go_wp2_with fail
 go_ret
 exact⟨rfl,HGF.out⟩
theorem iemay_3(k a b c:Int)(hk:k=3∨k=4)(A:Option Addr)(n cp:Nat)(L:List Int)(w:World)(h:Rs VI w w.heap.size A n L)(hn:n≤100000)(hin:(decide (L.length≤16)&&L.all (λn=>inR n 0 255))=true):
  Calls Tryz.prog 150 #[.agg #[.int .i64 k,.int .i64 a,.int .i64 b,.int .i64 c,.slice A n cp]] w (PV (.bool (jy k a b c k 0 0 0 L L)) w):=by
 have hne:=if_ne3 (.agg #[.slice A n cp])
 have hm:=m320 (.agg #[.slice A n cp])
 have hb0:=qV w (.cells #[.int .i64 k,.int .i64 a,.int .i64 b,.int .i64 c,.slice A n cp] 172)
 have g0:=Chg.alloc (λ_=>False) w (.cells #[.int .i64 k,.int .i64 a,.int .i64 b,.int .i64 c,.slice A n cp] 172)
 have HG:=qQ (And.intro g0 hb0)
 have HR:=qQ h
 have HI:=qQ hin
 clear g0 hb0 h hin
 go_enter Tryz.func150,Tryz.ntmps150
 go_wp2_with fail
 (with_reducible refine (of_l k a b c A n cp _ hk).mono ?_)
 rintro e w1 ⟨rfl,G⟩
 have hb1:=Chg.keep G HG.out.2 (λe=>e)
 have HG1:=qQ (And.intro (HG.out.1.trans G) hb1)
 clear G HG hb1
 go_wp2_with fail
 obtain⟨I,F,hI,hF,hA⟩:=clsF w1
 obtain⟨j0,j1,j2,j3,j4⟩:=zB HG1.out.2
 have j0:=qF hF j0
 have j1:=qF hF j1
 have j2:=qF hF j2
 have j3:=qF hF j3
 have j4:=qF hF j4
 have hmay:∀m,Calls Tryz.prog 320 #[(.agg #[.slice A n cp])] (F m) (λe w'=>e= .returned (.bool true)∧∃m,w'=F m):=λm=>PV.cls hF hA (HI.out▸lmay_any (F m) A n cp L ((HR.out.keep (HG1.out.1.trans (hF m)) (λ_ _ e=>e)).more (HG1.out.1.trans (hF m)).size) hn)
 have HM:=qQ hmay
 have hpl:∀m,Calls Tryz.prog 198 #[.int .i64 k,.iface 277 (.agg #[.slice A n cp])] (F m) (λe w'=>e= .returned (.agg #[.int .i64 k,.int .i64 0,.int .i64 0,.int .i64 0,.slice A n cp])∧∃m,w'=F m):=λm=>PV.cls hF hA (plain_3 k A n cp (F m))
 have hsm:∀m,Calls Tryz.prog 197 #[.agg #[.int .i64 k,.int .i64 a,.int .i64 b,.int .i64 c,.slice A n cp],.agg #[.int .i64 k,.int .i64 0,.int .i64 0,.int .i64 0,.slice A n cp]] (F m) (λe w'=>e= .returned (.bool (jy k a b c k 0 0 0 L L))∧∃m,w'=F m):=λm=>PV.cls hF hA (same_any k a b c k 0 0 0 A A n n cp cp L L (F m) ((HR.out.keep (HG1.out.1.trans (hF m)) (λ_ _ e=>e)).more (HG1.out.1.trans (hF m)).size) ((HR.out.keep (HG1.out.1.trans (hF m)) (λ_ _ e=>e)).more (HG1.out.1.trans (hF m)).size) (by omega) (by omega))
 have HP:=qQ hpl
 have HS:=qQ hsm
 clear hpl hsm
 have HF:=qQ hF
 have HA:=qQ (hA _ (Chg.drew _ _))
 clear hmay hF hA
 with_reducible refine qW F (by kernel_rfl) (by kernel_rfl) HA.out ?_
 repeat (with_reducible refine wpQuiet_step (λK hK=>?_);go_simp;first|(with_reducible refine hK _ ?_;clear hK K)|(apply Exists.intro;with_reducible refine⟨λ_=>?_,hK _ ?_⟩;(first|exact HM.out _|exact HP.out _|exact HS.out _);clear hK K))
 with_reducible refine wpQuiet_nil ?_
 intro _ hw'
 obtain⟨nq,rfl⟩:=hw'
 have HGF:=qQ (HG1.out.1.trans (HF.out nq))
 clear HF HG1 j0 j1 j2 j3 j4 HA
 go_wp2_with fail
 go_ret
 exact⟨rfl,HGF.out⟩
theorem iemay_3no(k a b c:Int)(hk:k=3∨k=4)(A:Option Addr)(n cp:Nat)(L:List Int)(w:World)(h:Rs VI w w.heap.size A n L)(hn:n≤100000)(hin:(decide (L.length≤16)&&L.all (λn=>inR n 0 255))=false):
  Calls Tryz.prog 150 #[.agg #[.int .i64 k,.int .i64 a,.int .i64 b,.int .i64 c,.slice A n cp]] w (PV (.bool false) w):=by
 have hne:=if_ne3 (.agg #[.slice A n cp])
 have hm:=m320 (.agg #[.slice A n cp])
 have hb0:=qV w (.cells #[.int .i64 k,.int .i64 a,.int .i64 b,.int .i64 c,.slice A n cp] 172)
 have g0:=Chg.alloc (λ_=>False) w (.cells #[.int .i64 k,.int .i64 a,.int .i64 b,.int .i64 c,.slice A n cp] 172)
 have HG:=qQ (And.intro g0 hb0)
 have HR:=qQ h
 have HI:=qQ hin
 clear g0 hb0 h hin
 go_enter Tryz.func150,Tryz.ntmps150
 go_wp2_with fail
 (with_reducible refine (of_l k a b c A n cp _ hk).mono ?_)
 rintro e w1 ⟨rfl,G⟩
 have hb1:=Chg.keep G HG.out.2 (λe=>e)
 have HG1:=qQ (And.intro (HG.out.1.trans G) hb1)
 clear G HG hb1
 go_wp2_with fail
 obtain⟨I,F,hI,hF,hA⟩:=clsF w1
 obtain⟨j0,j1,j2,j3,j4⟩:=zB HG1.out.2
 have j0:=qF hF j0
 have j1:=qF hF j1
 have j2:=qF hF j2
 have j3:=qF hF j3
 have j4:=qF hF j4
 have hmay:∀m,Calls Tryz.prog 320 #[(.agg #[.slice A n cp])] (F m) (λe w'=>e= .returned (.bool false)∧∃m,w'=F m):=λm=>PV.cls hF hA (HI.out▸lmay_any (F m) A n cp L ((HR.out.keep (HG1.out.1.trans (hF m)) (λ_ _ e=>e)).more (HG1.out.1.trans (hF m)).size) hn)
 have HM:=qQ hmay
 have HF:=qQ hF
 have HA:=qQ (hA _ (Chg.drew _ _))
 clear hmay hF hA
 with_reducible refine qW F (by kernel_rfl) (by kernel_rfl) HA.out ?_
 repeat (with_reducible refine wpQuiet_step (λK hK=>?_);go_simp;first|(with_reducible refine hK _ ?_;clear hK K)|(apply Exists.intro;with_reducible refine⟨λ_=>?_,hK _ ?_⟩;(first|exact HM.out _);clear hK K))
 with_reducible refine wpQuiet_nil ?_
 intro _ hw'
 obtain⟨nq,rfl⟩:=hw'
 have HGF:=qQ (HG1.out.1.trans (HF.out nq))
 clear HF HG1 j0 j1 j2 j3 j4 HA
 go_wp2_with fail
 go_ret
 exact⟨rfl,HGF.out⟩
theorem sameE_is(e f:El):jy e.kind e.asn e.rank e.ticks f.kind f.asn f.rank f.ticks e.list f.list=decide (e=f):=by
 obtain⟨k,a,b,c,L⟩:=e
 obtain⟨k',a',b',c',L'⟩:=f
 rw[Bool.eq_iff_iff]
 simp[jy]
theorem iemay_any(w:World)(e:El)(A:Option Addr)(n cp:Nat)(h:Rs VI w w.heap.size A n e.list)(hn:n≤100000):
  Calls Tryz.prog 150 #[elV e (.slice A n cp)] w (PV (.bool (mayE e)) w):=by
 obtain⟨k,a,b,c,L⟩:=e
 have h:Rs VI w w.heap.size A n L:=h
 by_cases hk:ofE k=true
 ·by_cases hin:zW ⟨k,a,b,c,L⟩=true
  ·have e0:mayE ⟨k,a,b,c,L⟩=decide ((⟨k,a,b,c,L⟩:El)=plainE ⟨k,a,b,c,L⟩):=by
    show (ofE k&&(zW _&&_))=_
    rw[hk,hin];simp
   rw[e0,←sameE_is]
   have hk':1≤k∧k≤4:=by simpa [ofE,inR] using hk
   rcases (by omega:k=1∨k=2∨k=3∨k=4) with rfl|rfl|rfl|rfl
   ·exact iemay_1 a b c A n cp L w h hn (by simpa [zW] using hin)
   ·exact iemay_2 a b c A n cp L w h hn (by simpa [zW] using hin)
   ·exact iemay_3 3 a b c (.inl rfl) A n cp L w h hn (by simpa [zW] using hin)
   ·exact iemay_3 4 a b c (.inr rfl) A n cp L w h hn (by simpa [zW] using hin)
  ·have hin:zW ⟨k,a,b,c,L⟩=false:=by simpa using hin
   have e0:mayE ⟨k,a,b,c,L⟩=false:=by
    show (ofE k&&(zW _&&_))=_
    rw[hk,hin];simp
   rw[e0]
   have hk':1≤k∧k≤4:=by simpa [ofE,inR] using hk
   rcases (by omega:k=1∨k=2∨k=3∨k=4) with rfl|rfl|rfl|rfl
   ·exact iemay_1no a b c A n cp L w h hn (by simpa [zW] using hin)
   ·exact iemay_2no a b c A n cp L w h hn (by simpa [zW] using hin)
   ·exact iemay_3no 3 a b c (.inl rfl) A n cp L w h hn (by simpa [zW] using hin)
   ·exact iemay_3no 4 a b c (.inr rfl) A n cp L w h hn (by simpa [zW] using hin)
 ·have hk:ofE k=false:=by simpa using hk
  have e0:mayE ⟨k,a,b,c,L⟩=false:=by
   show (ofE k&&(zW _&&_))=_
   rw[hk];simp
  rw[e0]
  exact iemay_no k a b c A n cp w hk
structure FnE(w:World)(own:Cls)(n:Nat)(caps:Array Value)(L:List El)(p:El→Bool):Prop where
 cf:∀(args:Array Value) (w':World),(callFunc n args).run Tryz.prog w'= .ok (.enter n args) w'
 at':∀(e:El) (lv:Value) (w':World),e∈L→RV VI w' own lv e.list→Chg (λ_=>False) w w'→Calls Tryz.prog n (#[elV e lv]++caps) w' (PV (.bool (p e)) w')
theorem indexFE_any(w:World)(own:Cls)(v:Value)(n:Nat)(caps:Array Value)(L:List El)(p:El→Bool)(h:IeO w own v L)(hL:L.length≤100000)(hf:FnE w own n caps L p):
  Calls Tryz.prog 196 #[v,.func (.func n) #[] caps] w (PV (.int .i64 (vy L p)) w):=by
 have HR:=qQ h
 have HF:=qQ hf
 obtain⟨A,c,rfl⟩:=h.val
 obtain⟨len,hlen⟩:=qZ L.length
 rw[←hlen] at hL HR ⊢
 have hl:(len:Int)≤100000:=by omega
 have HL:=qQ hlen
 clear hf hlen h
 go_enter Tryz.func196,Tryz.ntmps196
 go_wp2_with fail
 go_loopw [8] (λi wr=>∃(k:Nat),k≤len∧i= .int .i64 k∧(∀j y,j<k→L[j]? =some y→p y=false)∧Chg (λ_=>False) w wr) (λi _=>len-(intOf i).toNat)
 case atStart=>exact⟨0,by omega,rfl,(λj y hj=>absurd hj (by omega)),Chg.refl _ _⟩
 case round=>
  obtain⟨k,hk,rfl,hno,hG⟩:=hrel
  have HN:=qQ hno
  have HG:=qQ hG
  clear hno hG
  by_cases hlt:k<len
  ·obtain⟨e,he⟩:∃e,L[k]? =some e:=⟨_,List.getElem?_eq_getElem (by have:=HL.out;omega)⟩
   obtain⟨g,c',lv,hv,⟨c0,c1,c2,c3,c4⟩,hr⟩:=(HR.out.keep HG.out (λ_ _ e=>e)).at he
   rw[←HL.out] at hv
   cases hv
   have hmem:=List.mem_of_getElem? he
   have hcf:=HF.out.cf
   have hat:=HF.out.at' e lv wr hmem hr HG.out
   unfold elV at hat
   have HA:=qQ hat
   have HZ:=qQ he
   have i1:(k:Int)<(len:Int):=by omega
   clear hat hmem he hr
   go_wp2_with fail
   clear hcf c0 c1 c2 c3 c4
   with_reducible refine HA.out.mono ?_
   rintro e w1 ⟨rfl,G1⟩
   have HG1:=qQ (HG.out.trans G1)
   clear G1 HA HG
   by_cases hp:p e=true
   ·rw[hp]
    have hi:=indexP_at L p k e HZ.out hp HN.out
    have HI:=qQ hi
    clear hi hp
    go_wp2_with fail
    go_ret
    rw[HI.out];exact⟨rfl,HG1.out⟩
   ·have hp:p e=false:=by simpa using hp
    rw[hp]
    have hn:∀j y,j<k+1→L[j]? =some y→p y=false:=λj y hj hy=>by
     by_cases ej:j=k
     ·subst ej;rw[HZ.out] at hy;cases hy;exact hp
     ·exact HN.out j y (by omega) hy
    have HN1:=qQ hn
    clear hn hp
    go_wp2_with fail
    go_roundw
    case measure=>simp[intOf];omega
    case rel=>exact⟨k+1,by omega,by go_num,HN1.out,HG1.out⟩
  ·obtain rfl:k=len:=by omega
   have hi:=vx L p (λj y hj=>HN.out j y (by have:=(List.getElem?_eq_some_iff.1 hj).1;rw[←HL.out] at this;exact this) hj)
   have HI:=qQ hi
   clear hi
   go_wp2_with fail
   go_ret
   rw[HI.out];exact⟨rfl,HG.out⟩
theorem containsFE_any(w:World)(own:Cls)(v:Value)(n:Nat)(caps:Array Value)(L:List El)(p:El→Bool)(h:IeO w own v L)(hL:L.length≤100000)(hf:FnE w own n caps L p):
  Calls Tryz.prog 148 #[v,.func (.func n) #[] caps] w (PV (.bool (L.any p)) w):=by
 have hi:=indexFE_any w own v n caps L p h hL hf
 obtain⟨A,c,rfl⟩:=h.val
 have hp:=indexP_pos L p
 rw[←hp]
 clear h hp hf
 generalize vy L p=q at *
 go_enter Tryz.func148,Tryz.ntmps148
 go_wp2_with fail
 with_reducible refine hi.mono ?_
 rintro e w1 ⟨rfl,G⟩
 have HG:=qQ G
 clear G hi
 go_wp2_with fail
 go_ret
 exact⟨rfl,HG.out⟩
theorem cf149(args:Array Value)(w':World):(callFunc 149 args).run Tryz.prog w'= .ok (.enter 149 args) w':=by kernel_rfl
theorem notmay149_any(w:World)(e:El)(A:Option Addr)(n cp:Nat)(h:Rs VI w w.heap.size A n e.list)(hn:n≤100000):
  Calls Tryz.prog 149 #[elV e (.slice A n cp)] w (PV (.bool (!mayE e)) w):=by
 have g:=Chg.alloc (λ_=>False) w (.cells #[.int .i64 e.kind,.int .i64 e.asn,.int .i64 e.rank,.int .i64 e.ticks,.slice A n cp] 172)
 have hm:=iemay_any _ e A n cp ((h.keep g (λ_ _ e=>e)).more g.size) hn
 have HM:=qQ hm
 have HG:=qQ g
 clear hm g h
 unfold elV at HM ⊢
 generalize mayE e=q at *
 go_enter Tryz.func149,Tryz.ntmps149
 go_wp2_with fail
 with_reducible refine HM.out.mono ?_
 rintro e w1 ⟨rfl,G⟩
 have HG1:=qQ (HG.out.trans G)
 clear G HM HG
 go_wp2_with fail
 go_ret
 exact⟨rfl,HG1.out⟩
theorem fn149(w:World)(own:Cls)(L:List El)(hL:∀e∈L,e.list.length≤100000):FnE w own 149 #[] L (λe=>!mayE e):=
 ⟨cf149,λe lv w' he hr hG=>by
  obtain⟨A,c,rfl,h1,_⟩:=hr.rs
  exact notmay149_any w' e A e.list.length c h1 (hL e he)⟩
theorem cf152(args:Array Value)(w':World):(callFunc 152 args).run Tryz.prog w'= .ok (.enter 152 args) w':=by kernel_rfl
theorem notmay152_any(w:World)(e:El)(A:Option Addr)(n cp:Nat)(h:Rs VI w w.heap.size A n e.list)(hn:n≤100000):
  Calls Tryz.prog 152 #[elV e (.slice A n cp)] w (PV (.bool (!mayE e)) w):=by
 have g:=Chg.alloc (λ_=>False) w (.cells #[.int .i64 e.kind,.int .i64 e.asn,.int .i64 e.rank,.int .i64 e.ticks,.slice A n cp] 172)
 have hm:=iemay_any _ e A n cp ((h.keep g (λ_ _ e=>e)).more g.size) hn
 have HM:=qQ hm
 have HG:=qQ g
 clear hm g h
 unfold elV at HM ⊢
 generalize mayE e=q at *
 go_enter Tryz.func152,Tryz.ntmps152
 go_wp2_with fail
 with_reducible refine HM.out.mono ?_
 rintro e w1 ⟨rfl,G⟩
 have HG1:=qQ (HG.out.trans G)
 clear G HM HG
 go_wp2_with fail
 go_ret
 exact⟨rfl,HG1.out⟩
theorem fn152(w:World)(own:Cls)(L:List El)(hL:∀e∈L,e.list.length≤100000):FnE w own 152 #[] L (λe=>!mayE e):=
 ⟨cf152,λe lv w' he hr hG=>by
  obtain⟨A,c,rfl,h1,_⟩:=hr.rs
  exact notmay152_any w' e A e.list.length c h1 (hL e he)⟩
theorem Wr.kept{w w':World}{b:Nat}{v:Value}{L:List Int}(h:Wr w b v L)(g:Chg (λ_=>False) w w'):Wr w' b v L:=
 ⟨Chg.keep g h.blk (λe=>e),qY h.own g (λ_ _ e=>e)⟩
theorem be_one(n:Int)(h0:0≤n)(h1:n<256):be 1 n=[n]:=by simp[be];omega
def WC(w0 w:World)(b:Nat)(L:List Int):Prop:=(∃v,Wr w b v L)∧CW 5 b w0 w
theorem WC.start{w:World}{b:Nat}{v:Value}{L:List Int}(h:Wr w b v L):WC w w b L:=⟨⟨v,h⟩,CW.refl _ _ _⟩
theorem WC.kept{w0 w w':World}{b:Nat}{L:List Int}(h:WC w0 w b L)(g:Chg (λ_=>False) w w'):WC w0 w' b L:=by
 obtain⟨⟨v,h1⟩,h2⟩:=h
 exact⟨⟨v,h1.kept g⟩,h2.trans (CW.none g)⟩
theorem zX{w0 w:World}{b:Nat}{L:List Int}(h:WC w0 w b L)(k:Nat)(W:Int)(hW:((8*k:Nat):Int)=W)(hk:k≤8)(n:Int)(hn:0≤n)(hn2:n<18446744073709551616)(hL:L.length≤100000):
  Calls Tryz.prog 100 #[.pointer (some ⟨b,0,none⟩),.int .u64 n,.int .i64 W] w (λe w'=>e= .returned (.tuple #[])∧WC w0 w' b (L++be k n)∧CW 5 b w w'):=by
 obtain⟨⟨v,h1⟩,h2⟩:=h
 rw[←hW]
 exact (put_any k hk n hn hn2 w b v L h1 hL).mono λe w' ⟨h3,v',h4,h5⟩=>⟨h3,⟨⟨v',h4⟩,h2.trans h5⟩,h5⟩
theorem wc_text{w0 w:World}{b:Nat}{L:List Int}(h:WC w0 w b L)(a:Option Addr)(len cap:Nat)(zs:List Int)(hs:Rs V8 w b a len zs)(hz:∀z∈zs,0≤z∧z<256)(hL:L.length+len≤100000):
  Calls Tryz.prog 101 #[.pointer (some ⟨b,0,none⟩),.slice a len cap] w (λe w'=>e= .returned (.tuple #[])∧WC w0 w' b (L++zs)∧CW 5 b w w'):=by
 obtain⟨⟨v,h1⟩,h2⟩:=h
 exact (text_any w b v L a len cap zs h1 hs hz hL).mono λe w' ⟨h3,v',h4,h5⟩=>⟨h3,⟨⟨v',h4⟩,h2.trans h5⟩,h5⟩
def PWC(w:World)(b:Nat)(L:List Int)(e:Ending)(w':World):Prop:=e= .returned (.tuple #[])∧WC w w' b L
theorem u64_bd(x:Int):0≤IntKind.u64.wrap x∧IntKind.u64.wrap x<18446744073709551616:=by rw[u64w];omega
theorem sput_any(w:World)(a r:Int)(b:Nat)(v:Value)(L:List Int)(h:Wr w b v L)(hL:L.length≤10000)(ha:0≤a∧a≤1099511627775)(hr:0≤r∧r≤255):
  Calls Tryz.prog 317 #[.agg #[.int .i64 a,.int .i64 r],.pointer (some ⟨b,0,none⟩)] w (PWC w b (L++be 1 6++be 5 a++be 1 r)):=by
 obtain⟨M,hM⟩:=qZ (L++be 1 6++be 5 a++be 1 r)
 rw[←hM]
 have HM:=qQ hM
 clear hM
 obtain⟨ha0,ha1⟩:=ha
 obtain⟨hr0,hr1⟩:=hr
 have g:=Chg.alloc (λ_=>False) w (.cells #[.int .i64 a,.int .i64 r] 273)
 have hb:=qV w (.cells #[.int .i64 a,.int .i64 r] 273)
 have hbw:=qX h.blk
 have HW:=qQ ((WC.start h).kept g)
 have HB:=qQ hb
 have HBW:=qQ (show w.heap.size≠b by omega)
 clear h g hb hbw
 go_enter Tryz.func317,Tryz.ntmps317
 go_wp2_with fail
 (with_reducible refine (zX HW.out 1 8 rfl (by omega) 6 (by omega) (by omega) (by omega)).mono ?_)
 rintro e w1 ⟨rfl,W1,C1⟩
 have HW1:=qQ W1
 have HB1:=qQ (C1.keep HB.out HBW.out (.inl (by decide)))
 clear W1 C1 HW HB
 have c0:w1.cell? ⟨w.heap.size,0,none⟩=some (.int .i64 a):=by rw[qJ HB1.out];rfl
 go_wp2_with fail
 clear c0
 (with_reducible refine (zX HW1.out 5 40 rfl (by omega) a ha0 (by omega) (by simp[qq];omega)).mono ?_)
 rintro e w2 ⟨rfl,W2,C2⟩
 have HW2:=qQ W2
 have HB2:=qQ (C2.keep HB1.out HBW.out (.inl (by decide)))
 clear W2 C2 HW1 HB1
 have c0:w2.cell? ⟨w.heap.size,1,none⟩=some (.int .i64 r):=by rw[qJ HB2.out];rfl
 go_wp2_with fail
 clear c0
 (with_reducible refine (zX HW2.out 1 8 rfl (by omega) r hr0 (by omega) (by simp[qq];omega)).mono ?_)
 rintro e w3 ⟨rfl,W3,C3⟩
 have HW3:=qQ W3
 clear W3 C3 HW2 HB2
 go_wp2_with fail
 go_end0
 rw[HM.out]
 exact⟨rfl,HW3.out⟩
theorem cput_any(w:World)(a:Int)(b:Nat)(v:Value)(L:List Int)(h:Wr w b v L)(hL:L.length≤10000):
  Calls Tryz.prog 319 #[.agg #[.int .i64 a],.pointer (some ⟨b,0,none⟩)] w (PWC w b (L++be 1 2++be 2 (IntKind.u64.wrap a))):=by
 obtain⟨u,hu⟩:=qZ (IntKind.u64.wrap a)
 obtain⟨u0,u1⟩:=u64_bd a
 rw[←hu] at u0 u1 ⊢
 obtain⟨M,hM⟩:=qZ (L++be 1 2++be 2 u)
 rw[←hM]
 have HM:=qQ hM
 have hu2:IntKind.u64.wrap a=u:=hu.symm
 have g:=Chg.alloc (λ_=>False) w (.cells #[.int .i64 a] 275)
 have hb:=qV w (.cells #[.int .i64 a] 275)
 have hbw:=qX h.blk
 have HW:=qQ ((WC.start h).kept g)
 have HB:=qQ hb
 have HBW:=qQ (show w.heap.size≠b by omega)
 have HU:=qQ hu2
 have HUB:=qQ (And.intro u0 u1)
 clear h g hb hbw hM hu hu2 u0 u1
 go_enter Tryz.func319,Tryz.ntmps319
 go_wp2_with fail
 (with_reducible refine (zX HW.out 1 8 rfl (by omega) 2 (by omega) (by omega) (by omega)).mono ?_)
 rintro e w1 ⟨rfl,W1,C1⟩
 have HW1:=qQ W1
 have HB1:=qQ (C1.keep HB.out HBW.out (.inl (by decide)))
 clear W1 C1 HW HB
 have c0:w1.cell? ⟨w.heap.size,0,none⟩=some (.int .i64 a):=by rw[qJ HB1.out];rfl
 have hu:=HU.out
 go_wp2_with fail
 clear c0 hu
 (with_reducible refine (zX HW1.out 2 16 rfl (by omega) u HUB.out.1 HUB.out.2 (by simp[qq];omega)).mono ?_)
 rintro e w2 ⟨rfl,W2,C2⟩
 have HW2:=qQ W2
 clear W2 C2 HW1 HB1
 go_wp2_with fail
 go_end0
 rw[HM.out]
 exact⟨rfl,HW2.out⟩
theorem lput_any(w:World)(A:Option Addr)(n c:Nat)(zs:List Int)(b:Nat)(v:Value)(L:List Int)(h:Wr w b v L)(hL:L.length≤10000)(hs:Rs VI w b A n zs)(hz:∀z∈zs,0≤z∧z<256)(hn:n≤16):
  Calls Tryz.prog 321 #[.agg #[.slice A n c],.pointer (some ⟨b,0,none⟩)] w (PWC w b (L++be 1 zs.length++zs)):=by
 obtain⟨M,hM⟩:=qZ (L++be 1 (zs.length:Int))
 rw[←hM]
 have hMl:M.length≤10001:=by rw[hM];simp[qq];omega
 have hzl:=hs.1
 rw[hzl] at hM
 have g:=Chg.alloc (λ_=>False) w (.cells #[.slice A n c] 277)
 have hb:=qV w (.cells #[.slice A n c] 277)
 have hbw:=qX h.blk
 have HW:=qQ ((WC.start h).kept g)
 have HB:=qQ hb
 have HBW:=qQ (show w.heap.size≠b by omega)
 have HS:=qQ (hs.keep g (λ_ _ e=>e))
 have HZ:=qQ hz
 have HM:=qQ (And.intro hM hMl)
 have HZL:=qQ hzl
 have hn2:(n:Int)≤16:=by omega
 clear h g hb hbw hM hMl hs hz hzl
 go_enter Tryz.func321,Tryz.ntmps321
 go_wp2_with fail
 (with_reducible refine (zX HW.out 1 8 rfl (by omega) (n:Int) (by omega) (by omega) (by omega)).mono ?_)
 rintro e w1 ⟨rfl,W1,C1⟩
 rw[←HM.out.1] at W1
 have HW1:=qQ W1
 have HB1:=qQ (C1.keep HB.out HBW.out (.inl (by decide)))
 have HS1:=qQ (HS.out.keep C1.chg (λj h1 h2=>by omega))
 clear W1 C1 HW HB HS
 have c0:w1.cell? ⟨w.heap.size,0,none⟩=some (.slice A n c):=by rw[qJ HB1.out];rfl
 go_wp2_with fail
 clear c0 HB1
 go_loopw [15] (λi wr=>∃(k:Nat),k≤n∧i= .int .i64 k∧WC w wr b (M++zs.take k)∧Rs VI wr b A n zs) (λi _=>n-(intOf i).toNat)
 case atStart=>exact⟨0,by omega,rfl,by simpa using HW1.out,HS1.out⟩
 case round=>
  obtain⟨k,hk,rfl,hP,hS⟩:=hrel
  have HP:=qQ hP
  have HSR:=qQ hS
  clear hP hS HW1 HS1
  by_cases hlt:k<n
  ·obtain⟨x,z,rfl,hxb,hz,hc⟩:=HSR.out.at hlt
   obtain⟨z0,z1⟩:=HZ.out z (List.mem_of_getElem? hz)
   have HX:=qQ hz
   unfold VI at hc
   clear hz
   go_wp2_with fail
   (with_reducible refine (zX HP.out 1 8 rfl (by omega) z z0 (by omega) (by have:=HM.out.2;have:=HZL.out;simp;omega)).mono ?_)
   rintro e w2 ⟨rfl,W2,C2⟩
   have hnx:M++zs.take k++be 1 z=M++zs.take (k+1):=by
    rw[List.take_add_one,HX.out,List.append_assoc,be_one z z0 z1];rfl
   rw[hnx] at W2
   have HN:Hid (WC w w2 b (M++zs.take (k+1))∧Rs VI w2 b (some x) n zs):=qQ ⟨W2,HSR.out.keep C2.chg (λj h1 h2=>by omega)⟩
   clear hnx W2 C2 hc HP HSR
   go_wp2_with fail
   go_roundw
   case measure=>simp[intOf];omega
   case rel=>exact⟨k+1,by omega,by go_num,HN.out.1,HN.out.2⟩
  ·obtain rfl:k=n:=by omega
   go_wp2_with fail
   go_end0
   have h:=HP.out
   rw[List.take_of_length_le (by have:=HZL.out;omega)] at h
   exact⟨rfl,h⟩
theorem p317 (x : Value) (w : World) : (method 476 273 x "campanile/ie.put").run Tryz.prog w = .ok (317, x) w := by kernel_rfl
theorem p319 (x : Value) (w : World) : (method 476 275 x "campanile/ie.put").run Tryz.prog w = .ok (319, x) w := by kernel_rfl
theorem p321 (x : Value) (w : World) : (method 476 277 x "campanile/ie.put").run Tryz.prog w = .ok (321, x) w := by kernel_rfl
end Go.Proofs.YtnpihllannobgaaGreatDoor
