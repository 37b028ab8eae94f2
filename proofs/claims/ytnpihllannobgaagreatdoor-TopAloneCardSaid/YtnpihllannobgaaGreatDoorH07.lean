/- Steps of the proof, part H07. No condition. -/
import Derived.Test.YtnpihllannobgaaGreatDoorH06
namespace Go.Proofs.YtnpihllannobgaaGreatDoor
set_option linter.unusedVariables false
set_option linter.unusedSimpArgs false
set_option maxRecDepth 100000
set_option maxHeartbeats 32000000
open Go.ChangeShapes Go.WideShapes Go.ChangeAt Go.RowKit
theorem fnode_any(n:Int)(w:World):Calls Tryz.prog 147 #[.int .i64 n] w λe w'=>e= .returned (.bool (zD n))∧w'=w:=by
 by_cases h0:0≤n
 ·by_cases h1:n<16
  ·have e:zD n=true:=zT h0 (by omega)
   rw[e]
   clear e
   go_enter Tryz.func147,Tryz.ntmps147
   go_wp2_with fail
   go_ret
   exact⟨rfl,rfl⟩
  ·have e:zD n=false:=jC (by omega)
   have h1:16≤n:=by omega
   rw[e]
   clear e
   go_enter Tryz.func147,Tryz.ntmps147
   go_wp2_with fail
   go_ret
   exact⟨rfl,rfl⟩
 ·have e:zD n=false:=vP (by omega)
  have h0:n<0:=by omega
  rw[e]
  clear e
  go_enter Tryz.func147,Tryz.ntmps147
  go_wp2_with fail
  go_ret
  exact⟨rfl,rfl⟩
def frV(f:Fr)(iv dv:Value):Value:= .agg #[.int .i64 f.kind,.int .i64 f.src,.int .i64 f.dst,.int .i64 f.seq,iv,dv]
theorem neD(n:Nat):((n:Int)==0)=decide (n=0):=by rw[Bool.eq_iff_iff];simp
theorem qC{w:World}{b:Nat}{v0 v1 v2 v3 v4 v5:Value}{t:TypeId}(h:w.heap[b]? =some (.cells #[v0,v1,v2,v3,v4,v5] t (0,0))):
  w.cell? ⟨b,0,none⟩=some v0∧w.cell? ⟨b,1,none⟩=some v1∧w.cell? ⟨b,2,none⟩=some v2∧w.cell? ⟨b,3,none⟩=some v3∧w.cell? ⟨b,4,none⟩=some v4∧w.cell? ⟨b,5,none⟩=some v5:=by
 refine⟨?_,?_,?_,?_,?_,?_⟩ <;> (rw[qJ h];rfl)
theorem says_any(w:World)(own:Cls)(f:Fr)(iv dv:Value)(hi:IeO w own iv f.ies)(hd:BO w own dv f.data)(hE:f.ies.length≤100000)(hT:f.data.length≤100000)(hll:∀e∈f.ies,e.list.length≤100000):
  Calls Tryz.prog 151 #[frV f iv dv] w (PV (.bool (zV f)) w):=by
 have HI:=qQ hi
 have HD:=qQ hd
 obtain⟨A,c,rfl⟩:=hi.val
 obtain⟨⟨B,cb,rfl,_⟩,_⟩:=hd
 obtain⟨K,S,D,Q,E,T⟩:=f
 simp only[frV]
 simp only at HI HD
 obtain⟨m,hm⟩:=qZ T.length
 obtain⟨n,hn⟩:=qZ E.length
 simp only[←hm,←hn] at HI HD ⊢
 have HM:=qQ (And.intro hm hn)
 simp only at hll hE hT
 have HLL:=qQ (And.intro hll (And.intro hE hT))
 have hn3:(n:Int)≤100000:=by omega
 have hm3:(m:Int)≤100000:=by omega
 clear hm hn hi hll hE hT
 by_cases hk:K=2
 ·subst hk
  have HK:=qQ (rfl:(2:Int)=2)
  by_cases h64:D=64
  ·have h1:(D != 64)=false:=by simpa using h64
   have H1:=qQ h1
   clear h64
   have HV:=qQ (show zV ⟨2,S,D,Q,E,T⟩=false from by unfold zV;simp[H1.out])
   have ga:Chg (λ_=>False) w (w.alloc (.cells #[.int .i64 2,.int .i64 S,.int .i64 D,.int .i64 Q,.slice A n c,.slice B m cb] 71)):=Chg.alloc _ _ _
   have HGA:=qQ ga
   have hfi:=qr _ own (.slice A n c) E 1 (HI.out.keep ga (λ_ _ e=>e)) HLL.out.2.1 HLL.out.1
   obtain⟨X,hX⟩:∃X,zM E 1=X:=⟨_,rfl⟩
   rw[hX] at hfi
   have HX:=qQ hX
   have HFI:=qQ hfi
   have hba:=qV w (.cells #[.int .i64 2,.int .i64 S,.int .i64 D,.int .i64 Q,.slice A n c,.slice B m cb] 71)
   have HBA:=qQ hba
   clear ga hfi hX hba
   go_enter Tryz.func151,Tryz.ntmps151
   go_wp2_with fail
   with_reducible refine HFI.out.mono ?_
   rintro en w2 ⟨lv,rfl,hown,G2⟩
   have hblk:=Chg.keep G2 HBA.out (λe=>e)
   obtain⟨b0,b1,b2,b3,b4,b5⟩:=qC hblk
   have hsz:=qX hblk
   have hne:¬(w.heap.size=w2.heap.size):=by omega
   clear hblk
   unfold elV
   obtain⟨A2,c2,rfl,_⟩:=Rs.of_own (V:=VI) (zs:=(X.getD el0).list) hown
   have HG2:=qQ (HGA.out.trans G2)
   clear hown G2
   go_wp2_with fail
   go_ret
   rw[HV.out]
   exact⟨rfl,HG2.out.trans (Chg.alloc _ _ _)⟩
  ·have h1:(D != 64)=true:=by simpa using h64
   have H1:=qQ h1
   clear h64
   by_cases hT0:m=0
   ·have hz:((m:Int)==0)=true:=by rw[neD];simpa using hT0
    have hz3:decide (0<m)=false:=by simpa using hT0
    have hz1:T=[]:=List.eq_nil_of_length_eq_zero (by have:=HM.out.1;omega)
    have HZ1:=qQ hz1
    clear hz1 hT0
    have HV:=qQ (show zV ⟨2,S,D,Q,E,T⟩=true from by unfold zV;simp[H1.out,HZ1.out])
    have ga:Chg (λ_=>False) w (w.alloc (.cells #[.int .i64 2,.int .i64 S,.int .i64 D,.int .i64 Q,.slice A n c,.slice B m cb] 71)):=Chg.alloc _ _ _
    have HGA:=qQ ga
    have hfi:=qr _ own (.slice A n c) E 1 (HI.out.keep ga (λ_ _ e=>e)) HLL.out.2.1 HLL.out.1
    obtain⟨X,hX⟩:∃X,zM E 1=X:=⟨_,rfl⟩
    rw[hX] at hfi
    have HX:=qQ hX
    have HFI:=qQ hfi
    have hba:=qV w (.cells #[.int .i64 2,.int .i64 S,.int .i64 D,.int .i64 Q,.slice A n c,.slice B m cb] 71)
    have HBA:=qQ hba
    clear ga hfi hX hba
    go_enter Tryz.func151,Tryz.ntmps151
    go_wp2_with fail
    with_reducible refine HFI.out.mono ?_
    rintro en w2 ⟨lv,rfl,hown,G2⟩
    have hblk:=Chg.keep G2 HBA.out (λe=>e)
    obtain⟨b0,b1,b2,b3,b4,b5⟩:=qC hblk
    have hsz:=qX hblk
    have hne:¬(w.heap.size=w2.heap.size):=by omega
    clear hblk
    unfold elV
    obtain⟨A2,c2,rfl,_⟩:=Rs.of_own (V:=VI) (zs:=(X.getD el0).list) hown
    have HG2:=qQ (HGA.out.trans G2)
    clear hown G2
    go_wp2_with fail
    go_ret
    rw[HV.out]
    exact⟨rfl,HG2.out.trans (Chg.alloc _ _ _)⟩
   ·have hz:((m:Int)==0)=false:=by rw[neD];simpa using hT0
    have hz3:decide (0<m)=true:=by simp;omega
    have hz1:¬T=[]:=λe=>by have:=HM.out.1;rw[e] at this;exact hT0 this
    have HZ1:=qQ hz1
    clear hz1 hT0
    have HV:=qQ (show zV ⟨2,S,D,Q,E,T⟩=false from by unfold zV;simp[H1.out,HZ1.out])
    have ga:Chg (λ_=>False) w (w.alloc (.cells #[.int .i64 2,.int .i64 S,.int .i64 D,.int .i64 Q,.slice A n c,.slice B m cb] 71)):=Chg.alloc _ _ _
    have HGA:=qQ ga
    have hfi:=qr _ own (.slice A n c) E 1 (HI.out.keep ga (λ_ _ e=>e)) HLL.out.2.1 HLL.out.1
    obtain⟨X,hX⟩:∃X,zM E 1=X:=⟨_,rfl⟩
    rw[hX] at hfi
    have HX:=qQ hX
    have HFI:=qQ hfi
    have hba:=qV w (.cells #[.int .i64 2,.int .i64 S,.int .i64 D,.int .i64 Q,.slice A n c,.slice B m cb] 71)
    have HBA:=qQ hba
    clear ga hfi hX hba
    go_enter Tryz.func151,Tryz.ntmps151
    go_wp2_with fail
    with_reducible refine HFI.out.mono ?_
    rintro en w2 ⟨lv,rfl,hown,G2⟩
    have hblk:=Chg.keep G2 HBA.out (λe=>e)
    obtain⟨b0,b1,b2,b3,b4,b5⟩:=qC hblk
    have hsz:=qX hblk
    have hne:¬(w.heap.size=w2.heap.size):=by omega
    clear hblk
    unfold elV
    obtain⟨A2,c2,rfl,_⟩:=Rs.of_own (V:=VI) (zs:=(X.getD el0).list) hown
    have HG2:=qQ (HGA.out.trans G2)
    clear hown G2
    go_wp2_with fail
    go_ret
    rw[HV.out]
    exact⟨rfl,HG2.out.trans (Chg.alloc _ _ _)⟩
 by_cases hk:K=4
 ·subst hk
  have HK:=qQ (rfl:(4:Int)=4)
  by_cases h64:D=64
  ·have h1:(D != 64)=false:=by simpa using h64
   have H1:=qQ h1
   clear h64
   have HV:=qQ (show zV ⟨4,S,D,Q,E,T⟩=false from by unfold zV;simp[H1.out])
   have ga:Chg (λ_=>False) w (w.alloc (.cells #[.int .i64 4,.int .i64 S,.int .i64 D,.int .i64 Q,.slice A n c,.slice B m cb] 71)):=Chg.alloc _ _ _
   have HGA:=qQ ga
   have hfi:=qr _ own (.slice A n c) E 1 (HI.out.keep ga (λ_ _ e=>e)) HLL.out.2.1 HLL.out.1
   obtain⟨X,hX⟩:∃X,zM E 1=X:=⟨_,rfl⟩
   rw[hX] at hfi
   have HX:=qQ hX
   have HFI:=qQ hfi
   have hba:=qV w (.cells #[.int .i64 4,.int .i64 S,.int .i64 D,.int .i64 Q,.slice A n c,.slice B m cb] 71)
   have HBA:=qQ hba
   clear ga hfi hX hba
   go_enter Tryz.func151,Tryz.ntmps151
   go_wp2_with fail
   with_reducible refine HFI.out.mono ?_
   rintro en w2 ⟨lv,rfl,hown,G2⟩
   have hblk:=Chg.keep G2 HBA.out (λe=>e)
   obtain⟨b0,b1,b2,b3,b4,b5⟩:=qC hblk
   have hsz:=qX hblk
   have hne:¬(w.heap.size=w2.heap.size):=by omega
   clear hblk
   unfold elV
   obtain⟨A2,c2,rfl,_⟩:=Rs.of_own (V:=VI) (zs:=(X.getD el0).list) hown
   have HG2:=qQ (HGA.out.trans G2)
   clear hown G2
   go_wp2_with fail
   go_ret
   rw[HV.out]
   exact⟨rfl,HG2.out.trans (Chg.alloc _ _ _)⟩
  ·have h1:(D != 64)=true:=by simpa using h64
   have H1:=qQ h1
   clear h64
   by_cases hT0:m=0
   ·have hz:((m:Int)==0)=true:=by rw[neD];simpa using hT0
    have hz3:decide (0<m)=false:=by simpa using hT0
    have hz1:T=[]:=List.eq_nil_of_length_eq_zero (by have:=HM.out.1;omega)
    have HZ1:=qQ hz1
    clear hz1 hT0
    have HV:=qQ (show zV ⟨4,S,D,Q,E,T⟩=true from by unfold zV;simp[H1.out,HZ1.out])
    have ga:Chg (λ_=>False) w (w.alloc (.cells #[.int .i64 4,.int .i64 S,.int .i64 D,.int .i64 Q,.slice A n c,.slice B m cb] 71)):=Chg.alloc _ _ _
    have HGA:=qQ ga
    have hfi:=qr _ own (.slice A n c) E 1 (HI.out.keep ga (λ_ _ e=>e)) HLL.out.2.1 HLL.out.1
    obtain⟨X,hX⟩:∃X,zM E 1=X:=⟨_,rfl⟩
    rw[hX] at hfi
    have HX:=qQ hX
    have HFI:=qQ hfi
    have hba:=qV w (.cells #[.int .i64 4,.int .i64 S,.int .i64 D,.int .i64 Q,.slice A n c,.slice B m cb] 71)
    have HBA:=qQ hba
    clear ga hfi hX hba
    go_enter Tryz.func151,Tryz.ntmps151
    go_wp2_with fail
    with_reducible refine HFI.out.mono ?_
    rintro en w2 ⟨lv,rfl,hown,G2⟩
    have hblk:=Chg.keep G2 HBA.out (λe=>e)
    obtain⟨b0,b1,b2,b3,b4,b5⟩:=qC hblk
    have hsz:=qX hblk
    have hne:¬(w.heap.size=w2.heap.size):=by omega
    clear hblk
    unfold elV
    obtain⟨A2,c2,rfl,_⟩:=Rs.of_own (V:=VI) (zs:=(X.getD el0).list) hown
    have HG2:=qQ (HGA.out.trans G2)
    clear hown G2
    go_wp2_with fail
    go_ret
    rw[HV.out]
    exact⟨rfl,HG2.out.trans (Chg.alloc _ _ _)⟩
   ·have hz:((m:Int)==0)=false:=by rw[neD];simpa using hT0
    have hz3:decide (0<m)=true:=by simp;omega
    have hz1:¬T=[]:=λe=>by have:=HM.out.1;rw[e] at this;exact hT0 this
    have HZ1:=qQ hz1
    clear hz1 hT0
    have HV:=qQ (show zV ⟨4,S,D,Q,E,T⟩=false from by unfold zV;simp[H1.out,HZ1.out])
    have ga:Chg (λ_=>False) w (w.alloc (.cells #[.int .i64 4,.int .i64 S,.int .i64 D,.int .i64 Q,.slice A n c,.slice B m cb] 71)):=Chg.alloc _ _ _
    have HGA:=qQ ga
    have hfi:=qr _ own (.slice A n c) E 1 (HI.out.keep ga (λ_ _ e=>e)) HLL.out.2.1 HLL.out.1
    obtain⟨X,hX⟩:∃X,zM E 1=X:=⟨_,rfl⟩
    rw[hX] at hfi
    have HX:=qQ hX
    have HFI:=qQ hfi
    have hba:=qV w (.cells #[.int .i64 4,.int .i64 S,.int .i64 D,.int .i64 Q,.slice A n c,.slice B m cb] 71)
    have HBA:=qQ hba
    clear ga hfi hX hba
    go_enter Tryz.func151,Tryz.ntmps151
    go_wp2_with fail
    with_reducible refine HFI.out.mono ?_
    rintro en w2 ⟨lv,rfl,hown,G2⟩
    have hblk:=Chg.keep G2 HBA.out (λe=>e)
    obtain⟨b0,b1,b2,b3,b4,b5⟩:=qC hblk
    have hsz:=qX hblk
    have hne:¬(w.heap.size=w2.heap.size):=by omega
    clear hblk
    unfold elV
    obtain⟨A2,c2,rfl,_⟩:=Rs.of_own (V:=VI) (zs:=(X.getD el0).list) hown
    have HG2:=qQ (HGA.out.trans G2)
    clear hown G2
    go_wp2_with fail
    go_ret
    rw[HV.out]
    exact⟨rfl,HG2.out.trans (Chg.alloc _ _ _)⟩
 by_cases hk:K=3
 ·subst hk
  by_cases h64:D=64
  ·have h1:(D != 64)=false:=by simpa using h64
   have H1:=qQ h1
   clear h64
   by_cases hT0:m=0
   ·have hz:((m:Int)==0)=true:=by rw[neD];simpa using hT0
    have hz3:decide (0<m)=false:=by simpa using hT0
    have hz1:T=[]:=List.eq_nil_of_length_eq_zero (by have:=HM.out.1;omega)
    have HZ1:=qQ hz1
    clear hz1 hT0
    have HV:=qQ (show zV ⟨3,S,D,Q,E,T⟩=(zM E 1).isSome from by unfold zV;simp[H1.out,HZ1.out])
    have ga:Chg (λ_=>False) w (w.alloc (.cells #[.int .i64 3,.int .i64 S,.int .i64 D,.int .i64 Q,.slice A n c,.slice B m cb] 71)):=Chg.alloc _ _ _
    have HGA:=qQ ga
    have hfi:=qr _ own (.slice A n c) E 1 (HI.out.keep ga (λ_ _ e=>e)) HLL.out.2.1 HLL.out.1
    obtain⟨X,hX⟩:∃X,zM E 1=X:=⟨_,rfl⟩
    rw[hX] at hfi
    have HX:=qQ hX
    have HFI:=qQ hfi
    have hba:=qV w (.cells #[.int .i64 3,.int .i64 S,.int .i64 D,.int .i64 Q,.slice A n c,.slice B m cb] 71)
    have HBA:=qQ hba
    clear ga hfi hX hba
    go_enter Tryz.func151,Tryz.ntmps151
    go_wp2_with fail
    with_reducible refine HFI.out.mono ?_
    rintro en w2 ⟨lv,rfl,hown,G2⟩
    have hblk:=Chg.keep G2 HBA.out (λe=>e)
    obtain⟨b0,b1,b2,b3,b4,b5⟩:=qC hblk
    have hsz:=qX hblk
    have hne:¬(w.heap.size=w2.heap.size):=by omega
    clear hblk
    unfold elV
    obtain⟨A2,c2,rfl,_⟩:=Rs.of_own (V:=VI) (zs:=(X.getD el0).list) hown
    have HG2:=qQ (HGA.out.trans G2)
    clear hown G2
    go_wp2_with fail
    go_ret
    rw[HV.out]
    rw[HX.out]
    exact⟨rfl,HG2.out.trans (Chg.alloc _ _ _)⟩
   ·have hz:((m:Int)==0)=false:=by rw[neD];simpa using hT0
    have hz3:decide (0<m)=true:=by simp;omega
    have hz1:¬T=[]:=λe=>by have:=HM.out.1;rw[e] at this;exact hT0 this
    have HZ1:=qQ hz1
    clear hz1 hT0
    have HV:=qQ (show zV ⟨3,S,D,Q,E,T⟩=false from by unfold zV;simp[H1.out,HZ1.out])
    have ga:Chg (λ_=>False) w (w.alloc (.cells #[.int .i64 3,.int .i64 S,.int .i64 D,.int .i64 Q,.slice A n c,.slice B m cb] 71)):=Chg.alloc _ _ _
    have HGA:=qQ ga
    have hfi:=qr _ own (.slice A n c) E 1 (HI.out.keep ga (λ_ _ e=>e)) HLL.out.2.1 HLL.out.1
    obtain⟨X,hX⟩:∃X,zM E 1=X:=⟨_,rfl⟩
    rw[hX] at hfi
    have HX:=qQ hX
    have HFI:=qQ hfi
    have hba:=qV w (.cells #[.int .i64 3,.int .i64 S,.int .i64 D,.int .i64 Q,.slice A n c,.slice B m cb] 71)
    have HBA:=qQ hba
    clear ga hfi hX hba
    go_enter Tryz.func151,Tryz.ntmps151
    go_wp2_with fail
    with_reducible refine HFI.out.mono ?_
    rintro en w2 ⟨lv,rfl,hown,G2⟩
    have hblk:=Chg.keep G2 HBA.out (λe=>e)
    obtain⟨b0,b1,b2,b3,b4,b5⟩:=qC hblk
    have hsz:=qX hblk
    have hne:¬(w.heap.size=w2.heap.size):=by omega
    clear hblk
    unfold elV
    obtain⟨A2,c2,rfl,_⟩:=Rs.of_own (V:=VI) (zs:=(X.getD el0).list) hown
    have HG2:=qQ (HGA.out.trans G2)
    clear hown G2
    go_wp2_with fail
    go_ret
    rw[HV.out]
    exact⟨rfl,HG2.out.trans (Chg.alloc _ _ _)⟩
  ·have h1:(D != 64)=true:=by simpa using h64
   have H1:=qQ h1
   clear h64
   have HV:=qQ (show zV ⟨3,S,D,Q,E,T⟩=false from by unfold zV;simp[H1.out])
   have ga:Chg (λ_=>False) w (w.alloc (.cells #[.int .i64 3,.int .i64 S,.int .i64 D,.int .i64 Q,.slice A n c,.slice B m cb] 71)):=Chg.alloc _ _ _
   have HGA:=qQ ga
   have hfi:=qr _ own (.slice A n c) E 1 (HI.out.keep ga (λ_ _ e=>e)) HLL.out.2.1 HLL.out.1
   obtain⟨X,hX⟩:∃X,zM E 1=X:=⟨_,rfl⟩
   rw[hX] at hfi
   have HX:=qQ hX
   have HFI:=qQ hfi
   have hba:=qV w (.cells #[.int .i64 3,.int .i64 S,.int .i64 D,.int .i64 Q,.slice A n c,.slice B m cb] 71)
   have HBA:=qQ hba
   clear ga hfi hX hba
   go_enter Tryz.func151,Tryz.ntmps151
   go_wp2_with fail
   with_reducible refine HFI.out.mono ?_
   rintro en w2 ⟨lv,rfl,hown,G2⟩
   have hblk:=Chg.keep G2 HBA.out (λe=>e)
   obtain⟨b0,b1,b2,b3,b4,b5⟩:=qC hblk
   have hsz:=qX hblk
   have hne:¬(w.heap.size=w2.heap.size):=by omega
   clear hblk
   unfold elV
   obtain⟨A2,c2,rfl,_⟩:=Rs.of_own (V:=VI) (zs:=(X.getD el0).list) hown
   have HG2:=qQ (HGA.out.trans G2)
   clear hown G2
   go_wp2_with fail
   go_ret
   rw[HV.out]
   exact⟨rfl,HG2.out.trans (Chg.alloc _ _ _)⟩
 by_cases hk:K=1
 ·subst hk
  by_cases h64:D=64
  ·have h1:(D != 64)=false:=by simpa using h64
   have H1:=qQ h1
   clear h64
   have HV:=qQ (show zV ⟨1,S,D,Q,E,T⟩=false from by unfold zV;simp[H1.out])
   have ga:Chg (λ_=>False) w (w.alloc (.cells #[.int .i64 1,.int .i64 S,.int .i64 D,.int .i64 Q,.slice A n c,.slice B m cb] 71)):=Chg.alloc _ _ _
   have HGA:=qQ ga
   have hfi:=qr _ own (.slice A n c) E 1 (HI.out.keep ga (λ_ _ e=>e)) HLL.out.2.1 HLL.out.1
   obtain⟨X,hX⟩:∃X,zM E 1=X:=⟨_,rfl⟩
   rw[hX] at hfi
   have HX:=qQ hX
   have HFI:=qQ hfi
   have hba:=qV w (.cells #[.int .i64 1,.int .i64 S,.int .i64 D,.int .i64 Q,.slice A n c,.slice B m cb] 71)
   have HBA:=qQ hba
   clear ga hfi hX hba
   go_enter Tryz.func151,Tryz.ntmps151
   go_wp2_with fail
   with_reducible refine HFI.out.mono ?_
   rintro en w2 ⟨lv,rfl,hown,G2⟩
   have hblk:=Chg.keep G2 HBA.out (λe=>e)
   obtain⟨b0,b1,b2,b3,b4,b5⟩:=qC hblk
   have hsz:=qX hblk
   have hne:¬(w.heap.size=w2.heap.size):=by omega
   clear hblk
   unfold elV
   obtain⟨A2,c2,rfl,_⟩:=Rs.of_own (V:=VI) (zs:=(X.getD el0).list) hown
   have HG2:=qQ (HGA.out.trans G2)
   clear hown G2
   go_wp2_with fail
   go_ret
   rw[HV.out]
   exact⟨rfl,HG2.out.trans (Chg.alloc _ _ _)⟩
  ·have h1:(D != 64)=true:=by simpa using h64
   have H1:=qQ h1
   clear h64
   by_cases hT0:m=0
   ·have hz:((m:Int)==0)=true:=by rw[neD];simpa using hT0
    have hz3:decide (0<m)=false:=by simpa using hT0
    have hz1:T=[]:=List.eq_nil_of_length_eq_zero (by have:=HM.out.1;omega)
    have HZ1:=qQ hz1
    clear hz1 hT0
    have HV:=qQ (show zV ⟨1,S,D,Q,E,T⟩=false from by unfold zV;simp[H1.out,HZ1.out])
    have ga:Chg (λ_=>False) w (w.alloc (.cells #[.int .i64 1,.int .i64 S,.int .i64 D,.int .i64 Q,.slice A n c,.slice B m cb] 71)):=Chg.alloc _ _ _
    have HGA:=qQ ga
    have hfi:=qr _ own (.slice A n c) E 1 (HI.out.keep ga (λ_ _ e=>e)) HLL.out.2.1 HLL.out.1
    obtain⟨X,hX⟩:∃X,zM E 1=X:=⟨_,rfl⟩
    rw[hX] at hfi
    have HX:=qQ hX
    have HFI:=qQ hfi
    have hba:=qV w (.cells #[.int .i64 1,.int .i64 S,.int .i64 D,.int .i64 Q,.slice A n c,.slice B m cb] 71)
    have HBA:=qQ hba
    clear ga hfi hX hba
    go_enter Tryz.func151,Tryz.ntmps151
    go_wp2_with fail
    with_reducible refine HFI.out.mono ?_
    rintro en w2 ⟨lv,rfl,hown,G2⟩
    have hblk:=Chg.keep G2 HBA.out (λe=>e)
    obtain⟨b0,b1,b2,b3,b4,b5⟩:=qC hblk
    have hsz:=qX hblk
    have hne:¬(w.heap.size=w2.heap.size):=by omega
    clear hblk
    unfold elV
    obtain⟨A2,c2,rfl,_⟩:=Rs.of_own (V:=VI) (zs:=(X.getD el0).list) hown
    have HG2:=qQ (HGA.out.trans G2)
    clear hown G2
    go_wp2_with fail
    go_ret
    rw[HV.out]
    exact⟨rfl,HG2.out.trans (Chg.alloc _ _ _)⟩
   ·have hz:((m:Int)==0)=false:=by rw[neD];simpa using hT0
    have hz3:decide (0<m)=true:=by simp;omega
    have hz1:¬T=[]:=λe=>by have:=HM.out.1;rw[e] at this;exact hT0 this
    have HZ1:=qQ hz1
    clear hz1 hT0
    have HV:=qQ (show zV ⟨1,S,D,Q,E,T⟩=true from by unfold zV;simp[H1.out,HZ1.out])
    have ga:Chg (λ_=>False) w (w.alloc (.cells #[.int .i64 1,.int .i64 S,.int .i64 D,.int .i64 Q,.slice A n c,.slice B m cb] 71)):=Chg.alloc _ _ _
    have HGA:=qQ ga
    have hfi:=qr _ own (.slice A n c) E 1 (HI.out.keep ga (λ_ _ e=>e)) HLL.out.2.1 HLL.out.1
    obtain⟨X,hX⟩:∃X,zM E 1=X:=⟨_,rfl⟩
    rw[hX] at hfi
    have HX:=qQ hX
    have HFI:=qQ hfi
    have hba:=qV w (.cells #[.int .i64 1,.int .i64 S,.int .i64 D,.int .i64 Q,.slice A n c,.slice B m cb] 71)
    have HBA:=qQ hba
    clear ga hfi hX hba
    go_enter Tryz.func151,Tryz.ntmps151
    go_wp2_with fail
    with_reducible refine HFI.out.mono ?_
    rintro en w2 ⟨lv,rfl,hown,G2⟩
    have hblk:=Chg.keep G2 HBA.out (λe=>e)
    obtain⟨b0,b1,b2,b3,b4,b5⟩:=qC hblk
    have hsz:=qX hblk
    have hne:¬(w.heap.size=w2.heap.size):=by omega
    clear hblk
    unfold elV
    obtain⟨A2,c2,rfl,_⟩:=Rs.of_own (V:=VI) (zs:=(X.getD el0).list) hown
    have HG2:=qQ (HGA.out.trans G2)
    clear hown G2
    go_wp2_with fail
    go_ret
    rw[HV.out]
    exact⟨rfl,HG2.out.trans (Chg.alloc _ _ _)⟩
 by_cases hk:K=5
 ·subst hk
  by_cases h64:D=64
  ·have h1:(D != 64)=false:=by simpa using h64
   have H1:=qQ h1
   clear h64
   have HV:=qQ (show zV ⟨5,S,D,Q,E,T⟩=false from by unfold zV;simp[H1.out])
   have ga:Chg (λ_=>False) w (w.alloc (.cells #[.int .i64 5,.int .i64 S,.int .i64 D,.int .i64 Q,.slice A n c,.slice B m cb] 71)):=Chg.alloc _ _ _
   have HGA:=qQ ga
   have hfi:=qr _ own (.slice A n c) E 1 (HI.out.keep ga (λ_ _ e=>e)) HLL.out.2.1 HLL.out.1
   obtain⟨X,hX⟩:∃X,zM E 1=X:=⟨_,rfl⟩
   rw[hX] at hfi
   have HX:=qQ hX
   have HFI:=qQ hfi
   have hba:=qV w (.cells #[.int .i64 5,.int .i64 S,.int .i64 D,.int .i64 Q,.slice A n c,.slice B m cb] 71)
   have HBA:=qQ hba
   clear ga hfi hX hba
   go_enter Tryz.func151,Tryz.ntmps151
   go_wp2_with fail
   with_reducible refine HFI.out.mono ?_
   rintro en w2 ⟨lv,rfl,hown,G2⟩
   have hblk:=Chg.keep G2 HBA.out (λe=>e)
   obtain⟨b0,b1,b2,b3,b4,b5⟩:=qC hblk
   have hsz:=qX hblk
   have hne:¬(w.heap.size=w2.heap.size):=by omega
   clear hblk
   unfold elV
   obtain⟨A2,c2,rfl,_⟩:=Rs.of_own (V:=VI) (zs:=(X.getD el0).list) hown
   have HG2:=qQ (HGA.out.trans G2)
   clear hown G2
   go_wp2_with fail
   go_ret
   rw[HV.out]
   exact⟨rfl,HG2.out.trans (Chg.alloc _ _ _)⟩
  ·have h1:(D != 64)=true:=by simpa using h64
   have H1:=qQ h1
   clear h64
   by_cases hT0:m=0
   ·have hz:((m:Int)==0)=true:=by rw[neD];simpa using hT0
    have hz3:decide (0<m)=false:=by simpa using hT0
    have hz1:T=[]:=List.eq_nil_of_length_eq_zero (by have:=HM.out.1;omega)
    have HZ1:=qQ hz1
    clear hz1 hT0
    have HV:=qQ (show zV ⟨5,S,D,Q,E,T⟩=false from by unfold zV;simp[H1.out,HZ1.out])
    have ga:Chg (λ_=>False) w (w.alloc (.cells #[.int .i64 5,.int .i64 S,.int .i64 D,.int .i64 Q,.slice A n c,.slice B m cb] 71)):=Chg.alloc _ _ _
    have HGA:=qQ ga
    have hfi:=qr _ own (.slice A n c) E 1 (HI.out.keep ga (λ_ _ e=>e)) HLL.out.2.1 HLL.out.1
    obtain⟨X,hX⟩:∃X,zM E 1=X:=⟨_,rfl⟩
    rw[hX] at hfi
    have HX:=qQ hX
    have HFI:=qQ hfi
    have hba:=qV w (.cells #[.int .i64 5,.int .i64 S,.int .i64 D,.int .i64 Q,.slice A n c,.slice B m cb] 71)
    have HBA:=qQ hba
    clear ga hfi hX hba
    go_enter Tryz.func151,Tryz.ntmps151
    go_wp2_with fail
    with_reducible refine HFI.out.mono ?_
    rintro en w2 ⟨lv,rfl,hown,G2⟩
    have hblk:=Chg.keep G2 HBA.out (λe=>e)
    obtain⟨b0,b1,b2,b3,b4,b5⟩:=qC hblk
    have hsz:=qX hblk
    have hne:¬(w.heap.size=w2.heap.size):=by omega
    clear hblk
    unfold elV
    obtain⟨A2,c2,rfl,_⟩:=Rs.of_own (V:=VI) (zs:=(X.getD el0).list) hown
    have HG2:=qQ (HGA.out.trans G2)
    clear hown G2
    go_wp2_with fail
    go_ret
    rw[HV.out]
    exact⟨rfl,HG2.out.trans (Chg.alloc _ _ _)⟩
   ·have hz:((m:Int)==0)=false:=by rw[neD];simpa using hT0
    have hz3:decide (0<m)=true:=by simp;omega
    have hz1:¬T=[]:=λe=>by have:=HM.out.1;rw[e] at this;exact hT0 this
    have HZ1:=qQ hz1
    clear hz1 hT0
    have HV:=qQ (show zV ⟨5,S,D,Q,E,T⟩=true from by unfold zV;simp[H1.out,HZ1.out])
    have ga:Chg (λ_=>False) w (w.alloc (.cells #[.int .i64 5,.int .i64 S,.int .i64 D,.int .i64 Q,.slice A n c,.slice B m cb] 71)):=Chg.alloc _ _ _
    have HGA:=qQ ga
    have hfi:=qr _ own (.slice A n c) E 1 (HI.out.keep ga (λ_ _ e=>e)) HLL.out.2.1 HLL.out.1
    obtain⟨X,hX⟩:∃X,zM E 1=X:=⟨_,rfl⟩
    rw[hX] at hfi
    have HX:=qQ hX
    have HFI:=qQ hfi
    have hba:=qV w (.cells #[.int .i64 5,.int .i64 S,.int .i64 D,.int .i64 Q,.slice A n c,.slice B m cb] 71)
    have HBA:=qQ hba
    clear ga hfi hX hba
    go_enter Tryz.func151,Tryz.ntmps151
    go_wp2_with fail
    with_reducible refine HFI.out.mono ?_
    rintro en w2 ⟨lv,rfl,hown,G2⟩
    have hblk:=Chg.keep G2 HBA.out (λe=>e)
    obtain⟨b0,b1,b2,b3,b4,b5⟩:=qC hblk
    have hsz:=qX hblk
    have hne:¬(w.heap.size=w2.heap.size):=by omega
    clear hblk
    unfold elV
    obtain⟨A2,c2,rfl,_⟩:=Rs.of_own (V:=VI) (zs:=(X.getD el0).list) hown
    have HG2:=qQ (HGA.out.trans G2)
    clear hown G2
    go_wp2_with fail
    go_ret
    rw[HV.out]
    exact⟨rfl,HG2.out.trans (Chg.alloc _ _ _)⟩
 rename_i k2 k4 k3 k1
 have j1:(K==1)=false:=by simpa using k1
 have j2:(K==2)=false:=by simpa using k2
 have j3:(K==3)=false:=by simpa using k3
 have j4:(K==4)=false:=by simpa using k4
 have j5:(K==5)=false:=by simpa using hk
 have HV:=qQ (show zV ⟨K,S,D,Q,E,T⟩=false from by unfold zV;simp[k1,k2,k3,k4,hk])
 have ga:Chg (λ_=>False) w (w.alloc (.cells #[.int .i64 K,.int .i64 S,.int .i64 D,.int .i64 Q,.slice A n c,.slice B m cb] 71)):=Chg.alloc _ _ _
 have HGA:=qQ ga
 have hfi:=qr _ own (.slice A n c) E 1 (HI.out.keep ga (λ_ _ e=>e)) HLL.out.2.1 HLL.out.1
 obtain⟨X,hX⟩:∃X,zM E 1=X:=⟨_,rfl⟩
 rw[hX] at hfi
 have HX:=qQ hX
 have HFI:=qQ hfi
 have hba:=qV w (.cells #[.int .i64 K,.int .i64 S,.int .i64 D,.int .i64 Q,.slice A n c,.slice B m cb] 71)
 have HBA:=qQ hba
 clear ga hfi hX hba k1 k2 k3 k4 hk
 go_enter Tryz.func151,Tryz.ntmps151
 go_wp2_with fail
 with_reducible refine HFI.out.mono ?_
 rintro en w2 ⟨lv,rfl,hown,G2⟩
 have hblk:=Chg.keep G2 HBA.out (λe=>e)
 obtain⟨b0,b1,b2,b3,b4,b5⟩:=qC hblk
 have hsz:=qX hblk
 have hne:¬(w.heap.size=w2.heap.size):=by omega
 clear hblk
 unfold elV
 obtain⟨A2,c2,rfl,_⟩:=Rs.of_own (V:=VI) (zs:=(X.getD el0).list) hown
 have HG2:=qQ (HGA.out.trans G2)
 clear hown G2
 go_wp2_with fail
 go_ret
 rw[HV.out]
 exact⟨rfl,HG2.out.trans (Chg.alloc _ _ _)⟩
theorem all_any(L:List El):L.all mayE= !(L.any (λe=>!mayE e)):=by
 induction L with
 |nil=>rfl
 |cons x l ih=>simp only[List.all_cons,List.any_cons,ih];cases mayE x <;> simp
theorem fmay_any(w:World)(own:Cls)(f:Fr)(iv dv:Value)(hi:IeO w own iv f.ies)(hd:BO w own dv f.data)(hE:f.ies.length≤100000)(hT:f.data.length≤100000)(hll:∀e∈f.ies,e.list.length≤100000):
  Calls Tryz.prog 98 #[frV f iv dv] w (PV (.bool (mayF f)) w):=by
 have ga:=Chg.alloc (λ_=>False) w (.cells #[.int .i64 f.kind,.int .i64 f.src,.int .i64 f.dst,.int .i64 f.seq,iv,dv] 71)
 have hct:=containsFE_any _ own iv 149 #[] f.ies _ (hi.keep ga (λ_ _ e=>e)) hE (fn149 _ own f.ies hll)
 have hsy:∀W,Chg (λ_=>False) w W→Calls Tryz.prog 151 #[frV f iv dv] W (PV (.bool (zV f)) W):=λW g=>says_any W own f iv dv (hi.keep g (λ_ _ e=>e)) (hd.keep g (λ_ _ e=>e)) hE hT hll
 have hba:=qV w (.cells #[.int .i64 f.kind,.int .i64 f.src,.int .i64 f.dst,.int .i64 f.seq,iv,dv] 71)
 have HI:=qQ hi
 have HD:=qQ hd
 obtain⟨A,c,rfl⟩:=hi.val
 obtain⟨⟨B,cb,rfl,_⟩,_⟩:=hd
 obtain⟨K,S,D,Q,E,T⟩:=f
 simp only[frV] at hsy ⊢
 simp only at HI HD hct hba ga hE hT
 obtain⟨m,hm⟩:=qZ T.length
 obtain⟨n,hn⟩:=qZ E.length
 simp only[←hm,←hn] at HI HD hct hba hsy ga hE hT ⊢
 obtain⟨F,hF⟩:∃F:Fr,F=⟨K,S,D,Q,E,T⟩:=⟨_,rfl⟩
 have hmf:mayF F=(zD S&&(zD D||D==64)&&D != S&&inR Q 0 255&&decide (n≤4)&&E.all mayE&&decide (m≤64)&&zV F):=by rw[hF,hm,hn];rfl
 rw[←hF] at hsy ⊢
 have HMF:=qQ hmf
 have HGA:=qQ ga
 have HCT:=qQ hct
 have HSY:=qQ hsy
 have HBA:=qQ hba
 have hn3:(n:Int)≤100000:=by omega
 have hm3:(m:Int)≤100000:=by omega
 have hn0:=λ(x:Int) (w:World)=>fnode_any x w
 have HN0:=qQ hn0
 clear hm hn hi hE hT hF hmf ga hct hsy hba hll hn0
 by_cases hA:zD S=true
 ·have HA:=qQ hA
  clear hA
  by_cases hB:zD D=true
  ·have HB:=qQ hB
   clear hB
   by_cases hC:D≠S
   ·have h1:(D==S)=false:=by simpa using hC
    have HC:=qQ (show (D != S)=true by simp at h1 ⊢;exact h1)
    clear hC
    by_cases hQ:0≤Q
    ·by_cases hR:Q≤255
     ·have hq1:decide (Q<0)=false:=by simp;omega
      have hq2:decide (255<Q)=false:=by simp;omega
      have HQ:=qQ (zT hQ hR)
      by_cases hE:n≤4
      ·have hE1:decide (4<(n:Int))=false:=by simp;omega
       have HE:=qQ (show decide (n≤4)=true by simp;omega)
       clear hE
       by_cases hG:¬(E.any (λe=>!mayE e)=true)
       ·have hg:E.any (λe=>!mayE e)=false:=by simpa using hG
        have HG0:=qQ hg
        have HG:=qQ (show E.all mayE=true by rw[all_any,hg];rfl)
        clear hG hg
        by_cases hH:m≤64
        ·have hH1:decide (64<(m:Int))=false:=by simp;omega
         have HH:=qQ (show decide (m≤64)=true by simp;omega)
         clear hH
         go_enter Tryz.func98,Tryz.ntmps98
         go_wp2_with fail
         (with_reducible refine (HN0.out S _).mono ?_)
         rintro en w2 ⟨rfl,rfl⟩
         rw[HA.out]
         go_wp2_with fail
         (with_reducible refine (HN0.out D _).mono ?_)
         rintro en w2 ⟨rfl,rfl⟩
         rw[HB.out]
         go_wp2_with fail
         with_reducible refine HCT.out.mono ?_
         rintro en w3 ⟨rfl,G3⟩
         rw[HG0.out]
         have hb3:=Chg.keep G3 HBA.out (λe=>e)
         obtain⟨b0,b1,b2,b3,b4,b5⟩:=qC hb3
         have HG3:=qQ (HGA.out.trans G3)
         clear G3 hb3
         go_wp2_with fail
         (with_reducible refine (HSY.out w3 HG3.out).mono ?_)
         rintro en w4 ⟨rfl,G4⟩
         have HG4:=qQ (HG3.out.trans G4)
         clear G4
         go_wp2_with fail
         go_ret
         have hv:mayF F=zV F:=by rw[HMF.out,HA.out,HB.out,HC.out,HQ.out,HE.out,HG.out,HH.out];simp
         rw[hv]
         exact⟨rfl,HG4.out⟩
        ·have hH1:decide (64<(m:Int))=true:=by simp;omega
         have HH:=qQ (show decide (m≤64)=false by simp;omega)
         clear hH
         go_enter Tryz.func98,Tryz.ntmps98
         go_wp2_with fail
         (with_reducible refine (HN0.out S _).mono ?_)
         rintro en w2 ⟨rfl,rfl⟩
         rw[HA.out]
         go_wp2_with fail
         (with_reducible refine (HN0.out D _).mono ?_)
         rintro en w2 ⟨rfl,rfl⟩
         rw[HB.out]
         go_wp2_with fail
         with_reducible refine HCT.out.mono ?_
         rintro en w3 ⟨rfl,G3⟩
         rw[HG0.out]
         have hb3:=Chg.keep G3 HBA.out (λe=>e)
         obtain⟨b0,b1,b2,b3,b4,b5⟩:=qC hb3
         have HG3:=qQ (HGA.out.trans G3)
         clear G3 hb3
         go_wp2_with fail
         go_ret
         have hv:mayF F=false:=by rw[HMF.out,HA.out,HB.out,HC.out,HQ.out,HE.out,HG.out,HH.out];simp
         rw[hv]
         exact⟨rfl,HG3.out⟩
       ·have hg:E.any (λe=>!mayE e)=true:=by simpa using hG
        have HG0:=qQ hg
        have HG:=qQ (show E.all mayE=false by rw[all_any,hg];rfl)
        clear hG hg
        go_enter Tryz.func98,Tryz.ntmps98
        go_wp2_with fail
        (with_reducible refine (HN0.out S _).mono ?_)
        rintro en w2 ⟨rfl,rfl⟩
        rw[HA.out]
        go_wp2_with fail
        (with_reducible refine (HN0.out D _).mono ?_)
        rintro en w2 ⟨rfl,rfl⟩
        rw[HB.out]
        go_wp2_with fail
        with_reducible refine HCT.out.mono ?_
        rintro en w3 ⟨rfl,G3⟩
        rw[HG0.out]
        have hb3:=Chg.keep G3 HBA.out (λe=>e)
        obtain⟨b0,b1,b2,b3,b4,b5⟩:=qC hb3
        have HG3:=qQ (HGA.out.trans G3)
        clear G3 hb3
        go_wp2_with fail
        go_ret
        have hv:mayF F=false:=by rw[HMF.out,HA.out,HB.out,HC.out,HQ.out,HE.out,HG.out];simp
        rw[hv]
        exact⟨rfl,HG3.out⟩
      ·have hE1:decide (4<(n:Int))=true:=by simp;omega
       have HE:=qQ (show decide (n≤4)=false by simp;omega)
       clear hE
       go_enter Tryz.func98,Tryz.ntmps98
       go_wp2_with fail
       (with_reducible refine (HN0.out S _).mono ?_)
       rintro en w2 ⟨rfl,rfl⟩
       rw[HA.out]
       go_wp2_with fail
       (with_reducible refine (HN0.out D _).mono ?_)
       rintro en w2 ⟨rfl,rfl⟩
       rw[HB.out]
       go_wp2_with fail
       go_ret
       have hv:mayF F=false:=by rw[HMF.out,HA.out,HB.out,HC.out,HQ.out,HE.out];simp
       rw[hv]
       exact⟨rfl,HGA.out⟩
     ·have hq:255<Q:=by omega
      have HQ:=qQ (jC (a:=0) hq)
      clear hR
      go_enter Tryz.func98,Tryz.ntmps98
      go_wp2_with fail
      (with_reducible refine (HN0.out S _).mono ?_)
      rintro en w2 ⟨rfl,rfl⟩
      rw[HA.out]
      go_wp2_with fail
      (with_reducible refine (HN0.out D _).mono ?_)
      rintro en w2 ⟨rfl,rfl⟩
      rw[HB.out]
      go_wp2_with fail
      go_ret
      have hv:mayF F=false:=by rw[HMF.out,HA.out,HB.out,HC.out,HQ.out];simp
      rw[hv]
      exact⟨rfl,HGA.out⟩
    ·have hq:Q<0:=by omega
     have HQ:=qQ (vP (b:=255) hq)
     clear hQ
     go_enter Tryz.func98,Tryz.ntmps98
     go_wp2_with fail
     (with_reducible refine (HN0.out S _).mono ?_)
     rintro en w2 ⟨rfl,rfl⟩
     rw[HA.out]
     go_wp2_with fail
     (with_reducible refine (HN0.out D _).mono ?_)
     rintro en w2 ⟨rfl,rfl⟩
     rw[HB.out]
     go_wp2_with fail
     go_ret
     have hv:mayF F=false:=by rw[HMF.out,HA.out,HB.out,HC.out,HQ.out];simp
     rw[hv]
     exact⟨rfl,HGA.out⟩
   ·have h1:(D==S)=true:=by simpa using hC
    have HC:=qQ (show (D != S)=false by simp at h1 ⊢;exact h1)
    clear hC
    go_enter Tryz.func98,Tryz.ntmps98
    go_wp2_with fail
    (with_reducible refine (HN0.out S _).mono ?_)
    rintro en w2 ⟨rfl,rfl⟩
    rw[HA.out]
    go_wp2_with fail
    (with_reducible refine (HN0.out D _).mono ?_)
    rintro en w2 ⟨rfl,rfl⟩
    rw[HB.out]
    go_wp2_with fail
    go_ret
    have hv:mayF F=false:=by rw[HMF.out,HA.out,HB.out,HC.out];simp
    rw[hv]
    exact⟨rfl,HGA.out⟩
  ·have hB:zD D=false:=by simpa using hB
   have HB:=qQ hB
   clear hB
   by_cases hD:D=64
   ·have h64:(D != 64)=false:=by simpa using hD
    have HD6:=qQ (show (D==64)=true by simpa using hD)
    clear hD
    by_cases hC:D≠S
    ·have h1:(D==S)=false:=by simpa using hC
     have HC:=qQ (show (D != S)=true by simp at h1 ⊢;exact h1)
     clear hC
     by_cases hQ:0≤Q
     ·by_cases hR:Q≤255
      ·have hq1:decide (Q<0)=false:=by simp;omega
       have hq2:decide (255<Q)=false:=by simp;omega
       have HQ:=qQ (zT hQ hR)
       by_cases hE:n≤4
       ·have hE1:decide (4<(n:Int))=false:=by simp;omega
        have HE:=qQ (show decide (n≤4)=true by simp;omega)
        clear hE
        by_cases hG:¬(E.any (λe=>!mayE e)=true)
        ·have hg:E.any (λe=>!mayE e)=false:=by simpa using hG
         have HG0:=qQ hg
         have HG:=qQ (show E.all mayE=true by rw[all_any,hg];rfl)
         clear hG hg
         by_cases hH:m≤64
         ·have hH1:decide (64<(m:Int))=false:=by simp;omega
          have HH:=qQ (show decide (m≤64)=true by simp;omega)
          clear hH
          go_enter Tryz.func98,Tryz.ntmps98
          go_wp2_with fail
          (with_reducible refine (HN0.out S _).mono ?_)
          rintro en w2 ⟨rfl,rfl⟩
          rw[HA.out]
          go_wp2_with fail
          (with_reducible refine (HN0.out D _).mono ?_)
          rintro en w2 ⟨rfl,rfl⟩
          rw[HB.out]
          go_wp2_with fail
          have HD64:=HD6
          with_reducible refine HCT.out.mono ?_
          rintro en w3 ⟨rfl,G3⟩
          rw[HG0.out]
          have hb3:=Chg.keep G3 HBA.out (λe=>e)
          obtain⟨b0,b1,b2,b3,b4,b5⟩:=qC hb3
          have HG3:=qQ (HGA.out.trans G3)
          clear G3 hb3
          go_wp2_with fail
          (with_reducible refine (HSY.out w3 HG3.out).mono ?_)
          rintro en w4 ⟨rfl,G4⟩
          have HG4:=qQ (HG3.out.trans G4)
          clear G4
          go_wp2_with fail
          go_ret
          have hv:mayF F=zV F:=by rw[HMF.out,HA.out,HB.out,HD6.out,HC.out,HQ.out,HE.out,HG.out,HH.out];simp
          rw[hv]
          exact⟨rfl,HG4.out⟩
         ·have hH1:decide (64<(m:Int))=true:=by simp;omega
          have HH:=qQ (show decide (m≤64)=false by simp;omega)
          clear hH
          go_enter Tryz.func98,Tryz.ntmps98
          go_wp2_with fail
          (with_reducible refine (HN0.out S _).mono ?_)
          rintro en w2 ⟨rfl,rfl⟩
          rw[HA.out]
          go_wp2_with fail
          (with_reducible refine (HN0.out D _).mono ?_)
          rintro en w2 ⟨rfl,rfl⟩
          rw[HB.out]
          go_wp2_with fail
          have HD64:=HD6
          with_reducible refine HCT.out.mono ?_
          rintro en w3 ⟨rfl,G3⟩
          rw[HG0.out]
          have hb3:=Chg.keep G3 HBA.out (λe=>e)
          obtain⟨b0,b1,b2,b3,b4,b5⟩:=qC hb3
          have HG3:=qQ (HGA.out.trans G3)
          clear G3 hb3
          go_wp2_with fail
          go_ret
          have hv:mayF F=false:=by rw[HMF.out,HA.out,HB.out,HD6.out,HC.out,HQ.out,HE.out,HG.out,HH.out];simp
          rw[hv]
          exact⟨rfl,HG3.out⟩
        ·have hg:E.any (λe=>!mayE e)=true:=by simpa using hG
         have HG0:=qQ hg
         have HG:=qQ (show E.all mayE=false by rw[all_any,hg];rfl)
         clear hG hg
         go_enter Tryz.func98,Tryz.ntmps98
         go_wp2_with fail
         (with_reducible refine (HN0.out S _).mono ?_)
         rintro en w2 ⟨rfl,rfl⟩
         rw[HA.out]
         go_wp2_with fail
         (with_reducible refine (HN0.out D _).mono ?_)
         rintro en w2 ⟨rfl,rfl⟩
         rw[HB.out]
         go_wp2_with fail
         have HD64:=HD6
         with_reducible refine HCT.out.mono ?_
         rintro en w3 ⟨rfl,G3⟩
         rw[HG0.out]
         have hb3:=Chg.keep G3 HBA.out (λe=>e)
         obtain⟨b0,b1,b2,b3,b4,b5⟩:=qC hb3
         have HG3:=qQ (HGA.out.trans G3)
         clear G3 hb3
         go_wp2_with fail
         go_ret
         have hv:mayF F=false:=by rw[HMF.out,HA.out,HB.out,HD6.out,HC.out,HQ.out,HE.out,HG.out];simp
         rw[hv]
         exact⟨rfl,HG3.out⟩
       ·have hE1:decide (4<(n:Int))=true:=by simp;omega
        have HE:=qQ (show decide (n≤4)=false by simp;omega)
        clear hE
        go_enter Tryz.func98,Tryz.ntmps98
        go_wp2_with fail
        (with_reducible refine (HN0.out S _).mono ?_)
        rintro en w2 ⟨rfl,rfl⟩
        rw[HA.out]
        go_wp2_with fail
        (with_reducible refine (HN0.out D _).mono ?_)
        rintro en w2 ⟨rfl,rfl⟩
        rw[HB.out]
        go_wp2_with fail
        have HD64:=HD6
        go_ret
        have hv:mayF F=false:=by rw[HMF.out,HA.out,HB.out,HD6.out,HC.out,HQ.out,HE.out];simp
        rw[hv]
        exact⟨rfl,HGA.out⟩
      ·have hq:255<Q:=by omega
       have HQ:=qQ (jC (a:=0) hq)
       clear hR
       go_enter Tryz.func98,Tryz.ntmps98
       go_wp2_with fail
       (with_reducible refine (HN0.out S _).mono ?_)
       rintro en w2 ⟨rfl,rfl⟩
       rw[HA.out]
       go_wp2_with fail
       (with_reducible refine (HN0.out D _).mono ?_)
       rintro en w2 ⟨rfl,rfl⟩
       rw[HB.out]
       go_wp2_with fail
       have HD64:=HD6
       go_ret
       have hv:mayF F=false:=by rw[HMF.out,HA.out,HB.out,HD6.out,HC.out,HQ.out];simp
       rw[hv]
       exact⟨rfl,HGA.out⟩
     ·have hq:Q<0:=by omega
      have HQ:=qQ (vP (b:=255) hq)
      clear hQ
      go_enter Tryz.func98,Tryz.ntmps98
      go_wp2_with fail
      (with_reducible refine (HN0.out S _).mono ?_)
      rintro en w2 ⟨rfl,rfl⟩
      rw[HA.out]
      go_wp2_with fail
      (with_reducible refine (HN0.out D _).mono ?_)
      rintro en w2 ⟨rfl,rfl⟩
      rw[HB.out]
      go_wp2_with fail
      have HD64:=HD6
      go_ret
      have hv:mayF F=false:=by rw[HMF.out,HA.out,HB.out,HD6.out,HC.out,HQ.out];simp
      rw[hv]
      exact⟨rfl,HGA.out⟩
    ·have h1:(D==S)=true:=by simpa using hC
     have HC:=qQ (show (D != S)=false by simp at h1 ⊢;exact h1)
     clear hC
     go_enter Tryz.func98,Tryz.ntmps98
     go_wp2_with fail
     (with_reducible refine (HN0.out S _).mono ?_)
     rintro en w2 ⟨rfl,rfl⟩
     rw[HA.out]
     go_wp2_with fail
     (with_reducible refine (HN0.out D _).mono ?_)
     rintro en w2 ⟨rfl,rfl⟩
     rw[HB.out]
     go_wp2_with fail
     have HD64:=HD6
     go_ret
     have hv:mayF F=false:=by rw[HMF.out,HA.out,HB.out,HD6.out,HC.out];simp
     rw[hv]
     exact⟨rfl,HGA.out⟩
   ·have h64:(D != 64)=true:=by simpa using hD
    have HD6:=qQ (show (D==64)=false by simpa using hD)
    clear hD
    go_enter Tryz.func98,Tryz.ntmps98
    go_wp2_with fail
    (with_reducible refine (HN0.out S _).mono ?_)
    rintro en w2 ⟨rfl,rfl⟩
    rw[HA.out]
    go_wp2_with fail
    (with_reducible refine (HN0.out D _).mono ?_)
    rintro en w2 ⟨rfl,rfl⟩
    rw[HB.out]
    go_wp2_with fail
    go_ret
    have hv:mayF F=false:=by rw[HMF.out,HA.out,HB.out,HD6.out];simp
    rw[hv]
    exact⟨rfl,HGA.out⟩
 ·have hA:zD S=false:=by simpa using hA
  have HA:=qQ hA
  clear hA
  go_enter Tryz.func98,Tryz.ntmps98
  go_wp2_with fail
  (with_reducible refine (HN0.out S _).mono ?_)
  rintro en w2 ⟨rfl,rfl⟩
  rw[HA.out]
  go_wp2_with fail
  go_ret
  have hv:mayF F=false:=by rw[HMF.out,HA.out];simp
  rw[hv]
  exact⟨rfl,HGA.out⟩
theorem ix5_0(a b c d e:Value)(w:World):(Instr.index 181 (.agg #[a,b,c,d,e]) (.int .i64 0)).run Tryz.prog w= .ok a w:=by kernel_rfl
theorem ix5_1(a b c d e:Value)(w:World):(Instr.index 181 (.agg #[a,b,c,d,e]) (.int .i64 1)).run Tryz.prog w= .ok b w:=by kernel_rfl
theorem ix5_2(a b c d e:Value)(w:World):(Instr.index 181 (.agg #[a,b,c,d,e]) (.int .i64 2)).run Tryz.prog w= .ok c w:=by kernel_rfl
theorem ix5_3(a b c d e:Value)(w:World):(Instr.index 181 (.agg #[a,b,c,d,e]) (.int .i64 3)).run Tryz.prog w= .ok d w:=by kernel_rfl
theorem ix5_4(a b c d e:Value)(w:World):(Instr.index 181 (.agg #[a,b,c,d,e]) (.int .i64 4)).run Tryz.prog w= .ok e w:=by kernel_rfl
theorem ix2_0(a b:Value)(w:World):(Instr.index 183 (.agg #[a,b]) (.int .i64 0)).run Tryz.prog w= .ok a w:=by kernel_rfl
theorem ix2_1(a b:Value)(w:World):(Instr.index 183 (.agg #[a,b]) (.int .i64 1)).run Tryz.prog w= .ok b w:=by kernel_rfl
def hdrF(K S D Q:Int)(k:Nat):List Int:=(([197,K,S,D,Q]:List Int).take k).flatMap (be 1)
theorem hdr_len(K S D Q:Int)(k:Nat):(hdrF K S D Q k).length≤5:=by
 unfold hdrF
 have:∀l:List Int,(l.flatMap (be 1)).length=l.length:=λl=>by induction l with
  |nil=>rfl
  |cons x l ih=>rw[List.flatMap_cons,List.length_append,qq,ih,List.length_cons];omega
 rw[this,List.length_take];simp;omega
theorem hdr_next(K S D Q:Int)(k:Nat)(x:Int)(h:([197,K,S,D,Q]:List Int)[k]? =some x):hdrF K S D Q (k+1)=hdrF K S D Q k++be 1 x:=by
 unfold hdrF
 rw[List.take_add_one,h,List.flatMap_append];simp
def PEncF(w:World)(f:Fr)(en:Ending)(w':World):Prop:=
 (mayF f=true∧PEnc w (encF f) en w')∨(mayF f=false∧en= .returned (.tuple #[.slice none 0 0,.int .i64 1])∧Chg (λ_=>False) w w')
theorem PEncF.ok{w w':World}{f:Fr}{en:Ending}(h:mayF f=true)(k:PEnc w (encF f) en w'):PEncF w f en w':= .inl ⟨h,k⟩
theorem PEncF.no{w w':World}{f:Fr}{en:Ending}(h:mayF f=false)(k:en= .returned (.tuple #[.slice none 0 0,.int .i64 1]))(g:Chg (λ_=>False) w w'):PEncF w f en w':= .inr ⟨h,k,g⟩
theorem WC.cw{w0 w:World}{b:Nat}{L:List Int}(h:WC w0 w b L):CW 5 b w0 w:=h.2
theorem vN{f:Fr}(h:mayF f=true):f.ies.length≤4∧(∀e∈f.ies,mayE e=true)∧f.data.length≤64∧0≤f.src∧f.src<16∧0≤f.dst∧f.dst≤64∧0≤f.seq∧f.seq≤255∧1≤f.kind∧f.kind≤5:=by
 simp only[mayF,Bool.and_eq_true,Bool.or_eq_true,decide_eq_true_eq,zD,inR] at h
 obtain⟨⟨⟨⟨⟨⟨⟨h1,h2⟩,h3⟩,h4⟩,h5⟩,h6⟩,h7⟩,h8⟩:=h
 have hk:f.kind=2∨f.kind=4∨f.kind=3∨f.kind=1∨f.kind=5:=by
  unfold zV at h8
  by_cases k2:f.kind=2
  ·exact .inl k2
  ·by_cases k4:f.kind=4
   ·exact .inr (.inl k4)
   ·by_cases k3:f.kind=3
    ·exact .inr (.inr (.inl k3))
    ·by_cases k1:f.kind=1
     ·exact .inr (.inr (.inr (.inl k1)))
     ·by_cases k5:f.kind=5
      ·exact .inr (.inr (.inr (.inr k5)))
      ·simp[k2,k4,k3,k1,k5] at h8
 refine⟨h5,by simpa using h6,h7,h1.1,by omega,?_,?_,h4.1,h4.2,by omega,by omega⟩
 ·rcases h2 with h2|h2
  ·exact h2.1
  ·simp at h2;omega
 ·rcases h2 with h2|h2
  ·omega
  ·simp at h2;omega
theorem fencode_any(w:World)(own:Cls)(hz:Z w own)(f:Fr)(iv dv:Value)(hi:IeO w own iv f.ies)(hd:BO w own dv f.data)(hE:f.ies.length≤100000)(hT:f.data.length≤100000)(hll:∀e∈f.ies,e.list.length≤100000):
  Calls Tryz.prog 60 #[frV f iv dv] w (PEncF w f):=by
 have ga:=Chg.alloc (λ_=>False) w (.cells #[.int .i64 f.kind,.int .i64 f.src,.int .i64 f.dst,.int .i64 f.seq,iv,dv] 71)
 have hba:=qV w (.cells #[.int .i64 f.kind,.int .i64 f.src,.int .i64 f.dst,.int .i64 f.seq,iv,dv] 71)
 have hmay:=fmay_any _ own f iv dv (hi.keep ga (λ_ _ e=>e)) (hd.keep ga (λ_ _ e=>e)) hE hT hll
 have HI:=qQ hi
 have HD:=qQ hd
 obtain⟨A,c,rfl⟩:=hi.val
 obtain⟨⟨B,cb,rfl,_⟩,_⟩:=hd
 unfold frV at hmay ⊢
 have HGA:=qQ ga
 have HBA:=qQ hba
 have HMAY:=qQ hmay
 have HZ:=qQ hz
 clear ga hba hmay hi hE hT hll hz
 obtain⟨P,hP⟩:=qZ (PEncF w f)
 rw[←hP]
 have HP:=qQ hP
 clear hP
 by_cases hm:mayF f=true
 ·have HM:=qQ hm
  clear hm
  go_enter Tryz.func60,Tryz.ntmps60
  go_wp2_with fail
  with_reducible refine HMAY.out.mono ?_
  rintro en w2 ⟨rfl,G2⟩
  rw[HM.out]
  have HB2:=qQ (Chg.keep G2 HBA.out (λe=>e))
  have HG2:=qQ (HGA.out.trans G2)
  clear G2 HGA HBA HMAY
  obtain⟨b0,b1,b2,b3,b4,b5⟩:=qC HB2.out
  go_wp2_with fail
  clear b0 b1 b2 b3 b4 b5
  obtain⟨h4,hme,hdl,hs0,hs1,hd0,hd1,hq0,hq1,hk0,hk1⟩:=vN HM.out
  (with_reducible refine (iencode_any w2 own (.slice A f.ies.length c) f.ies (HI.out.keep HG2.out (λ_ _ e=>e)) h4 hme).mono ?_)
  rintro en w3 ⟨ev,rfl,hown,G3⟩
  have hEl:(encI f.ies).length≤73:=by
   have h1:=encI_len hme
   simp only[encI,List.length_cons];omega
  have hEb:=encI_byte h4 hme
  have HG3:=qQ (HG2.out.trans G3)
  have HB3:=qQ (Chg.keep G3 HB2.out (λe=>e))
  have hbs:=BS.of_own hown hEb
  have HDL:=qQ hdl
  clear G3 HG2 HB2 h4 hme hown hEb hdl
  obtain⟨EI,hEI⟩:∃EI,encI f.ies=EI:=⟨_,rfl⟩
  rw[hEI] at hbs hEl
  have HEI:=qQ hEI
  have HBS:=qQ (And.intro hbs hEl)
  obtain⟨AE,cE,rfl,_⟩:=hbs
  clear hEI
  obtain⟨b0,b1,b2,b3,b4,b5⟩:=qC HB3.out
  have hszB:=qX HB3.out
  have hneB:¬(w.heap.size=w3.heap.size):=by omega
  go_wp2_with fail
  clear b0 b1 b2 b3 b4 b5
  have hw4:Wr (w3.alloc (.cells #[.slice none 0 0,.int .i64 0] 180)) w3.heap.size (.slice none 0 0) []:=⟨qV _ _,World.ownsRow_nil _ _ _ _⟩
  have g4:=Chg.alloc (λ_=>False) w3 (.cells #[.slice none 0 0,.int .i64 0] 180)
  have hdd:Rs V8 w3 w3.heap.size B f.data.length f.data:=by
   obtain⟨A',c',e1,h1,_⟩:=(HD.out.keep HG3.out (λ_ _ e=>e)).bs
   cases e1;exact h1
  have hee:Rs V8 w3 w3.heap.size AE EI.length EI:=by
   obtain⟨A',c',e1,h1,_⟩:=HBS.out.1
   cases e1;exact h1
  have hTb:∀x∈f.data,0≤x∧x<256:=HD.out.2
  have hEIb:∀x∈EI,0≤x∧x<256:=by obtain⟨_,_,_,_,_,_,_,h⟩:=HBS.out.1;exact h
  have HW4:=qQ (And.intro (WC.start hw4) (hdd.keep g4 (λ_ _ e=>e)))
  have HE4:=qQ (And.intro (hee.keep g4 (λ_ _ e=>e)) (And.intro hTb hEIb))
  have HB4:=qQ (Chg.keep g4 HB3.out (λe=>e))
  have HG4:=qQ (And.intro (HG3.out.trans g4) HG3.out.size)
  have hEIl:EI.length≤73:=HBS.out.2
  have hTl:f.data.length≤64:=HDL.out
  clear hw4 g4 hdd hee hTb hEIb HB3 HG3 HBS HDL hszB
  generalize w3.alloc (.cells #[.slice none 0 0,.int .i64 0] 180)=w4 at *
  generalize w3.heap.size=b at *
  obtain⟨EL,hEL⟩:∃n,n=EI.length:=⟨_,rfl⟩
  obtain⟨TL,hTL⟩:∃n,n=f.data.length:=⟨_,rfl⟩
  rw[←hEL,←hTL]
  rw[←hEL] at HE4 hEIl
  rw[←hTL] at HW4 hTl HB4
  have HLN:=qQ (And.intro hEL hTL)
  clear hEL hTL
  have x0:=ix5_0 (.int .i64 197) (.int .i64 f.kind) (.int .i64 f.src) (.int .i64 f.dst) (.int .i64 f.seq)
  have x1:=ix5_1 (.int .i64 197) (.int .i64 f.kind) (.int .i64 f.src) (.int .i64 f.dst) (.int .i64 f.seq)
  have x2:=ix5_2 (.int .i64 197) (.int .i64 f.kind) (.int .i64 f.src) (.int .i64 f.dst) (.int .i64 f.seq)
  have x3:=ix5_3 (.int .i64 197) (.int .i64 f.kind) (.int .i64 f.src) (.int .i64 f.dst) (.int .i64 f.seq)
  have x4:=ix5_4 (.int .i64 197) (.int .i64 f.kind) (.int .i64 f.src) (.int .i64 f.dst) (.int .i64 f.seq)
  go_loopw [34] (λi wr=>∃(k:Nat),k≤5∧i= .int .i64 k∧WC w4 wr b (hdrF f.kind f.src f.dst f.seq k)) (λi _=>5-(intOf i).toNat)
  case atStart=>exact⟨0,by omega,rfl,HW4.out.1⟩
  case round=>
   obtain⟨k,hk,rfl,hP⟩:=hrel
   have HPP:=qQ hP
   clear hP
   rcases (by omega:k=0∨k=1∨k=2∨k=3∨k=4∨k=5) with rfl|rfl|rfl|rfl|rfl|rfl
   ·go_wp2_with fail
    (with_reducible refine (zX HPP.out 1 8 rfl (by omega) 197 (by omega) (by omega) (by have:=hdr_len f.kind f.src f.dst f.seq 0;omega)).mono ?_)
    rintro en w5 ⟨rfl,W5,_⟩
    have HN:Hid (WC w4 w5 b (hdrF f.kind f.src f.dst f.seq (0+1))):=qQ (by rw[hdr_next f.kind f.src f.dst f.seq 0 197 rfl];exact W5)
    clear W5 HPP
    go_wp2_with fail
    go_roundw
    case measure=>simp[intOf]
    case rel=>exact⟨1,by omega,rfl,HN.out⟩
   ·go_wp2_with fail
    (with_reducible refine (zX HPP.out 1 8 rfl (by omega) f.kind (by omega) (by omega) (by have:=hdr_len f.kind f.src f.dst f.seq 1;omega)).mono ?_)
    rintro en w5 ⟨rfl,W5,_⟩
    have HN:Hid (WC w4 w5 b (hdrF f.kind f.src f.dst f.seq (1+1))):=qQ (by rw[hdr_next f.kind f.src f.dst f.seq 1 f.kind rfl];exact W5)
    clear W5 HPP
    go_wp2_with fail
    go_roundw
    case measure=>simp[intOf]
    case rel=>exact⟨2,by omega,rfl,HN.out⟩
   ·go_wp2_with fail
    (with_reducible refine (zX HPP.out 1 8 rfl (by omega) f.src (by omega) (by omega) (by have:=hdr_len f.kind f.src f.dst f.seq 2;omega)).mono ?_)
    rintro en w5 ⟨rfl,W5,_⟩
    have HN:Hid (WC w4 w5 b (hdrF f.kind f.src f.dst f.seq (2+1))):=qQ (by rw[hdr_next f.kind f.src f.dst f.seq 2 f.src rfl];exact W5)
    clear W5 HPP
    go_wp2_with fail
    go_roundw
    case measure=>simp[intOf]
    case rel=>exact⟨3,by omega,rfl,HN.out⟩
   ·go_wp2_with fail
    (with_reducible refine (zX HPP.out 1 8 rfl (by omega) f.dst (by omega) (by omega) (by have:=hdr_len f.kind f.src f.dst f.seq 3;omega)).mono ?_)
    rintro en w5 ⟨rfl,W5,_⟩
    have HN:Hid (WC w4 w5 b (hdrF f.kind f.src f.dst f.seq (3+1))):=qQ (by rw[hdr_next f.kind f.src f.dst f.seq 3 f.dst rfl];exact W5)
    clear W5 HPP
    go_wp2_with fail
    go_roundw
    case measure=>simp[intOf]
    case rel=>exact⟨4,by omega,rfl,HN.out⟩
   ·go_wp2_with fail
    (with_reducible refine (zX HPP.out 1 8 rfl (by omega) f.seq (by omega) (by omega) (by have:=hdr_len f.kind f.src f.dst f.seq 4;omega)).mono ?_)
    rintro en w5 ⟨rfl,W5,_⟩
    have HN:Hid (WC w4 w5 b (hdrF f.kind f.src f.dst f.seq (4+1))):=qQ (by rw[hdr_next f.kind f.src f.dst f.seq 4 f.seq rfl];exact W5)
    clear W5 HPP
    go_wp2_with fail
    go_roundw
    case measure=>simp[intOf]
    case rel=>exact⟨5,by omega,rfl,HN.out⟩
   ·clear x0 x1 x2 x3 x4
    obtain⟨H,hH⟩:∃H,hdrF f.kind f.src f.dst f.seq 5=H:=⟨_,rfl⟩
    have hHl:H.length≤5:=by rw[←hH];exact hdr_len _ _ _ _ _
    have HWR:=qQ (hH▸HPP.out)
    have HH:=qQ hH
    obtain⟨b0,b1,b2,b3,b4,b5⟩:=qC (HWR.out.2.keep HB4.out (by have:=qX HB4.out;omega) (.inl (by decide)))
    have x0:=ix2_0 (.slice AE EL cE) (.slice B TL cb)
    have x1:=ix2_1 (.slice AE EL cE) (.slice B TL cb)
    clear hH HPP
    go_wp2_with fail
    clear b0 b1 b2 b3 b4 b5
    go_loopw [46] (λi wq=>∃(k:Nat) (M:List Int),k≤2∧i= .int .i64 k∧M=H++(if k=0 then [] else if k=1 then be 1 (EL:Int)++EI else be 1 (EL:Int)++EI++(be 1 (TL:Int)++f.data))∧WC w4 wq b M) (λi _=>2-(intOf i).toNat)
    case atStart=>exact⟨0,H,by omega,rfl,by simp,HWR.out⟩
    case round=>
     obtain⟨k,M,hk,rfl,hM,hP⟩:=hrel
     have HPP:=qQ hP
     have HMM:=qQ hM
     clear hP hM
     rcases (by omega:k=0∨k=1∨k=2) with rfl|rfl|rfl
     ·have hMl:M.length≤5:=by rw[HMM.out];simpa using hHl
      go_wp2_with fail
      (with_reducible refine (zX HPP.out 1 8 rfl (by omega) (EL:Int) (by omega) (by omega) (by omega)).mono ?_)
      rintro en w5 ⟨rfl,W5,_⟩
      have HW5:=qQ W5
      clear W5 HPP
      go_wp2_with fail
      (with_reducible refine (wc_text HW5.out AE EL cE EI (HE4.out.1.keep (WC.cw HW5.out).chg (λj h1 h2=>by omega)) HE4.out.2.2 (by rw[List.length_append,qq];omega)).mono ?_)
      rintro en w6 ⟨rfl,W6,_⟩
      have HW6:Hid (WC w4 w6 b (H++(be 1 (EL:Int)++EI))):=qQ (by have h:=HMM.out;simp at h;rw[h] at W6;rw[←List.append_assoc];exact W6)
      clear W6 HW5 HMM hMl
      go_wp2_with fail
      go_roundw
      case measure=>simp[intOf]
      case rel=>(repeat apply Exists.intro);exact⟨⟨1,_,by omega,rfl,rfl,HW6.out⟩,rfl⟩
     ·have hMl:M.length≤79:=by rw[HMM.out];simp[qq];have:=HLN.out.1;omega
      go_wp2_with fail
      (with_reducible refine (zX HPP.out 1 8 rfl (by omega) (TL:Int) (by omega) (by omega) (by omega)).mono ?_)
      rintro en w5 ⟨rfl,W5,_⟩
      have HW5:=qQ W5
      clear W5 HPP
      go_wp2_with fail
      (with_reducible refine (wc_text HW5.out B TL cb f.data (HW4.out.2.keep (WC.cw HW5.out).chg (λj h1 h2=>by omega)) HE4.out.2.1 (by rw[List.length_append,qq];omega)).mono ?_)
      rintro en w6 ⟨rfl,W6,_⟩
      have HW6:Hid (WC w4 w6 b (H++(be 1 (EL:Int)++EI++(be 1 (TL:Int)++f.data)))):=qQ (by have h:=HMM.out;simp at h;rw[h] at W6;simpa using W6)
      clear W6 HW5 HMM hMl
      go_wp2_with fail
      go_roundw
      case measure=>simp[intOf]
      case rel=>(repeat apply Exists.intro);exact⟨⟨2,_,by omega,rfl,rfl,HW6.out⟩,rfl⟩
     ·clear x0 x1
      go_wp2_with fail
      obtain⟨⟨v6,hw⟩,hc⟩:=HPP.out
      have hMM:M=bodyF f:=by
       rw[HMM.out,←HH.out,HLN.out.1,HLN.out.2]
       simp only[bodyF,headF,hdrF,HEI.out]
       simp[List.append_assoc]
      have hMl:M.length≤144:=by
       rw[HMM.out];simp[qq];have:=HLN.out.1;have:=HLN.out.2;omega
      have hMb:∀x∈M,0≤x∧x<256:=by
       have h1:∀x∈H,0≤x∧x<256:=by
        intro x hx;rw[←HH.out] at hx
        simp only[hdrF,List.mem_flatMap] at hx
        obtain⟨y,_,hx⟩:=hx
        exact zK _ _ x hx
       intro x hx
       rw[HMM.out] at hx
       simp only[List.mem_append] at hx
       rcases hx with hx|hx
       ·exact h1 x hx
       ·simp at hx
        rcases hx with hx|hx|hx|hx
        ·exact zK _ _ x hx
        ·exact HE4.out.2.2 x hx
        ·exact zK _ _ x hx
        ·exact HE4.out.2.1 x hx
      have hb:=bytes_any _ b v6 M hw (by omega)
      have HB6:=qQ hb
      have HC6:=qQ hc
      have HM6:=qQ (And.intro hMM (And.intro hMl hMb))
      clear hb hc hw hMM hMl hMb HMM HPP
      with_reducible refine HB6.out.mono ?_
      rintro en w7 ⟨v7,rfl,hown7,G7⟩
      obtain⟨A7,c7,rfl,hr7,hA7⟩:=Rs.of_own hown7
      have hap:=crcAppend_any w7 A7 M.length c7 M hr7 hA7 HM6.out.2.2 (by have:=HM6.out.2.1;omega)
      have hbw:w.heap.size≤b:=HG4.out.2
      have hg7:Chg (λ_=>False) w w7:=((HG4.out.1.none.trans (HC6.out.chg.mono (λj _ h2=>Nat.le_trans hbw h2))).fresh).trans G7
      have HAP:=qQ hap
      have HG7:=qQ hg7
      clear hap hg7 hown7 hr7 hA7 G7 HB6 HC6 hbw
      go_wp2_with fail
      with_reducible refine HAP.out.mono ?_
      rintro en w8 ⟨v8,rfl,hown8,G8⟩
      have HX8:=qQ (And.intro (qj hown8 HG7.out.size) (HG7.out.trans G8))
      clear hown8 G8 HAP
      go_wp2_with fail
      rw[HP.out]
      have henc:encF f=M++jJ M:=by rw[HM6.out.1];rfl
      exact (PEncF.ok HM.out ⟨v8,rfl,by rw[henc];exact HX8.out.1,HX8.out.2⟩)
 ·have hm:mayF f=false:=by simpa using hm
  have HM:=qQ hm
  clear hm
  go_enter Tryz.func60,Tryz.ntmps60
  go_wp2_with fail
  with_reducible refine HMAY.out.mono ?_
  rintro en w2 ⟨rfl,G2⟩
  rw[HM.out]
  have HG2:=qQ (HGA.out.trans G2)
  clear G2 HGA HBA HMAY
  go_wp2_with fail
  rw[HP.out]
  exact (PEncF.no HM.out rfl HG2.out)
end Go.Proofs.YtnpihllannobgaaGreatDoor
