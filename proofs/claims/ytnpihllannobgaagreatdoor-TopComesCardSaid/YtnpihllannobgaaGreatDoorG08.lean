/- Steps of the proof, part G08. No condition. -/
import Derived.Test.YtnpihllannobgaaGreatDoorG07
namespace Go.Proofs.YtnpihllannobgaaGreatDoor
set_option linter.unusedVariables false
set_option linter.unusedSimpArgs false
set_option maxRecDepth 100000
set_option maxHeartbeats 32000000
open Go.ChangeShapes Go.WideShapes Go.ChangeAt Go.RowKit
theorem fnode_any(n:Int)(w:World):Calls Tryz.prog 147 #[.int .i64 n] w λe w'=>e= .returned (.bool (qt n))∧w'=w:=by
 by_cases h0:0≤n
 ·by_cases h1:n<16
  ·have e:qt n=true:=jG h0 (by omega)
   rw[e]
   clear e
   go_enter Tryz.func147,Tryz.ntmps147
   go_wp2_with fail
   go_ret
   exact⟨rfl,rfl⟩
  ·have e:qt n=false:=jw (by omega)
   have h1:16≤n:=by omega
   rw[e]
   clear e
   go_enter Tryz.func147,Tryz.ntmps147
   go_wp2_with fail
   go_ret
   exact⟨rfl,rfl⟩
 ·have e:qt n=false:=kK (by omega)
  have h0:n<0:=by omega
  rw[e]
  clear e
  go_enter Tryz.func147,Tryz.ntmps147
  go_wp2_with fail
  go_ret
  exact⟨rfl,rfl⟩
def frV(f:Fr)(iv dv:Value):Value:= .agg #[.int .i64 f.kind,.int .i64 f.src,.int .i64 f.dst,.int .i64 f.seq,iv,dv]
theorem neD(n:Nat):((n:Int)==0)=decide (n=0):=by rw[Bool.eq_iff_iff];simp
theorem qC{w:World}{b:Nat}{v0 v1 v2 v3 v4 v5:Value}{t:TypeId}(h:w.heap[b]? =some (.cells #[v0,v1,v2,v3,v4,v5] t (0,0))):
  w.cell? ⟨b,0,none⟩=some v0∧w.cell? ⟨b,1,none⟩=some v1∧w.cell? ⟨b,2,none⟩=some v2∧w.cell? ⟨b,3,none⟩=some v3∧w.cell? ⟨b,4,none⟩=some v4∧w.cell? ⟨b,5,none⟩=some v5:=by
 refine⟨?_,?_,?_,?_,?_,?_⟩ <;> (rw[qJ h];rfl)
theorem says_any(w:World)(own:Cls)(f:Fr)(iv dv:Value)(hi:IeO w own iv f.ies)(hd:BO w own dv f.data)(hE:f.ies.length≤100000)(hT:f.data.length≤100000)(hll:∀e∈f.ies,e.list.length≤100000):
  Calls Tryz.prog 151 #[frV f iv dv] w (PV (.bool (zY f)) w):=by
 have HI:=qQ hi
 have HD:=qQ hd
 obtain⟨A,c,rfl⟩:=hi.val
 obtain⟨⟨B,cb,rfl,_⟩,_⟩:=hd
 obtain⟨K,S,D,Q,E,T⟩:=f
 simp only[frV]
 simp only at HI HD
 obtain⟨m,hm⟩:=qZ T.length
 obtain⟨n,hn⟩:=qZ E.length
 simp only[←hm,←hn] at HI HD ⊢
 have HM:=qQ (And.intro hm hn)
 simp only at hll hE hT
 have HLL:=qQ (And.intro hll (And.intro hE hT))
 have hn3:(n:Int)≤100000:=by omega
 have hm3:(m:Int)≤100000:=by omega
 clear hm hn hi hll hE hT
 by_cases hk:K=2
 ·subst hk
  have HK:=qQ (rfl:(2:Int)=2)
  by_cases h64:D=64
  ·have h1:(D != 64)=false:=by simpa using h64
   have H1:=qQ h1
   clear h64
   have HV:=qQ (show zY ⟨2,S,D,Q,E,T⟩=false from by unfold zY;simp[H1.out])
   have ga:Chg (λ_=>False) w (w.alloc (.cells #[.int .i64 2,.int .i64 S,.int .i64 D,.int .i64 Q,.slice A n c,.slice B m cb] 71)):=Chg.alloc _ _ _
   have HGA:=qQ ga
   have hfi:=zQ _ own (.slice A n c) E 1 (HI.out.keep ga (λ_ _ e=>e)) HLL.out.2.1 HLL.out.1
   obtain⟨X,hX⟩:∃X,zH E 1=X:=⟨_,rfl⟩
   rw[hX] at hfi
   have HX:=qQ hX
   have HFI:=qQ hfi
   have hba:=qV w (.cells #[.int .i64 2,.int .i64 S,.int .i64 D,.int .i64 Q,.slice A n c,.slice B m cb] 71)
   have HBA:=qQ hba
   clear ga hfi hX hba
   go_enter Tryz.func151,Tryz.ntmps151
   go_wp2_with fail
   with_reducible refine HFI.out.mono ?_
   rintro en w2 ⟨lv,rfl,hown,G2⟩
   have hblk:=Chg.keep G2 HBA.out (λe=>e)
   obtain⟨b0,b1,b2,b3,b4,b5⟩:=qC hblk
   have hsz:=qX hblk
   have hne:¬(w.heap.size=w2.heap.size):=by omega
   clear hblk
   unfold elV
   obtain⟨A2,c2,rfl,_⟩:=Rs.of_own (V:=VI) (zs:=(X.getD el0).list) hown
   have HG2:=qQ (HGA.out.trans G2)
   clear hown G2
   go_wp2_with fail
   go_ret
   rw[HV.out]
   exact⟨rfl,HG2.out.trans (Chg.alloc _ _ _)⟩
  ·have h1:(D != 64)=true:=by simpa using h64
   have H1:=qQ h1
   clear h64
   by_cases hT0:m=0
   ·have hz:((m:Int)==0)=true:=by rw[neD];simpa using hT0
    have hz3:decide (0<m)=false:=by simpa using hT0
    have hz1:T=[]:=List.eq_nil_of_length_eq_zero (by have:=HM.out.1;omega)
    have HZ1:=qQ hz1
    clear hz1 hT0
    have HV:=qQ (show zY ⟨2,S,D,Q,E,T⟩=true from by unfold zY;simp[H1.out,HZ1.out])
    have ga:Chg (λ_=>False) w (w.alloc (.cells #[.int .i64 2,.int .i64 S,.int .i64 D,.int .i64 Q,.slice A n c,.slice B m cb] 71)):=Chg.alloc _ _ _
    have HGA:=qQ ga
    have hfi:=zQ _ own (.slice A n c) E 1 (HI.out.keep ga (λ_ _ e=>e)) HLL.out.2.1 HLL.out.1
    obtain⟨X,hX⟩:∃X,zH E 1=X:=⟨_,rfl⟩
    rw[hX] at hfi
    have HX:=qQ hX
    have HFI:=qQ hfi
    have hba:=qV w (.cells #[.int .i64 2,.int .i64 S,.int .i64 D,.int .i64 Q,.slice A n c,.slice B m cb] 71)
    have HBA:=qQ hba
    clear ga hfi hX hba
    go_enter Tryz.func151,Tryz.ntmps151
    go_wp2_with fail
    with_reducible refine HFI.out.mono ?_
    rintro en w2 ⟨lv,rfl,hown,G2⟩
    have hblk:=Chg.keep G2 HBA.out (λe=>e)
    obtain⟨b0,b1,b2,b3,b4,b5⟩:=qC hblk
    have hsz:=qX hblk
    have hne:¬(w.heap.size=w2.heap.size):=by omega
    clear hblk
    unfold elV
    obtain⟨A2,c2,rfl,_⟩:=Rs.of_own (V:=VI) (zs:=(X.getD el0).list) hown
    have HG2:=qQ (HGA.out.trans G2)
    clear hown G2
    go_wp2_with fail
    go_ret
    rw[HV.out]
    exact⟨rfl,HG2.out.trans (Chg.alloc _ _ _)⟩
   ·have hz:((m:Int)==0)=false:=by rw[neD];simpa using hT0
    have hz3:decide (0<m)=true:=by simp;omega
    have hz1:¬T=[]:=λe=>by have:=HM.out.1;rw[e] at this;exact hT0 this
    have HZ1:=qQ hz1
    clear hz1 hT0
    have HV:=qQ (show zY ⟨2,S,D,Q,E,T⟩=false from by unfold zY;simp[H1.out,HZ1.out])
    have ga:Chg (λ_=>False) w (w.alloc (.cells #[.int .i64 2,.int .i64 S,.int .i64 D,.int .i64 Q,.slice A n c,.slice B m cb] 71)):=Chg.alloc _ _ _
    have HGA:=qQ ga
    have hfi:=zQ _ own (.slice A n c) E 1 (HI.out.keep ga (λ_ _ e=>e)) HLL.out.2.1 HLL.out.1
    obtain⟨X,hX⟩:∃X,zH E 1=X:=⟨_,rfl⟩
    rw[hX] at hfi
    have HX:=qQ hX
    have HFI:=qQ hfi
    have hba:=qV w (.cells #[.int .i64 2,.int .i64 S,.int .i64 D,.int .i64 Q,.slice A n c,.slice B m cb] 71)
    have HBA:=qQ hba
    clear ga hfi hX hba
    go_enter Tryz.func151,Tryz.ntmps151
    go_wp2_with fail
    with_reducible refine HFI.out.mono ?_
    rintro en w2 ⟨lv,rfl,hown,G2⟩
    have hblk:=Chg.keep G2 HBA.out (λe=>e)
    obtain⟨b0,b1,b2,b3,b4,b5⟩:=qC hblk
    have hsz:=qX hblk
    have hne:¬(w.heap.size=w2.heap.size):=by omega
    clear hblk
    unfold elV
    obtain⟨A2,c2,rfl,_⟩:=Rs.of_own (V:=VI) (zs:=(X.getD el0).list) hown
    have HG2:=qQ (HGA.out.trans G2)
    clear hown G2
    go_wp2_with fail
    go_ret
    rw[HV.out]
    exact⟨rfl,HG2.out.trans (Chg.alloc _ _ _)⟩
 by_cases hk:K=4
 ·subst hk
  have HK:=qQ (rfl:(4:Int)=4)
  by_cases h64:D=64
  ·have h1:(D != 64)=false:=by simpa using h64
   have H1:=qQ h1
   clear h64
   have HV:=qQ (show zY ⟨4,S,D,Q,E,T⟩=false from by unfold zY;simp[H1.out])
   have ga:Chg (λ_=>False) w (w.alloc (.cells #[.int .i64 4,.int .i64 S,.int .i64 D,.int .i64 Q,.slice A n c,.slice B m cb] 71)):=Chg.alloc _ _ _
   have HGA:=qQ ga
   have hfi:=zQ _ own (.slice A n c) E 1 (HI.out.keep ga (λ_ _ e=>e)) HLL.out.2.1 HLL.out.1
   obtain⟨X,hX⟩:∃X,zH E 1=X:=⟨_,rfl⟩
   rw[hX] at hfi
   have HX:=qQ hX
   have HFI:=qQ hfi
   have hba:=qV w (.cells #[.int .i64 4,.int .i64 S,.int .i64 D,.int .i64 Q,.slice A n c,.slice B m cb] 71)
   have HBA:=qQ hba
   clear ga hfi hX hba
   go_enter Tryz.func151,Tryz.ntmps151
   go_wp2_with fail
   with_reducible refine HFI.out.mono ?_
   rintro en w2 ⟨lv,rfl,hown,G2⟩
   have hblk:=Chg.keep G2 HBA.out (λe=>e)
   obtain⟨b0,b1,b2,b3,b4,b5⟩:=qC hblk
   have hsz:=qX hblk
   have hne:¬(w.heap.size=w2.heap.size):=by omega
   clear hblk
   unfold elV
   obtain⟨A2,c2,rfl,_⟩:=Rs.of_own (V:=VI) (zs:=(X.getD el0).list) hown
   have HG2:=qQ (HGA.out.trans G2)
   clear hown G2
   go_wp2_with fail
   go_ret
   rw[HV.out]
   exact⟨rfl,HG2.out.trans (Chg.alloc _ _ _)⟩
  ·have h1:(D != 64)=true:=by simpa using h64
   have H1:=qQ h1
   clear h64
   by_cases hT0:m=0
   ·have hz:((m:Int)==0)=true:=by rw[neD];simpa using hT0
    have hz3:decide (0<m)=false:=by simpa using hT0
    have hz1:T=[]:=List.eq_nil_of_length_eq_zero (by have:=HM.out.1;omega)
    have HZ1:=qQ hz1
    clear hz1 hT0
    have HV:=qQ (show zY ⟨4,S,D,Q,E,T⟩=true from by unfold zY;simp[H1.out,HZ1.out])
    have ga:Chg (λ_=>False) w (w.alloc (.cells #[.int .i64 4,.int .i64 S,.int .i64 D,.int .i64 Q,.slice A n c,.slice B m cb] 71)):=Chg.alloc _ _ _
    have HGA:=qQ ga
    have hfi:=zQ _ own (.slice A n c) E 1 (HI.out.keep ga (λ_ _ e=>e)) HLL.out.2.1 HLL.out.1
    obtain⟨X,hX⟩:∃X,zH E 1=X:=⟨_,rfl⟩
    rw[hX] at hfi
    have HX:=qQ hX
    have HFI:=qQ hfi
    have hba:=qV w (.cells #[.int .i64 4,.int .i64 S,.int .i64 D,.int .i64 Q,.slice A n c,.slice B m cb] 71)
    have HBA:=qQ hba
    clear ga hfi hX hba
    go_enter Tryz.func151,Tryz.ntmps151
    go_wp2_with fail
    with_reducible refine HFI.out.mono ?_
    rintro en w2 ⟨lv,rfl,hown,G2⟩
    have hblk:=Chg.keep G2 HBA.out (λe=>e)
    obtain⟨b0,b1,b2,b3,b4,b5⟩:=qC hblk
    have hsz:=qX hblk
    have hne:¬(w.heap.size=w2.heap.size):=by omega
    clear hblk
    unfold elV
    obtain⟨A2,c2,rfl,_⟩:=Rs.of_own (V:=VI) (zs:=(X.getD el0).list) hown
    have HG2:=qQ (HGA.out.trans G2)
    clear hown G2
    go_wp2_with fail
    go_ret
    rw[HV.out]
    exact⟨rfl,HG2.out.trans (Chg.alloc _ _ _)⟩
   ·have hz:((m:Int)==0)=false:=by rw[neD];simpa using hT0
    have hz3:decide (0<m)=true:=by simp;omega
    have hz1:¬T=[]:=λe=>by have:=HM.out.1;rw[e] at this;exact hT0 this
    have HZ1:=qQ hz1
    clear hz1 hT0
    have HV:=qQ (show zY ⟨4,S,D,Q,E,T⟩=false from by unfold zY;simp[H1.out,HZ1.out])
    have ga:Chg (λ_=>False) w (w.alloc (.cells #[.int .i64 4,.int .i64 S,.int .i64 D,.int .i64 Q,.slice A n c,.slice B m cb] 71)):=Chg.alloc _ _ _
    have HGA:=qQ ga
    have hfi:=zQ _ own (.slice A n c) E 1 (HI.out.keep ga (λ_ _ e=>e)) HLL.out.2.1 HLL.out.1
    obtain⟨X,hX⟩:∃X,zH E 1=X:=⟨_,rfl⟩
    rw[hX] at hfi
    have HX:=qQ hX
    have HFI:=qQ hfi
    have hba:=qV w (.cells #[.int .i64 4,.int .i64 S,.int .i64 D,.int .i64 Q,.slice A n c,.slice B m cb] 71)
    have HBA:=qQ hba
    clear ga hfi hX hba
    go_enter Tryz.func151,Tryz.ntmps151
    go_wp2_with fail
    with_reducible refine HFI.out.mono ?_
    rintro en w2 ⟨lv,rfl,hown,G2⟩
    have hblk:=Chg.keep G2 HBA.out (λe=>e)
    obtain⟨b0,b1,b2,b3,b4,b5⟩:=qC hblk
    have hsz:=qX hblk
    have hne:¬(w.heap.size=w2.heap.size):=by omega
    clear hblk
    unfold elV
    obtain⟨A2,c2,rfl,_⟩:=Rs.of_own (V:=VI) (zs:=(X.getD el0).list) hown
    have HG2:=qQ (HGA.out.trans G2)
    clear hown G2
    go_wp2_with fail
    go_ret
    rw[HV.out]
    exact⟨rfl,HG2.out.trans (Chg.alloc _ _ _)⟩
 by_cases hk:K=3
 ·subst hk
  by_cases h64:D=64
  ·have h1:(D != 64)=false:=by simpa using h64
   have H1:=qQ h1
   clear h64
   by_cases hT0:m=0
   ·have hz:((m:Int)==0)=true:=by rw[neD];simpa using hT0
    have hz3:decide (0<m)=false:=by simpa using hT0
    have hz1:T=[]:=List.eq_nil_of_length_eq_zero (by have:=HM.out.1;omega)
    have HZ1:=qQ hz1
    clear hz1 hT0
    have HV:=qQ (show zY ⟨3,S,D,Q,E,T⟩=(zH E 1).isSome from by unfold zY;simp[H1.out,HZ1.out])
    have ga:Chg (λ_=>False) w (w.alloc (.cells #[.int .i64 3,.int .i64 S,.int .i64 D,.int .i64 Q,.slice A n c,.slice B m cb] 71)):=Chg.alloc _ _ _
    have HGA:=qQ ga
    have hfi:=zQ _ own (.slice A n c) E 1 (HI.out.keep ga (λ_ _ e=>e)) HLL.out.2.1 HLL.out.1
    obtain⟨X,hX⟩:∃X,zH E 1=X:=⟨_,rfl⟩
    rw[hX] at hfi
    have HX:=qQ hX
    have HFI:=qQ hfi
    have hba:=qV w (.cells #[.int .i64 3,.int .i64 S,.int .i64 D,.int .i64 Q,.slice A n c,.slice B m cb] 71)
    have HBA:=qQ hba
    clear ga hfi hX hba
    go_enter Tryz.func151,Tryz.ntmps151
    go_wp2_with fail
    with_reducible refine HFI.out.mono ?_
    rintro en w2 ⟨lv,rfl,hown,G2⟩
    have hblk:=Chg.keep G2 HBA.out (λe=>e)
    obtain⟨b0,b1,b2,b3,b4,b5⟩:=qC hblk
    have hsz:=qX hblk
    have hne:¬(w.heap.size=w2.heap.size):=by omega
    clear hblk
    unfold elV
    obtain⟨A2,c2,rfl,_⟩:=Rs.of_own (V:=VI) (zs:=(X.getD el0).list) hown
    have HG2:=qQ (HGA.out.trans G2)
    clear hown G2
    go_wp2_with fail
    go_ret
    rw[HV.out]
    rw[HX.out]
    exact⟨rfl,HG2.out.trans (Chg.alloc _ _ _)⟩
   ·have hz:((m:Int)==0)=false:=by rw[neD];simpa using hT0
    have hz3:decide (0<m)=true:=by simp;omega
    have hz1:¬T=[]:=λe=>by have:=HM.out.1;rw[e] at this;exact hT0 this
    have HZ1:=qQ hz1
    clear hz1 hT0
    have HV:=qQ (show zY ⟨3,S,D,Q,E,T⟩=false from by unfold zY;simp[H1.out,HZ1.out])
    have ga:Chg (λ_=>False) w (w.alloc (.cells #[.int .i64 3,.int .i64 S,.int .i64 D,.int .i64 Q,.slice A n c,.slice B m cb] 71)):=Chg.alloc _ _ _
    have HGA:=qQ ga
    have hfi:=zQ _ own (.slice A n c) E 1 (HI.out.keep ga (λ_ _ e=>e)) HLL.out.2.1 HLL.out.1
    obtain⟨X,hX⟩:∃X,zH E 1=X:=⟨_,rfl⟩
    rw[hX] at hfi
    have HX:=qQ hX
    have HFI:=qQ hfi
    have hba:=qV w (.cells #[.int .i64 3,.int .i64 S,.int .i64 D,.int .i64 Q,.slice A n c,.slice B m cb] 71)
    have HBA:=qQ hba
    clear ga hfi hX hba
    go_enter Tryz.func151,Tryz.ntmps151
    go_wp2_with fail
    with_reducible refine HFI.out.mono ?_
    rintro en w2 ⟨lv,rfl,hown,G2⟩
    have hblk:=Chg.keep G2 HBA.out (λe=>e)
    obtain⟨b0,b1,b2,b3,b4,b5⟩:=qC hblk
    have hsz:=qX hblk
    have hne:¬(w.heap.size=w2.heap.size):=by omega
    clear hblk
    unfold elV
    obtain⟨A2,c2,rfl,_⟩:=Rs.of_own (V:=VI) (zs:=(X.getD el0).list) hown
    have HG2:=qQ (HGA.out.trans G2)
    clear hown G2
    go_wp2_with fail
    go_ret
    rw[HV.out]
    exact⟨rfl,HG2.out.trans (Chg.alloc _ _ _)⟩
  ·have h1:(D != 64)=true:=by simpa using h64
   have H1:=qQ h1
   clear h64
   have HV:=qQ (show zY ⟨3,S,D,Q,E,T⟩=false from by unfold zY;simp[H1.out])
   have ga:Chg (λ_=>False) w (w.alloc (.cells #[.int .i64 3,.int .i64 S,.int .i64 D,.int .i64 Q,.slice A n c,.slice B m cb] 71)):=Chg.alloc _ _ _
   have HGA:=qQ ga
   have hfi:=zQ _ own (.slice A n c) E 1 (HI.out.keep ga (λ_ _ e=>e)) HLL.out.2.1 HLL.out.1
   obtain⟨X,hX⟩:∃X,zH E 1=X:=⟨_,rfl⟩
   rw[hX] at hfi
   have HX:=qQ hX
   have HFI:=qQ hfi
   have hba:=qV w (.cells #[.int .i64 3,.int .i64 S,.int .i64 D,.int .i64 Q,.slice A n c,.slice B m cb] 71)
   have HBA:=qQ hba
   clear ga hfi hX hba
   go_enter Tryz.func151,Tryz.ntmps151
   go_wp2_with fail
   with_reducible refine HFI.out.mono ?_
   rintro en w2 ⟨lv,rfl,hown,G2⟩
   have hblk:=Chg.keep G2 HBA.out (λe=>e)
   obtain⟨b0,b1,b2,b3,b4,b5⟩:=qC hblk
   have hsz:=qX hblk
   have hne:¬(w.heap.size=w2.heap.size):=by omega
   clear hblk
   unfold elV
   obtain⟨A2,c2,rfl,_⟩:=Rs.of_own (V:=VI) (zs:=(X.getD el0).list) hown
   have HG2:=qQ (HGA.out.trans G2)
   clear hown G2
   go_wp2_with fail
   go_ret
   rw[HV.out]
   exact⟨rfl,HG2.out.trans (Chg.alloc _ _ _)⟩
 by_cases hk:K=1
 ·subst hk
  by_cases h64:D=64
  ·have h1:(D != 64)=false:=by simpa using h64
   have H1:=qQ h1
   clear h64
   have HV:=qQ (show zY ⟨1,S,D,Q,E,T⟩=false from by unfold zY;simp[H1.out])
   have ga:Chg (λ_=>False) w (w.alloc (.cells #[.int .i64 1,.int .i64 S,.int .i64 D,.int .i64 Q,.slice A n c,.slice B m cb] 71)):=Chg.alloc _ _ _
   have HGA:=qQ ga
   have hfi:=zQ _ own (.slice A n c) E 1 (HI.out.keep ga (λ_ _ e=>e)) HLL.out.2.1 HLL.out.1
   obtain⟨X,hX⟩:∃X,zH E 1=X:=⟨_,rfl⟩
   rw[hX] at hfi
   have HX:=qQ hX
   have HFI:=qQ hfi
   have hba:=qV w (.cells #[.int .i64 1,.int .i64 S,.int .i64 D,.int .i64 Q,.slice A n c,.slice B m cb] 71)
   have HBA:=qQ hba
   clear ga hfi hX hba
   go_enter Tryz.func151,Tryz.ntmps151
   go_wp2_with fail
   with_reducible refine HFI.out.mono ?_
   rintro en w2 ⟨lv,rfl,hown,G2⟩
   have hblk:=Chg.keep G2 HBA.out (λe=>e)
   obtain⟨b0,b1,b2,b3,b4,b5⟩:=qC hblk
   have hsz:=qX hblk
   have hne:¬(w.heap.size=w2.heap.size):=by omega
   clear hblk
   unfold elV
   obtain⟨A2,c2,rfl,_⟩:=Rs.of_own (V:=VI) (zs:=(X.getD el0).list) hown
   have HG2:=qQ (HGA.out.trans G2)
   clear hown G2
   go_wp2_with fail
   go_ret
   rw[HV.out]
   exact⟨rfl,HG2.out.trans (Chg.alloc _ _ _)⟩
  ·have h1:(D != 64)=true:=by simpa using h64
   have H1:=qQ h1
   clear h64
   by_cases hT0:m=0
   ·have hz:((m:Int)==0)=true:=by rw[neD];simpa using hT0
    have hz3:decide (0<m)=false:=by simpa using hT0
    have hz1:T=[]:=List.eq_nil_of_length_eq_zero (by have:=HM.out.1;omega)
    have HZ1:=qQ hz1
    clear hz1 hT0
    have HV:=qQ (show zY ⟨1,S,D,Q,E,T⟩=false from by unfold zY;simp[H1.out,HZ1.out])
    have ga:Chg (λ_=>False) w (w.alloc (.cells #[.int .i64 1,.int .i64 S,.int .i64 D,.int .i64 Q,.slice A n c,.slice B m cb] 71)):=Chg.alloc _ _ _
    have HGA:=qQ ga
    have hfi:=zQ _ own (.slice A n c) E 1 (HI.out.keep ga (λ_ _ e=>e)) HLL.out.2.1 HLL.out.1
    obtain⟨X,hX⟩:∃X,zH E 1=X:=⟨_,rfl⟩
    rw[hX] at hfi
    have HX:=qQ hX
    have HFI:=qQ hfi
    have hba:=qV w (.cells #[.int .i64 1,.int .i64 S,.int .i64 D,.int .i64 Q,.slice A n c,.slice B m cb] 71)
    have HBA:=qQ hba
    clear ga hfi hX hba
    go_enter Tryz.func151,Tryz.ntmps151
    go_wp2_with fail
    with_reducible refine HFI.out.mono ?_
    rintro en w2 ⟨lv,rfl,hown,G2⟩
    have hblk:=Chg.keep G2 HBA.out (λe=>e)
    obtain⟨b0,b1,b2,b3,b4,b5⟩:=qC hblk
    have hsz:=qX hblk
    have hne:¬(w.heap.size=w2.heap.size):=by omega
    clear hblk
    unfold elV
    obtain⟨A2,c2,rfl,_⟩:=Rs.of_own (V:=VI) (zs:=(X.getD el0).list) hown
    have HG2:=qQ (HGA.out.trans G2)
    clear hown G2
    go_wp2_with fail
    go_ret
    rw[HV.out]
    exact⟨rfl,HG2.out.trans (Chg.alloc _ _ _)⟩
   ·have hz:((m:Int)==0)=false:=by rw[neD];simpa using hT0
    have hz3:decide (0<m)=true:=by simp;omega
    have hz1:¬T=[]:=λe=>by have:=HM.out.1;rw[e] at this;exact hT0 this
    have HZ1:=qQ hz1
    clear hz1 hT0
    have HV:=qQ (show zY ⟨1,S,D,Q,E,T⟩=true from by unfold zY;simp[H1.out,HZ1.out])
    have ga:Chg (λ_=>False) w (w.alloc (.cells #[.int .i64 1,.int .i64 S,.int .i64 D,.int .i64 Q,.slice A n c,.slice B m cb] 71)):=Chg.alloc _ _ _
    have HGA:=qQ ga
    have hfi:=zQ _ own (.slice A n c) E 1 (HI.out.keep ga (λ_ _ e=>e)) HLL.out.2.1 HLL.out.1
    obtain⟨X,hX⟩:∃X,zH E 1=X:=⟨_,rfl⟩
    rw[hX] at hfi
    have HX:=qQ hX
    have HFI:=qQ hfi
    have hba:=qV w (.cells #[.int .i64 1,.int .i64 S,.int .i64 D,.int .i64 Q,.slice A n c,.slice B m cb] 71)
    have HBA:=qQ hba
    clear ga hfi hX hba
    go_enter Tryz.func151,Tryz.ntmps151
    go_wp2_with fail
    with_reducible refine HFI.out.mono ?_
    rintro en w2 ⟨lv,rfl,hown,G2⟩
    have hblk:=Chg.keep G2 HBA.out (λe=>e)
    obtain⟨b0,b1,b2,b3,b4,b5⟩:=qC hblk
    have hsz:=qX hblk
    have hne:¬(w.heap.size=w2.heap.size):=by omega
    clear hblk
    unfold elV
    obtain⟨A2,c2,rfl,_⟩:=Rs.of_own (V:=VI) (zs:=(X.getD el0).list) hown
    have HG2:=qQ (HGA.out.trans G2)
    clear hown G2
    go_wp2_with fail
    go_ret
    rw[HV.out]
    exact⟨rfl,HG2.out.trans (Chg.alloc _ _ _)⟩
 by_cases hk:K=5
 ·subst hk
  by_cases h64:D=64
  ·have h1:(D != 64)=false:=by simpa using h64
   have H1:=qQ h1
   clear h64
   have HV:=qQ (show zY ⟨5,S,D,Q,E,T⟩=false from by unfold zY;simp[H1.out])
   have ga:Chg (λ_=>False) w (w.alloc (.cells #[.int .i64 5,.int .i64 S,.int .i64 D,.int .i64 Q,.slice A n c,.slice B m cb] 71)):=Chg.alloc _ _ _
   have HGA:=qQ ga
   have hfi:=zQ _ own (.slice A n c) E 1 (HI.out.keep ga (λ_ _ e=>e)) HLL.out.2.1 HLL.out.1
   obtain⟨X,hX⟩:∃X,zH E 1=X:=⟨_,rfl⟩
   rw[hX] at hfi
   have HX:=qQ hX
   have HFI:=qQ hfi
   have hba:=qV w (.cells #[.int .i64 5,.int .i64 S,.int .i64 D,.int .i64 Q,.slice A n c,.slice B m cb] 71)
   have HBA:=qQ hba
   clear ga hfi hX hba
   go_enter Tryz.func151,Tryz.ntmps151
   go_wp2_with fail
   with_reducible refine HFI.out.mono ?_
   rintro en w2 ⟨lv,rfl,hown,G2⟩
   have hblk:=Chg.keep G2 HBA.out (λe=>e)
   obtain⟨b0,b1,b2,b3,b4,b5⟩:=qC hblk
   have hsz:=qX hblk
   have hne:¬(w.heap.size=w2.heap.size):=by omega
   clear hblk
   unfold elV
   obtain⟨A2,c2,rfl,_⟩:=Rs.of_own (V:=VI) (zs:=(X.getD el0).list) hown
   have HG2:=qQ (HGA.out.trans G2)
   clear hown G2
   go_wp2_with fail
   go_ret
   rw[HV.out]
   exact⟨rfl,HG2.out.trans (Chg.alloc _ _ _)⟩
  ·have h1:(D != 64)=true:=by simpa using h64
   have H1:=qQ h1
   clear h64
   by_cases hT0:m=0
   ·have hz:((m:Int)==0)=true:=by rw[neD];simpa using hT0
    have hz3:decide (0<m)=false:=by simpa using hT0
    have hz1:T=[]:=List.eq_nil_of_length_eq_zero (by have:=HM.out.1;omega)
    have HZ1:=qQ hz1
    clear hz1 hT0
    have HV:=qQ (show zY ⟨5,S,D,Q,E,T⟩=false from by unfold zY;simp[H1.out,HZ1.out])
    have ga:Chg (λ_=>False) w (w.alloc (.cells #[.int .i64 5,.int .i64 S,.int .i64 D,.int .i64 Q,.slice A n c,.slice B m cb] 71)):=Chg.alloc _ _ _
    have HGA:=qQ ga
    have hfi:=zQ _ own (.slice A n c) E 1 (HI.out.keep ga (λ_ _ e=>e)) HLL.out.2.1 HLL.out.1
    obtain⟨X,hX⟩:∃X,zH E 1=X:=⟨_,rfl⟩
    rw[hX] at hfi
    have HX:=qQ hX
    have HFI:=qQ hfi
    have hba:=qV w (.cells #[.int .i64 5,.int .i64 S,.int .i64 D,.int .i64 Q,.slice A n c,.slice B m cb] 71)
    have HBA:=qQ hba
    clear ga hfi hX hba
    go_enter Tryz.func151,Tryz.ntmps151
    go_wp2_with fail
    with_reducible refine HFI.out.mono ?_
    rintro en w2 ⟨lv,rfl,hown,G2⟩
    have hblk:=Chg.keep G2 HBA.out (λe=>e)
    obtain⟨b0,b1,b2,b3,b4,b5⟩:=qC hblk
    have hsz:=qX hblk
    have hne:¬(w.heap.size=w2.heap.size):=by omega
    clear hblk
    unfold elV
    obtain⟨A2,c2,rfl,_⟩:=Rs.of_own (V:=VI) (zs:=(X.getD el0).list) hown
    have HG2:=qQ (HGA.out.trans G2)
    clear hown G2
    go_wp2_with fail
    go_ret
    rw[HV.out]
    exact⟨rfl,HG2.out.trans (Chg.alloc _ _ _)⟩
   ·have hz:((m:Int)==0)=false:=by rw[neD];simpa using hT0
    have hz3:decide (0<m)=true:=by simp;omega
    have hz1:¬T=[]:=λe=>by have:=HM.out.1;rw[e] at this;exact hT0 this
    have HZ1:=qQ hz1
    clear hz1 hT0
    have HV:=qQ (show zY ⟨5,S,D,Q,E,T⟩=true from by unfold zY;simp[H1.out,HZ1.out])
    have ga:Chg (λ_=>False) w (w.alloc (.cells #[.int .i64 5,.int .i64 S,.int .i64 D,.int .i64 Q,.slice A n c,.slice B m cb] 71)):=Chg.alloc _ _ _
    have HGA:=qQ ga
    have hfi:=zQ _ own (.slice A n c) E 1 (HI.out.keep ga (λ_ _ e=>e)) HLL.out.2.1 HLL.out.1
    obtain⟨X,hX⟩:∃X,zH E 1=X:=⟨_,rfl⟩
    rw[hX] at hfi
    have HX:=qQ hX
    have HFI:=qQ hfi
    have hba:=qV w (.cells #[.int .i64 5,.int .i64 S,.int .i64 D,.int .i64 Q,.slice A n c,.slice B m cb] 71)
    have HBA:=qQ hba
    clear ga hfi hX hba
    go_enter Tryz.func151,Tryz.ntmps151
    go_wp2_with fail
    with_reducible refine HFI.out.mono ?_
    rintro en w2 ⟨lv,rfl,hown,G2⟩
    have hblk:=Chg.keep G2 HBA.out (λe=>e)
    obtain⟨b0,b1,b2,b3,b4,b5⟩:=qC hblk
    have hsz:=qX hblk
    have hne:¬(w.heap.size=w2.heap.size):=by omega
    clear hblk
    unfold elV
    obtain⟨A2,c2,rfl,_⟩:=Rs.of_own (V:=VI) (zs:=(X.getD el0).list) hown
    have HG2:=qQ (HGA.out.trans G2)
    clear hown G2
    go_wp2_with fail
    go_ret
    rw[HV.out]
    exact⟨rfl,HG2.out.trans (Chg.alloc _ _ _)⟩
 rename_i k2 k4 k3 k1
 have j1:(K==1)=false:=by simpa using k1
 have j2:(K==2)=false:=by simpa using k2
 have j3:(K==3)=false:=by simpa using k3
 have j4:(K==4)=false:=by simpa using k4
 have j5:(K==5)=false:=by simpa using hk
 have HV:=qQ (show zY ⟨K,S,D,Q,E,T⟩=false from by unfold zY;simp[k1,k2,k3,k4,hk])
 have ga:Chg (λ_=>False) w (w.alloc (.cells #[.int .i64 K,.int .i64 S,.int .i64 D,.int .i64 Q,.slice A n c,.slice B m cb] 71)):=Chg.alloc _ _ _
 have HGA:=qQ ga
 have hfi:=zQ _ own (.slice A n c) E 1 (HI.out.keep ga (λ_ _ e=>e)) HLL.out.2.1 HLL.out.1
 obtain⟨X,hX⟩:∃X,zH E 1=X:=⟨_,rfl⟩
 rw[hX] at hfi
 have HX:=qQ hX
 have HFI:=qQ hfi
 have hba:=qV w (.cells #[.int .i64 K,.int .i64 S,.int .i64 D,.int .i64 Q,.slice A n c,.slice B m cb] 71)
 have HBA:=qQ hba
 clear ga hfi hX hba k1 k2 k3 k4 hk
 go_enter Tryz.func151,Tryz.ntmps151
 go_wp2_with fail
 with_reducible refine HFI.out.mono ?_
 rintro en w2 ⟨lv,rfl,hown,G2⟩
 have hblk:=Chg.keep G2 HBA.out (λe=>e)
 obtain⟨b0,b1,b2,b3,b4,b5⟩:=qC hblk
 have hsz:=qX hblk
 have hne:¬(w.heap.size=w2.heap.size):=by omega
 clear hblk
 unfold elV
 obtain⟨A2,c2,rfl,_⟩:=Rs.of_own (V:=VI) (zs:=(X.getD el0).list) hown
 have HG2:=qQ (HGA.out.trans G2)
 clear hown G2
 go_wp2_with fail
 go_ret
 rw[HV.out]
 exact⟨rfl,HG2.out.trans (Chg.alloc _ _ _)⟩
theorem all_any(L:List El):L.all mayE= !(L.any (λe=>!mayE e)):=by
 induction L with
 |nil=>rfl
 |cons x l ih=>simp only[List.all_cons,List.any_cons,ih];cases mayE x <;> simp
theorem fmay_any(w:World)(own:Cls)(f:Fr)(iv dv:Value)(hi:IeO w own iv f.ies)(hd:BO w own dv f.data)(hE:f.ies.length≤100000)(hT:f.data.length≤100000)(hll:∀e∈f.ies,e.list.length≤100000):
  Calls Tryz.prog 98 #[frV f iv dv] w (PV (.bool (mayF f)) w):=by
 have ga:=Chg.alloc (λ_=>False) w (.cells #[.int .i64 f.kind,.int .i64 f.src,.int .i64 f.dst,.int .i64 f.seq,iv,dv] 71)
 have hct:=containsFE_any _ own iv 149 #[] f.ies _ (hi.keep ga (λ_ _ e=>e)) hE (fn149 _ own f.ies hll)
 have hsy:∀W,Chg (λ_=>False) w W→Calls Tryz.prog 151 #[frV f iv dv] W (PV (.bool (zY f)) W):=λW g=>says_any W own f iv dv (hi.keep g (λ_ _ e=>e)) (hd.keep g (λ_ _ e=>e)) hE hT hll
 have hba:=qV w (.cells #[.int .i64 f.kind,.int .i64 f.src,.int .i64 f.dst,.int .i64 f.seq,iv,dv] 71)
 have HI:=qQ hi
 have HD:=qQ hd
 obtain⟨A,c,rfl⟩:=hi.val
 obtain⟨⟨B,cb,rfl,_⟩,_⟩:=hd
 obtain⟨K,S,D,Q,E,T⟩:=f
 simp only[frV] at hsy ⊢
 simp only at HI HD hct hba ga hE hT
 obtain⟨m,hm⟩:=qZ T.length
 obtain⟨n,hn⟩:=qZ E.length
 simp only[←hm,←hn] at HI HD hct hba hsy ga hE hT ⊢
 obtain⟨F,hF⟩:∃F:Fr,F=⟨K,S,D,Q,E,T⟩:=⟨_,rfl⟩
 have hmf:mayF F=(qt S&&(qt D||D==64)&&D != S&&inR Q 0 255&&decide (n≤4)&&E.all mayE&&decide (m≤64)&&zY F):=by rw[hF,hm,hn];rfl
 rw[←hF] at hsy ⊢
 have HMF:=qQ hmf
 have HGA:=qQ ga
 have HCT:=qQ hct
 have HSY:=qQ hsy
 have HBA:=qQ hba
 have hn3:(n:Int)≤100000:=by omega
 have hm3:(m:Int)≤100000:=by omega
 have hn0:=λ(x:Int) (w:World)=>fnode_any x w
 have HN0:=qQ hn0
 clear hm hn hi hE hT hF hmf ga hct hsy hba hll hn0
 by_cases hA:qt S=true
 ·have HA:=qQ hA
  clear hA
  by_cases hB:qt D=true
  ·have HB:=qQ hB
   clear hB
   by_cases hC:D≠S
   ·have h1:(D==S)=false:=by simpa using hC
    have HC:=qQ (show (D != S)=true by simp at h1 ⊢;exact h1)
    clear hC
    by_cases hQ:0≤Q
    ·by_cases hR:Q≤255
     ·have hq1:decide (Q<0)=false:=by simp;omega
      have hq2:decide (255<Q)=false:=by simp;omega
      have HQ:=qQ (jG hQ hR)
      by_cases hE:n≤4
      ·have hE1:decide (4<(n:Int))=false:=by simp;omega
       have HE:=qQ (show decide (n≤4)=true by simp;omega)
       clear hE
       by_cases hG:¬(E.any (λe=>!mayE e)=true)
       ·have hg:E.any (λe=>!mayE e)=false:=by simpa using hG
        have HG0:=qQ hg
        have HG:=qQ (show E.all mayE=true by rw[all_any,hg];rfl)
        clear hG hg
        by_cases hH:m≤64
        ·have hH1:decide (64<(m:Int))=false:=by simp;omega
         have HH:=qQ (show decide (m≤64)=true by simp;omega)
         clear hH
         go_enter Tryz.func98,Tryz.ntmps98
         go_wp2_with fail
         (with_reducible refine (HN0.out S _).mono ?_)
         rintro en w2 ⟨rfl,rfl⟩
         rw[HA.out]
         go_wp2_with fail
         (with_reducible refine (HN0.out D _).mono ?_)
         rintro en w2 ⟨rfl,rfl⟩
         rw[HB.out]
         go_wp2_with fail
         with_reducible refine HCT.out.mono ?_
         rintro en w3 ⟨rfl,G3⟩
         rw[HG0.out]
         have hb3:=Chg.keep G3 HBA.out (λe=>e)
         obtain⟨b0,b1,b2,b3,b4,b5⟩:=qC hb3
         have HG3:=qQ (HGA.out.trans G3)
         clear G3 hb3
         go_wp2_with fail
         (with_reducible refine (HSY.out w3 HG3.out).mono ?_)
         rintro en w4 ⟨rfl,G4⟩
         have HG4:=qQ (HG3.out.trans G4)
         clear G4
         go_wp2_with fail
         go_ret
         have hv:mayF F=zY F:=by rw[HMF.out,HA.out,HB.out,HC.out,HQ.out,HE.out,HG.out,HH.out];simp
         rw[hv]
         exact⟨rfl,HG4.out⟩
        ·have hH1:decide (64<(m:Int))=true:=by simp;omega
         have HH:=qQ (show decide (m≤64)=false by simp;omega)
         clear hH
         go_enter Tryz.func98,Tryz.ntmps98
         go_wp2_with fail
         (with_reducible refine (HN0.out S _).mono ?_)
         rintro en w2 ⟨rfl,rfl⟩
         rw[HA.out]
         go_wp2_with fail
         (with_reducible refine (HN0.out D _).mono ?_)
         rintro en w2 ⟨rfl,rfl⟩
         rw[HB.out]
         go_wp2_with fail
         with_reducible refine HCT.out.mono ?_
         rintro en w3 ⟨rfl,G3⟩
         rw[HG0.out]
         have hb3:=Chg.keep G3 HBA.out (λe=>e)
         obtain⟨b0,b1,b2,b3,b4,b5⟩:=qC hb3
         have HG3:=qQ (HGA.out.trans G3)
         clear G3 hb3
         go_wp2_with fail
         go_ret
         have hv:mayF F=false:=by rw[HMF.out,HA.out,HB.out,HC.out,HQ.out,HE.out,HG.out,HH.out];simp
         rw[hv]
         exact⟨rfl,HG3.out⟩
       ·have hg:E.any (λe=>!mayE e)=true:=by simpa using hG
        have HG0:=qQ hg
        have HG:=qQ (show E.all mayE=false by rw[all_any,hg];rfl)
        clear hG hg
        go_enter Tryz.func98,Tryz.ntmps98
        go_wp2_with fail
        (with_reducible refine (HN0.out S _).mono ?_)
        rintro en w2 ⟨rfl,rfl⟩
        rw[HA.out]
        go_wp2_with fail
        (with_reducible refine (HN0.out D _).mono ?_)
        rintro en w2 ⟨rfl,rfl⟩
        rw[HB.out]
        go_wp2_with fail
        with_reducible refine HCT.out.mono ?_
        rintro en w3 ⟨rfl,G3⟩
        rw[HG0.out]
        have hb3:=Chg.keep G3 HBA.out (λe=>e)
        obtain⟨b0,b1,b2,b3,b4,b5⟩:=qC hb3
        have HG3:=qQ (HGA.out.trans G3)
        clear G3 hb3
        go_wp2_with fail
        go_ret
        have hv:mayF F=false:=by rw[HMF.out,HA.out,HB.out,HC.out,HQ.out,HE.out,HG.out];simp
        rw[hv]
        exact⟨rfl,HG3.out⟩
      ·have hE1:decide (4<(n:Int))=true:=by simp;omega
       have HE:=qQ (show decide (n≤4)=false by simp;omega)
       clear hE
       go_enter Tryz.func98,Tryz.ntmps98
       go_wp2_with fail
       (with_reducible refine (HN0.out S _).mono ?_)
       rintro en w2 ⟨rfl,rfl⟩
       rw[HA.out]
       go_wp2_with fail
       (with_reducible refine (HN0.out D _).mono ?_)
       rintro en w2 ⟨rfl,rfl⟩
       rw[HB.out]
       go_wp2_with fail
       go_ret
       have hv:mayF F=false:=by rw[HMF.out,HA.out,HB.out,HC.out,HQ.out,HE.out];simp
       rw[hv]
       exact⟨rfl,HGA.out⟩
     ·have hq:255<Q:=by omega
      have HQ:=qQ (jw (a:=0) hq)
      clear hR
      go_enter Tryz.func98,Tryz.ntmps98
      go_wp2_with fail
      (with_reducible refine (HN0.out S _).mono ?_)
      rintro en w2 ⟨rfl,rfl⟩
      rw[HA.out]
      go_wp2_with fail
      (with_reducible refine (HN0.out D _).mono ?_)
      rintro en w2 ⟨rfl,rfl⟩
      rw[HB.out]
      go_wp2_with fail
      go_ret
      have hv:mayF F=false:=by rw[HMF.out,HA.out,HB.out,HC.out,HQ.out];simp
      rw[hv]
      exact⟨rfl,HGA.out⟩
    ·have hq:Q<0:=by omega
     have HQ:=qQ (kK (b:=255) hq)
     clear hQ
     go_enter Tryz.func98,Tryz.ntmps98
     go_wp2_with fail
     (with_reducible refine (HN0.out S _).mono ?_)
     rintro en w2 ⟨rfl,rfl⟩
     rw[HA.out]
     go_wp2_with fail
     (with_reducible refine (HN0.out D _).mono ?_)
     rintro en w2 ⟨rfl,rfl⟩
     rw[HB.out]
     go_wp2_with fail
     go_ret
     have hv:mayF F=false:=by rw[HMF.out,HA.out,HB.out,HC.out,HQ.out];simp
     rw[hv]
     exact⟨rfl,HGA.out⟩
   ·have h1:(D==S)=true:=by simpa using hC
    have HC:=qQ (show (D != S)=false by simp at h1 ⊢;exact h1)
    clear hC
    go_enter Tryz.func98,Tryz.ntmps98
    go_wp2_with fail
    (with_reducible refine (HN0.out S _).mono ?_)
    rintro en w2 ⟨rfl,rfl⟩
    rw[HA.out]
    go_wp2_with fail
    (with_reducible refine (HN0.out D _).mono ?_)
    rintro en w2 ⟨rfl,rfl⟩
    rw[HB.out]
    go_wp2_with fail
    go_ret
    have hv:mayF F=false:=by rw[HMF.out,HA.out,HB.out,HC.out];simp
    rw[hv]
    exact⟨rfl,HGA.out⟩
  ·have hB:qt D=false:=by simpa using hB
   have HB:=qQ hB
   clear hB
   by_cases hD:D=64
   ·have h64:(D != 64)=false:=by simpa using hD
    have HD6:=qQ (show (D==64)=true by simpa using hD)
    clear hD
    by_cases hC:D≠S
    ·have h1:(D==S)=false:=by simpa using hC
     have HC:=qQ (show (D != S)=true by simp at h1 ⊢;exact h1)
     clear hC
     by_cases hQ:0≤Q
     ·by_cases hR:Q≤255
      ·have hq1:decide (Q<0)=false:=by simp;omega
       have hq2:decide (255<Q)=false:=by simp;omega
       have HQ:=qQ (jG hQ hR)
       by_cases hE:n≤4
       ·have hE1:decide (4<(n:Int))=false:=by simp;omega
        have HE:=qQ (show decide (n≤4)=true by simp;omega)
        clear hE
        by_cases hG:¬(E.any (λe=>!mayE e)=true)
        ·have hg:E.any (λe=>!mayE e)=false:=by simpa using hG
         have HG0:=qQ hg
         have HG:=qQ (show E.all mayE=true by rw[all_any,hg];rfl)
         clear hG hg
         by_cases hH:m≤64
         ·have hH1:decide (64<(m:Int))=false:=by simp;omega
          have HH:=qQ (show decide (m≤64)=true by simp;omega)
          clear hH
          go_enter Tryz.func98,Tryz.ntmps98
          go_wp2_with fail
          (with_reducible refine (HN0.out S _).mono ?_)
          rintro en w2 ⟨rfl,rfl⟩
          rw[HA.out]
          go_wp2_with fail
          (with_reducible refine (HN0.out D _).mono ?_)
          rintro en w2 ⟨rfl,rfl⟩
          rw[HB.out]
          go_wp2_with fail
          have HD64:=HD6
          with_reducible refine HCT.out.mono ?_
          rintro en w3 ⟨rfl,G3⟩
          rw[HG0.out]
          have hb3:=Chg.keep G3 HBA.out (λe=>e)
          obtain⟨b0,b1,b2,b3,b4,b5⟩:=qC hb3
          have HG3:=qQ (HGA.out.trans G3)
          clear G3 hb3
          go_wp2_with fail
          (with_reducible refine (HSY.out w3 HG3.out).mono ?_)
          rintro en w4 ⟨rfl,G4⟩
          have HG4:=qQ (HG3.out.trans G4)
          clear G4
          go_wp2_with fail
          go_ret
          have hv:mayF F=zY F:=by rw[HMF.out,HA.out,HB.out,HD6.out,HC.out,HQ.out,HE.out,HG.out,HH.out];simp
          rw[hv]
          exact⟨rfl,HG4.out⟩
         ·have hH1:decide (64<(m:Int))=true:=by simp;omega
          have HH:=qQ (show decide (m≤64)=false by simp;omega)
          clear hH
          go_enter Tryz.func98,Tryz.ntmps98
          go_wp2_with fail
          (with_reducible refine (HN0.out S _).mono ?_)
          rintro en w2 ⟨rfl,rfl⟩
          rw[HA.out]
          go_wp2_with fail
          (with_reducible refine (HN0.out D _).mono ?_)
          rintro en w2 ⟨rfl,rfl⟩
          rw[HB.out]
          go_wp2_with fail
          have HD64:=HD6
          with_reducible refine HCT.out.mono ?_
          rintro en w3 ⟨rfl,G3⟩
          rw[HG0.out]
          have hb3:=Chg.keep G3 HBA.out (λe=>e)
          obtain⟨b0,b1,b2,b3,b4,b5⟩:=qC hb3
          have HG3:=qQ (HGA.out.trans G3)
          clear G3 hb3
          go_wp2_with fail
          go_ret
          have hv:mayF F=false:=by rw[HMF.out,HA.out,HB.out,HD6.out,HC.out,HQ.out,HE.out,HG.out,HH.out];simp
          rw[hv]
          exact⟨rfl,HG3.out⟩
        ·have hg:E.any (λe=>!mayE e)=true:=by simpa using hG
         have HG0:=qQ hg
         have HG:=qQ (show E.all mayE=false by rw[all_any,hg];rfl)
         clear hG hg
         go_enter Tryz.func98,Tryz.ntmps98
         go_wp2_with fail
         (with_reducible refine (HN0.out S _).mono ?_)
         rintro en w2 ⟨rfl,rfl⟩
         rw[HA.out]
         go_wp2_with fail
         (with_reducible refine (HN0.out D _).mono ?_)
         rintro en w2 ⟨rfl,rfl⟩
         rw[HB.out]
         go_wp2_with fail
         have HD64:=HD6
         with_reducible refine HCT.out.mono ?_
         rintro en w3 ⟨rfl,G3⟩
         rw[HG0.out]
         have hb3:=Chg.keep G3 HBA.out (λe=>e)
         obtain⟨b0,b1,b2,b3,b4,b5⟩:=qC hb3
         have HG3:=qQ (HGA.out.trans G3)
         clear G3 hb3
         go_wp2_with fail
         go_ret
         have hv:mayF F=false:=by rw[HMF.out,HA.out,HB.out,HD6.out,HC.out,HQ.out,HE.out,HG.out];simp
         rw[hv]
         exact⟨rfl,HG3.out⟩
       ·have hE1:decide (4<(n:Int))=true:=by simp;omega
        have HE:=qQ (show decide (n≤4)=false by simp;omega)
        clear hE
        go_enter Tryz.func98,Tryz.ntmps98
        go_wp2_with fail
        (with_reducible refine (HN0.out S _).mono ?_)
        rintro en w2 ⟨rfl,rfl⟩
        rw[HA.out]
        go_wp2_with fail
        (with_reducible refine (HN0.out D _).mono ?_)
        rintro en w2 ⟨rfl,rfl⟩
        rw[HB.out]
        go_wp2_with fail
        have HD64:=HD6
        go_ret
        have hv:mayF F=false:=by rw[HMF.out,HA.out,HB.out,HD6.out,HC.out,HQ.out,HE.out];simp
        rw[hv]
        exact⟨rfl,HGA.out⟩
      ·have hq:255<Q:=by omega
       have HQ:=qQ (jw (a:=0) hq)
       clear hR
       go_enter Tryz.func98,Tryz.ntmps98
       go_wp2_with fail
       (with_reducible refine (HN0.out S _).mono ?_)
       rintro en w2 ⟨rfl,rfl⟩
       rw[HA.out]
       go_wp2_with fail
       (with_reducible refine (HN0.out D _).mono ?_)
       rintro en w2 ⟨rfl,rfl⟩
       rw[HB.out]
       go_wp2_with fail
       have HD64:=HD6
       go_ret
       have hv:mayF F=false:=by rw[HMF.out,HA.out,HB.out,HD6.out,HC.out,HQ.out];simp
       rw[hv]
       exact⟨rfl,HGA.out⟩
     ·have hq:Q<0:=by omega
      have HQ:=qQ (kK (b:=255) hq)
      clear hQ
      go_enter Tryz.func98,Tryz.ntmps98
      go_wp2_with fail
      (with_reducible refine (HN0.out S _).mono ?_)
      rintro en w2 ⟨rfl,rfl⟩
      rw[HA.out]
      go_wp2_with fail
      (with_reducible refine (HN0.out D _).mono ?_)
      rintro en w2 ⟨rfl,rfl⟩
      rw[HB.out]
      go_wp2_with fail
      have HD64:=HD6
      go_ret
      have hv:mayF F=false:=by rw[HMF.out,HA.out,HB.out,HD6.out,HC.out,HQ.out];simp
      rw[hv]
      exact⟨rfl,HGA.out⟩
    ·have h1:(D==S)=true:=by simpa using hC
     have HC:=qQ (show (D != S)=false by simp at h1 ⊢;exact h1)
     clear hC
     go_enter Tryz.func98,Tryz.ntmps98
     go_wp2_with fail
     (with_reducible refine (HN0.out S _).mono ?_)
     rintro en w2 ⟨rfl,rfl⟩
     rw[HA.out]
     go_wp2_with fail
     (with_reducible refine (HN0.out D _).mono ?_)
     rintro en w2 ⟨rfl,rfl⟩
     rw[HB.out]
     go_wp2_with fail
     have HD64:=HD6
     go_ret
     have hv:mayF F=false:=by rw[HMF.out,HA.out,HB.out,HD6.out,HC.out];simp
     rw[hv]
     exact⟨rfl,HGA.out⟩
   ·have h64:(D != 64)=true:=by simpa using hD
    have HD6:=qQ (show (D==64)=false by simpa using hD)
    clear hD
    go_enter Tryz.func98,Tryz.ntmps98
    go_wp2_with fail
    (with_reducible refine (HN0.out S _).mono ?_)
    rintro en w2 ⟨rfl,rfl⟩
    rw[HA.out]
    go_wp2_with fail
    (with_reducible refine (HN0.out D _).mono ?_)
    rintro en w2 ⟨rfl,rfl⟩
    rw[HB.out]
    go_wp2_with fail
    go_ret
    have hv:mayF F=false:=by rw[HMF.out,HA.out,HB.out,HD6.out];simp
    rw[hv]
    exact⟨rfl,HGA.out⟩
 ·have hA:qt S=false:=by simpa using hA
  have HA:=qQ hA
  clear hA
  go_enter Tryz.func98,Tryz.ntmps98
  go_wp2_with fail
  (with_reducible refine (HN0.out S _).mono ?_)
  rintro en w2 ⟨rfl,rfl⟩
  rw[HA.out]
  go_wp2_with fail
  go_ret
  have hv:mayF F=false:=by rw[HMF.out,HA.out];simp
  rw[hv]
  exact⟨rfl,HGA.out⟩
end Go.Proofs.YtnpihllannobgaaGreatDoor
