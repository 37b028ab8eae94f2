/- Steps of the proof, part H13. No condition. -/
import Derived.Test.YtnpihllannobgaaGreatDoorH11
import Derived.Test.YtnpihllannobgaaGreatDoorH10
namespace Go.Proofs.YtnpihllannobgaaGreatDoor
set_option linter.unusedVariables false
set_option linter.unusedSimpArgs false
set_option maxRecDepth 100000
set_option maxHeartbeats 32000000
open Go.ChangeShapes Go.WideShapes Go.ChangeAt Go.RowKit
def RevAt(L M:List Int)(k:Nat):Prop:=M.length=L.length∧∀p,p<L.length→M[p]? =if p<k∨L.length≤p+k then L[L.length-1-p]? else L[p]?
theorem RevAt.start(L:List Int):RevAt L L 0:=⟨rfl,λp hp=>by rw[if_neg (by omega)]⟩
theorem RevAt.next{L M:List Int}{k:Nat}(h:RevAt L M k)(hk:2*k+1<L.length){a b:Int}(ha:M[k]? =some a) (hb:M[L.length-1-k]? =some b):RevAt L ((M.set k b).set (L.length-1-k) a) (k+1):=by
 obtain⟨h1,h2⟩:=h
 refine⟨by simp[h1],λp hp=>?_⟩
 have ha':=h2 k (by omega)
 have hb':=h2 (L.length-1-k) (by omega)
 rw[if_neg (by omega)] at ha' hb'
 by_cases e1:p=L.length-1-k
 ·subst e1
  rw[List.getElem?_set_self (by simp;omega),if_pos (by omega),show L.length-1-(L.length-1-k)=k by omega,←ha',ha]
 ·rw[List.getElem?_set_ne (λe=>e1 e.symm)]
  by_cases e2:p=k
  ·subst e2
   rw[List.getElem?_set_self (by omega),if_pos (by omega),←hb',hb]
  ·rw[List.getElem?_set_ne (λe=>e2 e.symm),h2 p hp]
   by_cases e3:p<k∨L.length≤p+k
   ·rw[if_pos e3,if_pos (by omega)]
   ·rw[if_neg e3,if_neg (by omega)]
theorem RevAt.fin{L M:List Int}{k:Nat}(h:RevAt L M k)(hk:L.length≤2*k+1):M=L.reverse:=by
 obtain⟨h1,h2⟩:=h
 refine List.ext_getElem? (λp=>?_)
 by_cases hp:p<L.length
 ·rw[h2 p hp,List.getElem?_reverse hp]
  by_cases e:p<k∨L.length≤p+k
  ·rw[if_pos e]
  ·rw[if_neg e,show L.length-1-p=p by omega]
 ·rw[List.getElem?_eq_none (by omega),List.getElem?_eq_none (by simp;omega)]
structure RvAt(w:World)(base:Nat)(v:Value)(L:List Int)(k:Nat)(W:World):Prop where
 row:∃M,RevAt L M k∧W.ownsRow base 3 1 v L.length (M.map VI)
 chg:Chg (λj=>v.ownBlock=some j) w W
theorem reverse_any(w:World)(base:Nat)(v:Value)(L:List Int)(h:w.ownsRow base 3 1 v L.length (L.map VI))(hL:L.length≤100000):
  Calls Tryz.prog 284 #[v] w (λe w'=>e= .returned (.tuple #[])∧w'.ownsRow base 3 1 v L.length (L.reverse.map VI)∧Chg (λj=>v.ownBlock=some j) w w'):=by
 obtain⟨A,cap,rfl⟩:∃A cap,v= .slice A L.length cap:=by
  rcases qD h with ⟨e,h1,_⟩|⟨g,cap,e,_⟩
  ·rw[h1];exact⟨_,_,e⟩
  ·exact⟨_,_,e⟩
 have HA:=qQ (show RvAt w base (.slice A L.length cap) L 0 w from ⟨⟨L,RevAt.start L,h⟩,Chg.refl _ _⟩)
 obtain⟨n,hn⟩:=qZ L.length
 have HN:=qQ hn
 rw[←hn] at hL HA ⊢
 have hn2:(n:Int)≤100000:=by omega
 clear h hn
 go_enter Tryz.func284,Tryz.ntmps284
 have hn3:IntKind.i64.wrap ((n:Int)-1)=(n:Int)-1:=by rw[IntWalk.i64_in _ (by omega)]
 go_wp2_with fail
 clear hn3
 go_loopw [2,3] (λu2 u3 wr=>∃(k:Nat),2*k≤n+1∧u2= .int .i64 k∧u3= .int .i64 ((n:Int)-1-k)∧RvAt w base (.slice A n cap) L k wr) (λu2 _ _=>n+1-(intOf u2).toNat)
 case atStart=>exact⟨0,by omega,rfl,by go_num,HA.out⟩
 case round=>
  obtain⟨k,hk,rfl,rfl,hD⟩:=hrel
  have HD:=qQ hD
  clear hD HA
  by_cases hlt:2*k+1<n
  ·obtain⟨M,hM,hrow⟩:=HD.out.row
   rw[←HN.out] at hrow
   have hMl:=hM.1
   obtain⟨a,ha⟩:∃a,M[k]? =some a:=⟨_,List.getElem?_eq_getElem (by have:=HN.out;omega)⟩
   obtain⟨b,hb⟩:∃b,M[n-1-k]? =some b:=⟨_,List.getElem?_eq_getElem (by have:=HN.out;omega)⟩
   obtain⟨g,rfl⟩:∃g,A=some ⟨g,0,none⟩:=by
    rcases qD hrow with ⟨e,h1,_⟩|⟨g,cap',e,_⟩
    ·omega
    ·cases e;exact⟨g,rfl⟩
   have a0:=qp hrow k (VI a) (by rw[List.getElem?_map,ha];rfl)
   have b0:=qp hrow (n-1-k) (VI b) (by rw[List.getElem?_map,hb];rfl)
   unfold VI at a0 b0
   have fk:=zw hrow k
   have fj:=zw hrow (n-1-k)
   have HR:=qQ (And.intro hM (And.intro hrow (And.intro ha hb)))
   have e1:(n:Int)-1-(k:Int)=((n-1-k:Nat):Int):=by omega
   have i4:k<n:=by omega
   have i5:n-1-k<n:=by omega
   have HL:=qQ hlt
   have HK:=qQ hk
   rw[e1]
   obtain⟨j,hj⟩:∃j,n-1-k=j:=⟨_,rfl⟩
   rw[hj] at b0 fj i5 HR ⊢
   have e2:IntKind.i64.wrap ((j:Int)-1)=(n:Int)-1-((k+1:Nat):Int):=by rw[IntWalk.i64_in _ (by omega)];omega
   have i1:(k:Int)<(j:Int):=by omega
   have i2:(k:Int)<(n:Int):=by omega
   have i3:(j:Int)<(n:Int):=by omega
   have HJ:=qQ hj
   clear hM hrow ha hb hMl hlt hk e1 hj
   go_wp2_with fail
   go_region
   all_goals go_wp2_with fail
   have r1:=vq HR.out.2.1 k (.int .i64 b) i4
   have r2:=vq r1 j (.int .i64 a) i5
   have e3:((M.map VI).set k (.int .i64 b)).set j (.int .i64 a)=((M.set k b).set j a).map VI:=by rw[List.map_set,List.map_set];rfl
   rw[e3] at r2
   have hN:=HN.out
   have hJ:=HJ.out
   have hnx:=RevAt.next HR.out.1 (by have:=HL.out;omega) HR.out.2.2.1 (b:=b) (by rw[←hN,hJ];exact HR.out.2.2.2)
   rw[←hN,hJ] at hnx
   have g3:=HD.out.chg.trans ((((chg1 wr g k (.int .i64 b)).trans (chg1 _ g j (.int .i64 a))).trans (Chg.drew _ _)).mono (λq _ e=>by rw[show q=g from e];rfl))
   have hL2:=HL.out
   exact⟨⟨k+1,by omega,by go_num,by go_num,⟨_,hnx,by rw[←hN];exact qY r2 (Chg.drew (λ_=>False) _) (λ_ _ e=>e)⟩,g3⟩,by simp[intOf];omega⟩
  ·have i1:¬(k:Int)<(n:Int)-1-(k:Int):=by omega
   obtain⟨M,hM,hrow⟩:=HD.out.row
   have hfin:=RevAt.fin hM (by have:=HN.out;omega)
   have HX:=qQ (show wr.ownsRow base 3 1 (.slice A n cap) n (L.reverse.map VI) from by rw[←hfin,HN.out];rw[←HN.out] at hrow ⊢;exact hrow)
   clear hM hrow hfin
   go_wp2_with fail
   go_end0
   exact⟨rfl,by rw[←List.map_reverse];exact HX.out,HD.out.chg⟩
theorem pback_any(w:World)(own:Cls)(lv:Value)(L:List Int)(h:RV VI w own lv L)(hL:L.length≤100000):Calls Tryz.prog 252 #[lv] w (PNew VI 3 w (if jP L then L.reverse else [])):=by
 have HP:=qQ (path_any w own lv L h hL)
 obtain⟨A,c,rfl,h1,h2,_⟩:=h.rs
 have HC:=qQ (jF w A L.length c L h1 h2 hL)
 obtain⟨n,hn⟩:∃n,L.length=n:=⟨_,rfl⟩
 rw[hn] at HC HP ⊢
 have HN:=qQ hn
 have HL:=qQ hL
 clear h h1 h2 hL hn
 cases hp:jP L
 ·rw[hp] at HP
  go_enter Tryz.func252,Tryz.ntmps252
  go_wp2_with fail
  with_reducible refine HP.out.mono ?_
  rintro en w1 ⟨rfl,rfl⟩
  go_wp2_with fail
  go_ret
  exact⟨_,rfl,World.ownsRow_nil _ _ _ _,Chg.refl _ _⟩
 ·rw[hp] at HP
  go_enter Tryz.func252,Tryz.ntmps252
  go_wp2_with fail
  with_reducible refine HP.out.mono ?_
  rintro en w1 ⟨rfl,hw1⟩
  subst w1
  go_wp2_with fail
  with_reducible refine HC.out.mono ?_
  rintro en w2 ⟨v,rfl,hO,G⟩
  have HR:=qQ (reverse_any w2 w.heap.size v L hO HL.out)
  have HG:=qQ G
  have hin:=λj (hj:v.ownBlock=some j)=>(qS hO hj).1
  obtain⟨A1,n1,c1,rfl⟩:∃A n c,v= .slice A n c:=by rcases qD hO with ⟨e,_⟩|⟨g,cap,e,_⟩ <;> exact⟨_,_,_,e⟩
  have HI:=qQ hin
  clear hO G HC HP hin
  go_wp2_with fail
  with_reducible refine HR.out.mono ?_
  rintro en w3 ⟨rfl,hO,G⟩
  have HX:=qQ (And.intro hO G)
  clear hO G HR
  go_wp2_with fail
  go_ret
  refine⟨_,rfl,?_,((HG.out.none (S:=λq=>w.heap.size≤q)).trans (HX.out.2.mono (λj _ e=>HI.out j e))).fresh⟩
  have:=HX.out.1
  rw[List.length_reverse]
  exact this
end Go.Proofs.YtnpihllannobgaaGreatDoor
