/- Steps of the proof, part H10. No condition. -/
import Derived.Test.YtnpihllannobgaaGreatDoorH08
import Derived.Deep.AppendLies
namespace Go.Proofs.YtnpihllannobgaaGreatDoor
set_option linter.unusedVariables false
set_option linter.unusedSimpArgs false
set_option maxRecDepth 100000
set_option maxHeartbeats 32000000
open Go.ChangeShapes Go.WideShapes Go.ChangeAt Go.RowKit
def midP(x:Pa)(S:List Pa)(k:Nat):List Pa:=S.take k++x::S.drop k
def insK(x:Pa):List Pa→Nat
 |[]=>0
 |s::r=>if insK x r=0∧cmpP x s<0 then 0 else insK x r+1
def insP(x:Pa)(S:List Pa):List Pa:=midP x S (insK x S)
def Srt(S:List Pa):Prop:=∀i a b,S[i]? =some a→S[i+1]? =some b→¬cmpP b a<0
theorem insK_is(x:Pa)(S:List Pa)(k:Nat)(hk:k≤S.length)(h1:∀i s,k≤i→S[i]? =some s→cmpP x s<0) (h2:∀s,0<k→S[k-1]? =some s→¬cmpP x s<0):insK x S=k:=by
 induction S generalizing k with
 |nil=>simp at hk;subst hk;rfl
 |cons a r ih=>
  cases k with
  |zero=>
   have h3:=ih 0 (by omega) (λi s hi hs=>h1 (i+1) s (by omega) (by simpa using hs)) (λs h=>absurd h (by omega))
   have h4:=h1 0 a (by omega) rfl
   simp[insK,h3,h4]
  |succ k=>
   have h3:=ih k (by simpa using hk) (λi s hi hs=>h1 (i+1) s (by omega) (by simpa using hs)) (λs hk0 hs=>h2 s (by omega) (by
    obtain⟨k',rfl⟩:∃k',k=k'+1:=⟨k-1,by omega⟩
    simpa using hs))
   unfold insK
   rw[h3,if_neg]
   rintro ⟨h4,h5⟩
   subst h4
   exact h2 a (by omega) rfl h5
theorem cf202(args:Array Value)(w':World):(callFunc 202 args).run Tryz.prog w'= .ok (.enter 202 args) w':=by kernel_rfl
theorem len_small(n:Nat)(hn:n≤4)(w:World):Calls Tryz.prog 172 #[.int .u64 n] w λe w'=>∃x,e= .returned (.int .i64 x)∧w'=w:=by
 have h64:Calls Tryz.prog 227 #[.int .u64 n] w λe w'=>∃x,e= .returned (.int .i64 x)∧w'=w:=by
  rcases (by omega:n=0∨n=1∨n=2∨n=3∨n=4) with rfl|rfl|rfl|rfl|rfl
  all_goals
   refine Calls.mono (R:=λe w'=>∃x,e= .returned (.int .i64 x)∧w'=w) ?_ (λ_ _ h=>h)
   obtain⟨P,hP⟩:∃P:Ending→World→Prop,P=λe w'=>∃x,e= .returned (.int .i64 x)∧w'=w:=⟨_,rfl⟩
   rw[←hP]
   have HP:=qQ hP
   clear hP
   go_enter Tryz.func227,Tryz.ntmps227
   go_wp2_with fail
   rw[HP.out]
   exact⟨_,rfl,rfl⟩
 obtain⟨P,hP⟩:∃P:Ending→World→Prop,P=λe w'=>∃x,e= .returned (.int .i64 x)∧w'=w:=⟨_,rfl⟩
 rw[←hP] at h64 ⊢
 have HP:=qQ hP
 have H64:=qQ h64
 clear hP h64
 have hn2:(n:Int)≤4:=by omega
 go_enter Tryz.func172,Tryz.ntmps172
 go_wp2_with fail
 with_reducible refine H64.out.mono ?_
 intro e w1 he
 rw[HP.out] at he
 obtain⟨x,rfl,rfl⟩:=he
 go_wp2_with fail
 rw[HP.out]
 exact⟨_,rfl,rfl⟩
structure SoAt(w:World)(base g cap:Nat)(N:Nat)(M:List Pa)(W:World):Prop where
 row:RowP W base (.slice (some ⟨g,0,none⟩) N cap) M
 chg:Chg (· =g) w W
theorem mid_at(x:Pa)(S:List Pa)(k:Nat)(hk:k≤S.length):(midP x S k)[k]? =some x:=by
 unfold midP;rw[List.getElem?_append_right (by rw[List.length_take];omega),List.length_take,Nat.min_eq_left hk,Nat.sub_self];rfl
theorem mid_lt(x:Pa)(S:List Pa)(k i:Nat)(hk:k≤S.length)(hi:i<k):(midP x S k)[i]? =S[i]? :=by
 unfold midP;rw[List.getElem?_append_left (by rw[List.length_take];omega),List.getElem?_take,if_pos hi]
theorem mid_len(x:Pa)(S:List Pa)(k:Nat)(hk:k≤S.length):(midP x S k).length=S.length+1:=by
 unfold midP;simp;omega
theorem mid_swap(x y:Pa)(S:List Pa)(k:Nat)(hk:k<S.length)(hy:S[k]? =some y):((midP x S (k+1)).set (k+1) y).set k x=midP x S k:=by
 have e1:S.take (k+1)=S.take k++[y]:=by rw[List.take_add_one,hy];rfl
 have e2:S.drop k=y::S.drop (k+1):=by
  rw[List.drop_eq_getElem_cons hk]
  have:=(List.getElem?_eq_some_iff.1 hy).2
  rw[this]
 unfold midP
 rw[e1,e2]
 have hl:(S.take k).length=k:=by rw[List.length_take];omega
 rw[List.append_assoc,List.set_append_right _ _ (by omega),hl,show k+1-k=1 from by omega]
 rw[List.set_append_right _ _ (by omega),hl,Nat.sub_self]
 rfl
theorem insert_any(w:World)(base g cap m:Nat)(S:List Pa)(x:Pa)(hm:S.length=m)(hm4:m≤3)(hS:Srt S)(h:RowP w base (.slice (some ⟨g,0,none⟩) (m+1) cap) (S++[x]))(hc:m+1≤cap):
  Calls Tryz.prog 276 #[.slice (some ⟨g,0,none⟩) (m+1) cap,.int .i64 0,.int .i64 (m+1:Nat),.func (.func 202) #[] #[]] w
   (λe w'=>e= .returned (.tuple #[])∧SoAt w base g cap (m+1) (insP x S) w'):=by
 have hA:SoAt w base g cap (m+1) (midP x S m) w:=⟨by unfold midP;rw[←hm,List.take_of_length_le (Nat.le_refl _),List.drop_of_length_le (Nat.le_refl _)];rw[hm];exact h,Chg.refl _ _⟩
 have HA:=qQ hA
 have HM:=qQ hm
 have HS:=qQ hS
 clear h hA hm hS
 have hcf:=cf202
 have HCF:=qQ hcf
 clear hcf
 obtain⟨N,hN⟩:∃N:Nat,N=m+1:=⟨_,rfl⟩
 rw[←hN] at HA ⊢
 have hN1:(1:Int)≤N:=by omega
 have hN4:(N:Int)≤4:=by omega
 have HN:=qQ hN
 clear hN
 go_enter Tryz.func276,Tryz.ntmps276
 go_wp2_with fail
 go_loopw [8] (λu8 wr=>∃(i:Nat),1≤i∧i≤N∧u8= .int .i64 i∧((i≤m∧SoAt w base g cap N (midP x S m) wr)∨(i=N∧SoAt w base g cap N (insP x S) wr))) (λu8 _=>N-(intOf u8).toNat)
 case atStart=>
  refine⟨1,by omega,by omega,rfl,?_⟩
  by_cases h1:1≤m
  ·exact .inl ⟨h1,HA.out⟩
  ·refine .inr ⟨by have:=HN.out;omega,?_⟩
   have h0:m=0:=by omega
   have hS0:S=[]:=List.eq_nil_of_length_eq_zero (by have:=HM.out;omega)
   have:=HA.out
   rw[hS0] at this ⊢
   rw[h0] at this
   exact this
 case round=>
  obtain⟨i,hi1,hi2,rfl,hD⟩:=hrel
  have HD:=qQ hD
  clear hD HA
  by_cases hlt:i<N
  ·have him:i≤m:=by have:=HN.out;omega
   have hR:SoAt w base g cap N (midP x S m) wr:=by
    rcases HD.out with h|h
    ·exact h.2
    ·omega
   have HR:=qQ hR
   clear hR HD
   obtain⟨wo,rfl⟩:∃wo:World,wo=wr:=⟨_,rfl⟩
   go_wp2_with fail
   go_loopw [9] (λu9 wq=>∃(k:Nat),k≤i∧u9= .int .i64 k∧((i<m∧k=i∧SoAt w base g cap N (midP x S m) wq)∨(i=m∧SoAt w base g cap N (midP x S k) wq∧∀q s,k≤q→S[q]? =some s→cmpP x s<0))) (λu9 _=>(intOf u9).toNat)
   case atStart=>
    refine⟨i,Nat.le_refl _,rfl,?_⟩
    by_cases h1:i<m
    ·exact .inl ⟨h1,rfl,HR.out⟩
    ·obtain rfl:i=m:=by omega
     exact .inr ⟨rfl,HR.out,λq s hq hs=>by
      have:=(List.getElem?_eq_some_iff.1 hs).1;have:=HM.out;omega⟩
   case round=>
    obtain⟨k,hk,rfl,hE⟩:=hrel
    have HE:=qQ hE
    clear hE HR
    by_cases hk0:k=0
    ·subst hk0
     have hE:i=m∧SoAt w base g cap N (midP x S 0) wr∧∀q s,0≤q→S[q]? =some s→cmpP x s<0:=by
      rcases HE.out with ⟨_,h,_⟩|h
      ·omega
      ·exact h
     have hins:insK x S=0:=insK_is x S 0 (by omega) (λq s hq hs=>hE.2.2 q s (by omega) hs) (λs h0=>absurd h0 (by omega))
     have HF:=qQ (show i=m∧SoAt w base g cap N (insP x S) wr by unfold insP;rw[hins];exact⟨hE.1,hE.2.1⟩)
     clear hE hins HE
     have hg:decide ((0:Int)<0)=false:=by decide
     go_wp2_with fail
     with_reducible refine wp_region_still_lit (by kernel_rfl) (by kernel_rfl) ?_
     repeat (with_reducible refine wpStill_step (λK hK=>?_);go_simp;with_reducible refine hK _ ?_;clear hK K)
     with_reducible refine wpStill_nil ?_
     change Exit.then _ _ _ _ wr.drew
     go_wp2_with fail
     exact⟨⟨i+1,by omega,by omega,by go_num,.inr ⟨by have:=HF.out.1;have:=HN.out;omega,⟨HF.out.2.row,HF.out.2.chg.trans (Chg.drew _ _)⟩⟩⟩,by simp[intOf];omega⟩
    ·obtain⟨M,hM⟩:∃M,SoAt w base g cap N M wr∧((i<m∧k=i∧M=midP x S m)∨(i=m∧M=midP x S k∧∀q s,k≤q→S[q]? =some s→cmpP x s<0)):=by
      rcases HE.out with ⟨h1,h2,h3⟩|⟨h1,h2,h3⟩
      ·exact⟨_,h3,.inl ⟨h1,h2,rfl⟩⟩
      ·exact⟨_,h2,.inr ⟨h1,rfl,h3⟩⟩
     have hMl:M.length=N:=by
      have:=HM.out;have:=HN.out
      rcases hM.2 with ⟨h1,h2,h3⟩|⟨h1,h2,h3⟩
      ·rw[h3,mid_len x S m (by omega)];omega
      ·rw[h2,mid_len x S k (by omega)];omega
     obtain⟨b,hb⟩:∃b,M[k]? =some b:=⟨_,List.getElem?_eq_getElem (by omega)⟩
     obtain⟨a,ha⟩:∃a,M[k-1]? =some a:=⟨_,List.getElem?_eq_getElem (by omega)⟩
     obtain⟨I,F,hI,hF,hFA⟩:=clsF wr
     obtain⟨b0,b1,b2⟩:=hM.1.row.at hb
     obtain⟨a0,a1,a2⟩:=hM.1.row.at ha
     have b0:=qF hF b0
     have b1:=qF hF b1
     have b2:=qF hF b2
     have a0:=qF hF a0
     have a1:=qF hF a1
     have a2:=qF hF a2
     have hby:∀m',Calls Tryz.prog 202 #[VPa b,VPa a] (F m') (λe w'=>e= .returned (.int .i64 (cmpP b a))∧∃m,w'=F m):=λm'=>PV.cls hF hFA (by_any b a (F m'))
     unfold VPa at hby
     have HBY:=qQ hby
     have HFF:=qQ hF
     have HFA:=qQ (hFA _ (Chg.drew _ _))
     have HMM:=qQ (And.intro hM (And.intro hMl (And.intro hb ha)))
     have e1:IntKind.i64.wrap ((k:Int)-1)=((k-1:Nat):Int):=by rw[IntWalk.i64_in _ (by omega)];omega
     have i1:(k:Int)<(N:Int):=by omega
     have i2:((k-1:Nat):Int)<(N:Int):=by omega
     have i3:decide (0<k)=true:=by simp;omega
     have hcf:=HCF.out
     clear hM hMl hb ha hby hF hFA HE
     go_wp2_with fail
     with_reducible refine qW F (by kernel_rfl) (by kernel_rfl) HFA.out ?_
     repeat (with_reducible refine wpQuiet_step (λK hK=>?_);go_simp;first|(with_reducible refine hK _ ?_;clear hK K)|(apply Exists.intro;with_reducible refine⟨λ_=>?_,hK _ ?_⟩;(first|exact HBY.out _);clear hK K))
     with_reducible refine wpQuiet_nil ?_
     intro _ hw'
     obtain⟨nq,rfl⟩:=hw'
     have hgq:=HFF.out nq
     have hrow:RowP (F nq) base (.slice (some ⟨g,0,none⟩) N cap) M:=qY HMM.out.1.1.row hgq (λ_ _ e=>e)
     have HR2:=qQ (show SoAt w base g cap N M (F nq) from ⟨hrow,HMM.out.1.1.chg.trans hgq.none⟩)
     clear hgq hrow b0 b1 b2 a0 a1 a2 HFF HFA HBY hcf hI
     generalize F nq=w2 at *
     by_cases hc:cmpP b a<0
     ·have hB:i=m∧M=midP x S k∧∀q s,k≤q→S[q]? =some s→cmpP x s<0:=by
       rcases HMM.out.1.2 with ⟨h1,h2,h3⟩|h
       ·exfalso
        have hb:=HMM.out.2.2.1
        have ha:=HMM.out.2.2.2
        have hmS:=HM.out
        rw[h3,h2] at hb
        rw[h3,h2] at ha
        rw[mid_lt x S m i (by omega) (by omega)] at hb
        rw[mid_lt x S m (i-1) (by omega) (by omega)] at ha
        exact HS.out (i-1) a b ha (by rw[show i-1+1=i from by omega];exact hb) hc
       ·exact h
      have hmS:=HM.out
      have hbx:b=x:=by
       have:=HMM.out.2.2.1
       rw[hB.2.1,mid_at x S k (by omega)] at this
       exact (Option.some.inj this).symm
      have hay:S[k-1]? =some a:=by
       have:=HMM.out.2.2.2
       rw[hB.2.1,mid_lt x S k (k-1) (by omega) (by omega)] at this
       exact this
      have hsw:=mid_swap x a S (k-1) (by omega) hay
      rw[show k-1+1=k from by omega] at hsw
      have hkM:k<M.length:=by have:=HMM.out.2.1;omega
      obtain⟨b0,b1,b2⟩:=HR2.out.row.at HMM.out.2.2.1
      obtain⟨a0,a1,a2⟩:=HR2.out.row.at HMM.out.2.2.2
      have fk0:=qw HR2.out.row (k*3)
      have fk1:=qw HR2.out.row (k*3+1)
      have fk2:=qw HR2.out.row (k*3+2)
      have fj0:=qw HR2.out.row ((k-1)*3)
      have fj1:=qw HR2.out.row ((k-1)*3+1)
      have fj2:=qw HR2.out.row ((k-1)*3+2)
      have HSW:=qQ (And.intro hB (And.intro hbx (And.intro hay hsw)))
      have HKM:=qQ (And.intro hkM (show k-1<M.length by omega))
      clear hB hbx hay hsw hmS hkM HMM
      go_wp2_with fail
      go_region
      all_goals go_wp2_with fail
      have r1:=own_setP HR2.out.row k a HKM.out.1
      have r2:=own_setP r1 (k-1) b (by rw[List.length_set];exact HKM.out.2)
      have r3:RowP (((((((w2.setCell ⟨g,k*3,none⟩ (.int .i64 a.rank)).setCell ⟨g,k*3+1,none⟩ (.int .i64 a.node)).setCell ⟨g,k*3+2,none⟩ (.int .i64 a.heard)).setCell ⟨g,(k-1)*3,none⟩ (.int .i64 b.rank)).setCell ⟨g,(k-1)*3+1,none⟩ (.int .i64 b.node)).setCell ⟨g,(k-1)*3+2,none⟩ (.int .i64 b.heard)).drew) base (.slice (some ⟨g,0,none⟩) N cap) (midP x S (k-1)):=by
       have e:(M.set k a).set (k-1) b=midP x S (k-1):=by rw[HSW.out.1.2.1,HSW.out.2.1];exact HSW.out.2.2.2
       rw[e] at r2
       exact qY r2 (Chg.drew (λ_=>False) _) (λ_ _ e=>e)
      have g3:=HR2.out.chg.trans (((((((chg1 w2 g (k*3) (.int .i64 a.rank)).trans (chg1 _ g (k*3+1) (.int .i64 a.node))).trans (chg1 _ g (k*3+2) (.int .i64 a.heard))).trans (chg1 _ g ((k-1)*3) (.int .i64 b.rank))).trans (chg1 _ g ((k-1)*3+1) (.int .i64 b.node))).trans (chg1 _ g ((k-1)*3+2) (.int .i64 b.heard))).trans (Chg.drew _ _))
      refine⟨⟨k-1,by omega,rfl,.inr ⟨HSW.out.1.1,⟨r3,g3⟩,λq s hq hs=>?_⟩⟩,by simp[intOf];omega⟩
      by_cases hqk:q=k-1
      ·subst hqk
       rw[HSW.out.2.2.1] at hs;cases hs
       rw[←HSW.out.2.1];exact hc
      ·exact HSW.out.1.2.2 q s (by omega) hs
     ·have hc2:0≤cmpP b a:=by omega
      have hout:(i<m∧SoAt w base g cap N (midP x S m) w2)∨(i=m∧SoAt w base g cap N (insP x S) w2):=by
       have hR:=HR2.out
       have hmS:=HM.out
       rcases HMM.out.1.2 with ⟨h1,h2,h3⟩|⟨h1,h2,h3⟩
       ·rw[h3] at hR;exact .inl ⟨h1,hR⟩
       ·have hbx:b=x:=by
         have:=HMM.out.2.2.1
         rw[h2,mid_at x S k (by omega)] at this
         exact (Option.some.inj this).symm
        have hay:S[k-1]? =some a:=by
         have:=HMM.out.2.2.2
         rw[h2,mid_lt x S k (k-1) (by omega) (by omega)] at this
         exact this
        have hins:=insK_is x S k (by omega) h3 (λs _ hs=>by
         rw[hay] at hs;cases hs;rw[←hbx];exact hc)
        rw[h2] at hR
        exact .inr ⟨h1,by unfold insP;rw[hins];exact hR⟩
      have HOUT:=qQ hout
      clear hout hc HMM HR2
      go_wp2_with fail
      refine⟨⟨i+1,by omega,by omega,by go_num,?_⟩,by simp[intOf];omega⟩
      rcases HOUT.out with ⟨h1,h2⟩|⟨h1,h2⟩
      ·exact .inl ⟨by omega,h2⟩
      ·exact .inr ⟨by have:=HN.out;omega,h2⟩
  ·obtain rfl:i=N:=by omega
   have hfin:SoAt w base g cap i (insP x S) wr:=by
    rcases HD.out with ⟨h1,_⟩|⟨_,h2⟩
    ·have:=HN.out;omega
    ·exact h2
   have HFIN:=qQ hfin
   clear hfin HD
   go_wp2_with fail
   go_end0
   exact⟨rfl,HFIN.out⟩
theorem pdq_any(w:World)(base g cap m:Nat)(S:List Pa)(x:Pa)(lim:Int)(hm:S.length=m)(hm4:m≤3)(hS:Srt S)(h:RowP w base (.slice (some ⟨g,0,none⟩) (m+1) cap) (S++[x]))(hc:m+1≤cap):
  Calls Tryz.prog 247 #[.slice (some ⟨g,0,none⟩) (m+1) cap,.int .i64 0,.int .i64 (m+1:Nat),.int .i64 lim,.func (.func 202) #[] #[]] w
   (λe w'=>e= .returned (.tuple #[])∧SoAt w base g cap (m+1) (insP x S) w'):=by
 have hi:=insert_any w base g cap m S x hm hm4 hS h hc
 have HI:=qQ hi
 clear h hm hS hi
 obtain⟨N,hN⟩:∃N:Nat,N=m+1:=⟨_,rfl⟩
 rw[←hN] at HI hc ⊢
 have hN4:(N:Int)≤12:=by omega
 have hN5:N≤12:=by omega
 clear hN hm4
 go_enter Tryz.func247,Tryz.ntmps247
 go_wp2_with fail
 refine wp_loop_rounds 1 ?_
 rw[rounds_succ]
 go_wp2_with fail
 with_reducible refine HI.out.mono ?_
 rintro en w1 ⟨rfl,hR⟩
 have HR:=qQ hR
 clear hR HI
 go_wp2_with fail
 exact bodyPost_ret (v:= .tuple #[]) (by simp[results,Tryz.results247,go_sem]) rfl ⟨rfl,HR.out⟩
theorem sortP_any(w:World)(base g cap m:Nat)(S:List Pa)(x:Pa)(hm:S.length=m)(hm4:m≤3)(hS:Srt S)(h:RowP w base (.slice (some ⟨g,0,none⟩) (m+1) cap) (S++[x]))(hc:m+1≤cap):
  Calls Tryz.prog 201 #[.slice (some ⟨g,0,none⟩) (m+1) cap,.func (.func 202) #[] #[]] w
   (λe w'=>e= .returned (.tuple #[])∧SoAt w base g cap (m+1) (insP x S) w'):=by
 have hp:=λlim=>pdq_any w base g cap m S x lim hm hm4 hS h hc
 have hl:=len_small (m+1) (by omega) w
 have HP:=qQ hp
 have HL:=qQ hl
 clear hp hl h hm hS
 obtain⟨N,hN⟩:∃N:Nat,N=m+1:=⟨_,rfl⟩
 rw[←hN] at HP HL hc ⊢
 have hN4:(N:Int)≤12:=by omega
 clear hN hm4
 go_enter Tryz.func201,Tryz.ntmps201
 go_wp2_with fail
 with_reducible refine HL.out.mono ?_
 rintro en w1 ⟨lim,rfl,rfl⟩
 clear HL
 go_wp2_with fail
 (with_reducible refine (HP.out lim).mono ?_)
 rintro en w1 ⟨rfl,hR⟩
 have HR:=qQ hR
 clear hR HP
 go_wp2_with fail
 go_end0
 exact⟨rfl,HR.out⟩
structure Ps(w:World)(b:Nat)(v:Value)(me rank:Int)(L:List Pa):Prop where
 blk:w.heap[b]? =some (.cells #[.int .i64 me,.int .i64 rank,v] 102 (0,0))
 row:RowP w 0 v L
def PsS(b:Nat)(v:Value):Nat→Prop:=λk=>k=b∨v.ownBlock=some k
section
variable {w w':World}{b:Nat}{v:Value}{me rank:Int}{L:List Pa}
theorem Ps.ne(h:Ps w b v me rank L){k:Nat}(hk:v.ownBlock=some k):k≠b:=by
 intro e
 subst e
 rcases qD h.row with ⟨e,_⟩|⟨g,cap,e,_⟩
 ·rw[e] at hk;cases hk
 ·rcases h.row.2 with ⟨e2,_⟩|⟨g',c',cur,e2,_,hg,_⟩
  ·rw[e] at e2;cases e2
  ·rw[e2] at hk;cases hk
   rw[h.blk] at hg;cases hg
theorem Ps.c0(h:Ps w b v me rank L):w.cell? ⟨b,0,none⟩=some (.int .i64 me):=by rw[qJ h.blk];rfl
theorem Ps.c1(h:Ps w b v me rank L):w.cell? ⟨b,1,none⟩=some (.int .i64 rank):=by rw[qJ h.blk];rfl
theorem Ps.c2(h:Ps w b v me rank L):w.cell? ⟨b,2,none⟩=some v:=by rw[qJ h.blk];rfl
theorem Ps.f(h:Ps w b v me rank L)(o:Nat):w.frozen? ⟨b,o,none⟩=false:=qK h.blk o
theorem Ps.keep{S:Nat→Prop}(h:Ps w b v me rank L)(g:Chg S w w')(hS:∀k,PsS b v k→¬S k):Ps w' b v me rank L:=
 ⟨Chg.keep g h.blk (hS b (.inl rfl)),qY h.row g (λk hk=>hS k (.inr hk))⟩
theorem Ps.kept(h:Ps w b v me rank L)(g:Chg (λ_=>False) w w'):Ps w' b v me rank L:=h.keep g (λ_ _ e=>e)
theorem Ps.val(h:Ps w b v me rank L):∃A c,v= .slice A L.length c:=by
 rcases qD h.row with ⟨e,h1,_⟩|⟨g,cap,e,_⟩
 ·exact⟨none,0,by rw[e,h1]⟩
 ·exact⟨_,_,e⟩
theorem Ps.set1(h:Ps w b v me rank L)(r:Int):Ps (w.setCell ⟨b,1,none⟩ (.int .i64 r)) b v me r L:=
 ⟨by have:=qB h.blk 1 (.int .i64 r);simpa using this,qY h.row (chg1 w b 1 _) (λk hk e=>h.ne hk e)⟩
end
def PLets(w:World)(b:Nat)(v:Value)(me rank:Int)(M:List Pa)(en:Ending)(w':World):Prop:=
 en= .returned (.tuple #[])∧∃v',Ps w' b v' me rank M∧Chg (PsS b v) w w'∧v'.ownBlock=v.ownBlock
theorem lets_any(w:World)(b:Nat)(v:Value)(me rank:Int)(L:List Pa)(n:Nat)(caps:Array Value)(p:Pa→Bool)(h:Ps w b v me rank L)(hL:L.length≤1000)(hf:FnP (λk=>v.ownBlock=some k) w n caps L p):
  Calls Tryz.prog 121 #[.pointer (some ⟨b,0,none⟩),.func (.func n) #[] caps] w (PLets w b v me rank (L.filter (λx=>!p x))):=by
 have hd:=delP_any w 0 v n caps L p h.row hL hf
 have c2:=h.c2
 have H:=qQ h
 have HD:=qQ hd
 obtain⟨A,c,rfl⟩:=h.val
 clear h hd hf hL
 go_enter Tryz.func121,Tryz.ntmps121
 go_wp2_with fail
 clear c2
 with_reducible refine HD.out.mono ?_
 rintro en w1 ⟨v',rfl,hrow,G1,hob⟩
 have hb1:=Chg.keep G1 H.out.blk (λe=>H.out.ne e rfl)
 have hP1:Ps w1 b (.slice A L.length c) me rank []→True:=λ_=>trivial
 have c2:w1.cell? ⟨b,2,none⟩=some (.slice A L.length c):=by rw[qJ hb1];rfl
 have f2:w1.frozen? ⟨b,2,none⟩=false:=qK hb1 2
 have hs:=qB hb1 2 v'
 have hX:Ps (w1.setCell ⟨b,2,none⟩ v') b v' me rank (L.filter (λx=>!p x)):=⟨by simpa using hs,qY hrow (chg1 w1 b 2 v') (λk hk e=>by rw[hob] at hk;exact H.out.ne hk e)⟩
 have HX:=qQ (And.intro hX (And.intro ((G1.mono (λk _ e=>(.inr e:PsS b (.slice A L.length c) k))).trans ((chg1 w1 b 2 v').mono (λk _ e=> .inl e))) hob))
 obtain⟨A',c',len',rfl⟩:∃A c len,v'= .slice A len c:=by
  rcases qD hrow with ⟨e,h1,_⟩|⟨g,cap,e,_⟩
  ·exact⟨_,_,_,e⟩
  ·exact⟨_,_,_,e⟩
 clear hrow G1 hob hb1 hP1 hs hX HD
 go_wp2_with fail
 go_end0
 exact⟨rfl,_,HX.out.1,HX.out.2.1,HX.out.2.2⟩
def firstP(L:List Pa):Int×Bool:=match L with|[]=>(0,false)|p::_=>(p.node,true)
theorem first_any(w:World)(b:Nat)(v:Value)(me rank:Int)(L:List Pa)(h:Ps w b v me rank L)(hL:L.length≤1000):
  Calls Tryz.prog 119 #[.pointer (some ⟨b,0,none⟩)] w (PV (.tuple #[.int .i64 (firstP L).1,.bool (firstP L).2]) w):=by
 have c2:=h.c2
 cases L with
 |nil=>
  obtain⟨A,c,rfl⟩:=h.val
  clear h hL
  go_enter Tryz.func119,Tryz.ntmps119
  go_wp2_with fail
  go_ret2
  exact⟨rfl,Chg.refl _ _⟩
 |cons p r=>
  obtain⟨g,cap,rfl,_⟩:∃g cap,v= .slice (some ⟨g,0,none⟩) (r.length+1) cap∧True:=by
   rcases qD h.row with ⟨e,h1,_⟩|⟨g,cap,e,_⟩
   ·simp at h1
   ·exact⟨g,cap,e,trivial⟩
  obtain⟨d0,d1,d2⟩:=h.row.at (k:=0) (p:=p) rfl
  have hr:((r.length+1:Nat):Int)≤1000:=by simp at hL;omega
  obtain⟨n,hn⟩:=qZ (r.length+1)
  rw[←hn] at c2 hr
  have h0:(n==0)=false:=by simp;omega
  have h0':((n:Int)==0)=false:=by simp;omega
  have i1:(0:Int)<(n:Int):=by omega
  have i2:0<n:=by omega
  clear h hL hn
  go_enter Tryz.func119,Tryz.ntmps119
  go_wp2_with fail
  go_ret2
  exact⟨rfl,Chg.refl _ _⟩
theorem first_nil(w:World):Calls Tryz.prog 119 #[.pointer none] w (PV (.tuple #[.int .i64 0,.bool false]) w):=by
 go_enter Tryz.func119,Tryz.ntmps119
 go_wp2_with fail
 go_ret2
 exact⟨rfl,Chg.refl _ _⟩
theorem prank_any(w:World)(b:Nat)(v:Value)(me rank:Int)(L:List Pa)(h:Ps w b v me rank L):Calls Tryz.prog 184 #[.pointer (some ⟨b,0,none⟩)] w λe w'=>e= .returned (.int .i64 rank)∧w'=w:=by
 have c1:=h.c1
 clear h
 go_enter Tryz.func184,Tryz.ntmps184
 go_wp2_with fail
 go_ret
 exact⟨rfl,rfl⟩
def PRankOf(w:World)(e:Ending)(w':World):Prop:=∃(r:Int) (t:Bool),e= .returned (.tuple #[.int .i64 r,.bool t])∧Chg (λ_=>False) w w'
theorem rankof_any(w:World)(b:Nat)(v:Value)(me rank:Int)(L:List Pa)(q:Int)(h:Ps w b v me rank L)(hL:L.length≤1000):
  Calls Tryz.prog 204 #[.pointer (some ⟨b,0,none⟩),.int .i64 q] w (PRankOf w):=by
 have c2:=h.c2
 have H:=qQ h
 obtain⟨A,c,rfl⟩:=h.val
 obtain⟨len,hlen⟩:∃n,n=L.length:=⟨_,rfl⟩
 rw[←hlen] at c2 hL H
 have hl:(len:Int)≤1000:=by omega
 have HL:=qQ hlen
 clear h hlen
 go_enter Tryz.func204,Tryz.ntmps204
 go_wp2_with fail
 clear c2
 go_loopw [15] (λi wr=>∃(k:Nat),k≤len∧i= .int .i64 k∧Chg (λ_=>False) w wr) (λi _=>len-(intOf i).toNat)
 case atStart=>exact⟨0,by omega,rfl,Chg.refl _ _⟩
 case round=>
  obtain⟨k,hk,rfl,hG⟩:=hrel
  have HG:=qQ hG
  clear hG
  by_cases hlt:k<len
  ·obtain⟨z,hz⟩:∃z,L[k]? =some z:=⟨_,List.getElem?_eq_getElem (by have:=HL.out;omega)⟩
   obtain⟨g,cap,hv⟩:∃g cap,A=some ⟨g,0,none⟩∧c=cap:=by
    rcases qD H.out.row with ⟨e,h1,_⟩|⟨g,cap,e,_⟩
    ·have:=HL.out;omega
    ·cases e;exact⟨_,_,rfl,rfl⟩
   obtain⟨rfl,rfl⟩:=hv
   have hrow:RowP wr 0 _ L:=qY H.out.row HG.out (λ_ _ e=>e)
   obtain⟨d0,d1,d2⟩:=hrow.at hz
   have i1:(k:Int)<(len:Int):=by omega
   have HGA:=qQ (HG.out.trans (Chg.alloc _ wr (.cells #[.int .i64 z.rank,.int .i64 z.node,.int .i64 z.heard] 104)))
   clear hz hrow HG
   by_cases hq:z.node=q
   ·have hb:(z.node==q)=true:=by simpa using hq
    clear hq
    go_wp2_with fail
    go_ret2
    exact⟨_,_,rfl,HGA.out⟩
   ·have hb:(z.node==q)=false:=by simpa using hq
    clear hq
    go_wp2_with fail
    go_roundw
    case measure=>simp[intOf];omega
    case rel=>exact⟨k+1,by omega,by go_num,HGA.out⟩
  ·obtain rfl:k=len:=by omega
   go_wp2_with fail
   go_ret2
   exact⟨_,_,rfl,HG.out⟩
theorem pin_yes(n a b:Int)(h1:a≤n)(h2:n≤b)(w:World):Calls Tryz.prog 199 #[.int .i64 n,.int .i64 a,.int .i64 b] w λe w'=>e= .returned (.bool true)∧w'=w:=by
 go_enter Tryz.func199,Tryz.ntmps199
 go_wp2_with fail
 go_ret
 exact⟨rfl,rfl⟩
theorem psnew_any(me rank:Int)(h1:0≤me∧me≤15)(h2:0≤rank∧rank≤255)(w:World):Calls Tryz.prog 156 #[.int .i64 me,.int .i64 rank] w (PNewAt w (λb w'=>Ps w' b (.slice none 0 0) me rank [])):=by
 have HP:=qQ (λn a b h1 h2 w=>pin_yes n a b h1 h2 w)
 obtain⟨m0,m1⟩:=h1
 obtain⟨r0,r1⟩:=h2
 go_enter Tryz.func156,Tryz.ntmps156
 go_wp2_with fail
 (with_reducible refine (HP.out _ _ _ m0 m1 _).mono ?_)
 rintro en w1 ⟨rfl,rfl⟩
 go_wp2_with fail
 (with_reducible refine (HP.out _ _ _ r0 r1 _).mono ?_)
 rintro en w1 ⟨rfl,rfl⟩
 go_wp2_with fail
 go_ret
 exact⟨_,rfl,⟨qV _ _,World.ownsRow_nil _ _ _ _⟩,Nat.le_refl _,Chg.alloc _ _ _⟩
def PSrt(L:List Pa):Prop:=L.Pairwise (λa b=>¬cmpP b a<0)
theorem PSrt.srt{L:List Pa}(h:PSrt L):Srt L:=λi a b ha hb=>by
 obtain⟨h1,rfl⟩:=List.getElem?_eq_some_iff.1 ha
 obtain⟨h2,rfl⟩:=List.getElem?_eq_some_iff.1 hb
 exact List.pairwise_iff_getElem.1 h i (i+1) h1 h2 (by omega)
theorem cmpI_lt{a b:Int}:cmpI a b<0↔a<b:=by
 unfold cmpI;split
 ·simp;assumption
 ·split <;> simp <;> omega
theorem cmpI_eq{a b:Int}:cmpI a b=0↔a=b:=by
 unfold cmpI;split
 ·simp;omega
 ·split <;> simp <;> omega
theorem cmpP_lt{a b:Pa}:cmpP a b<0↔a.rank<b.rank∨(a.rank=b.rank∧a.node<b.node):=by
 unfold cmpP
 by_cases h:a.rank=b.rank
 ·rw[orI_0 (cmpI_eq.2 h),cmpI_lt];omega
 ·rw[orI_1 (λe=>h (cmpI_eq.1 e)),cmpI_lt];omega
theorem PSrt.filter{L:List Pa}(h:PSrt L)(p:Pa→Bool):PSrt (L.filter p):=List.Pairwise.filter _ h
theorem PSrt.take{L:List Pa}(h:PSrt L)(n:Nat):PSrt (L.take n):=List.Pairwise.sublist (List.take_sublist _ _) h
theorem insK_le(x:Pa)(S:List Pa):insK x S≤S.length:=by
 induction S with
 |nil=>simp[insK]
 |cons s r ih=>unfold insK;split <;> simp;omega
theorem insK_right(x:Pa)(S:List Pa):∀i s,insK x S≤i→S[i]? =some s→cmpP x s<0:=by
 induction S with
 |nil=>intro i s _ h;simp at h
 |cons a r ih=>
  intro i s hi hs
  unfold insK at hi
  split at hi
  ·rename_i h
   cases i with
   |zero=>simp at hs;subst hs;exact h.2
   |succ i=>exact ih i s (by omega) (by simpa using hs)
  ·cases i with
   |zero=>omega
   |succ i=>exact ih i s (by omega) (by simpa using hs)
theorem insK_left(x:Pa)(S:List Pa)(hS:PSrt S):∀i s,i<insK x S→S[i]? =some s→¬cmpP x s<0:=by
 induction S with
 |nil=>intro i s _ h;simp at h
 |cons a r ih=>
  have hr:PSrt r:=(List.pairwise_cons.1 hS).2
  have ha:=(List.pairwise_cons.1 hS).1
  intro i s hi hs
  unfold insK at hi
  split at hi
  ·omega
  ·rename_i h
   cases i with
   |zero=>
    simp at hs;subst hs
    by_cases h0:insK x r=0
    ·exact λhc=>h ⟨h0,hc⟩
    ·obtain⟨b,hb⟩:∃b,r[0]? =some b:=by
      cases r with
      |nil=>exact absurd rfl h0
      |cons b _=>exact⟨b,rfl⟩
     have h1:=ih hr 0 b (by omega) hb
     have h2:=ha b (List.mem_of_getElem? hb)
     rw[cmpP_lt] at *
     omega
   |succ i=>exact ih hr i s (by omega) (by simpa using hs)
theorem insP_len(x:Pa)(S:List Pa):(insP x S).length=S.length+1:=mid_len x S _ (insK_le x S)
theorem insP_srt(x:Pa)(S:List Pa)(hS:PSrt S):PSrt (insP x S):=by
 unfold insP midP PSrt
 rw[List.pairwise_append]
 have hsub:=hS
 unfold PSrt at hsub
 rw[←List.take_append_drop (insK x S) S,List.pairwise_append] at hsub
 refine⟨hsub.1,List.pairwise_cons.2 ⟨λb hb=>?_,hsub.2.1⟩,λa ha b hb=>?_⟩
 ·obtain⟨j,hj,rfl⟩:=List.getElem_of_mem hb
  rw[List.length_drop] at hj
  have h1:=insK_right x S (insK x S+j) _ (by omega) (List.getElem?_eq_getElem (by omega))
  rw[List.getElem_drop]
  rw[cmpP_lt] at *
  omega
 ·rcases List.mem_cons.1 hb with rfl|hb
  ·obtain⟨j,hj,rfl⟩:=List.getElem_of_mem ha
   rw[List.length_take] at hj
   rw[List.getElem_take]
   exact insK_left b S hS j _ (by omega) (List.getElem?_eq_getElem (by omega))
  ·exact hsub.2.2 a ha b hb
def jh(R:Int)(L:List Pa)(node rank now:Int):Int×List Pa:=
 let L1:=L.filter (λp=>!(p.node==node))
 if R≤rank then (R,L1) else
 (min R (rank+1),((insP ⟨rank,node,now⟩ L1).filter (λp=>!(decide (min R (rank+1)≤p.rank)))).take 3)
theorem cf200(args:Array Value)(w':World):(callFunc 200 args).run Tryz.prog w'= .ok (.enter 200 args) w':=by kernel_rfl
theorem cf203(args:Array Value)(w':World):(callFunc 203 args).run Tryz.prog w'= .ok (.enter 203 args) w':=by kernel_rfl
theorem hear1(p:Pa)(q:Int)(b:Nat)(w:World)(hb:b<w.heap.size)(hc:w.cell? ⟨b,0,none⟩=some (.int .i64 q)):Calls Tryz.prog 200 #[VPa p,.pointer (some ⟨b,0,none⟩)] w (PV (.bool (p.node==q)) w):=by
 unfold VPa
 have hne:¬(b=w.heap.size):=by omega
 go_enter Tryz.func200,Tryz.ntmps200
 go_wp2_with fail
 go_ret
 exact⟨rfl,Chg.alloc _ _ _⟩
theorem hear2(p:Pa)(c b:Nat)(v:Value)(me R:Int)(w:World)(hc:w.heap[c]? =some (.cells #[.pointer (some ⟨b,0,none⟩)] 66 (0,0))) (hb:w.heap[b]? =some (.cells #[.int .i64 me,.int .i64 R,v] 102 (0,0))):
  Calls Tryz.prog 203 #[VPa p,.pointer (some ⟨c,0,none⟩)] w (PV (.bool (decide (R≤p.rank))) w):=by
 unfold VPa
 have hg:=Chg.alloc (λ_=>False) w (.cells #[.int .i64 p.rank,.int .i64 p.node,.int .i64 p.heard] 104)
 have hx:=qV w (.cells #[.int .i64 p.rank,.int .i64 p.node,.int .i64 p.heard] 104)
 have hc1:=Chg.keep hg hc (λe=>e)
 have hb1:=Chg.keep hg hb (λe=>e)
 have HG:=qQ hg
 have HX:=qQ (And.intro hx (And.intro hc1 hb1))
 clear hg hx hc1 hb1 hc hb
 go_enter Tryz.func203,Tryz.ntmps203
 go_wp2_with fail
 generalize w.alloc (.cells #[.int .i64 p.rank,.int .i64 p.node,.int .i64 p.heard] 104)=w1 at *
 obtain⟨x0,x1,x2⟩:=cell3 HX.out.1
 obtain⟨b0,b1,b2⟩:=cell3 HX.out.2.2
 have c0:w1.cell? ⟨c,0,none⟩=some (.pointer (some ⟨b,0,none⟩)):=by rw[qJ HX.out.2.1];rfl
 go_quiet (fail)
 go_wp2_with fail
 go_ret
 exact⟨rfl,HG.out.trans (Chg.drewN _ _ _)⟩
theorem less_any(a b:Int)(w:World):Calls Tryz.prog 223 #[.int .i64 a,.int .i64 b] w λe w'=>e= .returned (.bool (decide (a<b)))∧w'=w:=by
 go_enter Tryz.func223,Tryz.ntmps223
 go_wp2_with fail
 (with_reducible refine (jT _ _).mono ?_)
 rintro en w1 ⟨rfl,rfl⟩
 go_wp2_with fail
 all_goals
  go_ret
  exact⟨rfl,rfl⟩
structure NoAt(w:World)(base g cap N:Nat)(W:World):Prop where
 row:∃zs:List Int,zs.length=N∧W.ownsRow base 3 1 (.slice (some ⟨g,0,none⟩) N cap) N (zs.map VI)
 chg:Chg (· =g) w W
theorem insertI_any(w:World)(base g cap N:Nat)(hN:N≤4)(h:NoAt w base g cap N w):
  Calls Tryz.prog 217 #[.slice (some ⟨g,0,none⟩) N cap,.int .i64 0,.int .i64 N] w (λe w'=>e= .returned (.tuple #[])∧NoAt w base g cap N w'):=by
 have HA:=qQ h
 have hN4:(N:Int)≤4:=by omega
 clear h
 go_enter Tryz.func217,Tryz.ntmps217
 go_wp2_with fail
 go_loopw [6] (λu6 wr=>∃(i:Nat),1≤i∧i≤5∧u6= .int .i64 i∧NoAt w base g cap N wr) (λu6 _=>6-(intOf u6).toNat)
 case atStart=>exact⟨1,by omega,by omega,rfl,HA.out⟩
 case round=>
  obtain⟨i,hi1,hi2,rfl,hD⟩:=hrel
  have HD:=qQ hD
  clear hD HA
  by_cases hlt:i<N
  ·obtain⟨wo,rfl⟩:∃wo:World,wo=wr:=⟨_,rfl⟩
   go_wp2_with fail
   go_loopw [7] (λu7 wq=>∃(k:Nat),k≤i∧u7= .int .i64 k∧NoAt w base g cap N wq) (λu7 _=>(intOf u7).toNat)
   case atStart=>exact⟨i,Nat.le_refl _,rfl,HD.out⟩
   case round=>
    obtain⟨k,hk,rfl,hE⟩:=hrel
    have HE:=qQ hE
    clear hE HD
    by_cases hk0:k=0
    ·subst hk0
     have hg:decide ((0:Int)<0)=false:=by decide
     go_wp2_with fail
     with_reducible refine wp_region_still_lit (by kernel_rfl) (by kernel_rfl) ?_
     repeat (with_reducible refine wpStill_step (λK hK=>?_);go_simp;with_reducible refine hK _ ?_;clear hK K)
     with_reducible refine wpStill_nil ?_
     change Exit.then _ _ _ _ wr.drew
     go_wp2_with fail
     exact⟨⟨i+1,by omega,by omega,by go_num,⟨HE.out.row,HE.out.chg.trans (Chg.drew _ _)⟩⟩,by simp[intOf];omega⟩
    ·obtain⟨zs,hzl,hrow⟩:=HE.out.row
     obtain⟨b,hb⟩:∃b,zs[k]? =some b:=⟨_,List.getElem?_eq_getElem (by omega)⟩
     obtain⟨a,ha⟩:∃a,zs[k-1]? =some a:=⟨_,List.getElem?_eq_getElem (by omega)⟩
     obtain⟨I,F,hI,hF,hFA⟩:=clsF wr
     have b0:=qF hF (qp hrow k (VI b) (by rw[List.getElem?_map,hb];rfl))
     have a0:=qF hF (qp hrow (k-1) (VI a) (by rw[List.getElem?_map,ha];rfl))
     unfold VI at b0 a0
     have hby:∀m',Calls Tryz.prog 223 #[.int .i64 b,.int .i64 a] (F m') (λe w'=>e= .returned (.bool (decide (b<a)))∧∃m,w'=F m):=λm'=>(less_any b a (F m')).mono λe w' ⟨h1,h2⟩=>⟨h1,m',h2⟩
     have HBY:=qQ hby
     have HFF:=qQ hF
     have HFA:=qQ (hFA _ (Chg.drew _ _))
     have HR:=qQ (And.intro hzl (And.intro hrow (And.intro hb ha)))
     have e1:IntKind.i64.wrap ((k:Int)-1)=((k-1:Nat):Int):=by rw[IntWalk.i64_in _ (by omega)];omega
     have i1:(k:Int)<(N:Int):=by omega
     have i2:((k-1:Nat):Int)<(N:Int):=by omega
     have i3:decide (0<k)=true:=by simp;omega
     clear hzl hrow hb ha hby hF hFA
     go_wp2_with fail
     with_reducible refine qW F (by kernel_rfl) (by kernel_rfl) HFA.out ?_
     repeat (with_reducible refine wpQuiet_step (λK hK=>?_);go_simp;first|(with_reducible refine hK _ ?_;clear hK K)|(apply Exists.intro;with_reducible refine⟨λ_=>?_,hK _ ?_⟩;(first|exact HBY.out _);clear hK K))
     with_reducible refine wpQuiet_nil ?_
     intro _ hw'
     obtain⟨nq,rfl⟩:=hw'
     have hgq:=HFF.out nq
     have HR2:=qQ (And.intro (qY HR.out.2.1 hgq (λ_ _ e=>e)) (HE.out.chg.trans hgq.none))
     clear hgq b0 a0 HFF HFA HBY hI
     generalize F nq=w2 at *
     by_cases hc:b<a
     ·have b0:=qp HR2.out.1 k (VI b) (by rw[List.getElem?_map,HR.out.2.2.1];rfl)
      have a0:=qp HR2.out.1 (k-1) (VI a) (by rw[List.getElem?_map,HR.out.2.2.2];rfl)
      unfold VI at b0 a0
      have fk:=zw HR2.out.1 k
      have fj:=zw HR2.out.1 (k-1)
      go_wp2_with fail
      go_region
      all_goals go_wp2_with fail
      have r1:=vq HR2.out.1 k (.int .i64 a) (by omega)
      have r2:=vq r1 (k-1) (.int .i64 b) (by omega)
      have e2:((zs.map VI).set k (.int .i64 a)).set (k-1) (.int .i64 b)=((zs.set k a).set (k-1) b).map VI:=by rw[List.map_set,List.map_set];rfl
      rw[e2] at r2
      have g3:=HR2.out.2.trans (((chg1 w2 g k (.int .i64 a)).trans (chg1 _ g (k-1) (.int .i64 b))).trans (Chg.drew _ _))
      exact⟨⟨k-1,by omega,rfl,⟨⟨_,by simp[HR.out.1],qY r2 (Chg.drew (λ_=>False) _) (λ_ _ e=>e)⟩,g3⟩⟩,by simp[intOf];omega⟩
     ·have hc2:a≤b:=by omega
      have HX:=qQ (show NoAt w base g cap N w2 from ⟨⟨zs,HR.out.1,HR2.out.1⟩,HR2.out.2⟩)
      clear hc HR HR2 HE
      go_wp2_with fail
      exact⟨⟨i+1,by omega,by omega,by go_num,HX.out⟩,by simp[intOf];omega⟩
  ·go_wp2_with fail
   go_end0
   exact⟨rfl,HD.out⟩
theorem pdqI_any(w:World)(base g cap N:Nat)(lim:Int)(hN:N≤4)(h:NoAt w base g cap N w):
  Calls Tryz.prog 171 #[.slice (some ⟨g,0,none⟩) N cap,.int .i64 0,.int .i64 N,.int .i64 lim] w (λe w'=>e= .returned (.tuple #[])∧NoAt w base g cap N w'):=by
 have HI:=qQ (insertI_any w base g cap N hN h)
 have hN4:(N:Int)≤12:=by omega
 have hN5:N≤12:=by omega
 clear hN h
 go_enter Tryz.func171,Tryz.ntmps171
 go_wp2_with fail
 refine wp_loop_rounds 1 ?_
 rw[rounds_succ]
 go_wp2_with fail
 with_reducible refine HI.out.mono ?_
 rintro en w1 ⟨rfl,hR⟩
 have HR:=qQ hR
 clear hR HI
 go_wp2_with fail
 exact bodyPost_ret (v:= .tuple #[]) (by simp[results,Tryz.results171,go_sem]) rfl ⟨rfl,HR.out⟩
theorem sortI_any(w:World)(base g cap N:Nat)(hN:N≤4)(h:NoAt w base g cap N w):
  Calls Tryz.prog 120 #[.slice (some ⟨g,0,none⟩) N cap] w (λe w'=>e= .returned (.tuple #[])∧NoAt w base g cap N w'):=by
 have hp:=λlim=>pdqI_any w base g cap N lim hN h
 have hl:=len_small N hN w
 have HP:=qQ hp
 have HL:=qQ hl
 have hN4:(N:Int)≤12:=by omega
 clear hp hl h hN
 go_enter Tryz.func120,Tryz.ntmps120
 go_wp2_with fail
 with_reducible refine HL.out.mono ?_
 rintro en w1 ⟨lim,rfl,rfl⟩
 clear HL
 go_wp2_with fail
 (with_reducible refine (HP.out lim).mono ?_)
 rintro en w1 ⟨rfl,hR⟩
 have HR:=qQ hR
 clear hR HP
 go_wp2_with fail
 go_end0
 exact⟨rfl,HR.out⟩
end Go.Proofs.YtnpihllannobgaaGreatDoor
