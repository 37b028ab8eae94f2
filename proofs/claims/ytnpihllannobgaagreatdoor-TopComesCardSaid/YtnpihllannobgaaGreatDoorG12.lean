/- Steps of the proof, part G12. No condition. -/
import Derived.Test.YtnpihllannobgaaGreatDoorG11
import Derived.Deep.RegionLaw
import Derived.Deep.DeepCutAuto
namespace Go.Proofs.YtnpihllannobgaaGreatDoor
set_option linter.unusedVariables false
set_option linter.unusedSimpArgs false
set_option maxRecDepth 100000
set_option maxHeartbeats 32000000
open Go.ChangeShapes Go.WideShapes Go.ChangeAt Go.RowKit
def PHear(w:World)(b:Nat)(v:Value)(me:Int)(x:Int×List Pa)(en:Ending)(w':World):Prop:=
 ∃(t:Bool) (v':Value),en= .returned (.bool t)∧Ps w' b v' me x.1 x.2∧Chg (PsS b v) w w'∧∀k,v'.ownBlock=some k→v.ownBlock=some k∨w.heap.size≤k
structure HAt(w:World)(b:Nat)(v0:Value)(me node:Int)(v:Value)(R:Int)(L:List Pa)(W:World):Prop where
 b4:W.heap[w.heap.size]? =some (.cells #[.pointer (some ⟨b,0,none⟩)] 66 (0,0))
 b5:W.heap[w.heap.size+1]? =some (.cells #[.int .i64 node] 3 (0,0))
 ps:Ps W b v me R L
 chg:Chg (λk=>PsS b v0 k∨w.heap.size≤k) w W
 lt:b<w.heap.size
 own:∀k,v.ownBlock=some k→v0.ownBlock=some k∨w.heap.size+2≤k
 old:∀k,v0.ownBlock=some k→k<w.heap.size
section
variable {w W W':World}{b:Nat}{v0 v v':Value}{me node R R':Int}{L M:List Pa}
theorem HAt.ne4(h:HAt w b v0 me node v R L W){k:Nat}(hk:PsS b v k):k≠w.heap.size∧k≠w.heap.size+1:=by
 rcases hk with rfl|hk
 ·have:=h.lt;omega
 ·rcases h.own k hk with h1|h1
  ·have:=h.old k h1;omega
  ·omega
theorem HAt.kept(h:HAt w b v0 me node v R L W)(g:Chg (λ_=>False) W W'):HAt w b v0 me node v R L W':=
 ⟨Chg.keep g h.b4 (λe=>e),Chg.keep g h.b5 (λe=>e),h.ps.kept g,h.chg.trans g.none,h.lt,h.own,h.old⟩
theorem HAt.next(h:HAt w b v0 me node v R L W)(k:Ps W' b v' me R' M)(g:Chg (PsS b v) W W')(hv:v'.ownBlock=v.ownBlock∨∃q,v'.ownBlock=some q∧W.heap.size≤q):HAt w b v0 me node v' R' M W':=
 ⟨Chg.keep g h.b4 (λe=>(h.ne4 e).1 rfl),Chg.keep g h.b5 (λe=>(h.ne4 e).2 rfl),k,h.chg.trans (g.mono (λq _ e=>by
  rcases e with e|e
  ·exact .inl (.inl e)
  ·rcases h.own q e with h1|h1
   ·exact .inl (.inr h1)
   ·right;omega)),h.lt,λq hq=>by
  rcases hv with hv|⟨q',hv,hs⟩
  ·exact h.own q (by rw[←hv];exact hq)
  ·rw[hv] at hq;cases hq
   have:=qX h.b5
   right;omega,h.old⟩
theorem HAt.c4(h:HAt w b v0 me node v R L W):W.cell? ⟨w.heap.size,0,none⟩=some (.pointer (some ⟨b,0,none⟩)):=by rw[qJ h.b4];rfl
theorem HAt.c5(h:HAt w b v0 me node v R L W):W.cell? ⟨w.heap.size+1,0,none⟩=some (.int .i64 node):=by rw[qJ h.b5];rfl
end
theorem cell_st{w:World}{p:Addr}{v:Value}(h:w.cell? p=some v){b:Nat}(hb:p.block≠b)(o:Nat)(x:Value):(w.setCell ⟨b,o,none⟩ x).cell? p=some v:=by
 rw[(chg1 w b o x).cell (qP h) hb,h]
theorem ElP:ElS 100 104 3 24:=ElS.of (z:= .agg #[.int .i64 0,.int .i64 0,.int .i64 0]) (by kernel_rfl) (by kernel_rfl) (by decide+kernel) (by decide)
theorem pshear_any(w:World)(b:Nat)(v:Value)(me R:Int)(L:List Pa)(node rank now:Int)(h:Ps w b v me R L)(hL:L.length≤3)(hS:PSrt L)(hn:0≤node∧node≤15)(hm:node≠me)(hr:0≤rank∧rank≤255)(ht:0≤now)(hR:0≤R∧R≤255):
  Calls Tryz.prog 158 #[.pointer (some ⟨b,0,none⟩),.int .i64 node,.int .i64 rank,.int .i64 now] w (PHear w b v me (qy R L node rank now)):=by
 have hlb:=qX h.blk
 have hA0:HAt w b v me node v R L ((w.alloc (.cells #[.pointer (some ⟨b,0,none⟩)] 66)).alloc (.cells #[.int .i64 node] 3)):=by
  have g1:=Chg.alloc (λ_=>False) w (.cells #[.pointer (some ⟨b,0,none⟩)] 66)
  have g2:=Chg.alloc (λ_=>False) (w.alloc (.cells #[.pointer (some ⟨b,0,none⟩)] 66)) (.cells #[.int .i64 node] 3)
  refine⟨Chg.keep g2 (qV w _) (λe=>e),?_,h.kept (g1.trans g2),(g1.trans g2).none,hlb,λk hk=> .inl hk,λk hk=>(qg h.row hk).2⟩
  have:=qV (w.alloc (.cells #[.pointer (some ⟨b,0,none⟩)] 66)) (.cells #[.int .i64 node] 3)
  simpa using this
 obtain⟨X,hX⟩:=qZ (qy R L node rank now)
 rw[←hX]
 have HX:=qQ hX
 have HA0:=qQ hA0
 have HS:=qQ (And.intro hS hL)
 obtain⟨n0,n1⟩:=hn
 obtain⟨r0,r1⟩:=hr
 obtain⟨R0,R1⟩:=hR
 have hme:(node==me)=false:=by simpa using hm
 have HP:=qQ (λn a b h1 h2 w=>pin_yes n a b h1 h2 w)
 clear hA0 h hS hL hX hlb hm
 go_enter Tryz.func158,Tryz.ntmps158
 go_wp2_with fail
 generalize (w.alloc (.cells #[.pointer (some ⟨b,0,none⟩)] 66)).alloc (.cells #[.int .i64 node] 3)=w1 at *
 obtain⟨I,F,hI,hF,hFA⟩:=clsF w1
 have c4:=qF hF HA0.out.c4
 have c5:=qF hF HA0.out.c5
 have c0:=qF hF HA0.out.ps.c0
 have hp1:∀m,Calls Tryz.prog 199 #[.int .i64 node,.int .i64 0,.int .i64 15] (F m) (λe w'=>e= .returned (.bool true)∧∃m,w'=F m):=λm=>(HP.out node 0 15 n0 n1 (F m)).mono λe w' ⟨h1,h2⟩=>⟨h1,m,h2⟩
 have hp2:∀m,Calls Tryz.prog 199 #[.int .i64 rank,.int .i64 0,.int .i64 255] (F m) (λe w'=>e= .returned (.bool true)∧∃m,w'=F m):=λm=>(HP.out rank 0 255 r0 r1 (F m)).mono λe w' ⟨h1,h2⟩=>⟨h1,m,h2⟩
 have HP1:=qQ hp1
 have HP2:=qQ hp2
 have HFF:=qQ hF
 have HFA:=qQ (hFA _ (Chg.drew _ _))
 have htd:decide (now<0)=false:=by simp;omega
 clear hp1 hp2 hF hFA
 with_reducible refine qW F (by kernel_rfl) (by kernel_rfl) HFA.out ?_
 repeat (with_reducible refine wpQuiet_step (λK hK=>?_);go_simp;first|(with_reducible refine hK _ ?_;clear hK K)|(apply Exists.intro;with_reducible refine⟨λ_=>?_,hK _ ?_⟩;(first|exact HP1.out _|exact HP2.out _);clear hK K))
 with_reducible refine wpQuiet_nil ?_
 intro _ hw'
 obtain⟨nq,rfl⟩:=hw'
 have HA1:=qQ (HA0.out.kept (HFF.out nq))
 clear HFF HFA HP1 HP2 c4 c5 c0 hI HA0
 generalize F nq=w2 at *
 have c4:=HA1.out.c4
 go_wp2_with fail
 clear c4
 have hl1:=lets_any w2 b v me R L 200 #[.pointer (some ⟨w.heap.size+1,0,none⟩)] (λp=>p.node==node) HA1.out.ps (by have:=HS.out.2;omega) ⟨cf200,λz W hz g=>hear1 z node (w.heap.size+1) W (Nat.lt_of_lt_of_le (qX HA1.out.b5) g.size) (by
  rw[qJ (Chg.keep g HA1.out.b5 (λe=>(HA1.out.ne4 (.inr e)).2 rfl))];rfl)⟩
 have HL1:=qQ hl1
 clear hl1
 with_reducible refine HL1.out.mono ?_
 rintro en w3 ⟨rfl,v3,hps3,G3,hv3⟩
 have HA3:=qQ (HA1.out.next hps3 G3 (.inl hv3))
 clear hps3 G3 hv3 HL1 HA1
 obtain⟨L1,hL1⟩:=qZ (L.filter (λp=>!(p.node==node)))
 rw[←hL1] at HA3
 have hS1:PSrt L1:=by rw[hL1];exact HS.out.1.filter _
 have hl3:L1.length≤3:=by rw[hL1];exact Nat.le_trans (List.length_filter_le _ _) HS.out.2
 have HS1:=qQ (And.intro hS1 (And.intro hl3 hL1))
 clear hL1 hS1 hl3
 have c4:=HA3.out.c4
 have c1:=HA3.out.ps.c1
 by_cases hRr:R≤rank
 ·have hx:X=(R,L1):=by rw[HX.out];unfold qy;simp only[];rw[if_pos hRr,←HS1.out.2.2]
  have HXX:=qQ hx
  clear hx
  go_wp2_with fail
  go_ret
  rw[HXX.out]
  exact⟨false,v3,rfl,HA3.out.ps,HA3.out.chg.old,λk hk=>by rcases HA3.out.own k hk with h|h;exact .inl h;right;omega⟩
 ·have hlt:rank<R:=by omega
  go_wp2_with fail
  have c5:=HA3.out.c5
  have c2:=HA3.out.ps.c2
  have f2:=HA3.out.ps.f 2
  have hrow:=HA3.out.ps.row
  have hsz:w.heap.size+1<w3.heap.size:=qX HA3.out.b5
  obtain⟨A3,cp3,rfl⟩:=HA3.out.ps.val
  have HROW:=qQ hrow
  have HSZ:=qQ (And.intro hsz HA3.out.lt)
  clear hrow hsz
  have hb4:w.heap.size≠b:=by have:=HSZ.out.2;omega
  have hb5:w.heap.size+1≠b:=by have:=HSZ.out.2;omega
  obtain⟨ei,z,i1,i2,i3,i4,i5,i6⟩:=ElP.2
  have hEI:=qQ (And.intro i1 (And.intro i2 (And.intro i3 (And.intro i4 (And.intro i5 i6)))))
  clear i1 i2 i3 i4 i5 i6
  have HONE:=qQ (show∀u∈[Value.int .i64 rank,.int .i64 node,.int .i64 now],u.oneCell'=true by intro u hu;simp at hu;rcases hu with rfl|rfl|rfl <;> rfl)
  have HLN:=qQ (show L1.length+1≤maxLen∧(L1.length+1)*24≤140737488355328 by have:=HS1.out.2.1;unfold maxLen;omega)
  have c4a:=qN c4 (.cells #[.int .i64 rank,.int .i64 node,.int .i64 now] 104)
  have c2a:=qN c2 (.cells #[.int .i64 rank,.int .i64 node,.int .i64 now] 104)
  go_cut [] (λwx=>∃g cap,HAt w b v me node (.slice (some ⟨g,0,none⟩) (L1.length+1) cap) R (L1++[⟨rank,node,now⟩]) wx)
  case first=>
   go_region_law
    ((
     refine step_append_lies (P:=Tryz.prog) _ (by rfl) (.tmp 48) (.tmp 53) 100 (by rfl) 0 104 ei z 3 24 Tryz.underlying100 hEI.out.1 hEI.out.2.1 hEI.out.2.2.1 hEI.out.2.2.2.1 hEI.out.2.2.2.2.1 hEI.out.2.2.2.2.2 (.slice A3 L1.length cp3) L1.length (L1.flatMap vH) rfl (qY HROW.out ((Chg.alloc (λ_=>False) w3 (.cells #[.int .i64 rank,.int .i64 node,.int .i64 now] 104)).trans (Chg.drew _ _)) (λ_ _ e=>e)) ⟨w3.heap.size,0,none⟩ 1 1 [.int .i64 rank,.int .i64 node,.int .i64 now] rfl rfl (World.news_of_block (w:=(w3.alloc (.cells #[.int .i64 rank,.int .i64 node,.int .i64 now] 104)).drew) (qV w3 (.cells #[.int .i64 rank,.int .i64 node,.int .i64 now] 104))) HONE.out (by omega) HLN.out.1 HLN.out.2 (Nat.zero_le _) (w3.heap.size+1) (by simp) ?_
     intro g5 cap5 w5 hown5 hgr5 hat5 hlt5
     have G5:Chg (λk=>(Value.slice A3 L1.length cp3).ownBlock=some k) w3 w5:=((Chg.alloc _ w3 (.cells #[.int .i64 rank,.int .i64 node,.int .i64 now] 104)).trans (Chg.drew _ _)).trans (qH hgr5 (λj e=>e.symm▸rfl))
     have k4:w5.cell? ⟨w.heap.size,0,none⟩=some (.pointer (some ⟨b,0,none⟩)):=by rw[qJ (Chg.keep G5 HA3.out.b4 (λe=>(HA3.out.ne4 (.inr e)).1 rfl))];rfl
     have k5:w5.cell? ⟨w.heap.size+1,0,none⟩=some (.int .i64 node):=by rw[qJ (Chg.keep G5 HA3.out.b5 (λe=>(HA3.out.ne4 (.inr e)).2 rfl))];rfl
     have kb:=Chg.keep G5 HA3.out.ps.blk (λe=>HA3.out.ps.ne e rfl)
     have k2:w5.cell? ⟨b,2,none⟩=some (.slice A3 L1.length cp3):=by rw[qJ kb];rfl
     have kf:w5.frozen? ⟨b,2,none⟩=false:=qK kb 2
     have HKB:=qQ kb
     have HG5:=qQ G5
     have HO5:=qQ (And.intro hown5 (And.intro hat5 hlt5))
     clear kb G5 hown5 hgr5 hat5 hlt5))
   all_goals
    go_wp2_with fail
    go_meet
    refine⟨g5,cap5,?_⟩
    have gs:=chg1 w5 b 2 (.slice (some ⟨g5,0,none⟩) (L1.length+1) cap5)
    have hneb:∀k,(Value.slice (some ⟨g5,0,none⟩) (L1.length+1) cap5).ownBlock=some k→k≠b:=λk hk=>by
     cases hk
     intro e
     have h1:=HKB.out
     rw[←e] at h1
     rcases HO5.out.1.2 with ⟨e2,_⟩|⟨g',c',cur,e2,_,hg,_⟩
     ·cases e2
     ·cases e2;rw[hg] at h1;cases h1
    have hrow5:RowP (w5.setCell ⟨b,2,none⟩ (.slice (some ⟨g5,0,none⟩) (L1.length+1) cap5)) 0 (.slice (some ⟨g5,0,none⟩) (L1.length+1) cap5) (L1++[⟨rank,node,now⟩]):=by
     have:=qY HO5.out.1 gs (λk hk e=>hneb k hk e)
     unfold RowP
     rw[List.flatMap_append,List.length_append]
     exact this
    have hps5:Ps (w5.setCell ⟨b,2,none⟩ (.slice (some ⟨g5,0,none⟩) (L1.length+1) cap5)) b (.slice (some ⟨g5,0,none⟩) (L1.length+1) cap5) me R (L1++[⟨rank,node,now⟩]):=⟨by simpa using qB HKB.out 2 (.slice (some ⟨g5,0,none⟩) (L1.length+1) cap5),hrow5⟩
    refine HA3.out.next hps5 ((HG5.out.mono (λk _ e=>(.inr e:PsS b (.slice A3 L1.length cp3) k))).trans (gs.mono (λk _ e=> .inl e))) ?_
    rcases HO5.out.2.1 with h|h
    ·exact .inl h.symm
    ·exact .inr ⟨g5,rfl,by omega⟩
  case rest=>
   obtain⟨g6,cap6,hA6⟩:=hcut
   have HA6:=qQ hA6
   clear hA6 c4 c1 c5 c2 f2 c4a c2a HROW hb4 hb5 HA3 HONE HLN hEI
   have hb4:w.heap.size≠b:=by have:=HSZ.out.2;omega
   have c4:=HA6.out.c4
   have c2:=HA6.out.ps.c2
   go_wp2_with fail
   clear c4 c2
   have hcp:L1.length+1≤cap6:=by
    rcases qD HA6.out.ps.row with ⟨e,_⟩|⟨_,_,e,_,_,h,_⟩
    ·cases e
    ·have e2:=(Value.slice.inj e).2.2
     rw[List.length_append] at h;simp at h;omega
   (with_reducible refine (sortP_any wc 0 g6 cap6 L1.length L1 ⟨rank,node,now⟩ rfl HS1.out.2.1 HS1.out.1.srt (by have:=HA6.out.ps.row;simpa [RowP] using this) hcp).mono ?_)
   rintro en w7 ⟨rfl,hso⟩
   have hps7:Ps w7 b (.slice (some ⟨g6,0,none⟩) (L1.length+1) cap6) me R (insP ⟨rank,node,now⟩ L1):=⟨Chg.keep hso.chg HA6.out.ps.blk (λe=>HA6.out.ps.ne rfl e.symm),hso.row⟩
   have HA7:=qQ (HA6.out.next hps7 (hso.chg.mono (λk _ e=>(.inr (by rw[show k=g6 from e];rfl):PsS b (.slice (some ⟨g6,0,none⟩) (L1.length+1) cap6) k))) (.inl rfl))
   clear hps7 hso hcp HA6
   have c4:=HA7.out.c4
   have c1:=HA7.out.ps.c1
   have f1:=HA7.out.ps.f 1
   go_wp2_with fail
   have hw1:IntKind.i64.wrap (rank+1)=rank+1:=IntWalk.i64_in _ (by omega)
   have hm1:¬(R<rank+1):=by omega
   have hm2:rank+1≤R:=by omega
   go_still_tail 10,(by kernel_rfl)
   change wpList _ _ _ _ _ w7.drew
   rw[show (if rank+1<R then rank+1 else R)=rank+1 from by split <;> omega]
   have HA8:=qQ (HA7.out.kept (Chg.drew (λ_=>False) w7))
   clear c4 c1 f1 hw1 hm1 HA7
   generalize w7.drew=w8 at *
   have c1:=HA8.out.ps.c1
   have f1:=HA8.out.ps.f 1
   obtain⟨M2,hM2⟩:∃M,M=insP ⟨rank,node,now⟩ L1:=⟨_,rfl⟩
   rw[←hM2] at HA8
   have hps9:=HA8.out.ps.set1 (rank+1)
   have hA9:=HA8.out.next hps9 ((chg1 w8 b 1 (.int .i64 (rank+1))).mono (λk _ e=> .inl e)) (.inl rfl)
   have HA9:=qQ hA9
   have c4:=HA8.out.c4
   have hM2l:M2.length≤4:=by rw[hM2,insP_len];have:=HS1.out.2.1;omega
   have HM2:=qQ (And.intro hM2 hM2l)
   clear hps9 hA9 HA8 hM2 hM2l
   go_wp2_with fail
   clear c4 c1 f1
   generalize w8.setCell ⟨b,1,none⟩ (.int .i64 (rank+1))=w9 at *
   have hl2:=lets_any w9 b (.slice (some ⟨g6,0,none⟩) (L1.length+1) cap6) me (rank+1) M2 203 #[.pointer (some ⟨w.heap.size,0,none⟩)] (λp=>decide (rank+1≤p.rank)) HA9.out.ps (by have:=HM2.out.2;omega) ⟨cf203,λz W hz g=>hear2 z w.heap.size b _ me (rank+1) W (Chg.keep g HA9.out.b4 (λe=>(HA9.out.ne4 (.inr e)).1 rfl)) (Chg.keep g HA9.out.ps.blk (λe=>HA9.out.ps.ne e rfl))⟩
   have HL2:=qQ hl2
   clear hl2
   with_reducible refine HL2.out.mono ?_
   rintro en w10 ⟨rfl,v10,hps10,G10,hv10⟩
   have HA10:=qQ (HA9.out.next hps10 G10 (.inl hv10))
   clear hps10 G10 hv10 HL2 HA9
   obtain⟨M3,hM3⟩:∃M,M=M2.filter (λp=>!(decide (rank+1≤p.rank))):=⟨_,rfl⟩
   rw[←hM3] at HA10
   have hM3l:M3.length≤4:=by rw[hM3];exact Nat.le_trans (List.length_filter_le _ _) HM2.out.2
   have hx:X=(rank+1,M3.take 3):=by
    rw[HX.out];unfold qy;simp only[]
    rw[if_neg (by omega),show min R (rank+1)=rank+1 from by omega,←HS1.out.2.2,←HM2.out.1,←hM3]
   have HM3:=qQ (And.intro hM3l hx)
   clear hM3 hM3l hx
   have c4:=HA10.out.c4
   have c5:=HA10.out.c5
   have c2:=HA10.out.ps.c2
   have f2:=HA10.out.ps.f 2
   obtain⟨A10,cp10,rfl⟩:=HA10.out.ps.val
   obtain⟨n10,hn10⟩:∃n,n=M3.length:=⟨_,rfl⟩
   rw[←hn10] at c2 HA10
   have HN10:=qQ hn10
   have hn4:(n10:Int)≤4:=by have:=HM3.out.1;omega
   clear hn10
   have hend:∀w11 v11,HAt w b v me node v11 (rank+1) (M3.take 3) w11→∀en w12,PRankOf w11 en w12→True:=λ_ _ _ _ _ _=>trivial
   by_cases h3:n10≤3
   ·have hT:M3.take 3=M3:=List.take_of_length_le (by have:=HN10.out;omega)
    have h3i:(n10:Int)≤3:=by omega
    go_wp2_with fail
    (with_reducible refine (rankof_any w10 b _ me (rank+1) M3 node HA10.out.ps (by have:=HM3.out.1;omega)).mono ?_)
    rintro en w11 ⟨rr,tt,rfl,G11⟩
    have HA11:=qQ (HA10.out.kept G11)
    have HT:=qQ hT
    clear G11 hT HA10 c4 c5 c2 f2
    go_wp2_with fail
    go_ret
    rw[HM3.out.2,HT.out]
    exact⟨tt,_,rfl,HA11.out.ps,HA11.out.chg.old,λk hk=>by rcases HA11.out.own k hk with h|h;exact .inl h;right;omega⟩
   ·have h3i:(3:Int)<n10:=by omega
    obtain⟨g10,cq10,e10,hcq⟩:∃g cap,A10=some ⟨g,0,none⟩∧3≤cp10:=by
     rcases qD HA10.out.ps.row with ⟨e,h1,_⟩|⟨g,cap,e,_,_,h,_⟩
     ·have:=HN10.out;omega
     ·cases e;exact⟨g,0,rfl,by have:=HN10.out;omega⟩
    subst e10
    have hcq2:(3:Int)≤cp10:=by omega
    go_wp2_with fail
    go_still_tail 8,(by kernel_rfl)
    change wpList _ _ _ _ _ w10.drew
    have HA11:=qQ (HA10.out.kept (Chg.drew (λ_=>False) w10))
    clear c4 c5 c2 f2 HA10
    generalize w10.drew=w11 at *
    have c4:=HA11.out.c4
    have c5:=HA11.out.c5
    have f2:=HA11.out.ps.f 2
    have c2:=HA11.out.ps.c2
    have gs:=chg1 w11 b 2 (.slice (some ⟨g10,0,none⟩) 3 cp10)
    have hrow:RowP (w11.setCell ⟨b,2,none⟩ (.slice (some ⟨g10,0,none⟩) 3 cp10)) 0 (.slice (some ⟨g10,0,none⟩) 3 cp10) (M3.take 3):=by
     have h0:=HA11.out.ps.row
     unfold RowP at h0 ⊢
     rw[←HN10.out] at h0
     have h1:=own_less h0 (show 3≤n10 by omega)
     rw[take_flat z6 M3 3 (by have:=HN10.out;omega)] at h1
     have hl:(M3.take 3).length=3:=by rw[List.length_take];have:=HN10.out;omega
     rw[hl]
     exact qY h1 gs (λk hk e=>HA11.out.ps.ne hk e)
    have hps12:Ps (w11.setCell ⟨b,2,none⟩ (.slice (some ⟨g10,0,none⟩) 3 cp10)) b (.slice (some ⟨g10,0,none⟩) 3 cp10) me (rank+1) (M3.take 3):=⟨by simpa using qB HA11.out.ps.blk 2 (.slice (some ⟨g10,0,none⟩) 3 cp10),hrow⟩
    have HA12:=qQ (HA11.out.next hps12 (gs.mono (λk _ e=> .inl e)) (.inl rfl))
    clear gs hrow hps12 HA11
    go_wp2_with fail
    clear c4 c5 f2 c2
    generalize w11.setCell ⟨b,2,none⟩ (.slice (some ⟨g10,0,none⟩) 3 cp10)=w12 at *
    (with_reducible refine (rankof_any w12 b _ me (rank+1) (M3.take 3) node HA12.out.ps (by rw[List.length_take];omega)).mono ?_)
    rintro en w13 ⟨rr,tt,rfl,G13⟩
    have HA13:=qQ (HA12.out.kept G13)
    clear G13 HA12
    go_wp2_with fail
    go_ret
    rw[HM3.out.2]
    exact⟨tt,_,rfl,HA13.out.ps,HA13.out.chg.old,λk hk=>by rcases HA13.out.own k hk with h|h;exact .inl h;right;omega⟩
theorem less_any(a b:Int)(w:World):Calls Tryz.prog 223 #[.int .i64 a,.int .i64 b] w λe w'=>e= .returned (.bool (decide (a<b)))∧w'=w:=by
 go_enter Tryz.func223,Tryz.ntmps223
 go_wp2_with fail
 (with_reducible refine (j8 _ _).mono ?_)
 rintro en w1 ⟨rfl,rfl⟩
 go_wp2_with fail
 all_goals
  go_ret
  exact⟨rfl,rfl⟩
structure NoAt(w:World)(base g cap N:Nat)(W:World):Prop where
 row:∃zs:List Int,zs.length=N∧W.ownsRow base 3 1 (.slice (some ⟨g,0,none⟩) N cap) N (zs.map VI)
 chg:Chg (· =g) w W
theorem insertI_any(w:World)(base g cap N:Nat)(hN:N≤4)(h:NoAt w base g cap N w):
  Calls Tryz.prog 217 #[.slice (some ⟨g,0,none⟩) N cap,.int .i64 0,.int .i64 N] w (λe w'=>e= .returned (.tuple #[])∧NoAt w base g cap N w'):=by
 have HA:=qQ h
 have hN4:(N:Int)≤4:=by omega
 clear h
 go_enter Tryz.func217,Tryz.ntmps217
 go_wp2_with fail
 go_loopw [6] (λu6 wr=>∃(i:Nat),1≤i∧i≤5∧u6= .int .i64 i∧NoAt w base g cap N wr) (λu6 _=>6-(intOf u6).toNat)
 case atStart=>exact⟨1,by omega,by omega,rfl,HA.out⟩
 case round=>
  obtain⟨i,hi1,hi2,rfl,hD⟩:=hrel
  have HD:=qQ hD
  clear hD HA
  by_cases hlt:i<N
  ·obtain⟨wo,rfl⟩:∃wo:World,wo=wr:=⟨_,rfl⟩
   go_wp2_with fail
   go_loopw [7] (λu7 wq=>∃(k:Nat),k≤i∧u7= .int .i64 k∧NoAt w base g cap N wq) (λu7 _=>(intOf u7).toNat)
   case atStart=>exact⟨i,Nat.le_refl _,rfl,HD.out⟩
   case round=>
    obtain⟨k,hk,rfl,hE⟩:=hrel
    have HE:=qQ hE
    clear hE HD
    by_cases hk0:k=0
    ·subst hk0
     have hg:decide ((0:Int)<0)=false:=by decide
     go_wp2_with fail
     with_reducible refine wp_region_still_lit (by kernel_rfl) (by kernel_rfl) ?_
     repeat (with_reducible refine wpStill_step (λK hK=>?_);go_simp;with_reducible refine hK _ ?_;clear hK K)
     with_reducible refine wpStill_nil ?_
     change Exit.then _ _ _ _ wr.drew
     go_wp2_with fail
     exact⟨⟨i+1,by omega,by omega,by go_num,⟨HE.out.row,HE.out.chg.trans (Chg.drew _ _)⟩⟩,by simp[intOf];omega⟩
    ·obtain⟨zs,hzl,hrow⟩:=HE.out.row
     obtain⟨b,hb⟩:∃b,zs[k]? =some b:=⟨_,List.getElem?_eq_getElem (by omega)⟩
     obtain⟨a,ha⟩:∃a,zs[k-1]? =some a:=⟨_,List.getElem?_eq_getElem (by omega)⟩
     obtain⟨I,F,hI,hF,hFA⟩:=clsF wr
     have b0:=qF hF (qr hrow k (VI b) (by rw[List.getElem?_map,hb];rfl))
     have a0:=qF hF (qr hrow (k-1) (VI a) (by rw[List.getElem?_map,ha];rfl))
     unfold VI at b0 a0
     have hby:∀m',Calls Tryz.prog 223 #[.int .i64 b,.int .i64 a] (F m') (λe w'=>e= .returned (.bool (decide (b<a)))∧∃m,w'=F m):=λm'=>(less_any b a (F m')).mono λe w' ⟨h1,h2⟩=>⟨h1,m',h2⟩
     have HBY:=qQ hby
     have HFF:=qQ hF
     have HFA:=qQ (hFA _ (Chg.drew _ _))
     have HR:=qQ (And.intro hzl (And.intro hrow (And.intro hb ha)))
     have e1:IntKind.i64.wrap ((k:Int)-1)=((k-1:Nat):Int):=by rw[IntWalk.i64_in _ (by omega)];omega
     have i1:(k:Int)<(N:Int):=by omega
     have i2:((k-1:Nat):Int)<(N:Int):=by omega
     have i3:decide (0<k)=true:=by simp;omega
     clear hzl hrow hb ha hby hF hFA
     go_wp2_with fail
     with_reducible refine qW F (by kernel_rfl) (by kernel_rfl) HFA.out ?_
     repeat (with_reducible refine wpQuiet_step (λK hK=>?_);go_simp;first|(with_reducible refine hK _ ?_;clear hK K)|(apply Exists.intro;with_reducible refine⟨λ_=>?_,hK _ ?_⟩;(first|exact HBY.out _);clear hK K))
     with_reducible refine wpQuiet_nil ?_
     intro _ hw'
     obtain⟨nq,rfl⟩:=hw'
     have hgq:=HFF.out nq
     have HR2:=qQ (And.intro (qY HR.out.2.1 hgq (λ_ _ e=>e)) (HE.out.chg.trans hgq.none))
     clear hgq b0 a0 HFF HFA HBY hI
     generalize F nq=w2 at *
     by_cases hc:b<a
     ·have b0:=qr HR2.out.1 k (VI b) (by rw[List.getElem?_map,HR.out.2.2.1];rfl)
      have a0:=qr HR2.out.1 (k-1) (VI a) (by rw[List.getElem?_map,HR.out.2.2.2];rfl)
      unfold VI at b0 a0
      have fk:=jB HR2.out.1 k
      have fj:=jB HR2.out.1 (k-1)
      go_wp2_with fail
      go_region
      all_goals go_wp2_with fail
      have r1:=own_set HR2.out.1 k (.int .i64 a) (by omega)
      have r2:=own_set r1 (k-1) (.int .i64 b) (by omega)
      have e2:((zs.map VI).set k (.int .i64 a)).set (k-1) (.int .i64 b)=((zs.set k a).set (k-1) b).map VI:=by rw[List.map_set,List.map_set];rfl
      rw[e2] at r2
      have g3:=HR2.out.2.trans (((chg1 w2 g k (.int .i64 a)).trans (chg1 _ g (k-1) (.int .i64 b))).trans (Chg.drew _ _))
      exact⟨⟨k-1,by omega,rfl,⟨⟨_,by simp[HR.out.1],qY r2 (Chg.drew (λ_=>False) _) (λ_ _ e=>e)⟩,g3⟩⟩,by simp[intOf];omega⟩
     ·have hc2:a≤b:=by omega
      have HX:=qQ (show NoAt w base g cap N w2 from ⟨⟨zs,HR.out.1,HR2.out.1⟩,HR2.out.2⟩)
      clear hc HR HR2 HE
      go_wp2_with fail
      exact⟨⟨i+1,by omega,by omega,by go_num,HX.out⟩,by simp[intOf];omega⟩
  ·go_wp2_with fail
   go_end0
   exact⟨rfl,HD.out⟩
theorem pdqI_any(w:World)(base g cap N:Nat)(lim:Int)(hN:N≤4)(h:NoAt w base g cap N w):
  Calls Tryz.prog 171 #[.slice (some ⟨g,0,none⟩) N cap,.int .i64 0,.int .i64 N,.int .i64 lim] w (λe w'=>e= .returned (.tuple #[])∧NoAt w base g cap N w'):=by
 have HI:=qQ (insertI_any w base g cap N hN h)
 have hN4:(N:Int)≤12:=by omega
 have hN5:N≤12:=by omega
 clear hN h
 go_enter Tryz.func171,Tryz.ntmps171
 go_wp2_with fail
 refine wp_loop_rounds 1 ?_
 rw[rounds_succ]
 go_wp2_with fail
 with_reducible refine HI.out.mono ?_
 rintro en w1 ⟨rfl,hR⟩
 have HR:=qQ hR
 clear hR HI
 go_wp2_with fail
 exact bodyPost_ret (v:= .tuple #[]) (by simp[results,Tryz.results171,go_sem]) rfl ⟨rfl,HR.out⟩
theorem sortI_any(w:World)(base g cap N:Nat)(hN:N≤4)(h:NoAt w base g cap N w):
  Calls Tryz.prog 120 #[.slice (some ⟨g,0,none⟩) N cap] w (λe w'=>e= .returned (.tuple #[])∧NoAt w base g cap N w'):=by
 have hp:=λlim=>pdqI_any w base g cap N lim hN h
 have hl:=len_small N hN w
 have HP:=qQ hp
 have HL:=qQ hl
 have hN4:(N:Int)≤12:=by omega
 clear hp hl h hN
 go_enter Tryz.func120,Tryz.ntmps120
 go_wp2_with fail
 with_reducible refine HL.out.mono ?_
 rintro en w1 ⟨lim,rfl,rfl⟩
 clear HL
 go_wp2_with fail
 (with_reducible refine (HP.out lim).mono ?_)
 rintro en w1 ⟨rfl,hR⟩
 have HR:=qQ hR
 clear hR HP
 go_wp2_with fail
 go_end0
 exact⟨rfl,HR.out⟩
theorem insertI_nil(w:World):Calls Tryz.prog 217 #[.slice none 0 0,.int .i64 0,.int .i64 0] w (λe w'=>e= .returned (.tuple #[])∧w'=w):=by
 go_enter Tryz.func217,Tryz.ntmps217
 go_wp2_with fail
 go_loop [6] (λu6=>u6= .int .i64 1) (λu6=>6-(intOf u6).toNat)
 case atStart=>rfl
 case round=>
  obtain rfl:=hrel
  go_wp2_with fail
  go_end0
  exact⟨rfl,rfl⟩
theorem pdqI_nil(w:World)(lim:Int):Calls Tryz.prog 171 #[.slice none 0 0,.int .i64 0,.int .i64 0,.int .i64 lim] w (λe w'=>e= .returned (.tuple #[])∧w'=w):=by
 go_enter Tryz.func171,Tryz.ntmps171
 go_wp2_with fail
 refine wp_loop_rounds 1 ?_
 rw[rounds_succ]
 go_wp2_with fail
 (with_reducible refine (insertI_nil w).mono ?_)
 rintro en w1 ⟨rfl,rfl⟩
 go_wp2_with fail
 exact bodyPost_ret (v:= .tuple #[]) (by simp[results,Tryz.results171,go_sem]) rfl ⟨rfl,rfl⟩
theorem sortI_nil(w:World):Calls Tryz.prog 120 #[.slice none 0 0] w (λe w'=>e= .returned (.tuple #[])∧w'=w):=by
 have hl0:Calls Tryz.prog 172 #[.int .u64 0] w λe w'=>∃x,e= .returned (.int .i64 x)∧w'=w:=len_small 0 (by omega) w
 have HL:=qQ hl0
 clear hl0
 go_enter Tryz.func120,Tryz.ntmps120
 go_wp2_with fail
 with_reducible refine HL.out.mono ?_
 rintro en w1 ⟨lim,rfl,rfl⟩
 clear HL
 go_wp2_with fail
 (with_reducible refine (pdqI_nil w1 lim).mono ?_)
 rintro en w1 ⟨rfl,rfl⟩
 go_wp2_with fail
 go_end0
 exact⟨rfl,rfl⟩
theorem cf122(args:Array Value)(w':World):(callFunc 122 args).run Tryz.prog w'= .ok (.enter 122 args) w':=by kernel_rfl
theorem old1(p:Pa)(q:Int)(b:Nat)(w:World)(hb:b<w.heap.size)(hc:w.cell? ⟨b,0,none⟩=some (.int .i64 q)):Calls Tryz.prog 122 #[VPa p,.pointer (some ⟨b,0,none⟩)] w (PV (.bool (decide (p.heard≤q))) w):=by
 unfold VPa
 have hne:¬(b=w.heap.size):=by omega
 go_enter Tryz.func122,Tryz.ntmps122
 go_wp2_with fail
 go_ret
 exact⟨rfl,Chg.alloc _ _ _⟩
def POld(w:World)(b:Nat)(v:Value)(me R:Int)(M:List Pa)(en:Ending)(w':World):Prop:=
 ∃vo v',en= .returned vo∧Ps w' b v' me R M∧Chg (PsS b v) w w'∧v'.ownBlock=v.ownBlock
theorem psold_any(w:World)(b:Nat)(v:Value)(me R:Int)(L:List Pa)(now loss:Int)(h:Ps w b v me R L)(hL:L.length≤3)(ht:0≤now)(ht2:now≤1099511627776)(hl:1<loss)(hl2:loss≤10000):
  Calls Tryz.prog 74 #[.pointer (some ⟨b,0,none⟩),.int .i64 now,.int .i64 loss] w (POld w b v me R (L.filter (λp=>!(decide (p.heard≤now-loss))))):=by
 obtain⟨last,hlast⟩:=qZ (now-loss)
 rw[←hlast]
 have htd:decide (now<0)=false:=by simp;omega
 have H:=qQ h
 have c2:=h.c2
 have hbl:=qX h.blk
 obtain⟨A,c,rfl⟩:=h.val
 obtain⟨len,hlen⟩:∃n,n=L.length:=⟨_,rfl⟩
 rw[←hlen] at c2 hL H ⊢
 have hl3:(len:Int)≤3:=by omega
 have HL:=qQ (And.intro hlen hbl)
 have HLA:=qQ hlast
 have hne:¬(b=w.heap.size):=by omega
 have hne2:¬(w.heap.size=b):=by omega
 clear h hlen hlast
 go_enter Tryz.func74,Tryz.ntmps74
 go_wp2_with fail
 rw[←HLA.out]
 have hg1:=Chg.alloc (λ_=>False) w (.cells #[.int .i64 last] 2)
 have hb1:=qV w (.cells #[.int .i64 last] 2)
 have HW1:=qQ (And.intro hg1 (And.intro hb1 (show w.heap.size+1≤(w.alloc (.cells #[.int .i64 last] 2)).heap.size by simp)))
 clear hg1 hb1 c2
 generalize w.alloc (.cells #[.int .i64 last] 2)=w1 at *
 go_loopw [7,26] (λu7 i wr=>∃(k:Nat) (zs:List Int),k≤len∧i= .int .i64 k∧zs.length≤k∧wr.ownsRow (w.heap.size+1) 3 1 u7 zs.length (zs.map VI)∧Chg (λj=>w.heap.size+1≤j) w1 wr) (λ_ i _=>len-(intOf i).toNat)
 case atStart=>exact⟨0,[],by omega,rfl,by simp,World.ownsRow_nil _ _ _ _,Chg.refl _ _⟩
 case round=>
  obtain⟨k,zs,hk,rfl,hzk,hO,hG⟩:=hrel
  have HO:=qQ (And.intro hzk hO)
  have HG:=qQ hG
  clear hO hG
  by_cases hlt:k<len
  ·obtain⟨z,hz⟩:∃z,L[k]? =some z:=⟨_,List.getElem?_eq_getElem (by have:=HL.out.1;omega)⟩
   obtain⟨g,cap,hv⟩:∃g cap,A=some ⟨g,0,none⟩∧c=cap:=by
    rcases qD H.out.row with ⟨e,h1,_⟩|⟨g,cap,e,_⟩
    ·have:=HL.out.1;omega
    ·cases e;exact⟨_,_,rfl,rfl⟩
   obtain⟨rfl,rfl⟩:=hv
   have hgs:g<w.heap.size:=(qg H.out.row rfl).2
   have hrow1:RowP w1 0 _ L:=qY H.out.row HW1.out.1 (λ_ _ e=>e)
   have hrow:RowP wr 0 _ L:=qY hrow1 HG.out (λj hj e=>by cases hj;have:w.heap.size+1≤g:=e;omega)
   obtain⟨d0,d1,d2⟩:=hrow.at hz
   have i1:(k:Int)<(len:Int):=by omega
   have hlc:wr.cell? ⟨w.heap.size,0,none⟩=some (.int .i64 last):=by rw[qJ (Chg.keep HG.out HW1.out.2.1 (λe=>by have:w.heap.size+1≤w.heap.size:=e;omega))];rfl
   have hsz:w.heap.size+1≤wr.heap.size:=Nat.le_trans HW1.out.2.2 HG.out.size
   have hnew:¬(w.heap.size=wr.heap.size):=by omega
   have hsz2:w.heap.size<wr.heap.size:=by omega
   have hlc:=qN hlc (.cells #[.int .i64 z.rank,.int .i64 z.node,.int .i64 z.heard] 104)
   have hga:=Chg.alloc (λ_=>False) wr (.cells #[.int .i64 z.rank,.int .i64 z.node,.int .i64 z.heard] 104)
   have HGA:=qQ (And.intro (HG.out.trans hga.none) (qY HO.out.2 hga (λ_ _ e=>e)))
   have hz4:zs.length≤3:=by have:=HO.out.1;omega
   clear hz hrow hrow1 hga
   by_cases hq:z.heard≤last
   ·go_wp2_with (at_builtin;go_loud (refine app1 (V:=VI) elI rfl (.tmp 34) (.tmp 37) rfl (w.heap.size+1) u7 zs.length (zs.map VI) rfl (HGA.out.2.alloc _) (wr.heap.size+1) z.node rfl ?c1 rfl (by omega) (by omega) ?hb ?grow))
    case c1=>simp[VI]
    case hb=>simp;omega
    case grow=>
     intro v4 w4 hown hgr hat
     have ga:=Chg.alloc (λ_=>False) (wr.alloc (.cells #[.int .i64 z.rank,.int .i64 z.node,.int .i64 z.heard] 104)) (.cells #[.int .i64 z.node] 3)
     have gg:=qH (S:=λj=>w.heap.size+1≤j) hgr (λj e=>(qT HGA.out.2 e).1)
     have hX:w4.ownsRow (w.heap.size+1) 3 1 v4 (zs++[z.node]).length ((zs++[z.node]).map VI):=by rw[List.map_append,List.length_append];exact hown
     have HX:=qQ (And.intro hX ((HGA.out.1.trans ga.none).trans gg))
     have HZK:=qQ HO.out.1
     clear hown hgr hat ga gg hX HGA HO d0 d1 d2 hlc hq
     go_wp2_with fail
     go_roundw
     case measure=>simp[intOf];omega
     case rel=>exact⟨k+1,_,by omega,by go_num,by rw[List.length_append];have:=HZK.out;simp;omega,HX.out.1,HX.out.2⟩
   ·have hq2:last<z.heard:=by omega
    clear hq
    go_wp2_with fail
    go_roundw
    case measure=>simp[intOf];omega
    case rel=>exact⟨k+1,zs,by omega,by go_num,by have:=HO.out.1;omega,HGA.out.2,HGA.out.1⟩
  ·obtain rfl:k=len:=by omega
   have hsort:∃(P:World→Prop),(∀W,P W→Chg (λj=>w.heap.size+1≤j) w1 W)∧Calls Tryz.prog 120 #[u7] wr (λe w'=>e= .returned (.tuple #[])∧P w'):=by
    rcases qD HO.out.2 with ⟨e,h1,_⟩|⟨g,cap,e,hb,_⟩
    ·rw[e]
     exact⟨λW=>W=wr,λW hW=>hW▸HG.out,sortI_nil wr⟩
    ·have hz4:zs.length≤4:=by have:=HO.out.1;omega
     have hO:=HO.out.2
     rw[e] at hO ⊢
     have hna:NoAt wr (w.heap.size+1) g cap zs.length wr:=⟨⟨zs,rfl,hO⟩,Chg.refl _ _⟩
     exact⟨λW=>NoAt wr (w.heap.size+1) g cap zs.length W,λW hW=>HG.out.trans (hW.chg.mono (λj _ e=>by have:j=g:=e;show w.heap.size+1≤j;omega)),sortI_any wr _ g cap zs.length hz4 hna⟩
   obtain⟨P,hP,hcall⟩:=hsort
   have HP:=qQ hP
   have HC:=qQ hcall
   obtain⟨Ao,co,no,rfl⟩:∃A c n,u7= .slice A n c:=by
    rcases qD HO.out.2 with ⟨e,h1,_⟩|⟨g,cap,e,_⟩
    ·exact⟨_,_,_,e⟩
    ·exact⟨_,_,_,e⟩
   clear hP hcall HO HG
   go_wp2_with fail
   with_reducible refine HC.out.mono ?_
   rintro en w3 ⟨rfl,hp3⟩
   have hg3:=HP.out w3 hp3
   have hps3:Ps w3 b (.slice A k c) me R L:=(H.out.kept HW1.out.1).keep hg3 (λj hj e=>by
    have e:w.heap.size+1≤j:=e
    rcases hj with rfl|hj
    ·have:=HL.out.2;omega
    ·have:=(qg H.out.row hj).2;omega)
   have hb3:=Chg.keep hg3 HW1.out.2.1 (λe=>by have:w.heap.size+1≤w.heap.size:=e;omega)
   have hgo:∀j,(Value.slice A k c).ownBlock=some j→j<w.heap.size:=λj hj=>(qg H.out.row hj).2
   have HG3:=qQ (HW1.out.1.none.trans (hg3.mono (λj _ e=>(show w.heap.size≤j by have e:w.heap.size+1≤j:=e;omega))):Chg (λj=>w.heap.size≤j) w w3)
   have hlets:=lets_any w3 b (.slice A k c) me R L 122 #[.pointer (some ⟨w.heap.size,0,none⟩)] (λp=>decide (p.heard≤last)) hps3 (by have:=HL.out.1;omega) ⟨cf122,λz W hz g=>old1 z last w.heap.size W (Nat.lt_of_lt_of_le (qX hb3) g.size) (by
    rw[qJ (Chg.keep g hb3 (λe=>by have:=hgo _ e;omega))];rfl)⟩
   have HLT:=qQ hlets
   clear hp3 hg3 hps3 hb3 hgo hlets HP HC
   go_wp2_with fail
   with_reducible refine HLT.out.mono ?_
   rintro en w4 ⟨rfl,v4,hps4,G4,hv4⟩
   have HF:=qQ (And.intro hps4 (And.intro ((HG3.out.mono (λj _ e=> .inr e):Chg (λj=>PsS b (.slice A k c) j∨w.heap.size≤j) w w3).trans (G4.mono (λj _ e=> .inl e))).old hv4))
   clear hps4 G4 hv4 HLT HG3
   go_wp2_with fail
   go_ret
   exact⟨_,v4,rfl,HF.out.1,HF.out.2.1,HF.out.2.2⟩
end Go.Proofs.YtnpihllannobgaaGreatDoor
