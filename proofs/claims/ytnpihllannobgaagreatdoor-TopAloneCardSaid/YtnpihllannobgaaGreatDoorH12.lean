/- Steps of the proof, part H12. No condition. -/
import Derived.Test.YtnpihllannobgaaGreatDoorH10
import Derived.Deep.RegionLaw
import Derived.Deep.DeepCutAuto
namespace Go.Proofs.YtnpihllannobgaaGreatDoor
set_option linter.unusedVariables false
set_option linter.unusedSimpArgs false
set_option maxRecDepth 100000
set_option maxHeartbeats 32000000
open Go.ChangeShapes Go.WideShapes Go.ChangeAt Go.RowKit
def PHear(w:World)(b:Nat)(v:Value)(me:Int)(x:Int×List Pa)(en:Ending)(w':World):Prop:=
 ∃(t:Bool) (v':Value),en= .returned (.bool t)∧Ps w' b v' me x.1 x.2∧Chg (PsS b v) w w'∧∀k,v'.ownBlock=some k→v.ownBlock=some k∨w.heap.size≤k
structure HAt(w:World)(b:Nat)(v0:Value)(me node:Int)(v:Value)(R:Int)(L:List Pa)(W:World):Prop where
 b4:W.heap[w.heap.size]? =some (.cells #[.pointer (some ⟨b,0,none⟩)] 66 (0,0))
 b5:W.heap[w.heap.size+1]? =some (.cells #[.int .i64 node] 3 (0,0))
 ps:Ps W b v me R L
 chg:Chg (λk=>PsS b v0 k∨w.heap.size≤k) w W
 lt:b<w.heap.size
 own:∀k,v.ownBlock=some k→v0.ownBlock=some k∨w.heap.size+2≤k
 old:∀k,v0.ownBlock=some k→k<w.heap.size
section
variable {w W W':World}{b:Nat}{v0 v v':Value}{me node R R':Int}{L M:List Pa}
theorem HAt.ne4(h:HAt w b v0 me node v R L W){k:Nat}(hk:PsS b v k):k≠w.heap.size∧k≠w.heap.size+1:=by
 rcases hk with rfl|hk
 ·have:=h.lt;omega
 ·rcases h.own k hk with h1|h1
  ·have:=h.old k h1;omega
  ·omega
theorem HAt.kept(h:HAt w b v0 me node v R L W)(g:Chg (λ_=>False) W W'):HAt w b v0 me node v R L W':=
 ⟨Chg.keep g h.b4 (λe=>e),Chg.keep g h.b5 (λe=>e),h.ps.kept g,h.chg.trans g.none,h.lt,h.own,h.old⟩
theorem HAt.next(h:HAt w b v0 me node v R L W)(k:Ps W' b v' me R' M)(g:Chg (PsS b v) W W')(hv:v'.ownBlock=v.ownBlock∨∃q,v'.ownBlock=some q∧W.heap.size≤q):HAt w b v0 me node v' R' M W':=
 ⟨Chg.keep g h.b4 (λe=>(h.ne4 e).1 rfl),Chg.keep g h.b5 (λe=>(h.ne4 e).2 rfl),k,h.chg.trans (g.mono (λq _ e=>by
  rcases e with e|e
  ·exact .inl (.inl e)
  ·rcases h.own q e with h1|h1
   ·exact .inl (.inr h1)
   ·right;omega)),h.lt,λq hq=>by
  rcases hv with hv|⟨q',hv,hs⟩
  ·exact h.own q (by rw[←hv];exact hq)
  ·rw[hv] at hq;cases hq
   have:=qX h.b5
   right;omega,h.old⟩
theorem HAt.c4(h:HAt w b v0 me node v R L W):W.cell? ⟨w.heap.size,0,none⟩=some (.pointer (some ⟨b,0,none⟩)):=by rw[qJ h.b4];rfl
theorem HAt.c5(h:HAt w b v0 me node v R L W):W.cell? ⟨w.heap.size+1,0,none⟩=some (.int .i64 node):=by rw[qJ h.b5];rfl
end
theorem cell_st{w:World}{p:Addr}{v:Value}(h:w.cell? p=some v){b:Nat}(hb:p.block≠b)(o:Nat)(x:Value):(w.setCell ⟨b,o,none⟩ x).cell? p=some v:=by
 rw[(chg1 w b o x).cell (qG h) hb,h]
theorem ElP:ElS 100 104 3 24:=ElS.of (z:= .agg #[.int .i64 0,.int .i64 0,.int .i64 0]) (by kernel_rfl) (by kernel_rfl) (by decide+kernel) (by decide)
theorem pshear_any(w:World)(b:Nat)(v:Value)(me R:Int)(L:List Pa)(node rank now:Int)(h:Ps w b v me R L)(hL:L.length≤3)(hS:PSrt L)(hn:0≤node∧node≤15)(hm:node≠me)(hr:0≤rank∧rank≤255)(ht:0≤now)(hR:0≤R∧R≤255):
  Calls Tryz.prog 158 #[.pointer (some ⟨b,0,none⟩),.int .i64 node,.int .i64 rank,.int .i64 now] w (PHear w b v me (jh R L node rank now)):=by
 have hlb:=qX h.blk
 have hA0:HAt w b v me node v R L ((w.alloc (.cells #[.pointer (some ⟨b,0,none⟩)] 66)).alloc (.cells #[.int .i64 node] 3)):=by
  have g1:=Chg.alloc (λ_=>False) w (.cells #[.pointer (some ⟨b,0,none⟩)] 66)
  have g2:=Chg.alloc (λ_=>False) (w.alloc (.cells #[.pointer (some ⟨b,0,none⟩)] 66)) (.cells #[.int .i64 node] 3)
  refine⟨Chg.keep g2 (qV w _) (λe=>e),?_,h.kept (g1.trans g2),(g1.trans g2).none,hlb,λk hk=> .inl hk,λk hk=>(qg h.row hk).2⟩
  have:=qV (w.alloc (.cells #[.pointer (some ⟨b,0,none⟩)] 66)) (.cells #[.int .i64 node] 3)
  simpa using this
 obtain⟨X,hX⟩:=qZ (jh R L node rank now)
 rw[←hX]
 have HX:=qQ hX
 have HA0:=qQ hA0
 have HS:=qQ (And.intro hS hL)
 obtain⟨n0,n1⟩:=hn
 obtain⟨r0,r1⟩:=hr
 obtain⟨R0,R1⟩:=hR
 have hme:(node==me)=false:=by simpa using hm
 have HP:=qQ (λn a b h1 h2 w=>pin_yes n a b h1 h2 w)
 clear hA0 h hS hL hX hlb hm
 go_enter Tryz.func158,Tryz.ntmps158
 go_wp2_with fail
 generalize (w.alloc (.cells #[.pointer (some ⟨b,0,none⟩)] 66)).alloc (.cells #[.int .i64 node] 3)=w1 at *
 obtain⟨I,F,hI,hF,hFA⟩:=clsF w1
 have c4:=qF hF HA0.out.c4
 have c5:=qF hF HA0.out.c5
 have c0:=qF hF HA0.out.ps.c0
 have hp1:∀m,Calls Tryz.prog 199 #[.int .i64 node,.int .i64 0,.int .i64 15] (F m) (λe w'=>e= .returned (.bool true)∧∃m,w'=F m):=λm=>(HP.out node 0 15 n0 n1 (F m)).mono λe w' ⟨h1,h2⟩=>⟨h1,m,h2⟩
 have hp2:∀m,Calls Tryz.prog 199 #[.int .i64 rank,.int .i64 0,.int .i64 255] (F m) (λe w'=>e= .returned (.bool true)∧∃m,w'=F m):=λm=>(HP.out rank 0 255 r0 r1 (F m)).mono λe w' ⟨h1,h2⟩=>⟨h1,m,h2⟩
 have HP1:=qQ hp1
 have HP2:=qQ hp2
 have HFF:=qQ hF
 have HFA:=qQ (hFA _ (Chg.drew _ _))
 have htd:decide (now<0)=false:=by simp;omega
 clear hp1 hp2 hF hFA
 with_reducible refine qW F (by kernel_rfl) (by kernel_rfl) HFA.out ?_
 repeat (with_reducible refine wpQuiet_step (λK hK=>?_);go_simp;first|(with_reducible refine hK _ ?_;clear hK K)|(apply Exists.intro;with_reducible refine⟨λ_=>?_,hK _ ?_⟩;(first|exact HP1.out _|exact HP2.out _);clear hK K))
 with_reducible refine wpQuiet_nil ?_
 intro _ hw'
 obtain⟨nq,rfl⟩:=hw'
 have HA1:=qQ (HA0.out.kept (HFF.out nq))
 clear HFF HFA HP1 HP2 c4 c5 c0 hI HA0
 generalize F nq=w2 at *
 have c4:=HA1.out.c4
 go_wp2_with fail
 clear c4
 have hl1:=lets_any w2 b v me R L 200 #[.pointer (some ⟨w.heap.size+1,0,none⟩)] (λp=>p.node==node) HA1.out.ps (by have:=HS.out.2;omega) ⟨cf200,λz W hz g=>hear1 z node (w.heap.size+1) W (Nat.lt_of_lt_of_le (qX HA1.out.b5) g.size) (by
  rw[qJ (Chg.keep g HA1.out.b5 (λe=>(HA1.out.ne4 (.inr e)).2 rfl))];rfl)⟩
 have HL1:=qQ hl1
 clear hl1
 with_reducible refine HL1.out.mono ?_
 rintro en w3 ⟨rfl,v3,hps3,G3,hv3⟩
 have HA3:=qQ (HA1.out.next hps3 G3 (.inl hv3))
 clear hps3 G3 hv3 HL1 HA1
 obtain⟨L1,hL1⟩:=qZ (L.filter (λp=>!(p.node==node)))
 rw[←hL1] at HA3
 have hS1:PSrt L1:=by rw[hL1];exact HS.out.1.filter _
 have hl3:L1.length≤3:=by rw[hL1];exact Nat.le_trans (List.length_filter_le _ _) HS.out.2
 have HS1:=qQ (And.intro hS1 (And.intro hl3 hL1))
 clear hL1 hS1 hl3
 have c4:=HA3.out.c4
 have c1:=HA3.out.ps.c1
 by_cases hRr:R≤rank
 ·have hx:X=(R,L1):=by rw[HX.out];unfold jh;simp only[];rw[if_pos hRr,←HS1.out.2.2]
  have HXX:=qQ hx
  clear hx
  go_wp2_with fail
  go_ret
  rw[HXX.out]
  exact⟨false,v3,rfl,HA3.out.ps,HA3.out.chg.old,λk hk=>by rcases HA3.out.own k hk with h|h;exact .inl h;right;omega⟩
 ·have hlt:rank<R:=by omega
  go_wp2_with fail
  have c5:=HA3.out.c5
  have c2:=HA3.out.ps.c2
  have f2:=HA3.out.ps.f 2
  have hrow:=HA3.out.ps.row
  have hsz:w.heap.size+1<w3.heap.size:=qX HA3.out.b5
  obtain⟨A3,cp3,rfl⟩:=HA3.out.ps.val
  have HROW:=qQ hrow
  have HSZ:=qQ (And.intro hsz HA3.out.lt)
  clear hrow hsz
  have hb4:w.heap.size≠b:=by have:=HSZ.out.2;omega
  have hb5:w.heap.size+1≠b:=by have:=HSZ.out.2;omega
  obtain⟨ei,z,i1,i2,i3,i4,i5,i6⟩:=ElP.2
  have hEI:=qQ (And.intro i1 (And.intro i2 (And.intro i3 (And.intro i4 (And.intro i5 i6)))))
  clear i1 i2 i3 i4 i5 i6
  have HONE:=qQ (show∀u∈[Value.int .i64 rank,.int .i64 node,.int .i64 now],u.oneCell'=true by intro u hu;simp at hu;rcases hu with rfl|rfl|rfl <;> rfl)
  have HLN:=qQ (show L1.length+1≤maxLen∧(L1.length+1)*24≤140737488355328 by have:=HS1.out.2.1;unfold maxLen;omega)
  have c4a:=qL c4 (.cells #[.int .i64 rank,.int .i64 node,.int .i64 now] 104)
  have c2a:=qL c2 (.cells #[.int .i64 rank,.int .i64 node,.int .i64 now] 104)
  go_cut [] (λwx=>∃g cap,HAt w b v me node (.slice (some ⟨g,0,none⟩) (L1.length+1) cap) R (L1++[⟨rank,node,now⟩]) wx)
  case first=>
   go_region_law
    ((
     refine step_append_lies (P:=Tryz.prog) _ (by rfl) (.tmp 48) (.tmp 53) 100 (by rfl) 0 104 ei z 3 24 Tryz.underlying100 hEI.out.1 hEI.out.2.1 hEI.out.2.2.1 hEI.out.2.2.2.1 hEI.out.2.2.2.2.1 hEI.out.2.2.2.2.2 (.slice A3 L1.length cp3) L1.length (L1.flatMap jx) rfl (qY HROW.out ((Chg.alloc (λ_=>False) w3 (.cells #[.int .i64 rank,.int .i64 node,.int .i64 now] 104)).trans (Chg.drew _ _)) (λ_ _ e=>e)) ⟨w3.heap.size,0,none⟩ 1 1 [.int .i64 rank,.int .i64 node,.int .i64 now] rfl rfl (World.news_of_block (w:=(w3.alloc (.cells #[.int .i64 rank,.int .i64 node,.int .i64 now] 104)).drew) (qV w3 (.cells #[.int .i64 rank,.int .i64 node,.int .i64 now] 104))) HONE.out (by omega) HLN.out.1 HLN.out.2 (Nat.zero_le _) (w3.heap.size+1) (by simp) ?_
     intro g5 cap5 w5 hown5 hgr5 hat5 hlt5
     have G5:Chg (λk=>(Value.slice A3 L1.length cp3).ownBlock=some k) w3 w5:=((Chg.alloc _ w3 (.cells #[.int .i64 rank,.int .i64 node,.int .i64 now] 104)).trans (Chg.drew _ _)).trans (qH hgr5 (λj e=>e.symm▸rfl))
     have k4:w5.cell? ⟨w.heap.size,0,none⟩=some (.pointer (some ⟨b,0,none⟩)):=by rw[qJ (Chg.keep G5 HA3.out.b4 (λe=>(HA3.out.ne4 (.inr e)).1 rfl))];rfl
     have k5:w5.cell? ⟨w.heap.size+1,0,none⟩=some (.int .i64 node):=by rw[qJ (Chg.keep G5 HA3.out.b5 (λe=>(HA3.out.ne4 (.inr e)).2 rfl))];rfl
     have kb:=Chg.keep G5 HA3.out.ps.blk (λe=>HA3.out.ps.ne e rfl)
     have k2:w5.cell? ⟨b,2,none⟩=some (.slice A3 L1.length cp3):=by rw[qJ kb];rfl
     have kf:w5.frozen? ⟨b,2,none⟩=false:=qK kb 2
     have HKB:=qQ kb
     have HG5:=qQ G5
     have HO5:=qQ (And.intro hown5 (And.intro hat5 hlt5))
     clear kb G5 hown5 hgr5 hat5 hlt5))
   all_goals
    go_wp2_with fail
    go_meet
    refine⟨g5,cap5,?_⟩
    have gs:=chg1 w5 b 2 (.slice (some ⟨g5,0,none⟩) (L1.length+1) cap5)
    have hneb:∀k,(Value.slice (some ⟨g5,0,none⟩) (L1.length+1) cap5).ownBlock=some k→k≠b:=λk hk=>by
     cases hk
     intro e
     have h1:=HKB.out
     rw[←e] at h1
     rcases HO5.out.1.2 with ⟨e2,_⟩|⟨g',c',cur,e2,_,hg,_⟩
     ·cases e2
     ·cases e2;rw[hg] at h1;cases h1
    have hrow5:RowP (w5.setCell ⟨b,2,none⟩ (.slice (some ⟨g5,0,none⟩) (L1.length+1) cap5)) 0 (.slice (some ⟨g5,0,none⟩) (L1.length+1) cap5) (L1++[⟨rank,node,now⟩]):=by
     have:=qY HO5.out.1 gs (λk hk e=>hneb k hk e)
     unfold RowP
     rw[List.flatMap_append,List.length_append]
     exact this
    have hps5:Ps (w5.setCell ⟨b,2,none⟩ (.slice (some ⟨g5,0,none⟩) (L1.length+1) cap5)) b (.slice (some ⟨g5,0,none⟩) (L1.length+1) cap5) me R (L1++[⟨rank,node,now⟩]):=⟨by simpa using qB HKB.out 2 (.slice (some ⟨g5,0,none⟩) (L1.length+1) cap5),hrow5⟩
    refine HA3.out.next hps5 ((HG5.out.mono (λk _ e=>(.inr e:PsS b (.slice A3 L1.length cp3) k))).trans (gs.mono (λk _ e=> .inl e))) ?_
    rcases HO5.out.2.1 with h|h
    ·exact .inl h.symm
    ·exact .inr ⟨g5,rfl,by omega⟩
  case rest=>
   obtain⟨g6,cap6,hA6⟩:=hcut
   have HA6:=qQ hA6
   clear hA6 c4 c1 c5 c2 f2 c4a c2a HROW hb4 hb5 HA3 HONE HLN hEI
   have hb4:w.heap.size≠b:=by have:=HSZ.out.2;omega
   have c4:=HA6.out.c4
   have c2:=HA6.out.ps.c2
   go_wp2_with fail
   clear c4 c2
   have hcp:L1.length+1≤cap6:=by
    rcases qD HA6.out.ps.row with ⟨e,_⟩|⟨_,_,e,_,_,h,_⟩
    ·cases e
    ·have e2:=(Value.slice.inj e).2.2
     rw[List.length_append] at h;simp at h;omega
   (with_reducible refine (sortP_any wc 0 g6 cap6 L1.length L1 ⟨rank,node,now⟩ rfl HS1.out.2.1 HS1.out.1.srt (by have:=HA6.out.ps.row;simpa [RowP] using this) hcp).mono ?_)
   rintro en w7 ⟨rfl,hso⟩
   have hps7:Ps w7 b (.slice (some ⟨g6,0,none⟩) (L1.length+1) cap6) me R (insP ⟨rank,node,now⟩ L1):=⟨Chg.keep hso.chg HA6.out.ps.blk (λe=>HA6.out.ps.ne rfl e.symm),hso.row⟩
   have HA7:=qQ (HA6.out.next hps7 (hso.chg.mono (λk _ e=>(.inr (by rw[show k=g6 from e];rfl):PsS b (.slice (some ⟨g6,0,none⟩) (L1.length+1) cap6) k))) (.inl rfl))
   clear hps7 hso hcp HA6
   have c4:=HA7.out.c4
   have c1:=HA7.out.ps.c1
   have f1:=HA7.out.ps.f 1
   go_wp2_with fail
   have hw1:IntKind.i64.wrap (rank+1)=rank+1:=IntWalk.i64_in _ (by omega)
   have hm1:¬(R<rank+1):=by omega
   have hm2:rank+1≤R:=by omega
   go_still_tail 10,(by kernel_rfl)
   change wpList _ _ _ _ _ w7.drew
   rw[show (if rank+1<R then rank+1 else R)=rank+1 from by split <;> omega]
   have HA8:=qQ (HA7.out.kept (Chg.drew (λ_=>False) w7))
   clear c4 c1 f1 hw1 hm1 HA7
   generalize w7.drew=w8 at *
   have c1:=HA8.out.ps.c1
   have f1:=HA8.out.ps.f 1
   obtain⟨M2,hM2⟩:∃M,M=insP ⟨rank,node,now⟩ L1:=⟨_,rfl⟩
   rw[←hM2] at HA8
   have hps9:=HA8.out.ps.set1 (rank+1)
   have hA9:=HA8.out.next hps9 ((chg1 w8 b 1 (.int .i64 (rank+1))).mono (λk _ e=> .inl e)) (.inl rfl)
   have HA9:=qQ hA9
   have c4:=HA8.out.c4
   have hM2l:M2.length≤4:=by rw[hM2,insP_len];have:=HS1.out.2.1;omega
   have HM2:=qQ (And.intro hM2 hM2l)
   clear hps9 hA9 HA8 hM2 hM2l
   go_wp2_with fail
   clear c4 c1 f1
   generalize w8.setCell ⟨b,1,none⟩ (.int .i64 (rank+1))=w9 at *
   have hl2:=lets_any w9 b (.slice (some ⟨g6,0,none⟩) (L1.length+1) cap6) me (rank+1) M2 203 #[.pointer (some ⟨w.heap.size,0,none⟩)] (λp=>decide (rank+1≤p.rank)) HA9.out.ps (by have:=HM2.out.2;omega) ⟨cf203,λz W hz g=>hear2 z w.heap.size b _ me (rank+1) W (Chg.keep g HA9.out.b4 (λe=>(HA9.out.ne4 (.inr e)).1 rfl)) (Chg.keep g HA9.out.ps.blk (λe=>HA9.out.ps.ne e rfl))⟩
   have HL2:=qQ hl2
   clear hl2
   with_reducible refine HL2.out.mono ?_
   rintro en w10 ⟨rfl,v10,hps10,G10,hv10⟩
   have HA10:=qQ (HA9.out.next hps10 G10 (.inl hv10))
   clear hps10 G10 hv10 HL2 HA9
   obtain⟨M3,hM3⟩:∃M,M=M2.filter (λp=>!(decide (rank+1≤p.rank))):=⟨_,rfl⟩
   rw[←hM3] at HA10
   have hM3l:M3.length≤4:=by rw[hM3];exact Nat.le_trans (List.length_filter_le _ _) HM2.out.2
   have hx:X=(rank+1,M3.take 3):=by
    rw[HX.out];unfold jh;simp only[]
    rw[if_neg (by omega),show min R (rank+1)=rank+1 from by omega,←HS1.out.2.2,←HM2.out.1,←hM3]
   have HM3:=qQ (And.intro hM3l hx)
   clear hM3 hM3l hx
   have c4:=HA10.out.c4
   have c5:=HA10.out.c5
   have c2:=HA10.out.ps.c2
   have f2:=HA10.out.ps.f 2
   obtain⟨A10,cp10,rfl⟩:=HA10.out.ps.val
   obtain⟨n10,hn10⟩:∃n,n=M3.length:=⟨_,rfl⟩
   rw[←hn10] at c2 HA10
   have HN10:=qQ hn10
   have hn4:(n10:Int)≤4:=by have:=HM3.out.1;omega
   clear hn10
   have hend:∀w11 v11,HAt w b v me node v11 (rank+1) (M3.take 3) w11→∀en w12,PRankOf w11 en w12→True:=λ_ _ _ _ _ _=>trivial
   by_cases h3:n10≤3
   ·have hT:M3.take 3=M3:=List.take_of_length_le (by have:=HN10.out;omega)
    have h3i:(n10:Int)≤3:=by omega
    go_wp2_with fail
    (with_reducible refine (rankof_any w10 b _ me (rank+1) M3 node HA10.out.ps (by have:=HM3.out.1;omega)).mono ?_)
    rintro en w11 ⟨rr,tt,rfl,G11⟩
    have HA11:=qQ (HA10.out.kept G11)
    have HT:=qQ hT
    clear G11 hT HA10 c4 c5 c2 f2
    go_wp2_with fail
    go_ret
    rw[HM3.out.2,HT.out]
    exact⟨tt,_,rfl,HA11.out.ps,HA11.out.chg.old,λk hk=>by rcases HA11.out.own k hk with h|h;exact .inl h;right;omega⟩
   ·have h3i:(3:Int)<n10:=by omega
    obtain⟨g10,cq10,e10,hcq⟩:∃g cap,A10=some ⟨g,0,none⟩∧3≤cp10:=by
     rcases qD HA10.out.ps.row with ⟨e,h1,_⟩|⟨g,cap,e,_,_,h,_⟩
     ·have:=HN10.out;omega
     ·cases e;exact⟨g,0,rfl,by have:=HN10.out;omega⟩
    subst e10
    have hcq2:(3:Int)≤cp10:=by omega
    go_wp2_with fail
    go_still_tail 8,(by kernel_rfl)
    change wpList _ _ _ _ _ w10.drew
    have HA11:=qQ (HA10.out.kept (Chg.drew (λ_=>False) w10))
    clear c4 c5 c2 f2 HA10
    generalize w10.drew=w11 at *
    have c4:=HA11.out.c4
    have c5:=HA11.out.c5
    have f2:=HA11.out.ps.f 2
    have c2:=HA11.out.ps.c2
    have gs:=chg1 w11 b 2 (.slice (some ⟨g10,0,none⟩) 3 cp10)
    have hrow:RowP (w11.setCell ⟨b,2,none⟩ (.slice (some ⟨g10,0,none⟩) 3 cp10)) 0 (.slice (some ⟨g10,0,none⟩) 3 cp10) (M3.take 3):=by
     have h0:=HA11.out.ps.row
     unfold RowP at h0 ⊢
     rw[←HN10.out] at h0
     have h1:=own_less h0 (show 3≤n10 by omega)
     rw[take_flat zg M3 3 (by have:=HN10.out;omega)] at h1
     have hl:(M3.take 3).length=3:=by rw[List.length_take];have:=HN10.out;omega
     rw[hl]
     exact qY h1 gs (λk hk e=>HA11.out.ps.ne hk e)
    have hps12:Ps (w11.setCell ⟨b,2,none⟩ (.slice (some ⟨g10,0,none⟩) 3 cp10)) b (.slice (some ⟨g10,0,none⟩) 3 cp10) me (rank+1) (M3.take 3):=⟨by simpa using qB HA11.out.ps.blk 2 (.slice (some ⟨g10,0,none⟩) 3 cp10),hrow⟩
    have HA12:=qQ (HA11.out.next hps12 (gs.mono (λk _ e=> .inl e)) (.inl rfl))
    clear gs hrow hps12 HA11
    go_wp2_with fail
    clear c4 c5 f2 c2
    generalize w11.setCell ⟨b,2,none⟩ (.slice (some ⟨g10,0,none⟩) 3 cp10)=w12 at *
    (with_reducible refine (rankof_any w12 b _ me (rank+1) (M3.take 3) node HA12.out.ps (by rw[List.length_take];omega)).mono ?_)
    rintro en w13 ⟨rr,tt,rfl,G13⟩
    have HA13:=qQ (HA12.out.kept G13)
    clear G13 HA12
    go_wp2_with fail
    go_ret
    rw[HM3.out.2]
    exact⟨tt,_,rfl,HA13.out.ps,HA13.out.chg.old,λk hk=>by rcases HA13.out.own k hk with h|h;exact .inl h;right;omega⟩
end Go.Proofs.YtnpihllannobgaaGreatDoor
