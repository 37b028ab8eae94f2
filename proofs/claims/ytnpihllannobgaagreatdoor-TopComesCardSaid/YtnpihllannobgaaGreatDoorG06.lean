/- Steps of the proof, part G06. No condition. -/
import Derived.Test.YtnpihllannobgaaGreatDoorG05
namespace Go.Proofs.YtnpihllannobgaaGreatDoor
set_option linter.unusedVariables false
set_option linter.unusedSimpArgs false
set_option maxRecDepth 100000
set_option maxHeartbeats 32000000
open Go.ChangeShapes Go.WideShapes Go.ChangeAt Go.RowKit
theorem qk{w:World}{base base' e size n:Nat}{v:Value}{xs:List Value}(h:w.ownsRow base e size v n xs)(hb:base'≤base):w.ownsRow base' e size v n xs:=by
 refine⟨h.1,?_⟩
 rcases h.2 with hn|⟨k,cap,cur,rfl,hbb,rest⟩
 ·exact .inl hn
 ·exact .inr ⟨k,cap,cur,rfl,Nat.le_trans hb hbb,rest⟩
theorem mayE_of{e:El}(h:mayE e=true):(e.kind=1∧e.list=[]∧0≤e.asn∧e.asn≤1099511627775∧0≤e.rank∧e.rank≤255∧e.ticks=0)∨
  (e.kind=2∧e.list=[]∧e.asn=0∧e.rank=0∧-32768≤e.ticks∧e.ticks≤32767)∨
  ((e.kind=3∨e.kind=4)∧e.list.length≤16∧(∀z∈e.list,0≤z∧z<256)∧e.asn=0∧e.rank=0∧e.ticks=0):=by
 obtain⟨k,a,b,c,L⟩:=e
 simp only[mayE,ofE,zC,plainE,inR,Bool.and_eq_true,decide_eq_true_eq] at h
 obtain⟨⟨h1,h2⟩,h3,h4⟩:=h
 rcases (by omega:k=1∨k=2∨k=3∨k=4) with rfl|rfl|rfl|rfl
 ·simp at h3 h4;left;simp[h4];omega
 ·simp at h3 h4;right;left;simp[h4];omega
 ·simp at h3 h4;right;right
  refine⟨.inl rfl,h3.1,λz hz=>?_,h4.1,h4.2.1,h4.2.2⟩
  have:=h3.2 z hz;omega
 ·simp at h3 h4;right;right
  refine⟨.inr rfl,h3.1,λz hz=>?_,h4.1,h4.2.1,h4.2.2⟩
  have:=h3.2 z hz;omega
theorem encE_len{e:El}(h:mayE e=true):(encE e).length≤18:=by
 rcases mayE_of h with ⟨h1,_⟩|⟨h1,_⟩|⟨h1,h2,_⟩
 ·simp[encE,bodyE,h1,qw]
 ·simp[encE,bodyE,h1,qw]
 ·have h3:e.kind≠1:=by omega
  have h4:e.kind≠2:=by omega
  simp[encE,bodyE,h3,h4];omega
theorem encI_len{l:List El}(h:∀e∈l,mayE e=true):(l.flatMap encE).length≤18*l.length:=by
 induction l with
 |nil=>simp
 |cons e l ih=>
  have h1:=encE_len (h e (by simp))
  have h2:=ih (λx hx=>h x (by simp[hx]))
  simp[List.flatMap_cons];simp at h2;omega
theorem encE_1{e:El}(h:e.kind=1):encE e=1::6::(be 5 e.asn++be 1 e.rank):=by unfold encE bodyE;rw[if_pos h,h]
theorem encE_2{e:El}(h:e.kind=2):encE e=2::2::be 2 (IntKind.u64.wrap e.ticks):=by unfold encE bodyE;rw[if_neg (by omega),if_pos h,h]
theorem encE_3{e:El}(h:e.kind=3∨e.kind=4):encE e=e.kind::(e.list.length:Int)::e.list:=by unfold encE bodyE;rw[if_neg (by omega),if_neg (by omega)]
theorem encE_byte{e:El}(h:mayE e=true):∀x∈encE e,0≤x∧x<256:=by
 intro x hx
 rcases mayE_of h with ⟨h1,_⟩|⟨h1,_⟩|⟨h1,h2,h3,_⟩
 ·rw[encE_1 h1] at hx
  simp only[List.mem_cons,List.mem_append] at hx
  rcases hx with hx|hx|hx|hx
  ·omega
  ·omega
  ·exact zD _ _ x hx
  ·exact zD _ _ x hx
 ·rw[encE_2 h1] at hx
  simp only[List.mem_cons] at hx
  rcases hx with hx|hx|hx
  ·omega
  ·omega
  ·exact zD _ _ x hx
 ·rw[encE_3 h1] at hx
  simp only[List.mem_cons] at hx
  rcases hx with hx|hx|hx
  ·omega
  ·omega
  ·exact h3 x hx
theorem encI_byte{l:List El}(hl:l.length≤4)(h:∀e∈l,mayE e=true):∀x∈encI l,0≤x∧x<256:=by
 intro x hx
 simp only[encI,List.mem_cons,List.mem_flatMap] at hx
 rcases hx with rfl|⟨e,he,hx⟩
 ·omega
 ·exact encE_byte (h e he) x hx
def PEnc(w:World)(L:List Int)(en:Ending)(w':World):Prop:=
 ∃v,en= .returned (.tuple #[v,.int .i64 0])∧w'.ownsRow w.heap.size 5 1 v L.length (L.map V8)∧Chg (λ_=>False) w w'
theorem iencode_any(w:World)(own:Cls)(v:Value)(l:List El)(h:IeO w own v l)(hl:l.length≤4)(hm:∀e∈l,mayE e=true):
  Calls Tryz.prog 99 #[v] w (PEnc w (encI l)):=by
 have hll:∀e∈l,e.list.length≤100000:=λe he=>by
  rcases mayE_of (hm e he) with ⟨_,h,_⟩|⟨_,h,_⟩|⟨_,h,_⟩
  ·rw[h];simp
  ·rw[h];simp
  ·omega
 have hno:l.any (λe=>!mayE e)=false:=by
  rw[List.any_eq_false];intro e he;rw[hm e he];simp
 have hc:=containsFE_any w own v 152 #[] l _ h (by omega) (fn152 w own l hll)
 rw[hno] at hc
 obtain⟨E,hE⟩:=qZ (encI l)
 rw[←hE]
 have HE:=qQ hE
 have H:=qQ h
 have HM:=qQ hm
 have HC:=qQ hc
 obtain⟨A,c,rfl⟩:=h.val
 obtain⟨len,hlen⟩:=qZ l.length
 rw[←hlen] at hl H HC ⊢
 have HL:=qQ hlen
 have hl2:(len:Int)≤4:=by omega
 have p1:=λ(x:Value) (w:World)=>p317 x w
 have p2:=λ(x:Value) (w:World)=>p319 x w
 have p3:=λ(x:Value) (w:World)=>p321 x w
 clear hlen hno hc h hm hE hll
 go_enter Tryz.func99,Tryz.ntmps99
 go_wp2_with fail
 with_reducible refine HC.out.mono ?_
 rintro e w1 ⟨rfl,G1⟩
 have HG1:=qQ G1
 clear G1 HC
 go_wp2_with fail
 have W2:Wr (w1.alloc (.cells #[.slice none 0 0,.int .i64 0] 180)) w1.heap.size (.slice none 0 0) []:=⟨qV _ _,World.ownsRow_nil _ _ _ _⟩
 have G2:=HG1.out.trans (Chg.alloc _ w1 (.cells #[.slice none 0 0,.int .i64 0] 180))
 have hbs:w.heap.size≤w1.heap.size:=HG1.out.size
 have HW2:=qQ (WC.start W2)
 have HG2:=qQ G2
 have HBS:=qQ hbs
 clear W2 G2 HG1 hbs
 generalize w1.heap.size=b at *
 generalize w1.alloc (.cells #[.slice none 0 0,.int .i64 0] 180)=w2 at *
 (with_reducible refine (zF HW2.out 1 8 rfl (by omega) (len:Int) (by omega) (by omega) (by simp)).mono ?_)
 rintro e w3 ⟨rfl,W3,C3⟩
 have hst:[]++be 1 (len:Int)=[(len:Int)]++(l.take 0).flatMap encE:=by rw[be_one _ (by omega) (by omega)];simp
 rw[hst] at W3
 have HW3:=qQ W3
 clear W3 C3 HW2 hst
 go_wp2_with fail
 go_loopw [23] (λi wr=>∃(k:Nat),k≤len∧i= .int .i64 k∧WC w2 wr b ([(len:Int)]++(l.take k).flatMap encE)) (λi _=>len-(intOf i).toNat)
 case atStart=>exact⟨0,by omega,rfl,HW3.out⟩
 case round=>
  obtain⟨k,hk,rfl,hP⟩:=hrel
  have HP:=qQ hP
  clear hP HW3
  by_cases hlt:k<len
  ·obtain⟨e,he⟩:∃e,l[k]? =some e:=⟨_,List.getElem?_eq_getElem (by have:=HL.out;omega)⟩
   have gw:Chg (λ_=>False) w wr:=(HG2.out.none.trans (HP.out.2.chg.mono (λj _ h2=>(Nat.le_trans HBS.out h2)))).fresh
   obtain⟨g,c',lv,hv,hce,hr⟩:=H.out.at he
   rw[←HL.out] at hv
   cases hv
   have hme:=HM.out e (List.mem_of_getElem? he)
   have hnx:(l.take (k+1)).flatMap encE=(l.take k).flatMap encE++encE e:=by
    rw[List.take_add_one,he,List.flatMap_append];simp
   have hbd:((l.take k).flatMap encE).length≤72:=by
    have h1:=encI_len (l:=l.take k) (λx hx=>HM.out x (List.mem_of_mem_take hx))
    rw[List.length_take] at h1;have:=HL.out;omega
   obtain⟨A',ca,rfl,hr2,_⟩:=hr.rs
   obtain⟨c0,c1,c2,c3,c4⟩:=hce.keep gw (λe=>e)
   have i1:(k:Int)<(len:Int):=by omega
   have hmk:=mayE_of hme
   have HNX:=qQ hnx
   have HBD:=qQ hbd
   have HR2:=qQ (hr2.keep gw (λ_ _ e=>e))
   clear hme he gw hnx hbd hr hr2 hce
   obtain⟨ek,ea,er,et,el⟩:=e
   simp only at c0 c1 c2 c3 hmk
   rcases hmk with ⟨hk1,hx1,ha0,ha1,hr0,hr1,ht⟩|⟨hk1,hx1,ha,hr,ht0,ht1⟩|⟨hk1,hx1,hx2,ha,hr,ht⟩
   ·subst hk1
    have ga:=Chg.alloc (λ_=>False) wr (.cells #[.int .i64 1,.int .i64 ea,.int .i64 er,.int .i64 et,.slice A' el.length ca] 172)
    have hba:=qV wr (.cells #[.int .i64 1,.int .i64 ea,.int .i64 er,.int .i64 et,.slice A' el.length ca] 172)
    have hbb:wr.heap.size≠b:=by obtain⟨⟨_,hw⟩,_⟩:=HP.out;have:=qX hw.blk;omega
    have HGA:=qQ (And.intro ga hba)
    have HBB:=qQ hbb
    clear ga hba hbb
    clear hx1 ht
    go_wp2_with fail
    clear c0 c1 c2 c3 c4
    (with_reducible refine (zF (HP.out.kept HGA.out.1) 1 8 rfl (by omega) 1 (by omega) (by omega) (by have:=HBD.out;simp only[List.length_append,List.length_cons,List.length_nil,qw];omega)).mono ?_)
    rintro e w4 ⟨rfl,W4,C4⟩
    have hb4:=C4.keep HGA.out.2 HBB.out (.inl (by decide))
    obtain⟨c0,c1,c2,c3,c4⟩:=zN hb4
    have HW4:=qQ (And.intro W4 C4)
    clear W4 C4 hb4
    go_wp2_with fail
    clear c0 c1 c2 c3 c4
    (with_reducible refine (of_1 ea er et _ _).mono ?_)
    rintro e w5 ⟨rfl,G5⟩
    have HG5:=qQ G5
    clear G5
    go_wp2_with fail
    obtain⟨⟨v5,hw5⟩,hc5⟩:=HW4.out.1.kept HG5.out
    have hput:=sput_any w5 ea er b v5 _ hw5 (by have:=HBD.out;simp only[List.length_append,List.length_cons,List.length_nil,qw];omega) ⟨ha0,ha1⟩ ⟨hr0,hr1⟩
    have HPUT:=qQ hput
    have HC5:=qQ hc5
    clear hput hc5 hw5
    with_reducible refine HPUT.out.mono ?_
    rintro e w6 ⟨rfl,W6,C6⟩
    have hfin:[(len:Int)]++(l.take k).flatMap encE++be 1 1++be 1 6++be 5 ea++be 1 er=[(len:Int)]++(l.take (k+1)).flatMap encE:=by
     rw[HNX.out,encE_1 rfl]
     simp only[List.append_assoc,List.cons_append,List.nil_append]
     rw[be_one 1 (by omega) (by omega),be_one 6 (by omega) (by omega)]
     simp
    have HFIN:Hid (WC w2 w6 b ([(len:Int)]++(l.take (k+1)).flatMap encE)):=qQ (by rw[←hfin];exact⟨by simpa only[List.append_assoc] using W6,HC5.out.trans C6⟩)
    clear hfin W6 C6 HC5 HPUT HG5 HW4 HGA
    go_wp2_with fail
    go_roundw
    case measure=>simp[intOf];omega
    case rel=>exact⟨k+1,by omega,by go_num,HFIN.out⟩
   ·subst hk1
    have ga:=Chg.alloc (λ_=>False) wr (.cells #[.int .i64 2,.int .i64 ea,.int .i64 er,.int .i64 et,.slice A' el.length ca] 172)
    have hba:=qV wr (.cells #[.int .i64 2,.int .i64 ea,.int .i64 er,.int .i64 et,.slice A' el.length ca] 172)
    have hbb:wr.heap.size≠b:=by obtain⟨⟨_,hw⟩,_⟩:=HP.out;have:=qX hw.blk;omega
    have HGA:=qQ (And.intro ga hba)
    have HBB:=qQ hbb
    clear ga hba hbb
    clear hx1 ha hr
    go_wp2_with fail
    clear c0 c1 c2 c3 c4
    (with_reducible refine (zF (HP.out.kept HGA.out.1) 1 8 rfl (by omega) 2 (by omega) (by omega) (by have:=HBD.out;simp only[List.length_append,List.length_cons,List.length_nil,qw];omega)).mono ?_)
    rintro e w4 ⟨rfl,W4,C4⟩
    have hb4:=C4.keep HGA.out.2 HBB.out (.inl (by decide))
    obtain⟨c0,c1,c2,c3,c4⟩:=zN hb4
    have HW4:=qQ (And.intro W4 C4)
    clear W4 C4 hb4
    go_wp2_with fail
    clear c0 c1 c2 c3 c4
    (with_reducible refine (of_2 ea er et _ _).mono ?_)
    rintro e w5 ⟨rfl,G5⟩
    have HG5:=qQ G5
    clear G5
    go_wp2_with fail
    obtain⟨⟨v5,hw5⟩,hc5⟩:=HW4.out.1.kept HG5.out
    have hput:=cput_any w5 et b v5 _ hw5 (by have:=HBD.out;simp only[List.length_append,List.length_cons,List.length_nil,qw];omega)
    have HPUT:=qQ hput
    have HC5:=qQ hc5
    clear hput hc5 hw5
    with_reducible refine HPUT.out.mono ?_
    rintro e w6 ⟨rfl,W6,C6⟩
    have hfin:[(len:Int)]++(l.take k).flatMap encE++be 1 2++be 1 2++be 2 (IntKind.u64.wrap et)=[(len:Int)]++(l.take (k+1)).flatMap encE:=by
     rw[HNX.out,encE_2 rfl]
     simp only[List.append_assoc,List.cons_append,List.nil_append]
     rw[be_one 2 (by omega) (by omega)]
     simp
    have HFIN:Hid (WC w2 w6 b ([(len:Int)]++(l.take (k+1)).flatMap encE)):=qQ (by rw[←hfin];exact⟨by simpa only[List.append_assoc] using W6,HC5.out.trans C6⟩)
    clear hfin W6 C6 HC5 HPUT HG5 HW4 HGA
    go_wp2_with fail
    go_roundw
    case measure=>simp[intOf];omega
    case rel=>exact⟨k+1,by omega,by go_num,HFIN.out⟩
   ·skip
    have ga:=Chg.alloc (λ_=>False) wr (.cells #[.int .i64 ek,.int .i64 ea,.int .i64 er,.int .i64 et,.slice A' el.length ca] 172)
    have hba:=qV wr (.cells #[.int .i64 ek,.int .i64 ea,.int .i64 er,.int .i64 et,.slice A' el.length ca] 172)
    have hbb:wr.heap.size≠b:=by obtain⟨⟨_,hw⟩,_⟩:=HP.out;have:=qX hw.blk;omega
    have HGA:=qQ (And.intro ga hba)
    have HBB:=qQ hbb
    have HKK:=qQ hk1
    clear ga hba hbb
    have hk2:3≤ek∧ek≤4:=by omega
    obtain⟨hk3,hk4⟩:=hk2
    clear hk1 ha hr ht
    go_wp2_with fail
    clear c0 c1 c2 c3 c4
    (with_reducible refine (zF (HP.out.kept HGA.out.1) 1 8 rfl (by omega) ek (by omega) (by omega) (by have:=HBD.out;simp only[List.length_append,List.length_cons,List.length_nil,qw];omega)).mono ?_)
    rintro e w4 ⟨rfl,W4,C4⟩
    have hb4:=C4.keep HGA.out.2 HBB.out (.inl (by decide))
    obtain⟨c0,c1,c2,c3,c4⟩:=zN hb4
    have HW4:=qQ (And.intro W4 C4)
    clear W4 C4 hb4
    go_wp2_with fail
    clear c0 c1 c2 c3 c4
    (with_reducible refine (of_l ek ea er et A' el.length ca _ HKK.out).mono ?_)
    rintro e w5 ⟨rfl,G5⟩
    have HG5:=qQ G5
    clear G5
    go_wp2_with fail
    obtain⟨⟨v5,hw5⟩,hc5⟩:=HW4.out.1.kept HG5.out
    have hput:=lput_any w5 A' el.length ca el b v5 _ hw5 (by have:=HBD.out;simp only[List.length_append,List.length_cons,List.length_nil,qw];omega) (((HR2.out.keep HGA.out.1 (λ_ _ e=>e)).keep HW4.out.2.chg (λj h1 h2=>by have:=HBS.out;omega)).keep HG5.out (λ_ _ e=>e) |>.more HBS.out) hx2 hx1
    have HPUT:=qQ hput
    have HC5:=qQ hc5
    clear hput hc5 hw5
    with_reducible refine HPUT.out.mono ?_
    rintro e w6 ⟨rfl,W6,C6⟩
    have hfin:[(len:Int)]++(l.take k).flatMap encE++be 1 ek++be 1 (el.length:Int)++el=[(len:Int)]++(l.take (k+1)).flatMap encE:=by
     rw[HNX.out,encE_3 HKK.out]
     simp only[List.append_assoc,List.cons_append,List.nil_append]
     rw[be_one ek (by omega) (by omega),be_one (el.length:Int) (by omega) (by omega)]
     simp
    have HFIN:Hid (WC w2 w6 b ([(len:Int)]++(l.take (k+1)).flatMap encE)):=qQ (by rw[←hfin];exact⟨by simpa only[List.append_assoc] using W6,HC5.out.trans C6⟩)
    clear hfin W6 C6 HC5 HPUT HG5 HW4 HGA
    go_wp2_with fail
    go_roundw
    case measure=>simp[intOf];omega
    case rel=>exact⟨k+1,by omega,by go_num,HFIN.out⟩
  ·obtain rfl:k=len:=by omega
   go_wp2_with fail
   obtain⟨⟨v',hw⟩,hc⟩:=HP.out
   have hEE:[(k:Int)]++(l.take k).flatMap encE=E:=by
    rw[HE.out,List.take_of_length_le (by have:=HL.out;omega)]
    unfold encI;rw[←HL.out];rfl
   rw[hEE] at hw
   have hEl:E.length≤100000:=by
    have h1:=encI_len (l:=l) HM.out
    have:=HL.out
    rw[HE.out];simp[encI];simp at h1;omega
   have hb:=bytes_any wr b v' E hw hEl
   have HB:=qQ hb
   have HC:=qQ hc
   clear hb hc hw hEE hEl
   with_reducible refine HB.out.mono ?_
   rintro e w5 ⟨v5,rfl,hown,G5⟩
   have hsz:w.heap.size≤wr.heap.size:=Nat.le_trans HG2.out.size HC.out.size
   have HX:=qQ (And.intro (qk hown hsz) ((HG2.out.none.trans (HC.out.chg.mono (λj _ h2=>(Nat.le_trans HBS.out h2)))).fresh.trans G5))
   clear hown G5 hsz HB HC
   go_wp2_with fail
   exact bodyPost_ret (v:= .tuple #[v5,.int .i64 0]) (by simp[results,Tryz.results99,go_sem]) rfl ⟨v5,rfl,HX.out.1,HX.out.2⟩
theorem flat_len{α:Type}{f:α→List Value}{s:Nat}(hf:∀a,(f a).length=s)(ps:List α):(ps.flatMap f).length=ps.length*s:=by
 induction ps with
 |nil=>simp
 |cons p ps ih=>
  have:=hf p
  rw[List.flatMap_cons,List.length_append,ih,this,List.length_cons,Nat.add_mul];omega
theorem vh{α:Type}{f:α→List Value}{s:Nat}(hf:∀a,(f a).length=s)(ps:List α)(i j:Nat)(a:α)(hi:ps[i]? =some a) (hj:j<s):(ps.flatMap f)[i*s+j]? =(f a)[j]? :=by
 induction ps generalizing i with
 |nil=>simp at hi
 |cons p ps ih=>
  have hp:=hf p
  rw[List.flatMap_cons]
  cases i with
  |zero=>
   simp at hi
   subst hi
   rw[List.getElem?_append_left (by omega)];simp
  |succ i=>
   rw[List.getElem?_append_right (by rw[hp,Nat.add_mul];omega),hp,show (i+1)*s+j-s=i*s+j from by rw[Nat.add_mul];omega]
   exact ih i (by simpa using hi)
section
variable {w w':World}{base e size n:Nat}{v:Value}{xs:List Value}
theorem qL{g cap:Nat}(h:w.ownsRow base e size (.slice (some ⟨g,0,none⟩) n cap) n xs)(i:Nat)(x:Value)(hi:xs[i]? =some x):w.cell? ⟨g,i,none⟩=some x:=by
 obtain⟨h1,h2⟩:=h
 rcases h2 with ⟨h2,_⟩|⟨g',cap',cur,he,hb,hg,hc,hm,hs,ht⟩
 ·cases h2
 ·cases he
  rw[qJ hg]
  have hi2:=(List.getElem?_eq_some_iff.1 hi).1
  rw[←ht,List.getElem?_take] at hi
  split at hi
  ·rw[←hi];simp
  ·cases hi
theorem qD(h:w.ownsRow base e size v n xs):(v= .slice none 0 0∧n=0∧xs=[])∨∃g cap,v= .slice (some ⟨g,0,none⟩) n cap∧base≤g∧g<w.heap.size∧n≤cap∧cap≤maxLen:=by
 obtain⟨h1,h2⟩:=h
 rcases h2 with ⟨rfl,rfl⟩|⟨g,cap,cur,rfl,hb,hg,hc,hm,hs,ht⟩
 ·exact .inl ⟨rfl,rfl,List.eq_nil_of_length_eq_zero (by simpa using h1)⟩
 ·exact .inr ⟨g,cap,rfl,hb,qX hg,hc,hm⟩
end
def ElS(t e s bytes:Nat):Prop:=Tryz.prog.underlying t=some (.slice e)∧∃i z,Tryz.prog.info? e=some i∧i.zero=some z∧i.size=s∧i.bytes=bytes∧z.cells.size=s∧0<s
theorem ElS.of{t e s bytes:Nat}{z:Value}(h1:Tryz.prog.underlying t=some (.slice e))(h2:(Tryz.prog.info? e).map (λi=>(i.zero,i.size,i.bytes))=some (some z,s,bytes))(h3:z.cells.size=s)(h4:0<s):ElS t e s bytes:=by
 obtain⟨i0,hi,hx⟩:=Option.map_eq_some_iff.1 h2
 simp only[Prod.mk.injEq] at hx
 exact⟨h1,i0,z,hi,hx.1,hx.2.1,hx.2.2,h3,h4⟩
theorem app1S{w:World}{ops:Array Oper}{rest:List Oper}{o:Oper}{a:Act}{Q:Exit→Act→World→Prop}{t e sz bytes:Nat}(he:ElS t e sz bytes)(hgd:o.guard=none)(s x:Operand)
  (ho:o.op= .call {callee:= .builtin .append,args:=#[s,x],argTypes:=#[t,t]})
  (base:Nat) (v:Value) (n:Nat) (xs:List Value) (hs:a.eval s=v) (hown:w.ownsRow base e sz v n xs)
  (sb:Nat) (cs:List Value) (hx:a.eval x= .slice (some ⟨sb,0,none⟩) 1 1) (hb:w.heap[sb]? =some (.cells cs.toArray e (0,0))) (hl:cs.length=sz) (h1:∀u∈cs,u.oneCell'=true)
  (hby:bytes≤100) (h63:n+1≤1000000) (hbase:base≤w.heap.size)
  (h:∀v' w',w'.ownsRow base e sz v' (n+1) (xs++cs)→w.grownBy w' v.ownBlock→(v'.ownBlock=v.ownBlock∨v'.ownBlock=some w.heap.size)→wpList Tryz.prog ops Q rest (a.put o.dst v') w'):wpList Tryz.prog ops Q (o::rest) a w:=by
 obtain⟨ht,i,z,h1i,h2i,h3i,h4i,h5i,h6i⟩:=he
 refine wpList_append_own_at w hgd s x t ho base e i z sz bytes ht h1i h2i h3i h4i h5i h6i v n xs hs hown ⟨sb,0,none⟩ 1 1 cs hx (by omega) (λj u hu=>?_) h1 (by unfold maxLen;omega) ?_ hbase (λv' w' k1 k2 _ k4=>h v' w' k1 k2 k4)
 ·rw[add_mk,qJ hb];simpa using hu
 ·have h7:(n+1)*bytes≤(n+1)*100:=Nat.mul_le_mul_left _ hby
  omega
/- rows of elements -/
def cellsE(p:El×Value):List Value:=[.int .i64 p.1.kind,.int .i64 p.1.asn,.int .i64 p.1.rank,.int .i64 p.1.ticks,p.2]
theorem cellsE_len(p:El×Value):(cellsE p).length=5:=rfl
theorem ElE:ElS 69 172 5 56:=ElS.of (z:= .agg #[.int .i64 0,.int .i64 0,.int .i64 0,.int .i64 0,.slice none 0 0]) (by kernel_rfl) (by kernel_rfl) (by decide+kernel) (by decide)
theorem IeO.of_own{w:World}{own:Cls}{base:Nat}{v:Value}{ps:List (El×Value)}(h:w.ownsRow base 172 5 v ps.length (ps.flatMap cellsE))(hz:∀k,base≤k→own k=0)(hr:∀p∈ps,RV VI w own p.2 p.1.list):IeO w own v (ps.map Prod.fst):=by
 rcases qD h with ⟨h1,h2,_⟩|⟨g,cap,rfl,hb,hg,hc,hm⟩
 ·have:=List.eq_nil_of_length_eq_zero h2
  subst this
  exact .inl ⟨h1,rfl⟩
 ·refine .inr ⟨g,cap,by simp,hz g hb,by simpa using hc,hm,hg,λi hi=>?_⟩
  have hi2:i<ps.length:=by simpa using hi
  have e1:(ps.map Prod.fst)[i]=ps[i].1:=by simp
  have hcell:∀j u,j<5→(cellsE ps[i])[j]? =some u→w.cell? ⟨g,i*5+j,none⟩=some u:=λj u hj hu=>
   qL h (i*5+j) u (by rw[vh cellsE_len ps i j ps[i] (List.getElem?_eq_getElem hi2) hj];exact hu)
  rw[e1]
  exact⟨ps[i].2,⟨hcell 0 _ (by omega) rfl,hcell 1 _ (by omega) rfl,hcell 2 _ (by omega) rfl,hcell 3 _ (by omega) rfl,hcell 4 _ (by omega) rfl⟩,hr _ (List.getElem_mem hi2)⟩
theorem ofE_cases{k:Int}(h:ofE k=true):k=1∨k=2∨k=3∨k=4:=by
 have:1≤k∧k≤4:=by simpa [ofE,inR] using h
 omega
theorem right_any(k n:Int)(hk:ofE k=true)(w:World):Calls Tryz.prog 215 #[.int .i64 k,.int .i64 n] w (PV (.bool (vD k n)) w):=by
 have t1:=λx w=>ta_273_273 x w
 have t2:=λx w=>ta_275_273 x w
 have t3:=λx w=>ta_275_275 x w
 have t4:=λx w=>ta_277_273 x w
 have t5:=λx w=>ta_277_275 x w
 rcases ofE_cases hk with rfl|rfl|rfl|rfl
 ·have e:vD 1 n=(n==6):=rfl
  rw[e]
  clear e hk
  go_enter Tryz.func215,Tryz.ntmps215
  go_wp2_with fail
  (with_reducible refine (of_1 0 0 0 _ _).mono ?_)
  rintro e w1 ⟨rfl,G⟩
  have HG:=qQ G
  clear G
  go_wp2_with fail
  go_ret
  exact⟨rfl,HG.out⟩
 ·have e:vD 2 n=(n==2):=rfl
  rw[e]
  clear e hk
  go_enter Tryz.func215,Tryz.ntmps215
  go_wp2_with fail
  (with_reducible refine (of_2 0 0 0 _ _).mono ?_)
  rintro e w1 ⟨rfl,G⟩
  have HG:=qQ G
  clear G
  go_wp2_with fail
  go_ret
  exact⟨rfl,HG.out⟩
 ·have e:vD 3 n=decide (n≤16):=rfl
  rw[e]
  clear e hk
  go_enter Tryz.func215,Tryz.ntmps215
  go_wp2_with fail
  (with_reducible refine (of_l 3 0 0 0 none 0 0 _ (.inl rfl)).mono ?_)
  rintro e w1 ⟨rfl,G⟩
  have HG:=qQ G
  clear G
  go_wp2_with fail
  go_ret
  exact⟨rfl,HG.out⟩
 ·have e:vD 4 n=decide (n≤16):=rfl
  rw[e]
  clear e hk
  go_enter Tryz.func215,Tryz.ntmps215
  go_wp2_with fail
  (with_reducible refine (of_l 4 0 0 0 none 0 0 _ (.inr rfl)).mono ?_)
  rintro e w1 ⟨rfl,G⟩
  have HG:=qQ G
  clear G
  go_wp2_with fail
  go_ret
  exact⟨rfl,HG.out⟩
theorem short_any(w:World)(r:Nat)(s:RS)(h:Rx w r s):Calls Tryz.prog 166 #[.pointer (some ⟨r,0,none⟩)] w (PRx w r s (.bool (zq s))):=by
 have he:=rx_end w r s h
 unfold zq
 generalize rEnd s=q at *
 clear h
 go_enter Tryz.func166,Tryz.ntmps166
 go_wp2_with fail
 with_reducible refine he.mono ?_
 rintro e w1 ⟨rfl,R,G⟩
 have HG:=qQ (And.intro R G)
 clear R G he
 go_wp2_with fail
 go_ret
 exact⟨rfl,HG.out.1,HG.out.2⟩
theorem jr{w:World}{r:Nat}{s:RS}(h:Rx w r s)(m:Nat)(W:Int)(hW:((8*m:Nat):Int)=W)(hm:m≤8)(x:Int)(hx:ql s m=x)(s':RS)(hs:qS s m=s'):
  Calls Tryz.prog 162 #[.pointer (some ⟨r,0,none⟩),.int .i64 W] w (PRx w r s' (.int .u64 x)):=by
 rw[←hW,←hx,←hs];exact rx_take w r s m h hm
def PTakeE(w:World)(r:Nat)(s':RS)(e:El)(en:Ending)(w':World):Prop:=
 ∃lv,en= .returned (elV e lv)∧w'.ownsRow w.heap.size 3 1 lv e.list.length (e.list.map VI)∧Rx w' r s'∧Chg (· =r) w w'
theorem i16_is(x:Int)(h0:0≤x)(h1:x<65536):IntKind.i16.wrap x=i16 x:=by
 unfold i16;simp only[IntKind.wrap,IntKind.bits,IntKind.signed];simp;split <;> omega
theorem froz5{w:World}{b:Nat}{c:Array Value}{t:TypeId}(h:w.heap[b]? =some (.cells c t (0,0))):
  w.frozen? ⟨b,0,none⟩=false∧w.frozen? ⟨b,1,none⟩=false∧w.frozen? ⟨b,2,none⟩=false∧w.frozen? ⟨b,3,none⟩=false∧w.frozen? ⟨b,4,none⟩=false:=
 ⟨qK h 0,qK h 1,qK h 2,qK h 3,qK h 4⟩
theorem set5(w:World)(b:Nat)(v0 v1 v2 v3 v4:Value):Chg (· =b) w (((((w.setCell ⟨b,0,none⟩ v0).setCell ⟨b,1,none⟩ v1).setCell ⟨b,2,none⟩ v2).setCell ⟨b,3,none⟩ v3).setCell ⟨b,4,none⟩ v4):=
 ((((chg1 _ _ _ _).trans (chg1 _ _ _ _)).trans (chg1 _ _ _ _)).trans (chg1 _ _ _ _)).trans (chg1 _ _ _ _)
theorem set5b{w:World}{b:Nat}{a0 a1 a2 a3 a4:Value}{t:TypeId}(h:w.heap[b]? =some (.cells #[a0,a1,a2,a3,a4] t (0,0))) (v0 v1 v2 v3 v4:Value):
  (((((w.setCell ⟨b,0,none⟩ v0).setCell ⟨b,1,none⟩ v1).setCell ⟨b,2,none⟩ v2).setCell ⟨b,3,none⟩ v3).setCell ⟨b,4,none⟩ v4).heap[b]? =some (.cells #[v0,v1,v2,v3,v4] t (0,0)):=by
 have h0:=qB h 0 v0
 have h1:=qB h0 1 v1
 have h2:=qB h1 2 v2
 have h3:=qB h2 3 v3
 have h4:=qB h3 4 v4
 simpa using h4
theorem takeE_1(w:World)(r:Nat)(s:RS)(n:Int)(h:Rx w r s):Calls Tryz.prog 216 #[.pointer (some ⟨r,0,none⟩),.int .i64 1,.int .i64 n] w (PTakeE w r (j7 s 1 n) (takeE s 1 n)):=by
 obtain⟨x,hx⟩:∃x,ql s 5=x:=⟨_,rfl⟩
 obtain⟨s1,hs1⟩:∃s1,qS s 5=s1:=⟨_,rfl⟩
 obtain⟨y,hy⟩:∃y,ql s1 1=y:=⟨_,rfl⟩
 obtain⟨s2,hs2⟩:∃s2,qS s1 1=s2:=⟨_,rfl⟩
 have e1:takeE s 1 n=⟨1,x,y,0,[]⟩:=by simp[takeE,hx,hs1,hy]
 have e2:j7 s 1 n=s2:=by simp[j7,hs1,hs2]
 rw[e1,e2]
 have hxb:=zj h 5
 rw[hx] at hxb
 have hx0:0≤x:=hxb.1
 have hx1:x<1099511627776:=hxb.2
 have t1:=λx w=>ta_273_273 x w
 have HH:=qQ h
 have HX:=qQ hx
 have HS1:=qQ hs1
 have HY:=qQ hy
 have HS2:=qQ hs2
 clear h hx hs1 hy hs2 hxb e1 e2
 go_enter Tryz.func216,Tryz.ntmps216
 go_wp2_with fail
 (with_reducible refine (of_1 0 0 0 _ _).mono ?_)
 rintro e w1 ⟨rfl,G⟩
 have HB:=qQ (Chg.keep G (qV _ _) (λe=>e))
 have HG:=qQ ((Chg.alloc _ _ _).trans G)
 have HR:=qQ (HH.out.kept HG.out)
 have HLT:=qQ (show w.heap.size≠r by have:=HH.out.lt;omega)
 have HRL:=qQ HH.out.lt
 clear G HH
 go_wp2_with fail
 have gz:Chg (λ_=>False) w1 (w1.alloc (.cells #[.int .i64 0,.int .i64 0] 273)):=Chg.alloc _ _ _
 have HGZ:=qQ gz
 clear gz
 (with_reducible refine (jr (HR.out.kept HGZ.out) 5 40 rfl (by omega) x HX.out s1 HS1.out).mono ?_)
 rintro e w2 ⟨rfl,R2,G2⟩
 have HR2:=qQ (And.intro R2 G2)
 have hyb:=zj R2 1
 rw[HY.out] at hyb
 obtain⟨hy0,hy1⟩:=hyb
 clear R2 HR HX HS1
 go_wp2_with fail
 (with_reducible refine (jr HR2.out.1 1 8 rfl (by omega) y HY.out s2 HS2.out).mono ?_)
 rintro e w3 ⟨rfl,R3,G3⟩
 have HR3:=qQ (And.intro R3 (HR2.out.2.trans G3))
 clear R3 HR2 HY HS2
 go_wp2_with fail
 (with_reducible refine (plain_1 1 x y _).mono ?_)
 rintro e w4 ⟨rfl,G4⟩
 have HR4:=qQ (And.intro (HR3.out.1.kept G4) (((HG.out.none.trans HGZ.out.none).trans HR3.out.2).trans G4.none))
 clear HR3 HG
 have hb:=Chg.keep G4 (Chg.keep G3 (Chg.keep G2 (Chg.keep HGZ.out HB.out (λe=>e)) HLT.out) HLT.out) (λe=>e)
 obtain⟨c0,c1,c2,c3,c4⟩:=zN hb
 obtain⟨f0,f1,f2,f3,f4⟩:=froz5 hb
 clear G2 G3 G4
 go_wp2_with fail
 have gs:=set5 w4 w.heap.size (.int .i64 1) (.int .i64 x) (.int .i64 y) (.int .i64 0) (.slice none 0 0)
 have hs:=set5b hb (.int .i64 1) (.int .i64 x) (.int .i64 y) (.int .i64 0) (.slice none 0 0)
 have gall:Chg (λk=>k=r∨w.heap.size≤k) w _:=(HR4.out.2.mono (λk _ h=> .inl h)).trans (gs.mono (λk _ h=> .inr (by have h:k=w.heap.size:=h;omega)))
 obtain⟨k0,k1,k2,k3,k4⟩:=zN hs
 exact bodyPost_ret (v:=elV ⟨1,x,y,0,[]⟩ (.slice none 0 0)) (by simp[results,Tryz.results216,go_sem,elV,k0,k1,k2,k3,k4]) rfl ⟨_,rfl,World.ownsRow_nil _ _ _ _,HR4.out.1.keep gs (λj h1 h2=>by have:=HLT.out;have h2:j=w.heap.size:=h2;have:=HRL.out;omega),gall.old⟩
theorem takeE_2(w:World)(r:Nat)(s:RS)(n:Int)(h:Rx w r s):Calls Tryz.prog 216 #[.pointer (some ⟨r,0,none⟩),.int .i64 2,.int .i64 n] w (PTakeE w r (j7 s 2 n) (takeE s 2 n)):=by
 obtain⟨x,hx⟩:∃x,ql s 2=x:=⟨_,rfl⟩
 obtain⟨s1,hs1⟩:∃s1,qS s 2=s1:=⟨_,rfl⟩
 obtain⟨y,hy⟩:∃y,i16 x=y:=⟨_,rfl⟩
 have e1:takeE s 2 n=⟨2,0,0,y,[]⟩:=by simp[takeE,hx,hy]
 have e2:j7 s 2 n=s1:=by simp[j7,hs1]
 rw[e1,e2]
 have hxb:=zj h 2
 rw[hx] at hxb
 have hx0:0≤x:=hxb.1
 have hx1:x<65536:=hxb.2
 have hw:=i16_is x hx0 hx1
 rw[hy] at hw
 have hy0: -32768≤y:=by rw[←hy];unfold i16;split <;> omega
 have hy1:y≤32767:=by rw[←hy];unfold i16;split <;> omega
 have t1:=λx w=>ta_275_273 x w
 have t2:=λx w=>ta_275_275 x w
 have HH:=qQ h
 have HX:=qQ hx
 have HS1:=qQ hs1
 have HW:=qQ hw
 clear h hx hs1 hy hxb e1 e2 hw
 go_enter Tryz.func216,Tryz.ntmps216
 go_wp2_with fail
 (with_reducible refine (of_2 0 0 0 _ _).mono ?_)
 rintro e w1 ⟨rfl,G⟩
 have HB:=qQ (Chg.keep G (qV _ _) (λe=>e))
 have HG:=qQ ((Chg.alloc _ _ _).trans G)
 have HR:=qQ (HH.out.kept HG.out)
 have HLT:=qQ (show w.heap.size≠r by have:=HH.out.lt;omega)
 have HRL:=qQ HH.out.lt
 clear G HH
 go_wp2_with fail
 have gz:Chg (λ_=>False) w1 ((w1.alloc (.cells #[.int .i64 0,.int .i64 0] 273)).alloc (.cells #[.int .i64 0] 275)):=(Chg.alloc _ _ _).trans (Chg.alloc _ _ _)
 have HGZ:=qQ gz
 clear gz
 have hw:=HW.out
 (with_reducible refine (jr (HR.out.kept HGZ.out) 2 16 rfl (by omega) x HX.out s1 HS1.out).mono ?_)
 rintro e w2 ⟨rfl,R2,G2⟩
 have HR2:=qQ (And.intro R2 G2)
 have HB2:=qQ (Chg.keep G2 (Chg.keep HGZ.out HB.out (λe=>e)) HLT.out)
 clear R2 HR HX HS1 G2 HB
 go_wp2_with fail
 clear hw
 (with_reducible refine (plain_2 2 y _).mono ?_)
 rintro e w4 ⟨rfl,G4⟩
 have HR4:=qQ (And.intro (HR2.out.1.kept G4) (((HG.out.none.trans HGZ.out.none).trans HR2.out.2).trans G4.none))
 have hb:=Chg.keep G4 HB2.out (λe=>e)
 clear HR2 HG G4 HB2 HGZ
 obtain⟨c0,c1,c2,c3,c4⟩:=zN hb
 obtain⟨f0,f1,f2,f3,f4⟩:=froz5 hb
 go_wp2_with fail
 have gs:=set5 w4 w.heap.size (.int .i64 2) (.int .i64 0) (.int .i64 0) (.int .i64 y) (.slice none 0 0)
 have hs:=set5b hb (.int .i64 2) (.int .i64 0) (.int .i64 0) (.int .i64 y) (.slice none 0 0)
 have gall:Chg (λk=>k=r∨w.heap.size≤k) w _:=(HR4.out.2.mono (λk _ h=> .inl h)).trans (gs.mono (λk _ h=> .inr (by have h:k=w.heap.size:=h;omega)))
 obtain⟨k0,k1,k2,k3,k4⟩:=zN hs
 exact bodyPost_ret (v:=elV ⟨2,0,0,y,[]⟩ (.slice none 0 0)) (by simp[results,Tryz.results216,go_sem,elV,k0,k1,k2,k3,k4]) rfl ⟨_,rfl,World.ownsRow_nil _ _ _ _,HR4.out.1.keep gs (λj h1 h2=>by have:=HLT.out;have h2:j=w.heap.size:=h2;have:=HRL.out;omega),gall.old⟩
theorem takeE_3(w:World)(r:Nat)(s:RS)(k n:Int)(hk:k=3∨k=4)(hn:n≤1000)(h:Rx w r s):Calls Tryz.prog 216 #[.pointer (some ⟨r,0,none⟩),.int .i64 k,.int .i64 n] w (PTakeE w r (j7 s k n) (takeE s k n)):=by
 obtain⟨zs,hzs⟩:∃zs,js s n=zs:=⟨_,rfl⟩
 obtain⟨s1,hs1⟩:∃s1,zr s n=s1:=⟨_,rfl⟩
 have e1:takeE s k n=⟨k,0,0,0,zs⟩:=by unfold takeE;rw[if_neg (by omega),if_neg (by omega),hzs]
 have e2:j7 s k n=s1:=by unfold j7;rw[if_neg (by omega),if_neg (by omega),hs1]
 rw[e1,e2]
 have hte:=λw' (h':Rx w' r s)=>rx_text w' r s n h' (by omega)
 rw[hzs,hs1] at hte
 have t1:=λx w=>ta_277_273 x w
 have t2:=λx w=>ta_277_275 x w
 have HH:=qQ h
 have HT:=qQ hte
 have HK:=qQ hk
 clear h hzs hs1 e1 e2 hte hk
 go_enter Tryz.func216,Tryz.ntmps216
 go_wp2_with fail
 (with_reducible refine (of_l k 0 0 0 none 0 0 _ HK.out).mono ?_)
 rintro e w1 ⟨rfl,G⟩
 have HB:=qQ (Chg.keep G (qV _ _) (λe=>e))
 have HG:=qQ ((Chg.alloc _ _ _).trans G)
 have HR:=qQ (HH.out.kept HG.out)
 have HLT:=qQ (show w.heap.size≠r by have:=HH.out.lt;omega)
 have HRL:=qQ HH.out.lt
 clear G HH
 go_wp2_with fail
 have gz:Chg (λ_=>False) w1 ((w1.alloc (.cells #[.int .i64 0,.int .i64 0] 273)).alloc (.cells #[.int .i64 0] 275)):=(Chg.alloc _ _ _).trans (Chg.alloc _ _ _)
 have HGZ:=qQ gz
 clear gz
 (with_reducible refine (HT.out _ (HR.out.kept HGZ.out)).mono ?_)
 rintro e w2 ⟨tv,rfl,O2,R2,G2,hby,hln⟩
 obtain⟨A,c,rfl,hrs,hA⟩:=Rs.of_own O2
 obtain⟨len,hlen⟩:=qZ zs.length
 rw[←hlen] at hrs ⊢
 have HR2:=qQ (And.intro R2 ((HG.out.none.trans HGZ.out.none).trans G2))
 have HB2:=qQ (Chg.keep G2 (Chg.keep HGZ.out HB.out (λe=>e)) HLT.out)
 have HRS:=qQ hrs
 have HBY:=qQ hby
 have HLEN:=qQ hlen
 have hl0:(len:Int)≤100000:=by omega
 have hsz2:w.heap.size+1≤w2.heap.size:=by have:=qX HB2.out;omega
 have HSZ:=qQ hsz2
 clear R2 HR G2 HB O2 hrs hby hlen hln HT HG HGZ hsz2
 go_wp2_with fail
 go_loopw [12,52] (λu12 i wr=>∃(j:Nat),j≤len∧i= .int .i64 j∧wr.ownsRow w2.heap.size 3 1 u12 j ((zs.take j).map VI)∧Chg (λb=>w2.heap.size≤b) w2 wr) (λ_ i _=>len-(intOf i).toNat)
 case atStart=>exact⟨0,by omega,rfl,World.ownsRow_nil _ _ _ _,Chg.refl _ _⟩
 case round=>
  obtain⟨j,hj,rfl,hO,hG⟩:=hrel
  have HO:=qQ hO
  have HGR:=qQ hG
  clear hO hG
  by_cases hlt:j<len
  ·obtain⟨x,z,rfl,_,hz,hc⟩:=(HRS.out.keep HGR.out.fresh (λ_ _ e=>e)).at hlt
   obtain⟨z0,z1⟩:=HBY.out z (List.mem_of_getElem? hz)
   unfold V8 at hc
   have hnx:zs.take (j+1)=zs.take j++[z]:=by rw[List.take_add_one,hz];rfl
   have HNX:=qQ hnx
   clear hz hnx
   go_wp2_with (at_builtin;go_loud (refine app1 (V:=VI) elI rfl (.tmp 56) (.tmp 59) rfl w2.heap.size u12 j ((zs.take j).map VI) rfl (HO.out.alloc _) wr.heap.size z rfl ?c1 rfl (by omega) (by omega) ?hb ?grow))
   case c1=>simp[VI]
   case hb=>have:=HSZ.out;have:=HGR.out.size;simp;omega
   case grow=>
    intro v4 w4 hown hgr hat
    have ga:=Chg.alloc (λ_=>False) wr (.cells #[.int .i64 z] 3)
    have gg:=qH (S:=λb=>w2.heap.size≤b) hgr (λb e=>(qT HO.out e).1)
    have hX:w4.ownsRow w2.heap.size 3 1 v4 (j+1) ((zs.take (j+1)).map VI):=by rw[HNX.out,List.map_append,List.map_take];exact hown
    have HX:=qQ (And.intro hX ((HGR.out.trans ga.none).trans gg))
    clear hown hgr hat ga gg hX HO HGR hc
    go_wp2_with fail
    go_roundw
    case measure=>simp[intOf];omega
    case rel=>exact⟨j+1,by omega,by go_num,HX.out.1,HX.out.2⟩
  ·obtain rfl:j=len:=by omega
   have hO:=HO.out
   rw[List.take_of_length_le (by have:=HLEN.out;omega)] at hO
   obtain⟨A2,c2,rfl,_⟩:=Rs.of_own (V:=VI) (zs:=zs) hO
   have HO2:=qQ hO
   clear hO HO
   have gF:=HGR.out.fresh
   have HGF:=qQ gF
   clear gF HGR
   go_wp2_with fail
   (with_reducible refine (plain_3 k A2 j c2 _).mono ?_)
   rintro e w5 ⟨rfl,G5⟩
   have hb:=Chg.keep (HGF.out.trans G5) HB2.out (λe=>e)
   have HR5:=qQ (And.intro (HR2.out.1.kept (HGF.out.trans G5)) (HR2.out.2.trans (HGF.out.trans G5).none))
   have HO5:=qQ (qY HO2.out G5 (λ_ _ e=>e))
   clear HR2 HGF G5 HB2 HO2
   obtain⟨c0,c1,c2',c3,c4⟩:=zN hb
   obtain⟨f0,f1,f2,f3,f4⟩:=froz5 hb
   go_wp2_with fail
   have gs:=set5 w5 w.heap.size (.int .i64 k) (.int .i64 0) (.int .i64 0) (.int .i64 0) (.slice A2 j c2)
   have hs:=set5b hb (.int .i64 k) (.int .i64 0) (.int .i64 0) (.int .i64 0) (.slice A2 j c2)
   have gall:Chg (λk=>k=r∨w.heap.size≤k) w _:=(HR5.out.2.mono (λk _ h=> .inl h)).trans (gs.mono (λk _ h=> .inr (by have h:k=w.heap.size:=h;omega)))
   obtain⟨k0,k1,k2,k3,k4⟩:=zN hs
   have hoo:=qY HO5.out gs (λb h1 h2=>by have:=(qT HO5.out h1).1;have h2:b=w.heap.size:=h2;have:=HSZ.out;omega)
   have hll:=HLEN.out
   exact bodyPost_ret (v:=elV ⟨k,0,0,0,zs⟩ (.slice A2 j c2)) (by simp[results,Tryz.results216,go_sem,elV,k0,k1,k2,k3,k4]) rfl ⟨_,rfl,by rw[←hll];exact qk hoo (by have:=HSZ.out;omega),HR5.out.1.keep gs (λj h1 h2=>by have:=HLT.out;have h2:j=w.heap.size:=h2;have:=HRL.out;omega),gall.old⟩
theorem takeE_any(w:World)(r:Nat)(s:RS)(k n:Int)(hk:ofE k=true)(hn:n≤1000)(h:Rx w r s):Calls Tryz.prog 216 #[.pointer (some ⟨r,0,none⟩),.int .i64 k,.int .i64 n] w (PTakeE w r (j7 s k n) (takeE s k n)):=by
 rcases ofE_cases hk with rfl|rfl|rfl|rfl
 ·exact takeE_1 w r s n h
 ·exact takeE_2 w r s n h
 ·exact takeE_3 w r s 3 n (.inl rfl) hn h
 ·exact takeE_3 w r s 4 n (.inr rfl) hn h
end Go.Proofs.YtnpihllannobgaaGreatDoor
