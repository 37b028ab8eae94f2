/- Steps of the proof, part H06. No condition. -/
import Derived.Test.YtnpihllannobgaaGreatDoorH04
namespace Go.Proofs.YtnpihllannobgaaGreatDoor
set_option linter.unusedVariables false
set_option linter.unusedSimpArgs false
set_option maxRecDepth 100000
set_option maxHeartbeats 32000000
open Go.ChangeShapes Go.WideShapes Go.ChangeAt Go.RowKit
theorem qj{w:World}{base base' e size n:Nat}{v:Value}{xs:List Value}(h:w.ownsRow base e size v n xs)(hb:base'≤base):w.ownsRow base' e size v n xs:=by
 refine⟨h.1,?_⟩
 rcases h.2 with hn|⟨k,cap,cur,rfl,hbb,rest⟩
 ·exact .inl hn
 ·exact .inr ⟨k,cap,cur,rfl,Nat.le_trans hb hbb,rest⟩
theorem mayE_of{e:El}(h:mayE e=true):(e.kind=1∧e.list=[]∧0≤e.asn∧e.asn≤1099511627775∧0≤e.rank∧e.rank≤255∧e.ticks=0)∨
  (e.kind=2∧e.list=[]∧e.asn=0∧e.rank=0∧-32768≤e.ticks∧e.ticks≤32767)∨
  ((e.kind=3∨e.kind=4)∧e.list.length≤16∧(∀z∈e.list,0≤z∧z<256)∧e.asn=0∧e.rank=0∧e.ticks=0):=by
 obtain⟨k,a,b,c,L⟩:=e
 simp only[mayE,ofE,zW,plainE,inR,Bool.and_eq_true,decide_eq_true_eq] at h
 obtain⟨⟨h1,h2⟩,h3,h4⟩:=h
 rcases (by omega:k=1∨k=2∨k=3∨k=4) with rfl|rfl|rfl|rfl
 ·simp at h3 h4;left;simp[h4];omega
 ·simp at h3 h4;right;left;simp[h4];omega
 ·simp at h3 h4;right;right
  refine⟨.inl rfl,h3.1,λz hz=>?_,h4.1,h4.2.1,h4.2.2⟩
  have:=h3.2 z hz;omega
 ·simp at h3 h4;right;right
  refine⟨.inr rfl,h3.1,λz hz=>?_,h4.1,h4.2.1,h4.2.2⟩
  have:=h3.2 z hz;omega
theorem encE_len{e:El}(h:mayE e=true):(encE e).length≤18:=by
 rcases mayE_of h with ⟨h1,_⟩|⟨h1,_⟩|⟨h1,h2,_⟩
 ·simp[encE,bodyE,h1,qq]
 ·simp[encE,bodyE,h1,qq]
 ·have h3:e.kind≠1:=by omega
  have h4:e.kind≠2:=by omega
  simp[encE,bodyE,h3,h4];omega
theorem encI_len{l:List El}(h:∀e∈l,mayE e=true):(l.flatMap encE).length≤18*l.length:=by
 induction l with
 |nil=>simp
 |cons e l ih=>
  have h1:=encE_len (h e (by simp))
  have h2:=ih (λx hx=>h x (by simp[hx]))
  simp[List.flatMap_cons];simp at h2;omega
theorem encE_1{e:El}(h:e.kind=1):encE e=1::6::(be 5 e.asn++be 1 e.rank):=by unfold encE bodyE;rw[if_pos h,h]
theorem encE_2{e:El}(h:e.kind=2):encE e=2::2::be 2 (IntKind.u64.wrap e.ticks):=by unfold encE bodyE;rw[if_neg (by omega),if_pos h,h]
theorem encE_3{e:El}(h:e.kind=3∨e.kind=4):encE e=e.kind::(e.list.length:Int)::e.list:=by unfold encE bodyE;rw[if_neg (by omega),if_neg (by omega)]
theorem encE_byte{e:El}(h:mayE e=true):∀x∈encE e,0≤x∧x<256:=by
 intro x hx
 rcases mayE_of h with ⟨h1,_⟩|⟨h1,_⟩|⟨h1,h2,h3,_⟩
 ·rw[encE_1 h1] at hx
  simp only[List.mem_cons,List.mem_append] at hx
  rcases hx with hx|hx|hx|hx
  ·omega
  ·omega
  ·exact zK _ _ x hx
  ·exact zK _ _ x hx
 ·rw[encE_2 h1] at hx
  simp only[List.mem_cons] at hx
  rcases hx with hx|hx|hx
  ·omega
  ·omega
  ·exact zK _ _ x hx
 ·rw[encE_3 h1] at hx
  simp only[List.mem_cons] at hx
  rcases hx with hx|hx|hx
  ·omega
  ·omega
  ·exact h3 x hx
theorem encI_byte{l:List El}(hl:l.length≤4)(h:∀e∈l,mayE e=true):∀x∈encI l,0≤x∧x<256:=by
 intro x hx
 simp only[encI,List.mem_cons,List.mem_flatMap] at hx
 rcases hx with rfl|⟨e,he,hx⟩
 ·omega
 ·exact encE_byte (h e he) x hx
def PEnc(w:World)(L:List Int)(en:Ending)(w':World):Prop:=
 ∃v,en= .returned (.tuple #[v,.int .i64 0])∧w'.ownsRow w.heap.size 5 1 v L.length (L.map V8)∧Chg (λ_=>False) w w'
theorem iencode_any(w:World)(own:Cls)(v:Value)(l:List El)(h:IeO w own v l)(hl:l.length≤4)(hm:∀e∈l,mayE e=true):
  Calls Tryz.prog 99 #[v] w (PEnc w (encI l)):=by
 have hll:∀e∈l,e.list.length≤100000:=λe he=>by
  rcases mayE_of (hm e he) with ⟨_,h,_⟩|⟨_,h,_⟩|⟨_,h,_⟩
  ·rw[h];simp
  ·rw[h];simp
  ·omega
 have hno:l.any (λe=>!mayE e)=false:=by
  rw[List.any_eq_false];intro e he;rw[hm e he];simp
 have hc:=containsFE_any w own v 152 #[] l _ h (by omega) (fn152 w own l hll)
 rw[hno] at hc
 obtain⟨E,hE⟩:=qZ (encI l)
 rw[←hE]
 have HE:=qQ hE
 have H:=qQ h
 have HM:=qQ hm
 have HC:=qQ hc
 obtain⟨A,c,rfl⟩:=h.val
 obtain⟨len,hlen⟩:=qZ l.length
 rw[←hlen] at hl H HC ⊢
 have HL:=qQ hlen
 have hl2:(len:Int)≤4:=by omega
 have p1:=λ(x:Value) (w:World)=>p317 x w
 have p2:=λ(x:Value) (w:World)=>p319 x w
 have p3:=λ(x:Value) (w:World)=>p321 x w
 clear hlen hno hc h hm hE hll
 go_enter Tryz.func99,Tryz.ntmps99
 go_wp2_with fail
 with_reducible refine HC.out.mono ?_
 rintro e w1 ⟨rfl,G1⟩
 have HG1:=qQ G1
 clear G1 HC
 go_wp2_with fail
 have W2:Wr (w1.alloc (.cells #[.slice none 0 0,.int .i64 0] 180)) w1.heap.size (.slice none 0 0) []:=⟨qV _ _,World.ownsRow_nil _ _ _ _⟩
 have G2:=HG1.out.trans (Chg.alloc _ w1 (.cells #[.slice none 0 0,.int .i64 0] 180))
 have hbs:w.heap.size≤w1.heap.size:=HG1.out.size
 have HW2:=qQ (WC.start W2)
 have HG2:=qQ G2
 have HBS:=qQ hbs
 clear W2 G2 HG1 hbs
 generalize w1.heap.size=b at *
 generalize w1.alloc (.cells #[.slice none 0 0,.int .i64 0] 180)=w2 at *
 (with_reducible refine (zX HW2.out 1 8 rfl (by omega) (len:Int) (by omega) (by omega) (by simp)).mono ?_)
 rintro e w3 ⟨rfl,W3,C3⟩
 have hst:[]++be 1 (len:Int)=[(len:Int)]++(l.take 0).flatMap encE:=by rw[be_one _ (by omega) (by omega)];simp
 rw[hst] at W3
 have HW3:=qQ W3
 clear W3 C3 HW2 hst
 go_wp2_with fail
 go_loopw [23] (λi wr=>∃(k:Nat),k≤len∧i= .int .i64 k∧WC w2 wr b ([(len:Int)]++(l.take k).flatMap encE)) (λi _=>len-(intOf i).toNat)
 case atStart=>exact⟨0,by omega,rfl,HW3.out⟩
 case round=>
  obtain⟨k,hk,rfl,hP⟩:=hrel
  have HP:=qQ hP
  clear hP HW3
  by_cases hlt:k<len
  ·obtain⟨e,he⟩:∃e,l[k]? =some e:=⟨_,List.getElem?_eq_getElem (by have:=HL.out;omega)⟩
   have gw:Chg (λ_=>False) w wr:=(HG2.out.none.trans (HP.out.2.chg.mono (λj _ h2=>(Nat.le_trans HBS.out h2)))).fresh
   obtain⟨g,c',lv,hv,hce,hr⟩:=H.out.at he
   rw[←HL.out] at hv
   cases hv
   have hme:=HM.out e (List.mem_of_getElem? he)
   have hnx:(l.take (k+1)).flatMap encE=(l.take k).flatMap encE++encE e:=by
    rw[List.take_add_one,he,List.flatMap_append];simp
   have hbd:((l.take k).flatMap encE).length≤72:=by
    have h1:=encI_len (l:=l.take k) (λx hx=>HM.out x (List.mem_of_mem_take hx))
    rw[List.length_take] at h1;have:=HL.out;omega
   obtain⟨A',ca,rfl,hr2,_⟩:=hr.rs
   obtain⟨c0,c1,c2,c3,c4⟩:=hce.keep gw (λe=>e)
   have i1:(k:Int)<(len:Int):=by omega
   have hmk:=mayE_of hme
   have HNX:=qQ hnx
   have HBD:=qQ hbd
   have HR2:=qQ (hr2.keep gw (λ_ _ e=>e))
   clear hme he gw hnx hbd hr hr2 hce
   obtain⟨ek,ea,er,et,el⟩:=e
   simp only at c0 c1 c2 c3 hmk
   rcases hmk with ⟨hk1,hx1,ha0,ha1,hr0,hr1,ht⟩|⟨hk1,hx1,ha,hr,ht0,ht1⟩|⟨hk1,hx1,hx2,ha,hr,ht⟩
   ·subst hk1
    have ga:=Chg.alloc (λ_=>False) wr (.cells #[.int .i64 1,.int .i64 ea,.int .i64 er,.int .i64 et,.slice A' el.length ca] 172)
    have hba:=qV wr (.cells #[.int .i64 1,.int .i64 ea,.int .i64 er,.int .i64 et,.slice A' el.length ca] 172)
    have hbb:wr.heap.size≠b:=by obtain⟨⟨_,hw⟩,_⟩:=HP.out;have:=qX hw.blk;omega
    have HGA:=qQ (And.intro ga hba)
    have HBB:=qQ hbb
    clear ga hba hbb
    clear hx1 ht
    go_wp2_with fail
    clear c0 c1 c2 c3 c4
    (with_reducible refine (zX (HP.out.kept HGA.out.1) 1 8 rfl (by omega) 1 (by omega) (by omega) (by have:=HBD.out;simp only[List.length_append,List.length_cons,List.length_nil,qq];omega)).mono ?_)
    rintro e w4 ⟨rfl,W4,C4⟩
    have hb4:=C4.keep HGA.out.2 HBB.out (.inl (by decide))
    obtain⟨c0,c1,c2,c3,c4⟩:=zB hb4
    have HW4:=qQ (And.intro W4 C4)
    clear W4 C4 hb4
    go_wp2_with fail
    clear c0 c1 c2 c3 c4
    (with_reducible refine (of_1 ea er et _ _).mono ?_)
    rintro e w5 ⟨rfl,G5⟩
    have HG5:=qQ G5
    clear G5
    go_wp2_with fail
    obtain⟨⟨v5,hw5⟩,hc5⟩:=HW4.out.1.kept HG5.out
    have hput:=sput_any w5 ea er b v5 _ hw5 (by have:=HBD.out;simp only[List.length_append,List.length_cons,List.length_nil,qq];omega) ⟨ha0,ha1⟩ ⟨hr0,hr1⟩
    have HPUT:=qQ hput
    have HC5:=qQ hc5
    clear hput hc5 hw5
    with_reducible refine HPUT.out.mono ?_
    rintro e w6 ⟨rfl,W6,C6⟩
    have hfin:[(len:Int)]++(l.take k).flatMap encE++be 1 1++be 1 6++be 5 ea++be 1 er=[(len:Int)]++(l.take (k+1)).flatMap encE:=by
     rw[HNX.out,encE_1 rfl]
     simp only[List.append_assoc,List.cons_append,List.nil_append]
     rw[be_one 1 (by omega) (by omega),be_one 6 (by omega) (by omega)]
     simp
    have HFIN:Hid (WC w2 w6 b ([(len:Int)]++(l.take (k+1)).flatMap encE)):=qQ (by rw[←hfin];exact⟨by simpa only[List.append_assoc] using W6,HC5.out.trans C6⟩)
    clear hfin W6 C6 HC5 HPUT HG5 HW4 HGA
    go_wp2_with fail
    go_roundw
    case measure=>simp[intOf];omega
    case rel=>exact⟨k+1,by omega,by go_num,HFIN.out⟩
   ·subst hk1
    have ga:=Chg.alloc (λ_=>False) wr (.cells #[.int .i64 2,.int .i64 ea,.int .i64 er,.int .i64 et,.slice A' el.length ca] 172)
    have hba:=qV wr (.cells #[.int .i64 2,.int .i64 ea,.int .i64 er,.int .i64 et,.slice A' el.length ca] 172)
    have hbb:wr.heap.size≠b:=by obtain⟨⟨_,hw⟩,_⟩:=HP.out;have:=qX hw.blk;omega
    have HGA:=qQ (And.intro ga hba)
    have HBB:=qQ hbb
    clear ga hba hbb
    clear hx1 ha hr
    go_wp2_with fail
    clear c0 c1 c2 c3 c4
    (with_reducible refine (zX (HP.out.kept HGA.out.1) 1 8 rfl (by omega) 2 (by omega) (by omega) (by have:=HBD.out;simp only[List.length_append,List.length_cons,List.length_nil,qq];omega)).mono ?_)
    rintro e w4 ⟨rfl,W4,C4⟩
    have hb4:=C4.keep HGA.out.2 HBB.out (.inl (by decide))
    obtain⟨c0,c1,c2,c3,c4⟩:=zB hb4
    have HW4:=qQ (And.intro W4 C4)
    clear W4 C4 hb4
    go_wp2_with fail
    clear c0 c1 c2 c3 c4
    (with_reducible refine (of_2 ea er et _ _).mono ?_)
    rintro e w5 ⟨rfl,G5⟩
    have HG5:=qQ G5
    clear G5
    go_wp2_with fail
    obtain⟨⟨v5,hw5⟩,hc5⟩:=HW4.out.1.kept HG5.out
    have hput:=cput_any w5 et b v5 _ hw5 (by have:=HBD.out;simp only[List.length_append,List.length_cons,List.length_nil,qq];omega)
    have HPUT:=qQ hput
    have HC5:=qQ hc5
    clear hput hc5 hw5
    with_reducible refine HPUT.out.mono ?_
    rintro e w6 ⟨rfl,W6,C6⟩
    have hfin:[(len:Int)]++(l.take k).flatMap encE++be 1 2++be 1 2++be 2 (IntKind.u64.wrap et)=[(len:Int)]++(l.take (k+1)).flatMap encE:=by
     rw[HNX.out,encE_2 rfl]
     simp only[List.append_assoc,List.cons_append,List.nil_append]
     rw[be_one 2 (by omega) (by omega)]
     simp
    have HFIN:Hid (WC w2 w6 b ([(len:Int)]++(l.take (k+1)).flatMap encE)):=qQ (by rw[←hfin];exact⟨by simpa only[List.append_assoc] using W6,HC5.out.trans C6⟩)
    clear hfin W6 C6 HC5 HPUT HG5 HW4 HGA
    go_wp2_with fail
    go_roundw
    case measure=>simp[intOf];omega
    case rel=>exact⟨k+1,by omega,by go_num,HFIN.out⟩
   ·skip
    have ga:=Chg.alloc (λ_=>False) wr (.cells #[.int .i64 ek,.int .i64 ea,.int .i64 er,.int .i64 et,.slice A' el.length ca] 172)
    have hba:=qV wr (.cells #[.int .i64 ek,.int .i64 ea,.int .i64 er,.int .i64 et,.slice A' el.length ca] 172)
    have hbb:wr.heap.size≠b:=by obtain⟨⟨_,hw⟩,_⟩:=HP.out;have:=qX hw.blk;omega
    have HGA:=qQ (And.intro ga hba)
    have HBB:=qQ hbb
    have HKK:=qQ hk1
    clear ga hba hbb
    have hk2:3≤ek∧ek≤4:=by omega
    obtain⟨hk3,hk4⟩:=hk2
    clear hk1 ha hr ht
    go_wp2_with fail
    clear c0 c1 c2 c3 c4
    (with_reducible refine (zX (HP.out.kept HGA.out.1) 1 8 rfl (by omega) ek (by omega) (by omega) (by have:=HBD.out;simp only[List.length_append,List.length_cons,List.length_nil,qq];omega)).mono ?_)
    rintro e w4 ⟨rfl,W4,C4⟩
    have hb4:=C4.keep HGA.out.2 HBB.out (.inl (by decide))
    obtain⟨c0,c1,c2,c3,c4⟩:=zB hb4
    have HW4:=qQ (And.intro W4 C4)
    clear W4 C4 hb4
    go_wp2_with fail
    clear c0 c1 c2 c3 c4
    (with_reducible refine (of_l ek ea er et A' el.length ca _ HKK.out).mono ?_)
    rintro e w5 ⟨rfl,G5⟩
    have HG5:=qQ G5
    clear G5
    go_wp2_with fail
    obtain⟨⟨v5,hw5⟩,hc5⟩:=HW4.out.1.kept HG5.out
    have hput:=lput_any w5 A' el.length ca el b v5 _ hw5 (by have:=HBD.out;simp only[List.length_append,List.length_cons,List.length_nil,qq];omega) (((HR2.out.keep HGA.out.1 (λ_ _ e=>e)).keep HW4.out.2.chg (λj h1 h2=>by have:=HBS.out;omega)).keep HG5.out (λ_ _ e=>e) |>.more HBS.out) hx2 hx1
    have HPUT:=qQ hput
    have HC5:=qQ hc5
    clear hput hc5 hw5
    with_reducible refine HPUT.out.mono ?_
    rintro e w6 ⟨rfl,W6,C6⟩
    have hfin:[(len:Int)]++(l.take k).flatMap encE++be 1 ek++be 1 (el.length:Int)++el=[(len:Int)]++(l.take (k+1)).flatMap encE:=by
     rw[HNX.out,encE_3 HKK.out]
     simp only[List.append_assoc,List.cons_append,List.nil_append]
     rw[be_one ek (by omega) (by omega),be_one (el.length:Int) (by omega) (by omega)]
     simp
    have HFIN:Hid (WC w2 w6 b ([(len:Int)]++(l.take (k+1)).flatMap encE)):=qQ (by rw[←hfin];exact⟨by simpa only[List.append_assoc] using W6,HC5.out.trans C6⟩)
    clear hfin W6 C6 HC5 HPUT HG5 HW4 HGA
    go_wp2_with fail
    go_roundw
    case measure=>simp[intOf];omega
    case rel=>exact⟨k+1,by omega,by go_num,HFIN.out⟩
  ·obtain rfl:k=len:=by omega
   go_wp2_with fail
   obtain⟨⟨v',hw⟩,hc⟩:=HP.out
   have hEE:[(k:Int)]++(l.take k).flatMap encE=E:=by
    rw[HE.out,List.take_of_length_le (by have:=HL.out;omega)]
    unfold encI;rw[←HL.out];rfl
   rw[hEE] at hw
   have hEl:E.length≤100000:=by
    have h1:=encI_len (l:=l) HM.out
    have:=HL.out
    rw[HE.out];simp[encI];simp at h1;omega
   have hb:=bytes_any wr b v' E hw hEl
   have HB:=qQ hb
   have HC:=qQ hc
   clear hb hc hw hEE hEl
   with_reducible refine HB.out.mono ?_
   rintro e w5 ⟨v5,rfl,hown,G5⟩
   have hsz:w.heap.size≤wr.heap.size:=Nat.le_trans HG2.out.size HC.out.size
   have HX:=qQ (And.intro (qj hown hsz) ((HG2.out.none.trans (HC.out.chg.mono (λj _ h2=>(Nat.le_trans HBS.out h2)))).fresh.trans G5))
   clear hown G5 hsz HB HC
   go_wp2_with fail
   exact bodyPost_ret (v:= .tuple #[v5,.int .i64 0]) (by simp[results,Tryz.results99,go_sem]) rfl ⟨v5,rfl,HX.out.1,HX.out.2⟩
theorem flat_len{α:Type}{f:α→List Value}{s:Nat}(hf:∀a,(f a).length=s)(ps:List α):(ps.flatMap f).length=ps.length*s:=by
 induction ps with
 |nil=>simp
 |cons p ps ih=>
  have:=hf p
  rw[List.flatMap_cons,List.length_append,ih,this,List.length_cons,Nat.add_mul];omega
theorem jz{α:Type}{f:α→List Value}{s:Nat}(hf:∀a,(f a).length=s)(ps:List α)(i j:Nat)(a:α)(hi:ps[i]? =some a) (hj:j<s):(ps.flatMap f)[i*s+j]? =(f a)[j]? :=by
 induction ps generalizing i with
 |nil=>simp at hi
 |cons p ps ih=>
  have hp:=hf p
  rw[List.flatMap_cons]
  cases i with
  |zero=>
   simp at hi
   subst hi
   rw[List.getElem?_append_left (by omega)];simp
  |succ i=>
   rw[List.getElem?_append_right (by rw[hp,Nat.add_mul];omega),hp,show (i+1)*s+j-s=i*s+j from by rw[Nat.add_mul];omega]
   exact ih i (by simpa using hi)
section
variable {w w':World}{base e size n:Nat}{v:Value}{xs:List Value}
theorem qM{g cap:Nat}(h:w.ownsRow base e size (.slice (some ⟨g,0,none⟩) n cap) n xs)(i:Nat)(x:Value)(hi:xs[i]? =some x):w.cell? ⟨g,i,none⟩=some x:=by
 obtain⟨h1,h2⟩:=h
 rcases h2 with ⟨h2,_⟩|⟨g',cap',cur,he,hb,hg,hc,hm,hs,ht⟩
 ·cases h2
 ·cases he
  rw[qJ hg]
  have hi2:=(List.getElem?_eq_some_iff.1 hi).1
  rw[←ht,List.getElem?_take] at hi
  split at hi
  ·rw[←hi];simp
  ·cases hi
theorem qD(h:w.ownsRow base e size v n xs):(v= .slice none 0 0∧n=0∧xs=[])∨∃g cap,v= .slice (some ⟨g,0,none⟩) n cap∧base≤g∧g<w.heap.size∧n≤cap∧cap≤maxLen:=by
 obtain⟨h1,h2⟩:=h
 rcases h2 with ⟨rfl,rfl⟩|⟨g,cap,cur,rfl,hb,hg,hc,hm,hs,ht⟩
 ·exact .inl ⟨rfl,rfl,List.eq_nil_of_length_eq_zero (by simpa using h1)⟩
 ·exact .inr ⟨g,cap,rfl,hb,qX hg,hc,hm⟩
end
def ElS(t e s bytes:Nat):Prop:=Tryz.prog.underlying t=some (.slice e)∧∃i z,Tryz.prog.info? e=some i∧i.zero=some z∧i.size=s∧i.bytes=bytes∧z.cells.size=s∧0<s
theorem ElS.of{t e s bytes:Nat}{z:Value}(h1:Tryz.prog.underlying t=some (.slice e))(h2:(Tryz.prog.info? e).map (λi=>(i.zero,i.size,i.bytes))=some (some z,s,bytes))(h3:z.cells.size=s)(h4:0<s):ElS t e s bytes:=by
 obtain⟨i0,hi,hx⟩:=Option.map_eq_some_iff.1 h2
 simp only[Prod.mk.injEq] at hx
 exact⟨h1,i0,z,hi,hx.1,hx.2.1,hx.2.2,h3,h4⟩
theorem app1S{w:World}{ops:Array Oper}{rest:List Oper}{o:Oper}{a:Act}{Q:Exit→Act→World→Prop}{t e sz bytes:Nat}(he:ElS t e sz bytes)(hgd:o.guard=none)(s x:Operand)
  (ho:o.op= .call {callee:= .builtin .append,args:=#[s,x],argTypes:=#[t,t]})
  (base:Nat) (v:Value) (n:Nat) (xs:List Value) (hs:a.eval s=v) (hown:w.ownsRow base e sz v n xs)
  (sb:Nat) (cs:List Value) (hx:a.eval x= .slice (some ⟨sb,0,none⟩) 1 1) (hb:w.heap[sb]? =some (.cells cs.toArray e (0,0))) (hl:cs.length=sz) (h1:∀u∈cs,u.oneCell'=true)
  (hby:bytes≤100) (h63:n+1≤1000000) (hbase:base≤w.heap.size)
  (h:∀v' w',w'.ownsRow base e sz v' (n+1) (xs++cs)→w.grownBy w' v.ownBlock→(v'.ownBlock=v.ownBlock∨v'.ownBlock=some w.heap.size)→wpList Tryz.prog ops Q rest (a.put o.dst v') w'):wpList Tryz.prog ops Q (o::rest) a w:=by
 obtain⟨ht,i,z,h1i,h2i,h3i,h4i,h5i,h6i⟩:=he
 refine wpList_append_own_at w hgd s x t ho base e i z sz bytes ht h1i h2i h3i h4i h5i h6i v n xs hs hown ⟨sb,0,none⟩ 1 1 cs hx (by omega) (λj u hu=>?_) h1 (by unfold maxLen;omega) ?_ hbase (λv' w' k1 k2 _ k4=>h v' w' k1 k2 k4)
 ·rw[add_mk,qJ hb];simpa using hu
 ·have h7:(n+1)*bytes≤(n+1)*100:=Nat.mul_le_mul_left _ hby
  omega
/- rows of elements -/
def cellsE(p:El×Value):List Value:=[.int .i64 p.1.kind,.int .i64 p.1.asn,.int .i64 p.1.rank,.int .i64 p.1.ticks,p.2]
theorem cellsE_len(p:El×Value):(cellsE p).length=5:=rfl
theorem ElE:ElS 69 172 5 56:=ElS.of (z:= .agg #[.int .i64 0,.int .i64 0,.int .i64 0,.int .i64 0,.slice none 0 0]) (by kernel_rfl) (by kernel_rfl) (by decide+kernel) (by decide)
theorem IeO.of_own{w:World}{own:Cls}{base:Nat}{v:Value}{ps:List (El×Value)}(h:w.ownsRow base 172 5 v ps.length (ps.flatMap cellsE))(hz:∀k,base≤k→own k=0)(hr:∀p∈ps,RV VI w own p.2 p.1.list):IeO w own v (ps.map Prod.fst):=by
 rcases qD h with ⟨h1,h2,_⟩|⟨g,cap,rfl,hb,hg,hc,hm⟩
 ·have:=List.eq_nil_of_length_eq_zero h2
  subst this
  exact .inl ⟨h1,rfl⟩
 ·refine .inr ⟨g,cap,by simp,hz g hb,by simpa using hc,hm,hg,λi hi=>?_⟩
  have hi2:i<ps.length:=by simpa using hi
  have e1:(ps.map Prod.fst)[i]=ps[i].1:=by simp
  have hcell:∀j u,j<5→(cellsE ps[i])[j]? =some u→w.cell? ⟨g,i*5+j,none⟩=some u:=λj u hj hu=>
   qM h (i*5+j) u (by rw[jz cellsE_len ps i j ps[i] (List.getElem?_eq_getElem hi2) hj];exact hu)
  rw[e1]
  exact⟨ps[i].2,⟨hcell 0 _ (by omega) rfl,hcell 1 _ (by omega) rfl,hcell 2 _ (by omega) rfl,hcell 3 _ (by omega) rfl,hcell 4 _ (by omega) rfl⟩,hr _ (List.getElem_mem hi2)⟩
theorem ofE_cases{k:Int}(h:ofE k=true):k=1∨k=2∨k=3∨k=4:=by
 have:1≤k∧k≤4:=by simpa [ofE,inR] using h
 omega
theorem right_any(k n:Int)(hk:ofE k=true)(w:World):Calls Tryz.prog 215 #[.int .i64 k,.int .i64 n] w (PV (.bool (jq k n)) w):=by
 have t1:=λx w=>ta_273_273 x w
 have t2:=λx w=>ta_275_273 x w
 have t3:=λx w=>ta_275_275 x w
 have t4:=λx w=>ta_277_273 x w
 have t5:=λx w=>ta_277_275 x w
 rcases ofE_cases hk with rfl|rfl|rfl|rfl
 ·have e:jq 1 n=(n==6):=rfl
  rw[e]
  clear e hk
  go_enter Tryz.func215,Tryz.ntmps215
  go_wp2_with fail
  (with_reducible refine (of_1 0 0 0 _ _).mono ?_)
  rintro e w1 ⟨rfl,G⟩
  have HG:=qQ G
  clear G
  go_wp2_with fail
  go_ret
  exact⟨rfl,HG.out⟩
 ·have e:jq 2 n=(n==2):=rfl
  rw[e]
  clear e hk
  go_enter Tryz.func215,Tryz.ntmps215
  go_wp2_with fail
  (with_reducible refine (of_2 0 0 0 _ _).mono ?_)
  rintro e w1 ⟨rfl,G⟩
  have HG:=qQ G
  clear G
  go_wp2_with fail
  go_ret
  exact⟨rfl,HG.out⟩
 ·have e:jq 3 n=decide (n≤16):=rfl
  rw[e]
  clear e hk
  go_enter Tryz.func215,Tryz.ntmps215
  go_wp2_with fail
  (with_reducible refine (of_l 3 0 0 0 none 0 0 _ (.inl rfl)).mono ?_)
  rintro e w1 ⟨rfl,G⟩
  have HG:=qQ G
  clear G
  go_wp2_with fail
  go_ret
  exact⟨rfl,HG.out⟩
 ·have e:jq 4 n=decide (n≤16):=rfl
  rw[e]
  clear e hk
  go_enter Tryz.func215,Tryz.ntmps215
  go_wp2_with fail
  (with_reducible refine (of_l 4 0 0 0 none 0 0 _ (.inr rfl)).mono ?_)
  rintro e w1 ⟨rfl,G⟩
  have HG:=qQ G
  clear G
  go_wp2_with fail
  go_ret
  exact⟨rfl,HG.out⟩
theorem short_any(w:World)(r:Nat)(s:RS)(h:Rx w r s):Calls Tryz.prog 166 #[.pointer (some ⟨r,0,none⟩)] w (PRx w r s (.bool (zd s))):=by
 have he:=rx_end w r s h
 unfold zd
 generalize rEnd s=q at *
 clear h
 go_enter Tryz.func166,Tryz.ntmps166
 go_wp2_with fail
 with_reducible refine he.mono ?_
 rintro e w1 ⟨rfl,R,G⟩
 have HG:=qQ (And.intro R G)
 clear R G he
 go_wp2_with fail
 go_ret
 exact⟨rfl,HG.out.1,HG.out.2⟩
theorem jW{w:World}{r:Nat}{s:RS}(h:Rx w r s)(m:Nat)(W:Int)(hW:((8*m:Nat):Int)=W)(hm:m≤8)(x:Int)(hx:qk s m=x)(s':RS)(hs:qN s m=s'):
  Calls Tryz.prog 162 #[.pointer (some ⟨r,0,none⟩),.int .i64 W] w (PRx w r s' (.int .u64 x)):=by
 rw[←hW,←hx,←hs];exact rx_take w r s m h hm
def PTakeE(w:World)(r:Nat)(s':RS)(e:El)(en:Ending)(w':World):Prop:=
 ∃lv,en= .returned (elV e lv)∧w'.ownsRow w.heap.size 3 1 lv e.list.length (e.list.map VI)∧Rx w' r s'∧Chg (· =r) w w'
theorem i16_is(x:Int)(h0:0≤x)(h1:x<65536):IntKind.i16.wrap x=i16 x:=by
 unfold i16;simp only[IntKind.wrap,IntKind.bits,IntKind.signed];simp;split <;> omega
theorem froz5{w:World}{b:Nat}{c:Array Value}{t:TypeId}(h:w.heap[b]? =some (.cells c t (0,0))):
  w.frozen? ⟨b,0,none⟩=false∧w.frozen? ⟨b,1,none⟩=false∧w.frozen? ⟨b,2,none⟩=false∧w.frozen? ⟨b,3,none⟩=false∧w.frozen? ⟨b,4,none⟩=false:=
 ⟨qK h 0,qK h 1,qK h 2,qK h 3,qK h 4⟩
theorem set5(w:World)(b:Nat)(v0 v1 v2 v3 v4:Value):Chg (· =b) w (((((w.setCell ⟨b,0,none⟩ v0).setCell ⟨b,1,none⟩ v1).setCell ⟨b,2,none⟩ v2).setCell ⟨b,3,none⟩ v3).setCell ⟨b,4,none⟩ v4):=
 ((((chg1 _ _ _ _).trans (chg1 _ _ _ _)).trans (chg1 _ _ _ _)).trans (chg1 _ _ _ _)).trans (chg1 _ _ _ _)
theorem set5b{w:World}{b:Nat}{a0 a1 a2 a3 a4:Value}{t:TypeId}(h:w.heap[b]? =some (.cells #[a0,a1,a2,a3,a4] t (0,0))) (v0 v1 v2 v3 v4:Value):
  (((((w.setCell ⟨b,0,none⟩ v0).setCell ⟨b,1,none⟩ v1).setCell ⟨b,2,none⟩ v2).setCell ⟨b,3,none⟩ v3).setCell ⟨b,4,none⟩ v4).heap[b]? =some (.cells #[v0,v1,v2,v3,v4] t (0,0)):=by
 have h0:=qB h 0 v0
 have h1:=qB h0 1 v1
 have h2:=qB h1 2 v2
 have h3:=qB h2 3 v3
 have h4:=qB h3 4 v4
 simpa using h4
theorem takeE_1(w:World)(r:Nat)(s:RS)(n:Int)(h:Rx w r s):Calls Tryz.prog 216 #[.pointer (some ⟨r,0,none⟩),.int .i64 1,.int .i64 n] w (PTakeE w r (jL s 1 n) (kK s 1 n)):=by
 obtain⟨x,hx⟩:∃x,qk s 5=x:=⟨_,rfl⟩
 obtain⟨s1,hs1⟩:∃s1,qN s 5=s1:=⟨_,rfl⟩
 obtain⟨y,hy⟩:∃y,qk s1 1=y:=⟨_,rfl⟩
 obtain⟨s2,hs2⟩:∃s2,qN s1 1=s2:=⟨_,rfl⟩
 have e1:kK s 1 n=⟨1,x,y,0,[]⟩:=by simp[kK,hx,hs1,hy]
 have e2:jL s 1 n=s2:=by simp[jL,hs1,hs2]
 rw[e1,e2]
 have hxb:=zG h 5
 rw[hx] at hxb
 have hx0:0≤x:=hxb.1
 have hx1:x<1099511627776:=hxb.2
 have t1:=λx w=>ta_273_273 x w
 have HH:=qQ h
 have HX:=qQ hx
 have HS1:=qQ hs1
 have HY:=qQ hy
 have HS2:=qQ hs2
 clear h hx hs1 hy hs2 hxb e1 e2
 go_enter Tryz.func216,Tryz.ntmps216
 go_wp2_with fail
 (with_reducible refine (of_1 0 0 0 _ _).mono ?_)
 rintro e w1 ⟨rfl,G⟩
 have HB:=qQ (Chg.keep G (qV _ _) (λe=>e))
 have HG:=qQ ((Chg.alloc _ _ _).trans G)
 have HR:=qQ (HH.out.kept HG.out)
 have HLT:=qQ (show w.heap.size≠r by have:=HH.out.lt;omega)
 have HRL:=qQ HH.out.lt
 clear G HH
 go_wp2_with fail
 have gz:Chg (λ_=>False) w1 (w1.alloc (.cells #[.int .i64 0,.int .i64 0] 273)):=Chg.alloc _ _ _
 have HGZ:=qQ gz
 clear gz
 (with_reducible refine (jW (HR.out.kept HGZ.out) 5 40 rfl (by omega) x HX.out s1 HS1.out).mono ?_)
 rintro e w2 ⟨rfl,R2,G2⟩
 have HR2:=qQ (And.intro R2 G2)
 have hyb:=zG R2 1
 rw[HY.out] at hyb
 obtain⟨hy0,hy1⟩:=hyb
 clear R2 HR HX HS1
 go_wp2_with fail
 (with_reducible refine (jW HR2.out.1 1 8 rfl (by omega) y HY.out s2 HS2.out).mono ?_)
 rintro e w3 ⟨rfl,R3,G3⟩
 have HR3:=qQ (And.intro R3 (HR2.out.2.trans G3))
 clear R3 HR2 HY HS2
 go_wp2_with fail
 (with_reducible refine (plain_1 1 x y _).mono ?_)
 rintro e w4 ⟨rfl,G4⟩
 have HR4:=qQ (And.intro (HR3.out.1.kept G4) (((HG.out.none.trans HGZ.out.none).trans HR3.out.2).trans G4.none))
 clear HR3 HG
 have hb:=Chg.keep G4 (Chg.keep G3 (Chg.keep G2 (Chg.keep HGZ.out HB.out (λe=>e)) HLT.out) HLT.out) (λe=>e)
 obtain⟨c0,c1,c2,c3,c4⟩:=zB hb
 obtain⟨f0,f1,f2,f3,f4⟩:=froz5 hb
 clear G2 G3 G4
 go_wp2_with fail
 have gs:=set5 w4 w.heap.size (.int .i64 1) (.int .i64 x) (.int .i64 y) (.int .i64 0) (.slice none 0 0)
 have hs:=set5b hb (.int .i64 1) (.int .i64 x) (.int .i64 y) (.int .i64 0) (.slice none 0 0)
 have gall:Chg (λk=>k=r∨w.heap.size≤k) w _:=(HR4.out.2.mono (λk _ h=> .inl h)).trans (gs.mono (λk _ h=> .inr (by have h:k=w.heap.size:=h;omega)))
 obtain⟨k0,k1,k2,k3,k4⟩:=zB hs
 exact bodyPost_ret (v:=elV ⟨1,x,y,0,[]⟩ (.slice none 0 0)) (by simp[results,Tryz.results216,go_sem,elV,k0,k1,k2,k3,k4]) rfl ⟨_,rfl,World.ownsRow_nil _ _ _ _,HR4.out.1.keep gs (λj h1 h2=>by have:=HLT.out;have h2:j=w.heap.size:=h2;have:=HRL.out;omega),gall.old⟩
theorem takeE_2(w:World)(r:Nat)(s:RS)(n:Int)(h:Rx w r s):Calls Tryz.prog 216 #[.pointer (some ⟨r,0,none⟩),.int .i64 2,.int .i64 n] w (PTakeE w r (jL s 2 n) (kK s 2 n)):=by
 obtain⟨x,hx⟩:∃x,qk s 2=x:=⟨_,rfl⟩
 obtain⟨s1,hs1⟩:∃s1,qN s 2=s1:=⟨_,rfl⟩
 obtain⟨y,hy⟩:∃y,i16 x=y:=⟨_,rfl⟩
 have e1:kK s 2 n=⟨2,0,0,y,[]⟩:=by simp[kK,hx,hy]
 have e2:jL s 2 n=s1:=by simp[jL,hs1]
 rw[e1,e2]
 have hxb:=zG h 2
 rw[hx] at hxb
 have hx0:0≤x:=hxb.1
 have hx1:x<65536:=hxb.2
 have hw:=i16_is x hx0 hx1
 rw[hy] at hw
 have hy0: -32768≤y:=by rw[←hy];unfold i16;split <;> omega
 have hy1:y≤32767:=by rw[←hy];unfold i16;split <;> omega
 have t1:=λx w=>ta_275_273 x w
 have t2:=λx w=>ta_275_275 x w
 have HH:=qQ h
 have HX:=qQ hx
 have HS1:=qQ hs1
 have HW:=qQ hw
 clear h hx hs1 hy hxb e1 e2 hw
 go_enter Tryz.func216,Tryz.ntmps216
 go_wp2_with fail
 (with_reducible refine (of_2 0 0 0 _ _).mono ?_)
 rintro e w1 ⟨rfl,G⟩
 have HB:=qQ (Chg.keep G (qV _ _) (λe=>e))
 have HG:=qQ ((Chg.alloc _ _ _).trans G)
 have HR:=qQ (HH.out.kept HG.out)
 have HLT:=qQ (show w.heap.size≠r by have:=HH.out.lt;omega)
 have HRL:=qQ HH.out.lt
 clear G HH
 go_wp2_with fail
 have gz:Chg (λ_=>False) w1 ((w1.alloc (.cells #[.int .i64 0,.int .i64 0] 273)).alloc (.cells #[.int .i64 0] 275)):=(Chg.alloc _ _ _).trans (Chg.alloc _ _ _)
 have HGZ:=qQ gz
 clear gz
 have hw:=HW.out
 (with_reducible refine (jW (HR.out.kept HGZ.out) 2 16 rfl (by omega) x HX.out s1 HS1.out).mono ?_)
 rintro e w2 ⟨rfl,R2,G2⟩
 have HR2:=qQ (And.intro R2 G2)
 have HB2:=qQ (Chg.keep G2 (Chg.keep HGZ.out HB.out (λe=>e)) HLT.out)
 clear R2 HR HX HS1 G2 HB
 go_wp2_with fail
 clear hw
 (with_reducible refine (plain_2 2 y _).mono ?_)
 rintro e w4 ⟨rfl,G4⟩
 have HR4:=qQ (And.intro (HR2.out.1.kept G4) (((HG.out.none.trans HGZ.out.none).trans HR2.out.2).trans G4.none))
 have hb:=Chg.keep G4 HB2.out (λe=>e)
 clear HR2 HG G4 HB2 HGZ
 obtain⟨c0,c1,c2,c3,c4⟩:=zB hb
 obtain⟨f0,f1,f2,f3,f4⟩:=froz5 hb
 go_wp2_with fail
 have gs:=set5 w4 w.heap.size (.int .i64 2) (.int .i64 0) (.int .i64 0) (.int .i64 y) (.slice none 0 0)
 have hs:=set5b hb (.int .i64 2) (.int .i64 0) (.int .i64 0) (.int .i64 y) (.slice none 0 0)
 have gall:Chg (λk=>k=r∨w.heap.size≤k) w _:=(HR4.out.2.mono (λk _ h=> .inl h)).trans (gs.mono (λk _ h=> .inr (by have h:k=w.heap.size:=h;omega)))
 obtain⟨k0,k1,k2,k3,k4⟩:=zB hs
 exact bodyPost_ret (v:=elV ⟨2,0,0,y,[]⟩ (.slice none 0 0)) (by simp[results,Tryz.results216,go_sem,elV,k0,k1,k2,k3,k4]) rfl ⟨_,rfl,World.ownsRow_nil _ _ _ _,HR4.out.1.keep gs (λj h1 h2=>by have:=HLT.out;have h2:j=w.heap.size:=h2;have:=HRL.out;omega),gall.old⟩
theorem takeE_3(w:World)(r:Nat)(s:RS)(k n:Int)(hk:k=3∨k=4)(hn:n≤1000)(h:Rx w r s):Calls Tryz.prog 216 #[.pointer (some ⟨r,0,none⟩),.int .i64 k,.int .i64 n] w (PTakeE w r (jL s k n) (kK s k n)):=by
 obtain⟨zs,hzs⟩:∃zs,jY s n=zs:=⟨_,rfl⟩
 obtain⟨s1,hs1⟩:∃s1,zP s n=s1:=⟨_,rfl⟩
 have e1:kK s k n=⟨k,0,0,0,zs⟩:=by unfold kK;rw[if_neg (by omega),if_neg (by omega),hzs]
 have e2:jL s k n=s1:=by unfold jL;rw[if_neg (by omega),if_neg (by omega),hs1]
 rw[e1,e2]
 have hte:=λw' (h':Rx w' r s)=>rx_text w' r s n h' (by omega)
 rw[hzs,hs1] at hte
 have t1:=λx w=>ta_277_273 x w
 have t2:=λx w=>ta_277_275 x w
 have HH:=qQ h
 have HT:=qQ hte
 have HK:=qQ hk
 clear h hzs hs1 e1 e2 hte hk
 go_enter Tryz.func216,Tryz.ntmps216
 go_wp2_with fail
 (with_reducible refine (of_l k 0 0 0 none 0 0 _ HK.out).mono ?_)
 rintro e w1 ⟨rfl,G⟩
 have HB:=qQ (Chg.keep G (qV _ _) (λe=>e))
 have HG:=qQ ((Chg.alloc _ _ _).trans G)
 have HR:=qQ (HH.out.kept HG.out)
 have HLT:=qQ (show w.heap.size≠r by have:=HH.out.lt;omega)
 have HRL:=qQ HH.out.lt
 clear G HH
 go_wp2_with fail
 have gz:Chg (λ_=>False) w1 ((w1.alloc (.cells #[.int .i64 0,.int .i64 0] 273)).alloc (.cells #[.int .i64 0] 275)):=(Chg.alloc _ _ _).trans (Chg.alloc _ _ _)
 have HGZ:=qQ gz
 clear gz
 (with_reducible refine (HT.out _ (HR.out.kept HGZ.out)).mono ?_)
 rintro e w2 ⟨tv,rfl,O2,R2,G2,hby,hln⟩
 obtain⟨A,c,rfl,hrs,hA⟩:=Rs.of_own O2
 obtain⟨len,hlen⟩:=qZ zs.length
 rw[←hlen] at hrs ⊢
 have HR2:=qQ (And.intro R2 ((HG.out.none.trans HGZ.out.none).trans G2))
 have HB2:=qQ (Chg.keep G2 (Chg.keep HGZ.out HB.out (λe=>e)) HLT.out)
 have HRS:=qQ hrs
 have HBY:=qQ hby
 have HLEN:=qQ hlen
 have hl0:(len:Int)≤100000:=by omega
 have hsz2:w.heap.size+1≤w2.heap.size:=by have:=qX HB2.out;omega
 have HSZ:=qQ hsz2
 clear R2 HR G2 HB O2 hrs hby hlen hln HT HG HGZ hsz2
 go_wp2_with fail
 go_loopw [12,52] (λu12 i wr=>∃(j:Nat),j≤len∧i= .int .i64 j∧wr.ownsRow w2.heap.size 3 1 u12 j ((zs.take j).map VI)∧Chg (λb=>w2.heap.size≤b) w2 wr) (λ_ i _=>len-(intOf i).toNat)
 case atStart=>exact⟨0,by omega,rfl,World.ownsRow_nil _ _ _ _,Chg.refl _ _⟩
 case round=>
  obtain⟨j,hj,rfl,hO,hG⟩:=hrel
  have HO:=qQ hO
  have HGR:=qQ hG
  clear hO hG
  by_cases hlt:j<len
  ·obtain⟨x,z,rfl,_,hz,hc⟩:=(HRS.out.keep HGR.out.fresh (λ_ _ e=>e)).at hlt
   obtain⟨z0,z1⟩:=HBY.out z (List.mem_of_getElem? hz)
   unfold V8 at hc
   have hnx:zs.take (j+1)=zs.take j++[z]:=by rw[List.take_add_one,hz];rfl
   have HNX:=qQ hnx
   clear hz hnx
   go_wp2_with (at_builtin;go_loud (refine app1 (V:=VI) elI rfl (.tmp 56) (.tmp 59) rfl w2.heap.size u12 j ((zs.take j).map VI) rfl (HO.out.alloc _) wr.heap.size z rfl ?c1 rfl (by omega) (by omega) ?hb ?grow))
   case c1=>simp[VI]
   case hb=>have:=HSZ.out;have:=HGR.out.size;simp;omega
   case grow=>
    intro v4 w4 hown hgr hat
    have ga:=Chg.alloc (λ_=>False) wr (.cells #[.int .i64 z] 3)
    have gg:=qH (S:=λb=>w2.heap.size≤b) hgr (λb e=>(qS HO.out e).1)
    have hX:w4.ownsRow w2.heap.size 3 1 v4 (j+1) ((zs.take (j+1)).map VI):=by rw[HNX.out,List.map_append,List.map_take];exact hown
    have HX:=qQ (And.intro hX ((HGR.out.trans ga.none).trans gg))
    clear hown hgr hat ga gg hX HO HGR hc
    go_wp2_with fail
    go_roundw
    case measure=>simp[intOf];omega
    case rel=>exact⟨j+1,by omega,by go_num,HX.out.1,HX.out.2⟩
  ·obtain rfl:j=len:=by omega
   have hO:=HO.out
   rw[List.take_of_length_le (by have:=HLEN.out;omega)] at hO
   obtain⟨A2,c2,rfl,_⟩:=Rs.of_own (V:=VI) (zs:=zs) hO
   have HO2:=qQ hO
   clear hO HO
   have gF:=HGR.out.fresh
   have HGF:=qQ gF
   clear gF HGR
   go_wp2_with fail
   (with_reducible refine (plain_3 k A2 j c2 _).mono ?_)
   rintro e w5 ⟨rfl,G5⟩
   have hb:=Chg.keep (HGF.out.trans G5) HB2.out (λe=>e)
   have HR5:=qQ (And.intro (HR2.out.1.kept (HGF.out.trans G5)) (HR2.out.2.trans (HGF.out.trans G5).none))
   have HO5:=qQ (qY HO2.out G5 (λ_ _ e=>e))
   clear HR2 HGF G5 HB2 HO2
   obtain⟨c0,c1,c2',c3,c4⟩:=zB hb
   obtain⟨f0,f1,f2,f3,f4⟩:=froz5 hb
   go_wp2_with fail
   have gs:=set5 w5 w.heap.size (.int .i64 k) (.int .i64 0) (.int .i64 0) (.int .i64 0) (.slice A2 j c2)
   have hs:=set5b hb (.int .i64 k) (.int .i64 0) (.int .i64 0) (.int .i64 0) (.slice A2 j c2)
   have gall:Chg (λk=>k=r∨w.heap.size≤k) w _:=(HR5.out.2.mono (λk _ h=> .inl h)).trans (gs.mono (λk _ h=> .inr (by have h:k=w.heap.size:=h;omega)))
   obtain⟨k0,k1,k2,k3,k4⟩:=zB hs
   have hoo:=qY HO5.out gs (λb h1 h2=>by have:=(qS HO5.out h1).1;have h2:b=w.heap.size:=h2;have:=HSZ.out;omega)
   have hll:=HLEN.out
   exact bodyPost_ret (v:=elV ⟨k,0,0,0,zs⟩ (.slice A2 j c2)) (by simp[results,Tryz.results216,go_sem,elV,k0,k1,k2,k3,k4]) rfl ⟨_,rfl,by rw[←hll];exact qj hoo (by have:=HSZ.out;omega),HR5.out.1.keep gs (λj h1 h2=>by have:=HLT.out;have h2:j=w.heap.size:=h2;have:=HRL.out;omega),gall.old⟩
theorem takeE_any(w:World)(r:Nat)(s:RS)(k n:Int)(hk:ofE k=true)(hn:n≤1000)(h:Rx w r s):Calls Tryz.prog 216 #[.pointer (some ⟨r,0,none⟩),.int .i64 k,.int .i64 n] w (PTakeE w r (jL s k n) (kK s k n)):=by
 rcases ofE_cases hk with rfl|rfl|rfl|rfl
 ·exact takeE_1 w r s n h
 ·exact takeE_2 w r s n h
 ·exact takeE_3 w r s 3 n (.inl rfl) hn h
 ·exact takeE_3 w r s 4 n (.inr rfl) hn h
def isElem(X:Value):Prop:=(∀w,(binOp .eql 227 X .nilIface).run Tryz.prog w= .ok (.bool false) w)∧∀w,(eqGuard .eql 227 (.tmp 15) (.const .nilIface) X .nilIface).run Tryz.prog w= .ok () w
theorem el_eq1(x:Value):isElem (.iface 273 x):=⟨λw=>by kernel_rfl,λw=>by kernel_rfl⟩
theorem el_eq2(x:Value):isElem (.iface 275 x):=⟨λw=>by kernel_rfl,λw=>by kernel_rfl⟩
theorem el_eq3(x:Value):isElem (.iface 277 x):=⟨λw=>by kernel_rfl,λw=>by kernel_rfl⟩
theorem nil_eq0(w:World):(binOp .eql 227 .nilIface .nilIface).run Tryz.prog w= .ok (.bool true) w:=by kernel_rfl
def PSome(w:World)(e:Ending)(w':World):Prop:=∃X,e= .returned X∧isElem X∧Chg (λ_=>False) w w'
theorem of_yes(k:Int)(hk:ofE k=true)(w:World):Calls Tryz.prog 153 #[.agg #[.int .i64 k,.int .i64 0,.int .i64 0,.int .i64 0,.slice none 0 0]] w (PSome w):=by
 rcases ofE_cases hk with rfl|rfl|rfl|rfl
 ·exact (of_1 0 0 0 _ w).mono λe w' ⟨h,g⟩=>⟨_,h,el_eq1 _,g⟩
 ·exact (of_2 0 0 0 _ w).mono λe w' ⟨h,g⟩=>⟨_,h,el_eq2 _,g⟩
 ·exact (of_l 3 0 0 0 none 0 0 w (.inl rfl)).mono λe w' ⟨h,g⟩=>⟨_,h,el_eq3 _,g⟩
 ·exact (of_l 4 0 0 0 none 0 0 w (.inr rfl)).mono λe w' ⟨h,g⟩=>⟨_,h,el_eq3 _,g⟩
def POne(w:World)(r:Nat)(x:Int×El×RS)(en:Ending)(w':World):Prop:=
 ∃lv,en= .returned (.tuple #[elV x.2.1 lv,.int .i64 x.1])∧w'.ownsRow w.heap.size 3 1 lv x.2.1.list.length (x.2.1.list.map VI)∧Rx w' r x.2.2∧Chg (· =r) w w'
structure OAt(w:World)(r:Nat)(s:RS)(W:World):Prop where
 blk:W.heap[w.heap.size]? =some (.cells #[.int .i64 0,.int .i64 0,.int .i64 0,.int .i64 0,.slice none 0 0] 172 (0,0))
 rx:Rx W r s
 lt:r<w.heap.size
 chg:Chg (λk=>k=r∨w.heap.size≤k) w W
theorem OAt.kept{w W W':World}{r:Nat}{s:RS}(h:OAt w r s W)(g:Chg (λ_=>False) W W'):OAt w r s W':=
 ⟨Chg.keep g h.blk (λe=>e),h.rx.kept g,h.lt,h.chg.trans g.none⟩
theorem OAt.next{w W W':World}{r:Nat}{s s':RS}(h:OAt w r s W)(k:Rx W' r s')(g:Chg (· =r) W W'):OAt w r s' W':=
 ⟨Chg.keep g h.blk (λe=>by have:=h.lt;omega),k,h.lt,h.chg.trans (g.mono (λ_ _ e=> .inl e))⟩
theorem OAt.fin{w W W':World}{r:Nat}{s:RS}(h:OAt w r s W)(v0 v1 v2 v3 v4:Value)(hW:W'=((((W.setCell ⟨w.heap.size,0,none⟩ v0).setCell ⟨w.heap.size,1,none⟩ v1).setCell ⟨w.heap.size,2,none⟩ v2).setCell ⟨w.heap.size,3,none⟩ v3).setCell ⟨w.heap.size,4,none⟩ v4):
  W'.heap[w.heap.size]? =some (.cells #[v0,v1,v2,v3,v4] 172 (0,0))∧Rx W' r s∧Chg (· =r) w W'∧Chg (· =w.heap.size) W W':=by
 subst hW
 have gs:=set5 W w.heap.size v0 v1 v2 v3 v4
 exact⟨set5b h.blk v0 v1 v2 v3 v4,h.rx.keep gs (λj h1 h2=>by have:=h.lt;have h2:j=w.heap.size:=h2;omega),
  (h.chg.trans (gs.mono (λk _ h=> .inr (by have h:k=w.heap.size:=h;omega)))).old,gs⟩
theorem one_any(w:World)(r:Nat)(s:RS)(h:Rx w r s):Calls Tryz.prog 167 #[.pointer (some ⟨r,0,none⟩)] w (POne w r (oneE s)):=by
 obtain⟨R,hR⟩:=qZ (oneE s)
 rw[←hR]
 obtain⟨k,hk⟩:∃k,qk s 1=k:=⟨_,rfl⟩
 obtain⟨s1,hs1⟩:∃s1,qN s 1=s1:=⟨_,rfl⟩
 obtain⟨n,hn⟩:∃n,qk s1 1=n:=⟨_,rfl⟩
 obtain⟨s2,hs2⟩:∃s2,qN s1 1=s2:=⟨_,rfl⟩
 obtain⟨s3,hs3⟩:∃s3,jL s2 k n=s3:=⟨_,rfl⟩
 obtain⟨X,hX⟩:∃X,kK s2 k n=X:=⟨_,rfl⟩
 have hR2:R=if zd s1 then (2,el0,s1) else if !ofE k then (3,el0,s1) else if zd s2 then (2,el0,s2) else if !jq k n then (3,el0,s2) else if zd s3 then (2,el0,s3) else (0,X,s3):=by
  rw[hR];unfold oneE;simp only[hk,hs1,hn,hs2,hs3,hX]
 have hkb:=zG h 1
 rw[hk] at hkb
 have hk0:0≤k:=hkb.1
 have hk1:k<256:=hkb.2
 clear hkb
 have HH:=qQ h
 have HR:=qQ hR2
 have HK:=qQ hk
 have HS1:=qQ hs1
 have HN:=qQ hn
 have HS2:=qQ hs2
 have HS3:=qQ hs3
 have HX:=qQ hX
 clear h hR hR2 hk hs1 hn hs2 hs3 hX
 go_enter Tryz.func167,Tryz.ntmps167
 go_wp2_with fail
 have O1:OAt w r s (w.alloc (.cells #[.int .i64 0,.int .i64 0,.int .i64 0,.int .i64 0,.slice none 0 0] 172)):=⟨qV _ _,HH.out.kept (Chg.alloc _ _ _),HH.out.lt,Chg.alloc _ _ _⟩
 have HO:=qQ O1
 clear O1 HH
 (with_reducible refine (jW HO.out.rx 1 8 rfl (by omega) k HK.out s1 HS1.out).mono ?_)
 rintro e w2 ⟨rfl,R2,G2⟩
 have HO2:=qQ (HO.out.next R2 G2)
 clear R2 G2 HO HK HS1
 go_wp2_with fail
 (with_reducible refine (short_any _ r s1 HO2.out.rx).mono ?_)
 rintro e w3 ⟨rfl,R3,G3⟩
 have HO3:=qQ (HO2.out.next R3 G3)
 clear R3 G3 HO2
 by_cases hc:zd s1=true
 ·rw[hc]
  have HC:=qQ hc
  clear hc
  obtain⟨c0,c1,c2,c3,c4⟩:=zB HO3.out.blk
  obtain⟨f0,f1,f2,f3,f4⟩:=froz5 HO3.out.blk
  have hr:=HR.out
  rw[if_pos HC.out] at hr
  have HRR:=qQ hr
  clear hr
  go_wp2_with fail
  obtain⟨hb,R,G,_⟩:=HO3.out.fin (.int .i64 0) (.int .i64 0) (.int .i64 0) (.int .i64 0) (.slice none 0 0) rfl
  obtain⟨k0,k1,k2,k3,k4⟩:=zB hb
  rw[HRR.out]
  exact bodyPost_ret (v:= .tuple #[elV el0 (.slice none 0 0),.int .i64 2]) (by simp[results,Tryz.results167,go_sem,elV,el0,k0,k1,k2,k3,k4]) rfl ⟨_,rfl,World.ownsRow_nil _ _ _ _,R,G⟩
 ·have hc:zd s1=false:=by simpa using hc
  rw[hc]
  have HC1:=qQ hc
  clear hc
  go_wp2_with fail
  by_cases hc:ofE k=true
  ·have HC2:=qQ hc
   clear hc
   (with_reducible refine (of_yes k HC2.out _).mono ?_)
   rintro e w4 ⟨X',rfl,hq,G4⟩
   obtain⟨hq,hq2⟩:=hq
   have HO4:=qQ (HO3.out.kept G4)
   clear G4 HO3
   go_wp2_with fail
   clear hq hq2
   have hnb:=zG HO4.out.rx 1
   rw[HN.out] at hnb
   have hn0:0≤n:=hnb.1
   have hn1:n<256:=hnb.2
   clear hnb
   (with_reducible refine (jW HO4.out.rx 1 8 rfl (by omega) n HN.out s2 HS2.out).mono ?_)
   rintro e w5 ⟨rfl,R5,G5⟩
   have HO5:=qQ (HO4.out.next R5 G5)
   clear R5 G5 HO4 HN HS2
   go_wp2_with fail
   (with_reducible refine (short_any _ r s2 HO5.out.rx).mono ?_)
   rintro e w6 ⟨rfl,R6,G6⟩
   have HO6:=qQ (HO5.out.next R6 G6)
   clear R6 G6 HO5
   by_cases hc:zd s2=true
   ·rw[hc]
    have HC:=qQ hc
    clear hc
    obtain⟨c0,c1,c2,c3,c4⟩:=zB HO6.out.blk
    obtain⟨f0,f1,f2,f3,f4⟩:=froz5 HO6.out.blk
    have hr:=HR.out
    rw[if_neg (by rw[HC1.out];simp),if_neg (by rw[HC2.out];simp),if_pos HC.out] at hr
    have HRR:=qQ hr
    clear hr
    go_wp2_with fail
    obtain⟨hb,R,G,_⟩:=HO6.out.fin (.int .i64 0) (.int .i64 0) (.int .i64 0) (.int .i64 0) (.slice none 0 0) rfl
    obtain⟨k0,k1,k2,k3,k4⟩:=zB hb
    rw[HRR.out]
    exact bodyPost_ret (v:= .tuple #[elV el0 (.slice none 0 0),.int .i64 2]) (by simp[results,Tryz.results167,go_sem,elV,el0,k0,k1,k2,k3,k4]) rfl ⟨_,rfl,World.ownsRow_nil _ _ _ _,R,G⟩
   ·have hc:zd s2=false:=by simpa using hc
    rw[hc]
    have HC3:=qQ hc
    clear hc
    go_wp2_with fail
    (with_reducible refine (right_any k n HC2.out _).mono ?_)
    rintro e w7 ⟨rfl,G7⟩
    have HO7:=qQ (HO6.out.kept G7)
    clear G7 HO6
    by_cases hc:jq k n=true
    ·rw[hc]
     have HC4:=qQ hc
     clear hc
     go_wp2_with fail
     (with_reducible refine (takeE_any _ r s2 k n HC2.out (by omega) HO7.out.rx).mono ?_)
     rintro e w8 ⟨lv,rfl,hown,R8,G8⟩
     rw[HS3.out] at R8
     rw[HX.out] at hown ⊢
     have HO8:=qQ (HO7.out.next R8 G8)
     have hlt:w.heap.size+1≤w7.heap.size:=by have:=qX HO7.out.blk;omega
     have HOWN:=qQ (qj hown hlt)
     clear R8 G8 HO7 hown hlt HS3 HX
     unfold elV
     obtain⟨A,c,rfl,_⟩:=Rs.of_own (V:=VI) (zs:=X.list) HOWN.out
     go_wp2_with fail
     have hba:=qV w8 (.cells #[.int .i64 X.kind,.int .i64 X.asn,.int .i64 X.rank,.int .i64 X.ticks,.slice A X.list.length c] 172)
     have ga:=Chg.alloc (λ_=>False) w8 (.cells #[.int .i64 X.kind,.int .i64 X.asn,.int .i64 X.rank,.int .i64 X.ticks,.slice A X.list.length c] 172)
     have hne:w8.heap.size≠r:=by have:=HO8.out.rx.lt;omega
     have hne2:w8.heap.size≠w.heap.size:=by have:=qX HO8.out.blk;omega
     have HO9:=qQ (HO8.out.kept ga)
     have HOWN9:=qQ (qY HOWN.out ga (λ_ _ e=>e))
     have HB9:=qQ hba
     have HNE:=qQ (And.intro hne hne2)
     clear ga hba HO8 HOWN hne hne2
     generalize w8.heap.size=b9 at *
     generalize w8.alloc (.cells #[.int .i64 X.kind,.int .i64 X.asn,.int .i64 X.rank,.int .i64 X.ticks,.slice A X.list.length c] 172)=w9 at *
     (with_reducible refine (short_any _ r s3 HO9.out.rx).mono ?_)
     rintro e w10 ⟨rfl,R10,G10⟩
     have HO10:=qQ (HO9.out.next R10 G10)
     have HOWN10:=qQ (qY HOWN9.out G10 (λb h1 h2=>by have:=(qS HOWN9.out h1).1;have h2:b=r:=h2;have:=HO9.out.lt;omega))
     have HB10:=qQ (Chg.keep G10 HB9.out HNE.out.1)
     clear R10 G10 HO9 HOWN9 HB9
     by_cases hc:zd s3=true
     ·rw[hc]
      have HC:=qQ hc
      clear hc
      obtain⟨c0,c1,c2,c3,c4⟩:=zB HO10.out.blk
      obtain⟨f0,f1,f2,f3,f4⟩:=froz5 HO10.out.blk
      have hr:=HR.out
      rw[if_neg (by rw[HC1.out];simp),if_neg (by rw[HC2.out];simp),if_neg (by rw[HC3.out];simp),if_neg (by rw[HC4.out];simp),if_pos HC.out] at hr
      have HRR:=qQ hr
      clear hr
      go_wp2_with fail
      obtain⟨hb,R,G,_⟩:=HO10.out.fin (.int .i64 0) (.int .i64 0) (.int .i64 0) (.int .i64 0) (.slice none 0 0) rfl
      obtain⟨k0,k1,k2,k3,k4⟩:=zB hb
      rw[HRR.out]
      exact bodyPost_ret (v:= .tuple #[elV el0 (.slice none 0 0),.int .i64 2]) (by simp[results,Tryz.results167,go_sem,elV,el0,k0,k1,k2,k3,k4]) rfl ⟨_,rfl,World.ownsRow_nil _ _ _ _,R,G⟩
     ·have hc:zd s3=false:=by simpa using hc
      rw[hc]
      have HC5:=qQ hc
      clear hc
      obtain⟨c0,c1,c2,c3,c4⟩:=zB HO10.out.blk
      obtain⟨f0,f1,f2,f3,f4⟩:=froz5 HO10.out.blk
      obtain⟨d0,d1,d2,d3,d4⟩:=zB HB10.out
      have hr:=HR.out
      rw[if_neg (by rw[HC1.out];simp),if_neg (by rw[HC2.out];simp),if_neg (by rw[HC3.out];simp),if_neg (by rw[HC4.out];simp),if_neg (by rw[HC5.out];simp)] at hr
      have HRR:=qQ hr
      clear hr
      go_wp2_with fail
      obtain⟨hb,R,G,GG⟩:=HO10.out.fin (.int .i64 X.kind) (.int .i64 X.asn) (.int .i64 X.rank) (.int .i64 X.ticks) (.slice A X.list.length c) rfl
      obtain⟨k0,k1,k2,k3,k4⟩:=zB hb
      have hown:=qY HOWN10.out GG (λb h1 h2=>by have:=(qS HOWN10.out h1).1;have h2:b=w.heap.size:=h2;omega)
      rw[HRR.out]
      exact bodyPost_ret (v:= .tuple #[elV X (.slice A X.list.length c),.int .i64 0]) (by simp[results,Tryz.results167,go_sem,elV,k0,k1,k2,k3,k4]) rfl ⟨_,rfl,qj hown (by omega),R,G⟩
    ·have hc:jq k n=false:=by simpa using hc
     rw[hc]
     have HC:=qQ hc
     clear hc
     obtain⟨c0,c1,c2,c3,c4⟩:=zB HO7.out.blk
     obtain⟨f0,f1,f2,f3,f4⟩:=froz5 HO7.out.blk
     have hr:=HR.out
     rw[if_neg (by rw[HC1.out];simp),if_neg (by rw[HC2.out];simp),if_neg (by rw[HC3.out];simp),if_pos (by rw[HC.out];rfl)] at hr
     have HRR:=qQ hr
     clear hr
     go_wp2_with fail
     obtain⟨hb,R,G,_⟩:=HO7.out.fin (.int .i64 0) (.int .i64 0) (.int .i64 0) (.int .i64 0) (.slice none 0 0) rfl
     obtain⟨k0,k1,k2,k3,k4⟩:=zB hb
     rw[HRR.out]
     exact bodyPost_ret (v:= .tuple #[elV el0 (.slice none 0 0),.int .i64 3]) (by simp[results,Tryz.results167,go_sem,elV,el0,k0,k1,k2,k3,k4]) rfl ⟨_,rfl,World.ownsRow_nil _ _ _ _,R,G⟩
  ·have hc:ofE k=false:=by simpa using hc
   have HC:=qQ hc
   clear hc
   (with_reducible refine (of_no k 0 0 0 _ _ HC.out).mono ?_)
   rintro e w4 ⟨rfl,G4⟩
   have HO4:=qQ (HO3.out.kept G4)
   clear G4 HO3
   have hq:=nil_eq0
   obtain⟨c0,c1,c2,c3,c4⟩:=zB HO4.out.blk
   obtain⟨f0,f1,f2,f3,f4⟩:=froz5 HO4.out.blk
   have hr:=HR.out
   rw[if_neg (by rw[HC1.out];simp),if_pos (by rw[HC.out];rfl)] at hr
   have HRR:=qQ hr
   clear hr
   go_wp2_with fail
   obtain⟨hb,R,G,_⟩:=HO4.out.fin (.int .i64 0) (.int .i64 0) (.int .i64 0) (.int .i64 0) (.slice none 0 0) rfl
   obtain⟨k0,k1,k2,k3,k4⟩:=zB hb
   rw[HRR.out]
   exact bodyPost_ret (v:= .tuple #[elV el0 (.slice none 0 0),.int .i64 3]) (by simp[results,Tryz.results167,go_sem,elV,el0,k0,k1,k2,k3,k4]) rfl ⟨_,rfl,World.ownsRow_nil _ _ _ _,R,G⟩
theorem qg{w:World}{base e size n:Nat}{v:Value}{xs:List Value}(h:w.ownsRow base e size v n xs){j:Nat}(hj:v.ownBlock=some j):base≤j∧j<w.heap.size:=h.lt j hj
theorem own_ne{w:World}{b1 b2 e1 e2 s1 s2 n1 n2:Nat}{v1 v2:Value}{x1 x2:List Value}(h:w.ownsRow b1 e1 s1 v1 n1 x1)(k:w.ownsRow b2 e2 s2 v2 n2 x2)(he:e1≠e2){j:Nat}(hj:v1.ownBlock=some j):v2.ownBlock≠some j:=by
 intro h2
 rcases h.2 with ⟨rfl,_⟩|⟨g,cap,cur,rfl,hb,hg,_⟩
 ·cases hj
 ·rcases k.2 with ⟨rfl,_⟩|⟨g',cap',cur',rfl,hb',hg',_⟩
  ·cases h2
  ·cases hj;cases h2
   rw[hg] at hg';cases hg';exact he rfl
def NewIO(w w':World)(v:Value)(l:List El):Prop:=∀own,Z w own→IeO w' own v l
def PDecI(w:World)(x:Int×List El)(en:Ending)(w':World):Prop:=
 ∃v,en= .returned (.tuple #[v,.int .i64 x.1])∧NewIO w w' v x.2∧Chg (λ_=>False) w w'
theorem loopE_step(n:Nat)(acc:List El)(s:RS)(e:El)(s':RS)(h:oneE s=(0,e,s')):loopE (n+1) acc s=loopE n (acc++[e]) s':=by
 simp[loopE,h]
theorem loopE_err(n:Nat)(acc:List El)(s:RS)(g:Int)(e:El)(s':RS)(h:oneE s=(g,e,s'))(hg:g≠0):loopE (n+1) acc s=(g,[],s'):=by
 simp[loopE,h,hg]
structure DAt(w w1:World)(r:Nat)(F:Int×List El×RS)(N j:Nat)(v:Value)(W:World):Prop where
 st:∃(ps:List (El×Value)) (s:RS),W.ownsRow w1.heap.size 172 5 v j (ps.flatMap cellsE)∧ps.length=j∧(∀p∈ps,W.ownsRow w1.heap.size 3 1 p.2 p.1.list.length (p.1.list.map VI))∧Rx W r s∧loopE (N-j) (ps.map Prod.fst) s=F
 lt:r<w1.heap.size
 ws:w.heap.size≤r
 sz:w1.heap.size≤W.heap.size
 chg:Chg (λb=>w.heap.size≤b) w W
theorem idecode_any(w:World)(v:Value)(L:List Int)(h:BS w w.heap.size v L)(hL:L.length≤100000):
  Calls Tryz.prog 115 #[v] w (PDecI w (decI L)):=by
 obtain⟨s0,hs0⟩:∃s0:RS,⟨L,0⟩=s0:=⟨_,rfl⟩
 obtain⟨n,hn⟩:∃n,qk s0 1=n:=⟨_,rfl⟩
 obtain⟨s1,hs1⟩:∃s1,qN s0 1=s1:=⟨_,rfl⟩
 obtain⟨F,hF⟩:∃F,loopE n.toNat [] s1=F:=⟨_,rfl⟩
 obtain⟨D,hD⟩:=qZ (decI L)
 have hD2:D=if zd s1 then (2,[]) else if 4<n then (3,[]) else if F.1≠0 then (F.1,[]) else if rEnd F.2.2≠0 then (rEnd F.2.2,[]) else (0,F.2.1):=by
  rw[hD];unfold decI;simp only[hs0,hn,hs1,hF]
 rw[←hD]
 have hnew:=rx_new w v L h hL
 have HS0:=qQ hs0
 obtain⟨A,c,rfl,_⟩:=h
 have HD:=qQ hD2
 have HN:=qQ hn
 have HS1:=qQ hs1
 have HF:=qQ hF
 have HNEW:=qQ hnew
 clear hs0 hn hs1 hF hD hD2 hnew
 go_enter Tryz.func115,Tryz.ntmps115
 go_wp2_with fail
 with_reducible refine HNEW.out.mono ?_
 rintro e w1 ⟨r,rfl,R1,hr,G1⟩
 rw[HS0.out] at R1
 have HR1:=qQ (And.intro R1 (And.intro hr G1))
 clear R1 hr G1 HNEW
 go_wp2_with fail
 have hnb:=zG HR1.out.1 1
 rw[HN.out] at hnb
 have hn0:0≤n:=hnb.1
 have hn1:n<256:=hnb.2
 clear hnb
 (with_reducible refine (jW HR1.out.1 1 8 rfl (by omega) n HN.out s1 HS1.out).mono ?_)
 rintro e w2 ⟨rfl,R2,G2⟩
 have HR2:=qQ (And.intro R2 G2)
 clear R2 G2 HN HS1
 go_wp2_with fail
 (with_reducible refine (short_any _ r s1 HR2.out.1).mono ?_)
 rintro e w3 ⟨rfl,R3,G3⟩
 have hchg:Chg (λb=>w.heap.size≤b) w w3:=(HR1.out.2.2.none.trans (HR2.out.2.one HR1.out.2.1)).trans (G3.one HR1.out.2.1)
 have hsz:w1.heap.size≤w3.heap.size:=Nat.le_trans HR2.out.2.size G3.size
 have HR3:=qQ (And.intro R3 (And.intro hchg (And.intro hsz HR1.out.1.lt)))
 have HWS:=qQ HR1.out.2.1
 clear R3 G3 HR2 HR1 hchg hsz
 by_cases hc:zd s1=true
 ·rw[hc]
  have HC:=qQ hc
  clear hc
  go_wp2_with fail
  have hd:=HD.out
  rw[if_pos HC.out] at hd
  rw[hd]
  exact bodyPost_ret (v:= .tuple #[.slice none 0 0,.int .i64 2]) (by simp[results,Tryz.results115,go_sem]) rfl ⟨_,rfl,λown _=>IeO.nil _ _,HR3.out.2.1.fresh⟩
 ·have hc:zd s1=false:=by simpa using hc
  rw[hc]
  have HC:=qQ hc
  clear hc
  by_cases h4:4<n
  ·go_wp2_with fail
   have hd:=HD.out
   rw[if_neg (by rw[HC.out];simp),if_pos h4] at hd
   rw[hd]
   exact bodyPost_ret (v:= .tuple #[.slice none 0 0,.int .i64 3]) (by simp[results,Tryz.results115,go_sem]) rfl ⟨_,rfl,λown _=>IeO.nil _ _,HR3.out.2.1.fresh⟩
  ·obtain⟨N,rfl⟩:∃N:Nat,n=N:=⟨n.toNat,by omega⟩
   have hN4:N≤4:=by omega
   have hF:=HF.out
   rw[Int.toNat_natCast] at hF
   have hd:=HD.out
   rw[if_neg (by rw[HC.out];simp),if_neg h4] at hd
   have D0:DAt w w1 r F N 0 (.slice none 0 0) w3:=⟨⟨[],s1,World.ownsRow_nil _ _ _ _,rfl,(λp hp=>by cases hp),HR3.out.1,by simpa using hF⟩,HR3.out.2.2.2,HWS.out,HR3.out.2.2.1,HR3.out.2.1⟩
   have HD0:=qQ D0
   have HDD:=qQ hd
   clear D0 hd hF HF HD HC HR3 hn0 hn1 HWS
   go_wp2_with fail
   go_loopw [6,20] (λu6 i wr=>∃(j:Nat),j≤N∧i= .int .i64 j∧DAt w w1 r F N j u6 wr) (λ_ i _=>N-(intOf i).toNat)
   case atStart=>exact⟨0,by omega,rfl,HD0.out⟩
   case round=>
    obtain⟨j,hj,rfl,hA⟩:=hrel
    have HA:=qQ hA
    clear hA HD0
    by_cases hlt:j<N
    ·obtain⟨⟨ps,s,hrow,hpl,hls,hrx,hlp⟩,_,_,_,_⟩:=id HA.out
     obtain⟨g,e,s',ho⟩:∃g e s',oneE s=(g,e,s'):=⟨_,_,_,rfl⟩
     have hone:=one_any wr r s hrx
     rw[ho] at hone
     have HO:=qQ ho
     have HROW:=qQ (And.intro hrow (And.intro hpl hls))
     have HLP:=qQ hlp
     have HONE:=qQ hone
     clear ho hrow hpl hls hrx hlp hone
     go_wp2_with fail
     with_reducible refine HONE.out.mono ?_
     rintro en w4 ⟨lv,rfl,hown,R4,G4⟩
     have hlt1:=HA.out.lt
     have hrow4:=qY HROW.out.1 G4 (λb h1 h2=>by have:=(qg HROW.out.1 h1).1;have h2:b=r:=h2;omega)
     have hls4:∀p∈ps,w4.ownsRow w1.heap.size 3 1 p.2 p.1.list.length (p.1.list.map VI):=λp hp=>qY (HROW.out.2.2 p hp) G4 (λb h1 h2=>by have:=(qS (HROW.out.2.2 p hp) h1).1;have h2:b=r:=h2;omega)
     have hown4:=qj hown HA.out.sz
     have HX4:=qQ (And.intro hrow4 (And.intro hls4 (And.intro hown4 (And.intro R4 (And.intro (HA.out.chg.trans (G4.one HA.out.ws)) (Nat.le_trans HA.out.sz G4.size))))))
     have HG0:=qQ (And.intro hlt1 HA.out.ws)
     clear hown R4 G4 hlt1 hrow4 hls4 hown4 HONE HA
     unfold elV
     obtain⟨A4,c4,rfl,_⟩:=Rs.of_own (V:=VI) (zs:=e.list) HX4.out.2.2.1
     by_cases hg:g=0
     ·subst hg
      have hcv:=loopE_step (N-(j+1)) (ps.map Prod.fst) s e s' HO.out
      rw[show N-(j+1)+1=N-j from by omega,HLP.out] at hcv
      have HCV:=qQ hcv
      clear hcv
      go_wp2_with (at_builtin;go_loud (refine app1S ElE rfl (.tmp 30) (.tmp 32) rfl w1.heap.size u6 j (ps.flatMap cellsE) rfl ?o1 _ [.int .i64 e.kind,.int .i64 e.asn,.int .i64 e.rank,.int .i64 e.ticks,.slice A4 e.list.length c4] rfl ?c1 rfl ?c2 (by omega) (by omega) ?hb ?grow))
      case o1=>exact (HX4.out.1.alloc _).alloc _
      case c1=>simpa using qV (w4.alloc (.cells #[.int .i64 e.kind,.int .i64 e.asn,.int .i64 e.rank,.int .i64 e.ticks,.slice A4 e.list.length c4] 172)) (.cells #[.int .i64 e.kind,.int .i64 e.asn,.int .i64 e.rank,.int .i64 e.ticks,.slice A4 e.list.length c4] 172)
      case c2=>intro u hu;simp at hu;rcases hu with rfl|rfl|rfl|rfl|rfl <;> rfl
      case hb=>have:=HX4.out.2.2.2.2.2;simp;omega
      case grow=>
       intro v5 w5 hown5 hgr hat
       have ga:Chg (λ_=>False) w4 ((w4.alloc (.cells #[.int .i64 e.kind,.int .i64 e.asn,.int .i64 e.rank,.int .i64 e.ticks,.slice A4 e.list.length c4] 172)).alloc (.cells #[.int .i64 e.kind,.int .i64 e.asn,.int .i64 e.rank,.int .i64 e.ticks,.slice A4 e.list.length c4] 172)):=(Chg.alloc _ _ _).trans (Chg.alloc _ _ _)
       have gg:=qH (S:=λb=>u6.ownBlock=some b) hgr (λb e=>e.symm▸rfl)
       have gt:=ga.none.trans gg
       have hls5:∀p∈ps++[(e,.slice A4 e.list.length c4)],w5.ownsRow w1.heap.size 3 1 p.2 p.1.list.length (p.1.list.map VI):=λp hp=>by
        rcases List.mem_append.1 hp with hp|hp
        ·have h0:=HX4.out.2.1 p hp
         exact qY h0 gt (λb h1 h2=>own_ne h0 HX4.out.1 (by decide) h1 h2)
        ·simp at hp;subst hp
         have h0:=HX4.out.2.2.1
         exact qY h0 gt (λb h1 h2=>own_ne h0 HX4.out.1 (by decide) h1 h2)
       have hrx5:Rx w5 r s':=HX4.out.2.2.2.1.keep gt (λb h1 h2=>by have:=(qg HX4.out.1 h2).1;have:=HG0.out.1;omega)
       have hD5:DAt w w1 r F N (j+1) v5 w5:=⟨⟨ps++[(e,.slice A4 e.list.length c4)],s',by rw[List.flatMap_append];exact hown5,by simp[HROW.out.2.1],hls5,hrx5,by rw[List.map_append];exact HCV.out.symm⟩,HG0.out.1,HG0.out.2,Nat.le_trans HX4.out.2.2.2.2.2 gt.size,HX4.out.2.2.2.2.1.trans (gt.mono (λb _ h2=>by have:=(qg HX4.out.1 h2).1;have:=HG0.out.1;have:=HG0.out.2;omega))⟩
       have HD5:=qQ hD5
       clear hown5 hgr hat ga gg gt hls5 hrx5 hD5 HX4 HROW HCV HLP HO
       go_wp2_with fail
       go_roundw
       case measure=>simp[intOf];omega
       case rel=>exact⟨j+1,by omega,by go_num,HD5.out⟩
     ·have hge:=loopE_err (N-(j+1)) (ps.map Prod.fst) s g e s' HO.out hg
      rw[show N-(j+1)+1=N-j from by omega,HLP.out] at hge
      have hb1:(g != 0)=true:=by simpa using hg
      have hb2:(g==0)=false:=by simpa using hg
      have hd:=HDD.out
      rw[hge] at hd
      simp only[] at hd
      rw[if_pos hg] at hd
      have HE:=qQ hd
      have hfin:=HX4.out.2.2.2.2.1
      have HFI:=qQ hfin
      clear hge hg hd hfin
      go_wp2_with fail
      rw[HE.out]
      have gt:Chg (λb=>w.heap.size≤b) w (w4.alloc (.cells #[.int .i64 e.kind,.int .i64 e.asn,.int .i64 e.rank,.int .i64 e.ticks,.slice A4 e.list.length c4] 172)):=HFI.out.trans (Chg.alloc _ _ _)
      exact bodyPost_ret (v:= .tuple #[.slice none 0 0,.int .i64 g]) (by simp[results,Tryz.results115,go_sem]) rfl ⟨_,rfl,λown _=>IeO.nil _ _,gt.fresh⟩
    ·obtain rfl:j=N:=by omega
     obtain⟨⟨ps,s,hrow,hpl,hls,hrx,hlp⟩,hl1,hl2,hl3,hl4⟩:=HA.out
     rw[Nat.sub_self] at hlp
     have hlp:F=(0,ps.map Prod.fst,s):=hlp.symm
     have he:=rx_end wr r s hrx
     obtain⟨q,hq⟩:∃q,rEnd s=q:=⟨_,rfl⟩
     have hd:=HDD.out
     rw[hlp] at hd
     simp only[hq] at hd
     rw[if_neg (by simp)] at hd
     rw[hq] at he
     have HE:=qQ he
     have HD2:=qQ hd
     have HRW:=qQ (And.intro hrow (And.intro hls (And.intro hl4 (And.intro hl1 hpl))))
     have HSZ:=qQ (And.intro hl2 hl3)
     clear hrow hpl hls hrx hlp hl1 hl2 hl3 hl4 he hq hd HDD HA
     go_wp2_with fail
     with_reducible refine HE.out.mono ?_
     rintro en w4 ⟨rfl,R4,G4⟩
     have hrow4:=qY HRW.out.1 G4 (λb h1 h2=>by have:=(qg HRW.out.1 h1).1;have h2:b=r:=h2;have:=HRW.out.2.2.2.1;omega)
     have hls4:∀p∈ps,w4.ownsRow w1.heap.size 3 1 p.2 p.1.list.length (p.1.list.map VI):=λp hp=>qY (HRW.out.2.1 p hp) G4 (λb h1 h2=>by have:=(qS (HRW.out.2.1 p hp) h1).1;have h2:b=r:=h2;have:=HRW.out.2.2.2.1;omega)
     have hg4:=(HRW.out.2.2.1.trans (G4.one HSZ.out.1)).fresh
     have hsz:w.heap.size≤w1.heap.size:=by have:=HSZ.out.1;have:=HRW.out.2.2.2.1;omega
     have hio:NewIO w w4 u6 (ps.map Prod.fst):=λown hz=>by
      have hz2:∀k,w1.heap.size≤k→own k=0:=λk hk=>hz k (by omega)
      have hr:=hrow4
      rw[←HRW.out.2.2.2.2] at hr
      exact IeO.of_own hr hz2 (λp hp=>RV.of_own (hls4 p hp) hz2)
     have HF:=qQ (And.intro hio hg4)
     clear R4 G4 hrow4 hls4 hg4 hsz hio HE HRW HSZ
     by_cases hq0:q=0
     ·subst hq0
      go_wp2_with fail
      have hd:=HD2.out
      rw[if_neg (by simp)] at hd
      rw[hd]
      exact bodyPost_ret (v:= .tuple #[u6,.int .i64 0]) (by simp[results,Tryz.results115,go_sem]) rfl ⟨_,rfl,HF.out.1,HF.out.2⟩
     ·have hb1:(q != 0)=true:=by simpa using hq0
      have hb2:(q==0)=false:=by simpa using hq0
      have hd:=HD2.out
      rw[if_pos hq0] at hd
      have HD3:=qQ hd
      clear hq0 hd HD2
      go_wp2_with fail
      rw[HD3.out]
      exact bodyPost_ret (v:= .tuple #[.slice none 0 0,.int .i64 q]) (by simp[results,Tryz.results115,go_sem]) rfl ⟨_,rfl,λown _=>IeO.nil _ _,HF.out.2⟩
theorem findE_at(L:List El)(q:Int)(k:Nat)(e:El)(hk:L[k]? =some e) (he:e.kind=q) (h:∀j y,j<k→L[j]? =some y→y.kind≠q):zM L q=some e:=by
 unfold zM
 rw[List.find?_eq_some_iff_getElem]
 have hlt:=(List.getElem?_eq_some_iff.1 hk).1
 refine⟨by simpa using he,k,hlt,by rw[List.getElem?_eq_getElem hlt] at hk;simpa using hk,λj hj=>?_⟩
 have:=h j L[j] hj (List.getElem?_eq_getElem (by omega))
 simpa using this
theorem findE_no(L:List El)(q:Int)(h:∀(j:Nat) y,L[j]? =some y→y.kind≠q):zM L q=none:=by
 unfold zM
 rw[List.find?_eq_none]
 intro x hx
 obtain⟨j,hj,rfl⟩:=List.getElem_of_mem hx
 have:=h j _ (List.getElem?_eq_getElem hj)
 simpa using this
def NewI(w w':World)(v:Value)(L:List Int):Prop:=w'.ownsRow w.heap.size 3 1 v L.length (L.map VI)
def PFind(w:World)(x:Option El)(en:Ending)(w':World):Prop:=
 ∃lv,en= .returned (.tuple #[elV (x.getD el0) lv,.bool x.isSome])∧NewI w w' lv (x.getD el0).list∧Chg (λ_=>False) w w'
structure FAt(w W:World):Prop where
 blk:W.heap[w.heap.size]? =some (.cells #[.int .i64 0,.int .i64 0,.int .i64 0,.int .i64 0,.slice none 0 0] 172 (0,0))
 chg:Chg (λ_=>False) w W
theorem FAt.kept{w W W':World}(h:FAt w W)(g:Chg (λ_=>False) W W'):FAt w W':=⟨Chg.keep g h.blk (λe=>e),h.chg.trans g⟩
theorem FAt.fin{w W W':World}(h:FAt w W)(v0 v1 v2 v3 v4:Value)(hW:W'=((((W.setCell ⟨w.heap.size,0,none⟩ v0).setCell ⟨w.heap.size,1,none⟩ v1).setCell ⟨w.heap.size,2,none⟩ v2).setCell ⟨w.heap.size,3,none⟩ v3).setCell ⟨w.heap.size,4,none⟩ v4):
  W'.heap[w.heap.size]? =some (.cells #[v0,v1,v2,v3,v4] 172 (0,0))∧Chg (λ_=>False) w W'∧Chg (· =w.heap.size) W W':=by
 subst hW
 have gs:=set5 W w.heap.size v0 v1 v2 v3 v4
 exact⟨set5b h.blk v0 v1 v2 v3 v4,(h.chg.none.trans (gs.mono (λk _ h=>(by have h:k=w.heap.size:=h;show w.heap.size≤k;omega)))).fresh,gs⟩
theorem qr(w:World)(own:Cls)(v:Value)(L:List El)(q:Int)(h:IeO w own v L)(hL:L.length≤100000)(hll:∀e∈L,e.list.length≤100000):
  Calls Tryz.prog 116 #[v,.int .i64 q] w (PFind w (zM L q)):=by
 have HR:=qQ h
 obtain⟨A,c,rfl⟩:=h.val
 obtain⟨len,hlen⟩:=qZ L.length
 rw[←hlen] at hL HR ⊢
 have hl:(len:Int)≤100000:=by omega
 have HL:=qQ hlen
 have HLL:=qQ hll
 clear hlen h hll
 go_enter Tryz.func116,Tryz.ntmps116
 go_wp2_with fail
 have hF0:FAt w (w.alloc (.cells #[.int .i64 0,.int .i64 0,.int .i64 0,.int .i64 0,.slice none 0 0] 172)):=⟨qV _ _,Chg.alloc _ _ _⟩
 have HF0:=qQ hF0
 clear hF0
 go_loopw [10] (λi wr=>∃(k:Nat),k≤len∧i= .int .i64 k∧(∀j y,j<k→L[j]? =some y→y.kind≠q)∧FAt w wr) (λi _=>len-(intOf i).toNat)
 case atStart=>exact⟨0,by omega,rfl,(λj y hj=>absurd hj (by omega)),HF0.out⟩
 case round=>
  obtain⟨k,hk,rfl,hno,hF⟩:=hrel
  have HN:=qQ hno
  have HF:=qQ hF
  clear hno hF HF0
  by_cases hlt:k<len
  ·obtain⟨e,he⟩:∃e,L[k]? =some e:=⟨_,List.getElem?_eq_getElem (by have:=HL.out;omega)⟩
   obtain⟨g,c',lv,hv,⟨c0,c1,c2,c3,c4⟩,hr⟩:=(HR.out.keep HF.out.chg (λ_ _ e=>e)).at he
   rw[←HL.out] at hv
   cases hv
   have hll:=HLL.out e (List.mem_of_getElem? he)
   obtain⟨A',ca,rfl,hrs,hA,_,_⟩:=hr.rs
   have i1:(k:Int)<(len:Int):=by omega
   have HZ:=qQ he
   have HRS:=qQ (And.intro hrs (And.intro hA hll))
   have ga:=Chg.alloc (λ_=>False) wr (.cells #[.int .i64 e.kind,.int .i64 e.asn,.int .i64 e.rank,.int .i64 e.ticks,.slice A' e.list.length ca] 172)
   have hba:=qV wr (.cells #[.int .i64 e.kind,.int .i64 e.asn,.int .i64 e.rank,.int .i64 e.ticks,.slice A' e.list.length ca] 172)
   have hne:wr.heap.size≠w.heap.size:=by have:=qX HF.out.blk;omega
   have HWR:=qQ HF.out.chg.size
   have HF1:=qQ (HF.out.kept ga)
   have HGB:=qQ (And.intro ga (And.intro hba hne))
   clear he hr hrs hA hll ga hba hne HF
   by_cases hq:e.kind=q
   ·have hb:(e.kind==q)=true:=by simpa using hq
    have hfi:=findE_at L q k e HZ.out hq HN.out
    have HFI:=qQ hfi
    clear hq hfi
    go_wp2_with fail
    clear c0 c1 c2 c3 c4
    (with_reducible refine (jF _ A' e.list.length ca e.list ((HRS.out.1.keep HGB.out.1 (λ_ _ e=>e)).more HGB.out.1.size) HRS.out.2.1 HRS.out.2.2).mono ?_)
    rintro en w2 ⟨v2,rfl,hown,G2⟩
    have hb2:=Chg.keep G2 HGB.out.2.1 (λe=>e)
    have HF2:=qQ (HF1.out.kept G2)
    have HO2:=qQ (And.intro hown hb2)
    have HNE:=qQ HGB.out.2.2
    have HSZ:=qQ (show w.heap.size<(wr.alloc (.cells #[.int .i64 e.kind,.int .i64 e.asn,.int .i64 e.rank,.int .i64 e.ticks,.slice A' e.list.length ca] 172)).heap.size from qX HF1.out.blk)
    have HSZ2:=qQ (show wr.heap.size<(wr.alloc (.cells #[.int .i64 e.kind,.int .i64 e.asn,.int .i64 e.rank,.int .i64 e.ticks,.slice A' e.list.length ca] 172)).heap.size from qX HGB.out.2.1)
    clear hown hb2 G2 HF1 HGB
    obtain⟨A2,cc2,rfl,_⟩:=Rs.of_own (V:=VI) (zs:=e.list) HO2.out.1
    obtain⟨d0,d1,d2,d3,d4⟩:=zB HO2.out.2
    have f4:w2.frozen? ⟨wr.heap.size,4,none⟩=false:=qK HO2.out.2 4
    have hs4:=qB HO2.out.2 4 (.slice A2 e.list.length cc2)
    have gs4:=chg1 w2 wr.heap.size 4 (.slice A2 e.list.length cc2)
    have hown4:=qY HO2.out.1 gs4 (λb h1 h2=>by have:=(qS HO2.out.1 h1).1;have h2:b=wr.heap.size:=h2;have:=HSZ2.out;omega)
    have hF4:FAt w (w2.setCell ⟨wr.heap.size,4,none⟩ (.slice A2 e.list.length cc2)):=⟨Chg.keep gs4 HF2.out.blk (λh=>by have h:w.heap.size=wr.heap.size:=h;have:=HNE.out;omega),(HF2.out.chg.none.trans (gs4.mono (λb _ h=>by have h:b=wr.heap.size:=h;have:=HWR.out;show w.heap.size≤b;omega))).fresh⟩
    have HF4:=qQ hF4
    have HS4:=qQ (And.intro hs4 hown4)
    clear hF4 hs4 hown4 gs4
    obtain⟨c0,c1,c2,c3,c4⟩:=zB HF2.out.blk
    obtain⟨f0,f1,f2,f3,f5⟩:=froz5 HF2.out.blk
    have hne1:¬(wr.heap.size=w.heap.size):=HNE.out
    have hne2:¬(w.heap.size=wr.heap.size):=λe=>HNE.out e.symm
    go_wp2_with fail
    obtain⟨hb,G,GG⟩:=HF4.out.fin (.int .i64 e.kind) (.int .i64 e.asn) (.int .i64 e.rank) (.int .i64 e.ticks) (.slice A2 e.list.length cc2) rfl
    obtain⟨k0,k1,k2,k3,k4⟩:=zB hb
    have hown:=qY HS4.out.2 GG (λb h1 h2=>by have:=(qS HS4.out.2 h1).1;have h2:b=w.heap.size:=h2;have:=HSZ.out;omega)
    rw[HFI.out]
    exact bodyPost_ret (v:= .tuple #[elV e (.slice A2 e.list.length cc2),.bool true]) (by simp[results,Tryz.results116,go_sem,elV,k0,k1,k2,k3,k4]) rfl ⟨_,rfl,qj hown (Nat.le_of_lt HSZ.out),G⟩
   ·have hb:(e.kind==q)=false:=by simpa using hq
    have hn:∀j y,j<k+1→L[j]? =some y→y.kind≠q:=λj y hj hy=>by
     by_cases ej:j=k
     ·subst ej;rw[HZ.out] at hy;cases hy;exact hq
     ·exact HN.out j y (by omega) hy
    have HN1:=qQ hn
    clear hn hq
    go_wp2_with fail
    go_roundw
    case measure=>simp[intOf];omega
    case rel=>exact⟨k+1,by omega,by go_num,HN1.out,HF1.out⟩
  ·obtain rfl:k=len:=by omega
   have hi:=findE_no L q (λj y hj=>HN.out j y (by have:=(List.getElem?_eq_some_iff.1 hj).1;rw[←HL.out] at this;exact this) hj)
   have HI:=qQ hi
   clear hi
   obtain⟨c0,c1,c2,c3,c4⟩:=zB HF.out.blk
   obtain⟨f0,f1,f2,f3,f4⟩:=froz5 HF.out.blk
   go_wp2_with fail
   obtain⟨hb,G,_⟩:=HF.out.fin (.int .i64 0) (.int .i64 0) (.int .i64 0) (.int .i64 0) (.slice none 0 0) rfl
   obtain⟨k0,k1,k2,k3,k4⟩:=zB hb
   rw[HI.out]
   exact bodyPost_ret (v:= .tuple #[elV el0 (.slice none 0 0),.bool false]) (by simp[results,Tryz.results116,go_sem,elV,el0,k0,k1,k2,k3,k4]) rfl ⟨_,rfl,World.ownsRow_nil _ _ _ _,G⟩
end Go.Proofs.YtnpihllannobgaaGreatDoor
