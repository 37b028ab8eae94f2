/- Steps of the proof, part G09. No condition. -/
import Derived.Test.YtnpihllannobgaaGreatDoorG08
namespace Go.Proofs.YtnpihllannobgaaGreatDoor
set_option linter.unusedVariables false
set_option linter.unusedSimpArgs false
set_option maxRecDepth 100000
set_option maxHeartbeats 32000000
open Go.ChangeShapes Go.WideShapes Go.ChangeAt Go.RowKit
theorem ix5_0(a b c d e:Value)(w:World):(Instr.index 181 (.agg #[a,b,c,d,e]) (.int .i64 0)).run Tryz.prog w= .ok a w:=by kernel_rfl
theorem ix5_1(a b c d e:Value)(w:World):(Instr.index 181 (.agg #[a,b,c,d,e]) (.int .i64 1)).run Tryz.prog w= .ok b w:=by kernel_rfl
theorem ix5_2(a b c d e:Value)(w:World):(Instr.index 181 (.agg #[a,b,c,d,e]) (.int .i64 2)).run Tryz.prog w= .ok c w:=by kernel_rfl
theorem ix5_3(a b c d e:Value)(w:World):(Instr.index 181 (.agg #[a,b,c,d,e]) (.int .i64 3)).run Tryz.prog w= .ok d w:=by kernel_rfl
theorem ix5_4(a b c d e:Value)(w:World):(Instr.index 181 (.agg #[a,b,c,d,e]) (.int .i64 4)).run Tryz.prog w= .ok e w:=by kernel_rfl
theorem ix2_0(a b:Value)(w:World):(Instr.index 183 (.agg #[a,b]) (.int .i64 0)).run Tryz.prog w= .ok a w:=by kernel_rfl
theorem ix2_1(a b:Value)(w:World):(Instr.index 183 (.agg #[a,b]) (.int .i64 1)).run Tryz.prog w= .ok b w:=by kernel_rfl
def hdrF(K S D Q:Int)(k:Nat):List Int:=(([197,K,S,D,Q]:List Int).take k).flatMap (be 1)
theorem hdr_len(K S D Q:Int)(k:Nat):(hdrF K S D Q k).length≤5:=by
 unfold hdrF
 have:∀l:List Int,(l.flatMap (be 1)).length=l.length:=λl=>by induction l with
  |nil=>rfl
  |cons x l ih=>rw[List.flatMap_cons,List.length_append,qw,ih,List.length_cons];omega
 rw[this,List.length_take];simp;omega
theorem hdr_next(K S D Q:Int)(k:Nat)(x:Int)(h:([197,K,S,D,Q]:List Int)[k]? =some x):hdrF K S D Q (k+1)=hdrF K S D Q k++be 1 x:=by
 unfold hdrF
 rw[List.take_add_one,h,List.flatMap_append];simp
def PEncF(w:World)(f:Fr)(en:Ending)(w':World):Prop:=
 (mayF f=true∧PEnc w (encF f) en w')∨(mayF f=false∧en= .returned (.tuple #[.slice none 0 0,.int .i64 1])∧Chg (λ_=>False) w w')
theorem PEncF.ok{w w':World}{f:Fr}{en:Ending}(h:mayF f=true)(k:PEnc w (encF f) en w'):PEncF w f en w':= .inl ⟨h,k⟩
theorem PEncF.no{w w':World}{f:Fr}{en:Ending}(h:mayF f=false)(k:en= .returned (.tuple #[.slice none 0 0,.int .i64 1]))(g:Chg (λ_=>False) w w'):PEncF w f en w':= .inr ⟨h,k,g⟩
theorem WC.cw{w0 w:World}{b:Nat}{L:List Int}(h:WC w0 w b L):CW 5 b w0 w:=h.2
theorem kV{f:Fr}(h:mayF f=true):f.ies.length≤4∧(∀e∈f.ies,mayE e=true)∧f.data.length≤64∧0≤f.src∧f.src<16∧0≤f.dst∧f.dst≤64∧0≤f.seq∧f.seq≤255∧1≤f.kind∧f.kind≤5:=by
 simp only[mayF,Bool.and_eq_true,Bool.or_eq_true,decide_eq_true_eq,qt,inR] at h
 obtain⟨⟨⟨⟨⟨⟨⟨h1,h2⟩,h3⟩,h4⟩,h5⟩,h6⟩,h7⟩,h8⟩:=h
 have hk:f.kind=2∨f.kind=4∨f.kind=3∨f.kind=1∨f.kind=5:=by
  unfold zY at h8
  by_cases k2:f.kind=2
  ·exact .inl k2
  ·by_cases k4:f.kind=4
   ·exact .inr (.inl k4)
   ·by_cases k3:f.kind=3
    ·exact .inr (.inr (.inl k3))
    ·by_cases k1:f.kind=1
     ·exact .inr (.inr (.inr (.inl k1)))
     ·by_cases k5:f.kind=5
      ·exact .inr (.inr (.inr (.inr k5)))
      ·simp[k2,k4,k3,k1,k5] at h8
 refine⟨h5,by simpa using h6,h7,h1.1,by omega,?_,?_,h4.1,h4.2,by omega,by omega⟩
 ·rcases h2 with h2|h2
  ·exact h2.1
  ·simp at h2;omega
 ·rcases h2 with h2|h2
  ·omega
  ·simp at h2;omega
theorem fencode_any(w:World)(own:Cls)(hz:Z w own)(f:Fr)(iv dv:Value)(hi:IeO w own iv f.ies)(hd:BO w own dv f.data)(hE:f.ies.length≤100000)(hT:f.data.length≤100000)(hll:∀e∈f.ies,e.list.length≤100000):
  Calls Tryz.prog 60 #[frV f iv dv] w (PEncF w f):=by
 have ga:=Chg.alloc (λ_=>False) w (.cells #[.int .i64 f.kind,.int .i64 f.src,.int .i64 f.dst,.int .i64 f.seq,iv,dv] 71)
 have hba:=qV w (.cells #[.int .i64 f.kind,.int .i64 f.src,.int .i64 f.dst,.int .i64 f.seq,iv,dv] 71)
 have hmay:=fmay_any _ own f iv dv (hi.keep ga (λ_ _ e=>e)) (hd.keep ga (λ_ _ e=>e)) hE hT hll
 have HI:=qQ hi
 have HD:=qQ hd
 obtain⟨A,c,rfl⟩:=hi.val
 obtain⟨⟨B,cb,rfl,_⟩,_⟩:=hd
 unfold frV at hmay ⊢
 have HGA:=qQ ga
 have HBA:=qQ hba
 have HMAY:=qQ hmay
 have HZ:=qQ hz
 clear ga hba hmay hi hE hT hll hz
 obtain⟨P,hP⟩:=qZ (PEncF w f)
 rw[←hP]
 have HP:=qQ hP
 clear hP
 by_cases hm:mayF f=true
 ·have HM:=qQ hm
  clear hm
  go_enter Tryz.func60,Tryz.ntmps60
  go_wp2_with fail
  with_reducible refine HMAY.out.mono ?_
  rintro en w2 ⟨rfl,G2⟩
  rw[HM.out]
  have HB2:=qQ (Chg.keep G2 HBA.out (λe=>e))
  have HG2:=qQ (HGA.out.trans G2)
  clear G2 HGA HBA HMAY
  obtain⟨b0,b1,b2,b3,b4,b5⟩:=qC HB2.out
  go_wp2_with fail
  clear b0 b1 b2 b3 b4 b5
  obtain⟨h4,hme,hdl,hs0,hs1,hd0,hd1,hq0,hq1,hk0,hk1⟩:=kV HM.out
  (with_reducible refine (iencode_any w2 own (.slice A f.ies.length c) f.ies (HI.out.keep HG2.out (λ_ _ e=>e)) h4 hme).mono ?_)
  rintro en w3 ⟨ev,rfl,hown,G3⟩
  have hEl:(encI f.ies).length≤73:=by
   have h1:=encI_len hme
   simp only[encI,List.length_cons];omega
  have hEb:=encI_byte h4 hme
  have HG3:=qQ (HG2.out.trans G3)
  have HB3:=qQ (Chg.keep G3 HB2.out (λe=>e))
  have hbs:=BS.of_own hown hEb
  have HDL:=qQ hdl
  clear G3 HG2 HB2 h4 hme hown hEb hdl
  obtain⟨EI,hEI⟩:∃EI,encI f.ies=EI:=⟨_,rfl⟩
  rw[hEI] at hbs hEl
  have HEI:=qQ hEI
  have HBS:=qQ (And.intro hbs hEl)
  obtain⟨AE,cE,rfl,_⟩:=hbs
  clear hEI
  obtain⟨b0,b1,b2,b3,b4,b5⟩:=qC HB3.out
  have hszB:=qX HB3.out
  have hneB:¬(w.heap.size=w3.heap.size):=by omega
  go_wp2_with fail
  clear b0 b1 b2 b3 b4 b5
  have hw4:Wr (w3.alloc (.cells #[.slice none 0 0,.int .i64 0] 180)) w3.heap.size (.slice none 0 0) []:=⟨qV _ _,World.ownsRow_nil _ _ _ _⟩
  have g4:=Chg.alloc (λ_=>False) w3 (.cells #[.slice none 0 0,.int .i64 0] 180)
  have hdd:Rs V8 w3 w3.heap.size B f.data.length f.data:=by
   obtain⟨A',c',e1,h1,_⟩:=(HD.out.keep HG3.out (λ_ _ e=>e)).bs
   cases e1;exact h1
  have hee:Rs V8 w3 w3.heap.size AE EI.length EI:=by
   obtain⟨A',c',e1,h1,_⟩:=HBS.out.1
   cases e1;exact h1
  have hTb:∀x∈f.data,0≤x∧x<256:=HD.out.2
  have hEIb:∀x∈EI,0≤x∧x<256:=by obtain⟨_,_,_,_,_,_,_,h⟩:=HBS.out.1;exact h
  have HW4:=qQ (And.intro (WC.start hw4) (hdd.keep g4 (λ_ _ e=>e)))
  have HE4:=qQ (And.intro (hee.keep g4 (λ_ _ e=>e)) (And.intro hTb hEIb))
  have HB4:=qQ (Chg.keep g4 HB3.out (λe=>e))
  have HG4:=qQ (And.intro (HG3.out.trans g4) HG3.out.size)
  have hEIl:EI.length≤73:=HBS.out.2
  have hTl:f.data.length≤64:=HDL.out
  clear hw4 g4 hdd hee hTb hEIb HB3 HG3 HBS HDL hszB
  generalize w3.alloc (.cells #[.slice none 0 0,.int .i64 0] 180)=w4 at *
  generalize w3.heap.size=b at *
  obtain⟨EL,hEL⟩:∃n,n=EI.length:=⟨_,rfl⟩
  obtain⟨TL,hTL⟩:∃n,n=f.data.length:=⟨_,rfl⟩
  rw[←hEL,←hTL]
  rw[←hEL] at HE4 hEIl
  rw[←hTL] at HW4 hTl HB4
  have HLN:=qQ (And.intro hEL hTL)
  clear hEL hTL
  have x0:=ix5_0 (.int .i64 197) (.int .i64 f.kind) (.int .i64 f.src) (.int .i64 f.dst) (.int .i64 f.seq)
  have x1:=ix5_1 (.int .i64 197) (.int .i64 f.kind) (.int .i64 f.src) (.int .i64 f.dst) (.int .i64 f.seq)
  have x2:=ix5_2 (.int .i64 197) (.int .i64 f.kind) (.int .i64 f.src) (.int .i64 f.dst) (.int .i64 f.seq)
  have x3:=ix5_3 (.int .i64 197) (.int .i64 f.kind) (.int .i64 f.src) (.int .i64 f.dst) (.int .i64 f.seq)
  have x4:=ix5_4 (.int .i64 197) (.int .i64 f.kind) (.int .i64 f.src) (.int .i64 f.dst) (.int .i64 f.seq)
  go_loopw [34] (λi wr=>∃(k:Nat),k≤5∧i= .int .i64 k∧WC w4 wr b (hdrF f.kind f.src f.dst f.seq k)) (λi _=>5-(intOf i).toNat)
  case atStart=>exact⟨0,by omega,rfl,HW4.out.1⟩
  case round=>
   obtain⟨k,hk,rfl,hP⟩:=hrel
   have HPP:=qQ hP
   clear hP
   rcases (by omega:k=0∨k=1∨k=2∨k=3∨k=4∨k=5) with rfl|rfl|rfl|rfl|rfl|rfl
   ·go_wp2_with fail
    (with_reducible refine (zF HPP.out 1 8 rfl (by omega) 197 (by omega) (by omega) (by have:=hdr_len f.kind f.src f.dst f.seq 0;omega)).mono ?_)
    rintro en w5 ⟨rfl,W5,_⟩
    have HN:Hid (WC w4 w5 b (hdrF f.kind f.src f.dst f.seq (0+1))):=qQ (by rw[hdr_next f.kind f.src f.dst f.seq 0 197 rfl];exact W5)
    clear W5 HPP
    go_wp2_with fail
    go_roundw
    case measure=>simp[intOf]
    case rel=>exact⟨1,by omega,rfl,HN.out⟩
   ·go_wp2_with fail
    (with_reducible refine (zF HPP.out 1 8 rfl (by omega) f.kind (by omega) (by omega) (by have:=hdr_len f.kind f.src f.dst f.seq 1;omega)).mono ?_)
    rintro en w5 ⟨rfl,W5,_⟩
    have HN:Hid (WC w4 w5 b (hdrF f.kind f.src f.dst f.seq (1+1))):=qQ (by rw[hdr_next f.kind f.src f.dst f.seq 1 f.kind rfl];exact W5)
    clear W5 HPP
    go_wp2_with fail
    go_roundw
    case measure=>simp[intOf]
    case rel=>exact⟨2,by omega,rfl,HN.out⟩
   ·go_wp2_with fail
    (with_reducible refine (zF HPP.out 1 8 rfl (by omega) f.src (by omega) (by omega) (by have:=hdr_len f.kind f.src f.dst f.seq 2;omega)).mono ?_)
    rintro en w5 ⟨rfl,W5,_⟩
    have HN:Hid (WC w4 w5 b (hdrF f.kind f.src f.dst f.seq (2+1))):=qQ (by rw[hdr_next f.kind f.src f.dst f.seq 2 f.src rfl];exact W5)
    clear W5 HPP
    go_wp2_with fail
    go_roundw
    case measure=>simp[intOf]
    case rel=>exact⟨3,by omega,rfl,HN.out⟩
   ·go_wp2_with fail
    (with_reducible refine (zF HPP.out 1 8 rfl (by omega) f.dst (by omega) (by omega) (by have:=hdr_len f.kind f.src f.dst f.seq 3;omega)).mono ?_)
    rintro en w5 ⟨rfl,W5,_⟩
    have HN:Hid (WC w4 w5 b (hdrF f.kind f.src f.dst f.seq (3+1))):=qQ (by rw[hdr_next f.kind f.src f.dst f.seq 3 f.dst rfl];exact W5)
    clear W5 HPP
    go_wp2_with fail
    go_roundw
    case measure=>simp[intOf]
    case rel=>exact⟨4,by omega,rfl,HN.out⟩
   ·go_wp2_with fail
    (with_reducible refine (zF HPP.out 1 8 rfl (by omega) f.seq (by omega) (by omega) (by have:=hdr_len f.kind f.src f.dst f.seq 4;omega)).mono ?_)
    rintro en w5 ⟨rfl,W5,_⟩
    have HN:Hid (WC w4 w5 b (hdrF f.kind f.src f.dst f.seq (4+1))):=qQ (by rw[hdr_next f.kind f.src f.dst f.seq 4 f.seq rfl];exact W5)
    clear W5 HPP
    go_wp2_with fail
    go_roundw
    case measure=>simp[intOf]
    case rel=>exact⟨5,by omega,rfl,HN.out⟩
   ·clear x0 x1 x2 x3 x4
    obtain⟨H,hH⟩:∃H,hdrF f.kind f.src f.dst f.seq 5=H:=⟨_,rfl⟩
    have hHl:H.length≤5:=by rw[←hH];exact hdr_len _ _ _ _ _
    have HWR:=qQ (hH▸HPP.out)
    have HH:=qQ hH
    obtain⟨b0,b1,b2,b3,b4,b5⟩:=qC (HWR.out.2.keep HB4.out (by have:=qX HB4.out;omega) (.inl (by decide)))
    have x0:=ix2_0 (.slice AE EL cE) (.slice B TL cb)
    have x1:=ix2_1 (.slice AE EL cE) (.slice B TL cb)
    clear hH HPP
    go_wp2_with fail
    clear b0 b1 b2 b3 b4 b5
    go_loopw [46] (λi wq=>∃(k:Nat) (M:List Int),k≤2∧i= .int .i64 k∧M=H++(if k=0 then [] else if k=1 then be 1 (EL:Int)++EI else be 1 (EL:Int)++EI++(be 1 (TL:Int)++f.data))∧WC w4 wq b M) (λi _=>2-(intOf i).toNat)
    case atStart=>exact⟨0,H,by omega,rfl,by simp,HWR.out⟩
    case round=>
     obtain⟨k,M,hk,rfl,hM,hP⟩:=hrel
     have HPP:=qQ hP
     have HMM:=qQ hM
     clear hP hM
     rcases (by omega:k=0∨k=1∨k=2) with rfl|rfl|rfl
     ·have hMl:M.length≤5:=by rw[HMM.out];simpa using hHl
      go_wp2_with fail
      (with_reducible refine (zF HPP.out 1 8 rfl (by omega) (EL:Int) (by omega) (by omega) (by omega)).mono ?_)
      rintro en w5 ⟨rfl,W5,_⟩
      have HW5:=qQ W5
      clear W5 HPP
      go_wp2_with fail
      (with_reducible refine (wc_text HW5.out AE EL cE EI (HE4.out.1.keep (WC.cw HW5.out).chg (λj h1 h2=>by omega)) HE4.out.2.2 (by rw[List.length_append,qw];omega)).mono ?_)
      rintro en w6 ⟨rfl,W6,_⟩
      have HW6:Hid (WC w4 w6 b (H++(be 1 (EL:Int)++EI))):=qQ (by have h:=HMM.out;simp at h;rw[h] at W6;rw[←List.append_assoc];exact W6)
      clear W6 HW5 HMM hMl
      go_wp2_with fail
      go_roundw
      case measure=>simp[intOf]
      case rel=>(repeat apply Exists.intro);exact⟨⟨1,_,by omega,rfl,rfl,HW6.out⟩,rfl⟩
     ·have hMl:M.length≤79:=by rw[HMM.out];simp[qw];have:=HLN.out.1;omega
      go_wp2_with fail
      (with_reducible refine (zF HPP.out 1 8 rfl (by omega) (TL:Int) (by omega) (by omega) (by omega)).mono ?_)
      rintro en w5 ⟨rfl,W5,_⟩
      have HW5:=qQ W5
      clear W5 HPP
      go_wp2_with fail
      (with_reducible refine (wc_text HW5.out B TL cb f.data (HW4.out.2.keep (WC.cw HW5.out).chg (λj h1 h2=>by omega)) HE4.out.2.1 (by rw[List.length_append,qw];omega)).mono ?_)
      rintro en w6 ⟨rfl,W6,_⟩
      have HW6:Hid (WC w4 w6 b (H++(be 1 (EL:Int)++EI++(be 1 (TL:Int)++f.data)))):=qQ (by have h:=HMM.out;simp at h;rw[h] at W6;simpa using W6)
      clear W6 HW5 HMM hMl
      go_wp2_with fail
      go_roundw
      case measure=>simp[intOf]
      case rel=>(repeat apply Exists.intro);exact⟨⟨2,_,by omega,rfl,rfl,HW6.out⟩,rfl⟩
     ·clear x0 x1
      go_wp2_with fail
      obtain⟨⟨v6,hw⟩,hc⟩:=HPP.out
      have hMM:M=bodyF f:=by
       rw[HMM.out,←HH.out,HLN.out.1,HLN.out.2]
       simp only[bodyF,headF,hdrF,HEI.out]
       simp[List.append_assoc]
      have hMl:M.length≤144:=by
       rw[HMM.out];simp[qw];have:=HLN.out.1;have:=HLN.out.2;omega
      have hMb:∀x∈M,0≤x∧x<256:=by
       have h1:∀x∈H,0≤x∧x<256:=by
        intro x hx;rw[←HH.out] at hx
        simp only[hdrF,List.mem_flatMap] at hx
        obtain⟨y,_,hx⟩:=hx
        exact zD _ _ x hx
       intro x hx
       rw[HMM.out] at hx
       simp only[List.mem_append] at hx
       rcases hx with hx|hx
       ·exact h1 x hx
       ·simp at hx
        rcases hx with hx|hx|hx|hx
        ·exact zD _ _ x hx
        ·exact HE4.out.2.2 x hx
        ·exact zD _ _ x hx
        ·exact HE4.out.2.1 x hx
      have hb:=bytes_any _ b v6 M hw (by omega)
      have HB6:=qQ hb
      have HC6:=qQ hc
      have HM6:=qQ (And.intro hMM (And.intro hMl hMb))
      clear hb hc hw hMM hMl hMb HMM HPP
      with_reducible refine HB6.out.mono ?_
      rintro en w7 ⟨v7,rfl,hown7,G7⟩
      obtain⟨A7,c7,rfl,hr7,hA7⟩:=Rs.of_own hown7
      have hap:=crcAppend_any w7 A7 M.length c7 M hr7 hA7 HM6.out.2.2 (by have:=HM6.out.2.1;omega)
      have hbw:w.heap.size≤b:=HG4.out.2
      have hg7:Chg (λ_=>False) w w7:=((HG4.out.1.none.trans (HC6.out.chg.mono (λj _ h2=>Nat.le_trans hbw h2))).fresh).trans G7
      have HAP:=qQ hap
      have HG7:=qQ hg7
      clear hap hg7 hown7 hr7 hA7 G7 HB6 HC6 hbw
      go_wp2_with fail
      with_reducible refine HAP.out.mono ?_
      rintro en w8 ⟨v8,rfl,hown8,G8⟩
      have HX8:=qQ (And.intro (qk hown8 HG7.out.size) (HG7.out.trans G8))
      clear hown8 G8 HAP
      go_wp2_with fail
      rw[HP.out]
      have henc:encF f=M++jh M:=by rw[HM6.out.1];rfl
      exact (PEncF.ok HM.out ⟨v8,rfl,by rw[henc];exact HX8.out.1,HX8.out.2⟩)
 ·have hm:mayF f=false:=by simpa using hm
  have HM:=qQ hm
  clear hm
  go_enter Tryz.func60,Tryz.ntmps60
  go_wp2_with fail
  with_reducible refine HMAY.out.mono ?_
  rintro en w2 ⟨rfl,G2⟩
  rw[HM.out]
  have HG2:=qQ (HGA.out.trans G2)
  clear G2 HGA HBA HMAY
  go_wp2_with fail
  rw[HP.out]
  exact (PEncF.no HM.out rfl HG2.out)
theorem kJ(w:World)(r:Nat)(s:RS)(h:Rx w r s)(x:Int)(hx:ql s 1=x)(s':RS)(hs:qS s 1=s'):Calls Tryz.prog 112 #[.pointer (some ⟨r,0,none⟩)] w (PRx w r s' (.int .i64 x)):=by
 have ht:=jr h 1 8 rfl (by omega) x hx s' hs
 have hb:=zj h 1
 rw[hx] at hb
 have h0:0≤x:=hb.1
 have h1:x<256:=hb.2
 have HT:=qQ ht
 clear ht hb hx hs h
 go_enter Tryz.func112,Tryz.ntmps112
 go_wp2_with fail
 with_reducible refine HT.out.mono ?_
 rintro en w1 ⟨rfl,R,G⟩
 have HG:=qQ (And.intro R G)
 clear R G HT
 go_wp2_with fail
 go_ret
 exact⟨rfl,HG.out.1,HG.out.2⟩
theorem set6(w:World)(b:Nat)(v0 v1 v2 v3 v4 v5:Value):Chg (· =b) w ((((((w.setCell ⟨b,0,none⟩ v0).setCell ⟨b,1,none⟩ v1).setCell ⟨b,2,none⟩ v2).setCell ⟨b,3,none⟩ v3).setCell ⟨b,4,none⟩ v4).setCell ⟨b,5,none⟩ v5):=
 (set5 w b v0 v1 v2 v3 v4).trans (chg1 _ _ _ _)
theorem set6b{w:World}{b:Nat}{a0 a1 a2 a3 a4 a5:Value}{t:TypeId}(h:w.heap[b]? =some (.cells #[a0,a1,a2,a3,a4,a5] t (0,0))) (v0 v1 v2 v3 v4 v5:Value):
  ((((((w.setCell ⟨b,0,none⟩ v0).setCell ⟨b,1,none⟩ v1).setCell ⟨b,2,none⟩ v2).setCell ⟨b,3,none⟩ v3).setCell ⟨b,4,none⟩ v4).setCell ⟨b,5,none⟩ v5).heap[b]? =some (.cells #[v0,v1,v2,v3,v4,v5] t (0,0)):=by
 have h0:=qB h 0 v0
 have h1:=qB h0 1 v1
 have h2:=qB h1 2 v2
 have h3:=qB h2 3 v3
 have h4:=qB h3 4 v4
 have h5:=qB h4 5 v5
 simpa using h5
theorem zg{w:World}{b:Nat}{c:Array Value}{t:TypeId}(h:w.heap[b]? =some (.cells c t (0,0))):
  w.frozen? ⟨b,0,none⟩=false∧w.frozen? ⟨b,1,none⟩=false∧w.frozen? ⟨b,2,none⟩=false∧w.frozen? ⟨b,3,none⟩=false∧w.frozen? ⟨b,4,none⟩=false∧w.frozen? ⟨b,5,none⟩=false:=
 ⟨qK h 0,qK h 1,qK h 2,qK h 3,qK h 4,qK h 5⟩
def NewB(w w':World)(v:Value)(L:List Int):Prop:=∀own,Z w own→BO w' own v L
def PDecF(w:World)(x:Int×Fr)(en:Ending)(w':World):Prop:=
 ∃iv dv,en= .returned (.tuple #[frV x.2 iv dv,.int .i64 x.1])∧NewIO w w' iv x.2.ies∧NewB w w' dv x.2.data∧Chg (λ_=>False) w w'
theorem PDecF.err(w w':World)(e:Int)(g:Chg (λ_=>False) w w'):PDecF w (e,fr0) (.returned (.tuple #[frV fr0 (.slice none 0 0) (.slice none 0 0),.int .i64 e])) w':=
 ⟨_,_,rfl,λown _=>IeO.nil _ _,λown _=>BO.nil _ _,g⟩
structure BAt(w W:World):Prop where
 blk:W.heap[w.heap.size]? =some (.cells #[.int .i64 0,.int .i64 0,.int .i64 0,.int .i64 0,.slice none 0 0,.slice none 0 0] 71 (0,0))
 chg:Chg (λ_=>False) w W
theorem BAt.kept{w W W':World}(h:BAt w W)(g:Chg (λ_=>False) W W'):BAt w W':=⟨Chg.keep g h.blk (λe=>e),h.chg.trans g⟩
theorem BAt.other{w W W':World}{r:Nat}(h:BAt w W)(g:Chg (· =r) W W')(hr:w.heap.size<r):BAt w W':=
 ⟨Chg.keep g h.blk (λe=>by omega),(h.chg.none.trans (g.one (Nat.le_of_lt hr))).fresh⟩
theorem BAt.fin{w W W':World}(h:BAt w W)(v0 v1 v2 v3 v4 v5:Value)(hW:W'=(((((W.setCell ⟨w.heap.size,0,none⟩ v0).setCell ⟨w.heap.size,1,none⟩ v1).setCell ⟨w.heap.size,2,none⟩ v2).setCell ⟨w.heap.size,3,none⟩ v3).setCell ⟨w.heap.size,4,none⟩ v4).setCell ⟨w.heap.size,5,none⟩ v5):
  W'.heap[w.heap.size]? =some (.cells #[v0,v1,v2,v3,v4,v5] 71 (0,0))∧Chg (λ_=>False) w W'∧Chg (· =w.heap.size) W W':=by
 subst hW
 have gs:=set6 W w.heap.size v0 v1 v2 v3 v4 v5
 exact⟨set6b h.blk v0 v1 v2 v3 v4 v5,(h.chg.none.trans (gs.mono (λk _ h=>(by have h:k=w.heap.size:=h;show w.heap.size≤k;omega)))).fresh,gs⟩
theorem Ro.re{α:Type}{V:α→Value}{w:World}{o1 o2:Cls}{a:Option Addr}{len:Nat}{zs:List α}(h:Ro V w o1 a len zs)(e:∀k,o1 k=0→o2 k=0):Ro V w o2 a len zs:=
 ⟨h.1,λi hi=>by obtain⟨x,e1,hb,hc⟩:=h.2 i hi;exact⟨x,e1,e _ hb,hc⟩⟩
theorem RV.re{V:Int→Value}{w:World}{o1 o2:Cls}{v:Value}{L:List Int}(h:RV V w o1 v L)(e:∀k,o1 k=0→o2 k=0):RV V w o2 v L:=by
 obtain⟨A,c,h1,h2,h3⟩:=h
 exact⟨A,c,h1,h2.re e,h3⟩
theorem IeO.re{w:World}{o1 o2:Cls}{v:Value}{l:List El}(h:IeO w o1 v l)(e:∀k,o1 k=0→o2 k=0):IeO w o2 v l:=by
 rcases h with h|⟨g,c,h1,h2,h3,h4,h0,h5⟩
 ·exact .inl h
 ·exact .inr ⟨g,c,h1,e _ h2,h3,h4,h0,λi hi=>by
   obtain⟨lv,h6,h7⟩:=h5 i hi
   exact⟨lv,h6,h7.re e⟩⟩
theorem rText_len(s:RS)(n:Int)(hn:n≤16):(js s n).length≤16:=by
 unfold js;split
 ·rw[List.length_take];omega
 ·simp
theorem oneE_len(s:RS):(oneE s).2.1.list.length≤16:=by
 unfold oneE
 simp only[]
 split
 ·simp[el0]
 ·split
  ·simp[el0]
  ·rename_i hk
   split
   ·simp[el0]
   ·split
    ·simp[el0]
    ·rename_i hr
     split
     ·simp[el0]
     ·unfold takeE
      split
      ·simp
      ·split
       ·simp
       ·rename_i k1 k2
        refine rText_len _ _ ?_
        simp only[vD,k1,k2,if_false] at hr
        simpa using hr
theorem loopE_len(n:Nat)(acc:List El)(s:RS)(h:∀e∈acc,e.list.length≤16):(loopE n acc s).2.1.length≤acc.length+n∧∀e∈(loopE n acc s).2.1,e.list.length≤16:=by
 induction n generalizing acc s with
 |zero=>exact⟨by simp[loopE],h⟩
 |succ n ih=>
  obtain⟨g,e,s',ho⟩:∃g e s',oneE s=(g,e,s'):=⟨_,_,_,rfl⟩
  have hl:=oneE_len s
  rw[ho] at hl
  by_cases hg:g=0
  ·subst hg
   rw[loopE_step n acc s e s' ho]
   have:=ih (acc++[e]) s' (λx hx=>by
    rcases List.mem_append.1 hx with hx|hx
    ·exact h x hx
    ·simp at hx;subst hx;exact hl)
   refine⟨?_,this.2⟩
   have h1:=this.1
   rw[List.length_append,List.length_singleton] at h1
   omega
  ·rw[loopE_err n acc s g e s' ho hg]
   exact⟨by simp,λx hx=>by cases hx⟩
theorem decI_len(L:List Int):(decI L).2.length≤100∧∀e∈(decI L).2,e.list.length≤16:=by
 unfold decI
 simp only[]
 split
 ·simp
 ·split
  ·simp
  ·rename_i h4
   obtain⟨g,es,s2,ho⟩:∃g es s2,loopE (ql ⟨L,0⟩ 1).toNat [] (qS ⟨L,0⟩ 1)=(g,es,s2):=⟨_,_,_,rfl⟩
   have hl:=loopE_len (ql ⟨L,0⟩ 1).toNat [] (qS ⟨L,0⟩ 1) (λe he=>by cases he)
   rw[ho] at hl ⊢
   simp only[]
   split
   ·simp
   ·split
    ·simp
    ·refine⟨?_,hl.2⟩
     have:=hl.1
     simp at this ⊢
     omega
theorem kX(w:World)(v:Value)(L:List Int)(h:BS w w.heap.size v L)(hL:L.length≤100000):
  Calls Tryz.prog 65 #[v] w (PDecF w (decF L)):=by
 obtain⟨R,hR⟩:=qZ (decF L)
 rw[←hR]
 have HL:=qQ hL
 have HB:=qQ h
 obtain⟨A,c,rfl,hrs,hA,hcl,hcm,hby⟩:=h
 obtain⟨n,hn⟩:=qZ L.length
 rw[←hn] at HB HL hrs hcl ⊢
 have hn3:(n:Int)≤100000:=by have:=HL.out;omega
 unfold maxLen at hcm
 have hcl2:(n:Int)≤c:=by omega
 have HN:=qQ hn
 have HRS:=qQ (And.intro hrs (And.intro hA hby))
 have HR:=qQ hR
 have hgood:∀W,Chg (λ_=>False) w W→Calls Tryz.prog 110 #[.slice A n c] W (λe w'=>e= .returned (.bool (jj L))∧Chg (λ_=>False) W w'):=λW g=>crcGood_any W _ L ((HB.out.kept g).more g.size) (by rw[←HN.out];exact HL.out)
 have HG:=qQ hgood
 clear hn hR hgood hrs hA hby
 by_cases h9:n<9
 ·have h9i:(n:Int)<9:=by omega
  have H9:=qQ h9
  clear h9
  go_enter Tryz.func65,Tryz.ntmps65
  go_wp2_with fail
  have hr:=HR.out
  unfold decF at hr
  rw[if_pos (by rw[←HN.out];exact H9.out)] at hr
  rw[hr]
  exact bodyPost_ret (v:= .tuple #[frV fr0 (.slice none 0 0) (.slice none 0 0),.int .i64 2]) (by simp[results,Tryz.results65,go_sem,frV,fr0]) rfl (PDecF.err _ _ _ (Chg.alloc _ _ _))
 ·have H9:=qQ (show 9≤n by omega)
  have h9:(9:Int)≤n:=Int.ofNat_le.2 H9.out
  by_cases hg:jj L=true
  ·have HGT:=qQ hg
   clear hg
   obtain⟨M,hM⟩:=qZ (L.take (n-2))
   obtain⟨N,hN⟩:=qZ (n-2)
   obtain⟨s0,hs0⟩:∃s0:RS,⟨M,0⟩=s0:=⟨_,rfl⟩
   obtain⟨x0,hx0⟩:∃x,ql s0 1=x:=⟨_,rfl⟩
   obtain⟨s1,hs1⟩:∃s,qS s0 1=s:=⟨_,rfl⟩
   obtain⟨x1,hx1⟩:∃x,ql s1 1=x:=⟨_,rfl⟩
   obtain⟨s2,hs2⟩:∃s,qS s1 1=s:=⟨_,rfl⟩
   obtain⟨x2,hx2⟩:∃x,ql s2 1=x:=⟨_,rfl⟩
   obtain⟨s3,hs3⟩:∃s,qS s2 1=s:=⟨_,rfl⟩
   obtain⟨x3,hx3⟩:∃x,ql s3 1=x:=⟨_,rfl⟩
   obtain⟨s4,hs4⟩:∃s,qS s3 1=s:=⟨_,rfl⟩
   obtain⟨x4,hx4⟩:∃x,ql s4 1=x:=⟨_,rfl⟩
   obtain⟨s5,hs5⟩:∃s,qS s4 1=s:=⟨_,rfl⟩
   obtain⟨x5,hx5⟩:∃x,ql s5 1=x:=⟨_,rfl⟩
   obtain⟨s6,hs6⟩:∃s,qS s5 1=s:=⟨_,rfl⟩
   obtain⟨E,hE⟩:∃x,js s6 x5=x:=⟨_,rfl⟩
   obtain⟨s7,hs7⟩:∃s,zr s6 x5=s:=⟨_,rfl⟩
   obtain⟨x7,hx7⟩:∃x,ql s7 1=x:=⟨_,rfl⟩
   obtain⟨s8,hs8⟩:∃s,qS s7 1=s:=⟨_,rfl⟩
   obtain⟨T,hT⟩:∃x,js s8 x7=x:=⟨_,rfl⟩
   obtain⟨s9,hs9⟩:∃s,zr s8 x7=s:=⟨_,rfl⟩
   obtain⟨q,hq⟩:∃q,rEnd s9=q:=⟨_,rfl⟩
   obtain⟨DI,hDI⟩:∃D,decI E=D:=⟨_,rfl⟩
   have hrd:readF s0=(x0,⟨x1,x2,x3,x4,[],T⟩,E,s9):=by
    unfold readF;simp only[hx0,hs1,hx1,hs2,hx2,hs3,hx3,hs4,hx4,hs5,hx5,hs6,hE,hs7,hx7,hs8,hT,hs9]
   have hr2:R=if x0≠197∨q≠0 then (3,fr0) else if DI.1≠0 then (DI.1,fr0) else if mayF ⟨x1,x2,x3,x4,DI.2,T⟩ then (0,⟨x1,x2,x3,x4,DI.2,T⟩) else (3,fr0):=by
    rw[HR.out];unfold decF
    rw[if_neg (by rw[←HN.out];have:=H9.out;omega),if_neg (by rw[HGT.out];simp),←HN.out,←hM,hs0,hrd]
    simp only[hq,hDI]
   have HR2:=qQ hr2
   have HX0:=qQ (And.intro hx0 hs1)
   have HX1:=qQ (And.intro hx1 hs2)
   have HX2:=qQ (And.intro hx2 hs3)
   have HX3:=qQ (And.intro hx3 hs4)
   have HX4:=qQ (And.intro hx4 hs5)
   have HX5:=qQ (And.intro hx5 hs6)
   have HE:=qQ (And.intro hE hs7)
   have HX7:=qQ (And.intro hx7 hs8)
   have HT:=qQ (And.intro hT hs9)
   have HQ:=qQ hq
   have HDI:=qQ hDI
   have HS0:=qQ hs0
   have hMl:M.length=N:=by rw[hM,hN,List.length_take,←HN.out];omega
   have hMr:Rs V8 w w.heap.size A N M:=by rw[hM,hN];exact HRS.out.1.take (n-2) (by omega)
   have hMb:∀x∈M,0≤x∧x<256:=λx hx=>HRS.out.2.2 x (by rw[hM] at hx;exact List.mem_of_mem_take hx)
   have hNc:N≤c:=by omega
   have hMS:BS w w.heap.size (.slice A N c) M:=⟨A,c,by rw[hMl],by rw[hMl];exact hMr,HRS.out.2.1,by omega,by unfold maxLen;omega,hMb⟩
   have HMS:=qQ hMS
   have HML:=qQ hMl
   have e1:IntKind.i64.wrap ((n:Int)-2)=(N:Int):=by rw[IntWalk.i64_in _ (by omega)];omega
   have e2:(n:Int)-2=(N:Int):=by omega
   have i1:(N:Int)≤c:=by omega
   have h9i:(9:Int)≤n:=by have:=H9.out;omega
   have HNN:=qQ hN
   clear hM hN hs0 hx0 hs1 hx1 hs2 hx2 hs3 hx3 hs4 hx4 hs5 hx5 hs6 hE hs7 hx7 hs8 hT hs9 hq hDI hrd hr2 hMl hMr hMb hMS HR
   go_enter Tryz.func65,Tryz.ntmps65
   have hB0:BAt w (w.alloc (.cells #[.int .i64 0,.int .i64 0,.int .i64 0,.int .i64 0,.slice none 0 0,.slice none 0 0] 71)):=⟨qV _ _,Chg.alloc _ _ _⟩
   have HB0:=qQ hB0
   clear hB0
   go_wp2_with fail
   (with_reducible refine (HG.out _ HB0.out.chg).mono ?_)
   rintro en w2 ⟨rfl,G2⟩
   rw[HGT.out]
   have HB2:=qQ (HB0.out.kept G2)
   clear G2 HB0
   go_wp2_with fail
   (with_reducible refine (rx_new _ (.slice A N c) M ((HMS.out.kept HB2.out.chg).more HB2.out.chg.size) (by rw[HML.out];have:=HL.out;omega)).mono ?_)
   rintro en w3 ⟨r,rfl,Rr,hrr,G3⟩
   rw[HS0.out] at Rr
   have HB3:=qQ (HB2.out.kept G3)
   have HRL:=qQ (show w.heap.size<r by have:=qX HB2.out.blk;omega)
   have HX:=qQ Rr
   clear G3 HB2 Rr hrr e1 e2 i1
   go_wp2_with fail
   (with_reducible refine (kJ _ r _ HX.out _ HX0.out.1 _ HX0.out.2).mono ?_)
   rintro en w4 ⟨rfl,Rr,G4⟩
   have HB4:=qQ (HB3.out.other G4 HRL.out)
   clear HX
   have HX:=qQ Rr
   clear Rr G4 HB3 HX0
   go_wp2_with fail
   (with_reducible refine (kJ _ r _ HX.out _ HX1.out.1 _ HX1.out.2).mono ?_)
   rintro en w5 ⟨rfl,Rr,G5⟩
   have HB5:=qQ (HB4.out.other G5 HRL.out)
   clear HX
   have HX:=qQ Rr
   clear Rr G5 HB4 HX1
   go_wp2_with fail
   (with_reducible refine (kJ _ r _ HX.out _ HX2.out.1 _ HX2.out.2).mono ?_)
   rintro en w6 ⟨rfl,Rr,G6⟩
   have HB6:=qQ (HB5.out.other G6 HRL.out)
   clear HX
   have HX:=qQ Rr
   clear Rr G6 HB5 HX2
   go_wp2_with fail
   (with_reducible refine (kJ _ r _ HX.out _ HX3.out.1 _ HX3.out.2).mono ?_)
   rintro en w7 ⟨rfl,Rr,G7⟩
   have HB7:=qQ (HB6.out.other G7 HRL.out)
   clear HX
   have HX:=qQ Rr
   clear Rr G7 HB6 HX3
   go_wp2_with fail
   (with_reducible refine (kJ _ r _ HX.out _ HX4.out.1 _ HX4.out.2).mono ?_)
   rintro en w8 ⟨rfl,Rr,G8⟩
   have HB8:=qQ (HB7.out.other G8 HRL.out)
   clear HX
   have HX:=qQ Rr
   clear Rr G8 HB7 HX4
   go_wp2_with fail
   have ga:=Chg.alloc (λ_=>False) w8 (.cells #[.int .i64 x1,.int .i64 x2,.int .i64 x3,.int .i64 x4,.slice none 0 0,.slice none 0 0] 71)
   have hba:=qV w8 (.cells #[.int .i64 x1,.int .i64 x2,.int .i64 x3,.int .i64 x4,.slice none 0 0,.slice none 0 0] 71)
   have HB9:=qQ (HB8.out.kept ga)
   have HF9:=qQ (And.intro hba (And.intro (show r<w8.heap.size from HX.out.lt) (show w.heap.size<w8.heap.size from qX HB8.out.blk)))
   have HX9:=qQ (HX.out.kept ga)
   clear ga hba HB8 HX
   generalize w8.alloc (.cells #[.int .i64 x1,.int .i64 x2,.int .i64 x3,.int .i64 x4,.slice none 0 0,.slice none 0 0] 71)=w9 at *
   generalize w8.heap.size=b at *
   (with_reducible refine (kJ _ r _ HX9.out _ HX5.out.1 _ HX5.out.2).mono ?_)
   rintro en w10 ⟨rfl,Rr,G10⟩
   have h5b:x5≤100000:=by
    have h:=zj HX9.out 1
    rw[HX5.out.1] at h
    have:x5<256:=h.2
    omega
   have HB10:=qQ (HB9.out.other G10 HRL.out)
   have HF10:=qQ (And.intro (Chg.keep G10 HF9.out.1 (λe=>by have:=HF9.out.2.1;omega)) HF9.out.2)
   have HX10:=qQ Rr
   clear G10 HB9 HF9 HX9 Rr HX5
   go_wp2_with fail
   (with_reducible refine (rx_text w10 r s6 x5 HX10.out h5b).mono ?_)
   rintro en w11 ⟨ev,rfl,hown,Rr,G11,heb,hel⟩
   rw[HE.out.1] at hown heb hel
   rw[HE.out.2] at Rr
   have HB11:=qQ (HB10.out.other G11 HRL.out)
   have HF11:=qQ (And.intro (Chg.keep G11 HF10.out.1 (λe=>by have:=HF10.out.2.1;omega)) HF10.out.2)
   have HX11:=qQ Rr
   have HOE:=qQ (And.intro hown (And.intro heb (And.intro hel (And.intro (show b<w10.heap.size from qX HF10.out.1) (show r<w10.heap.size from HX10.out.lt)))))
   obtain⟨AE,cE,rfl,_⟩:=BS.of_own hown heb
   clear G11 HB10 HF10 HX10 Rr hown heb hel HE h5b
   go_wp2_with fail
   (with_reducible refine (kJ _ r _ HX11.out _ HX7.out.1 _ HX7.out.2).mono ?_)
   rintro en w12 ⟨rfl,Rr,G12⟩
   have h7b:x7≤100000:=by
    have h:=zj HX11.out 1
    rw[HX7.out.1] at h
    have:x7<256:=h.2
    omega
   have HB12:=qQ (HB11.out.other G12 HRL.out)
   have HF12:=qQ (And.intro (Chg.keep G12 HF11.out.1 (λe=>by have:=HF11.out.2.1;omega)) HF11.out.2)
   have HX12:=qQ Rr
   have HOE12:=qQ (qY HOE.out.1 G12 (λj h1 h2=>by have:=(qT HOE.out.1 h1).1;have h2:j=r:=h2;have:=HOE.out.2.2.2.2;omega))
   clear G12 HB11 HF11 HX11 Rr HX7
   go_wp2_with fail
   (with_reducible refine (rx_text w12 r s8 x7 HX12.out h7b).mono ?_)
   rintro en w13 ⟨dv,rfl,hown,Rr,G13,hdb,hdl⟩
   rw[HT.out.1] at hown hdb hdl
   rw[HT.out.2] at Rr
   have HB13:=qQ (HB12.out.other G13 HRL.out)
   have HF13:=qQ (And.intro (Chg.keep G13 HF12.out.1 (λe=>by have:=HF12.out.2.1;omega)) HF12.out.2)
   have HX13:=qQ Rr
   have HOE13:=qQ (qY HOE12.out G13 (λj h1 h2=>by have:=(qT HOE12.out h1).1;have h2:j=r:=h2;have:=HOE.out.2.2.2.2;omega))
   have HOD:=qQ (And.intro hown (And.intro hdb (And.intro hdl (show r<w12.heap.size from HX12.out.lt))))
   have HBW:=qQ (show b<w12.heap.size from qX HF12.out.1)
   have HBE:=qQ HOE.out.2.2.2.1
   obtain⟨AD,cD,rfl,_⟩:=BS.of_own hown hdb
   clear G13 HB12 HF12 HX12 Rr hown hdb hdl HT h7b HOE12
   obtain⟨d0,d1,d2,d3,d4,d5⟩:=qC HF13.out.1
   obtain⟨e0,e1,e2,e3,e4,e5⟩:=zg HF13.out.1
   have gS:=chg1 w13 b 5 (.slice AD T.length cD)
   have hF14:=qB HF13.out.1 5 (.slice AD T.length cD)
   have hB14:BAt w (w13.setCell ⟨b,5,none⟩ (.slice AD T.length cD)):=HB13.out.other gS HF13.out.2.2
   have hX14:Rx (w13.setCell ⟨b,5,none⟩ (.slice AD T.length cD)) r s9:=HX13.out.keep gS (λj h1 h2=>by have h2:j=b:=h2;have:=HF13.out.2.1;omega)
   have hOE14:=qY HOE13.out gS (λj h1 h2=>by have:=(qT HOE13.out h1).1;have h2:j=b:=h2;have:=HBE.out;omega)
   have hOD14:=qY HOD.out.1 gS (λj h1 h2=>by have:=(qT HOD.out.1 h1).1;have h2:j=b:=h2;have:=HBW.out;omega)
   have H14:=qQ (And.intro hF14 (And.intro hB14 (And.intro hX14 (And.intro hOE14 hOD14))))
   have HBR:=qQ HF13.out.2
   clear gS hF14 hB14 hX14 hOE14 hOD14 HF13 HX13 HOE13
   by_cases h197:x0=197
   ·have g197:(x0 != 197)=false:=by simpa using h197
    have H197:=qQ h197
    clear h197
    go_wp2_with fail
    clear d0 d1 d2 d3 d4 d5 e0 e1 e2 e3 e4 e5
    generalize w13.setCell ⟨b,5,none⟩ (.slice AD T.length cD)=w14 at *
    (with_reducible refine (rx_end w14 r s9 H14.out.2.2.1).mono ?_)
    rintro en w15 ⟨rfl,Rr,G15⟩
    rw[HQ.out]
    have HB15:=qQ (H14.out.2.1.other G15 HRL.out)
    have HF15:=qQ (Chg.keep G15 H14.out.1 (λe=>by have:=HBR.out.1;omega))
    have HOE15:=qQ (qY H14.out.2.2.2.1 G15 (λj h1 h2=>by have:=(qT H14.out.2.2.2.1 h1).1;have h2:j=r:=h2;have:=HOE.out.2.2.2.2;omega))
    have HOD15:=qQ (qY H14.out.2.2.2.2 G15 (λj h1 h2=>by have:=(qT H14.out.2.2.2.2 h1).1;have h2:j=r:=h2;have:=HOD.out.2.2.2;omega))
    clear G15 Rr H14 HQ
    by_cases hq:q=0
    ·have gq:(q != 0)=false:=by simpa using hq
     have HQ1:=qQ hq
     clear hq
     have hid:=idecode_any w15 (.slice AE E.length cE) E (BS.of_own HOE15.out HOE.out.2.1) HOE.out.2.2.1
     rw[HDI.out] at hid
     obtain⟨g,es,hge⟩:∃g es,DI=(g,es):=⟨_,_,rfl⟩
     rw[hge] at hid
     have HDD:=HDI
     have HGE:=qQ (show DI.1=g∧DI.2=es by rw[hge];exact⟨rfl,rfl⟩)
     have HID:=qQ hid
     clear hid hge HDI
     go_wp2_with fail
     with_reducible refine HID.out.mono ?_
     rintro en w16 ⟨iv,rfl,hio,G16⟩
     have HB16:=qQ (HB15.out.kept G16)
     have HF16:=qQ (Chg.keep G16 HF15.out (λe=>e))
     have HIO:=qQ hio
     have HOD16:=qQ (qY HOD15.out G16 (λ_ _ e=>e))
     have HBS:=qQ (show b<w15.heap.size from qX HF15.out)
     obtain⟨AI,cI,rfl⟩:=(hio (λ_=>0) (λ_ _=>rfl)).val
     obtain⟨d0,d1,d2,d3,d4,d5⟩:=qC HF16.out
     obtain⟨e0,e1,e2,e3,e4,e5⟩:=zg HF16.out
     have gS:=chg1 w16 b 4 (.slice AI es.length cI)
     have hF17:=qB HF16.out 4 (.slice AI es.length cI)
     have hB17:BAt w (w16.setCell ⟨b,4,none⟩ (.slice AI es.length cI)):=HB16.out.other gS HBR.out.2
     have H17:=qQ (And.intro hF17 hB17)
     have hOD17:=qY HOD16.out gS (λj h1 h2=>by have:=(qT HOD16.out h1).1;have h2:j=b:=h2;have:=HBW.out;omega)
     have HOD17:=qQ hOD17
     have HG17:=qQ gS
     clear hio G16 HB15 HF15 HOE15 HOD15 HID hF17 hB17 gS hOD17
     by_cases hg0:g=0
     ·have gq:(g != 0)=false:=by simpa using hg0
      have HG1:=qQ hg0
      clear hg0
      go_wp2_with fail
      clear d0 d1 d2 d3 d4 d5 e0 e1 e2 e3 e4 e5
      generalize w16.setCell ⟨b,4,none⟩ (.slice AI es.length cI)=w17 at *
      have hown:∃own:Cls,Z w15 own∧own b≠0∧own w.heap.size≠0∧∀k,own k=0→w15.heap.size≤k:=
       ⟨λk=>if k<w15.heap.size then 1 else 0,λk hk=>by simp;omega,by simp[HBS.out],by have:=HBR.out.2;have:=HBS.out;simp;omega,λk hk=>by simp at hk;exact hk⟩
      obtain⟨own,ho1,ho2,ho3,ho4⟩:=hown
      have hI17:IeO w17 own (.slice AI es.length cI) es:=(HIO.out own ho1).keep HG17.out (λj h1 h2=>by have h2:j=b:=h2;subst h2;exact ho2 h1)
      have hbd:w15.heap.size≤w15.heap.size:=Nat.le_refl _
      have hD17:BS w17 w17.heap.size (.slice AD T.length cD) T:=BS.of_own HOD17.out HOD.out.2.1
      have hOwnD:∃own2:Cls,IeO w17 own2 (.slice AI es.length cI) es∧BO w17 own2 (.slice AD T.length cD) T:=⟨λ_=>0,hI17.re (λ_ _=>rfl),BO.of_own HOD17.out HOD.out.2.1 (λ_ _=>rfl)⟩
      obtain⟨own2,ha1,ha2⟩:=hOwnD
      have hlen:=decI_len E
      rw[show decI E=(g,es) from by rw[HDD.out];exact Prod.ext HGE.out.1 HGE.out.2] at hlen
      have hmay:=fmay_any w17 own2 ⟨x1,x2,x3,x4,es,T⟩ (.slice AI es.length cI) (.slice AD T.length cD) ha1 ha2 (Nat.le_trans hlen.1 (by omega)) HOD.out.2.2.1 (λe he=>Nat.le_trans (hlen.2 e he) (by omega))
      unfold frV at hmay
      have HMAY:=qQ hmay
      have HI17:=qQ (And.intro hI17 (And.intro ho3 ho4))
      obtain⟨d0,d1,d2,d3,d4,d5⟩:=qC H17.out.1
      clear hmay hI17 ho1 ho2 ho3 ho4 ha1 ha2 hlen hbd hD17
      go_wp2_with fail
      with_reducible refine HMAY.out.mono ?_
      rintro en w18 ⟨rfl,G18⟩
      have HB18:=qQ (H17.out.2.kept G18)
      have HF18:=qQ (Chg.keep G18 H17.out.1 (λe=>e))
      have HI18:=qQ (HI17.out.1.keep G18 (λ_ _ e=>e))
      have HOD18:=qQ (qY HOD17.out G18 (λ_ _ e=>e))
      have HWS:=qQ (show w.heap.size<w12.heap.size by have:=HBR.out.2;have:=HBW.out;omega)
      clear G18 HMAY d0 d1 d2 d3 d4 d5
      by_cases hmf:mayF ⟨x1,x2,x3,x4,es,T⟩=true
      ·have HMF:=qQ hmf
       clear hmf
       rw[HMF.out]
       obtain⟨c0,c1,c2,c3,c4,c5⟩:=qC HB18.out.blk
       obtain⟨f0,f1,f2,f3,f4,f5⟩:=zg HB18.out.blk
       obtain⟨d0,d1,d2,d3,d4,d5⟩:=qC HF18.out
       go_wp2_with fail
       obtain⟨hbk,G,GS⟩:=HB18.out.fin (.int .i64 x1) (.int .i64 x2) (.int .i64 x3) (.int .i64 x4) (.slice AI es.length cI) (.slice AD T.length cD) rfl
       obtain⟨k0,k1,k2,k3,k4,k5⟩:=qC hbk
       have hr:=HR2.out
       rw[if_neg (λh=>h.elim (λh=>h H197.out) (λh=>h HQ1.out)),if_neg (λh=>h (HGE.out.1.trans HG1.out)),HGE.out.2,if_pos HMF.out] at hr
       rw[hr]
       exact bodyPost_ret (v:= .tuple #[frV ⟨x1,x2,x3,x4,es,T⟩ (.slice AI es.length cI) (.slice AD T.length cD),.int .i64 0]) (by simp[results,Tryz.results65,go_sem,frV,k0,k1,k2,k3,k4,k5]) rfl
        ⟨_,_,rfl,λown' hz=>(HI18.out.keep GS (λj h1 h2=>by have h2:j=w.heap.size:=h2;subst h2;exact HI17.out.2.1 h1)).re (λk hk=>hz k (by have:=HI17.out.2.2 k hk;have:=HBS.out;have:=HBR.out.2;omega)),λown' hz=>BO.of_own (qY HOD18.out GS (λj h1 h2=>by have:=(qT HOD18.out h1).1;have h2:j=w.heap.size:=h2;have:=HWS.out;omega)) HOD.out.2.1 (λk hk=>hz k (by have:=HWS.out;omega)),G⟩
      ·have hmf:mayF ⟨x1,x2,x3,x4,es,T⟩=false:=by simpa using hmf
       have HMF:=qQ hmf
       clear hmf
       rw[HMF.out]
       have HBX:=HB18
       obtain⟨c0,c1,c2,c3,c4,c5⟩:=qC HB18.out.blk
       obtain⟨f0,f1,f2,f3,f4,f5⟩:=zg HB18.out.blk
       go_wp2_with fail
       obtain⟨hbk,G,_⟩:=HBX.out.fin (.int .i64 0) (.int .i64 0) (.int .i64 0) (.int .i64 0) (.slice none 0 0) (.slice none 0 0) rfl
       obtain⟨k0,k1,k2,k3,k4,k5⟩:=qC hbk
       have hr:=HR2.out
       rw[if_neg (λh=>h.elim (λh=>h H197.out) (λh=>h HQ1.out)),if_neg (λh=>h (HGE.out.1.trans HG1.out)),HGE.out.2,if_neg (by rw[HMF.out];simp)] at hr
       rw[hr]
       exact bodyPost_ret (v:= .tuple #[frV fr0 (.slice none 0 0) (.slice none 0 0),.int .i64 3]) (by simp[results,Tryz.results65,go_sem,frV,fr0,k0,k1,k2,k3,k4,k5]) rfl (PDecF.err _ _ _ G)
     ·have gq:(g != 0)=true:=by simpa using hg0
      have gq2:(g==0)=false:=by simpa using hg0
      have HG1:=qQ hg0
      have HBX:=qQ H17.out.2
      clear hg0
      obtain⟨c0,c1,c2,c3,c4,c5⟩:=qC HB16.out.blk
      obtain⟨f0,f1,f2,f3,f4,f5⟩:=zg HB16.out.blk
      have hne1:¬(b=w.heap.size):=by have:=HBR.out.2;omega
      have hne2:¬(w.heap.size=b):=by have:=HBR.out.2;omega
      go_wp2_with fail
      obtain⟨hbk,G,_⟩:=HBX.out.fin (.int .i64 0) (.int .i64 0) (.int .i64 0) (.int .i64 0) (.slice none 0 0) (.slice none 0 0) rfl
      obtain⟨k0,k1,k2,k3,k4,k5⟩:=qC hbk
      have hr:=HR2.out
      rw[if_neg (λh=>h.elim (λh=>h H197.out) (λh=>h HQ1.out)),HGE.out.1,if_pos HG1.out] at hr
      rw[hr]
      exact bodyPost_ret (v:= .tuple #[frV fr0 (.slice none 0 0) (.slice none 0 0),.int .i64 g]) (by simp[results,Tryz.results65,go_sem,frV,fr0,k0,k1,k2,k3,k4,k5]) rfl (PDecF.err _ _ _ G)
    ·have gq:(q != 0)=true:=by simpa using hq
     have HQ1:=qQ hq
     have HBX:=HB15
     clear hq
     obtain⟨c0,c1,c2,c3,c4,c5⟩:=qC HB15.out.blk
     obtain⟨f0,f1,f2,f3,f4,f5⟩:=zg HB15.out.blk
     go_wp2_with fail
     obtain⟨hbk,G,_⟩:=HBX.out.fin (.int .i64 0) (.int .i64 0) (.int .i64 0) (.int .i64 0) (.slice none 0 0) (.slice none 0 0) rfl
     obtain⟨k0,k1,k2,k3,k4,k5⟩:=qC hbk
     have hr:=HR2.out
     rw[if_pos (.inr HQ1.out)] at hr
     rw[hr]
     exact bodyPost_ret (v:= .tuple #[frV fr0 (.slice none 0 0) (.slice none 0 0),.int .i64 3]) (by simp[results,Tryz.results65,go_sem,frV,fr0,k0,k1,k2,k3,k4,k5]) rfl (PDecF.err _ _ _ G)
   ·have g197:(x0 != 197)=true:=by simpa using h197
    have H197:=qQ h197
    have HBX:=qQ H14.out.2.1
    clear h197
    obtain⟨c0,c1,c2,c3,c4,c5⟩:=qC HB13.out.blk
    obtain⟨f0,f1,f2,f3,f4,f5⟩:=zg HB13.out.blk
    have hne1:¬(b=w.heap.size):=by have:=HBR.out.2;omega
    have hne2:¬(w.heap.size=b):=by have:=HBR.out.2;omega
    go_wp2_with fail
    obtain⟨hbk,G,_⟩:=HBX.out.fin (.int .i64 0) (.int .i64 0) (.int .i64 0) (.int .i64 0) (.slice none 0 0) (.slice none 0 0) rfl
    obtain⟨k0,k1,k2,k3,k4,k5⟩:=qC hbk
    have hr:=HR2.out
    rw[if_pos (.inl H197.out)] at hr
    rw[hr]
    exact bodyPost_ret (v:= .tuple #[frV fr0 (.slice none 0 0) (.slice none 0 0),.int .i64 3]) (by simp[results,Tryz.results65,go_sem,frV,fr0,k0,k1,k2,k3,k4,k5]) rfl (PDecF.err _ _ _ G)
  ·have hg:jj L=false:=by simpa using hg
   have HGF:=qQ hg
   clear hg
   go_enter Tryz.func65,Tryz.ntmps65
   have hB0:BAt w (w.alloc (.cells #[.int .i64 0,.int .i64 0,.int .i64 0,.int .i64 0,.slice none 0 0,.slice none 0 0] 71)):=⟨qV _ _,Chg.alloc _ _ _⟩
   have HB0:=qQ hB0
   clear hB0
   go_wp2_with fail
   (with_reducible refine (HG.out _ HB0.out.chg).mono ?_)
   rintro en w2 ⟨rfl,G2⟩
   rw[HGF.out]
   have HB2:=qQ (HB0.out.kept G2)
   clear G2 HB0
   obtain⟨c0,c1,c2,c3,c4,c5⟩:=qC HB2.out.blk
   obtain⟨f0,f1,f2,f3,f4,f5⟩:=zg HB2.out.blk
   go_wp2_with fail
   obtain⟨hbk,G,_⟩:=HB2.out.fin (.int .i64 0) (.int .i64 0) (.int .i64 0) (.int .i64 0) (.slice none 0 0) (.slice none 0 0) rfl
   obtain⟨k0,k1,k2,k3,k4,k5⟩:=qC hbk
   have hr:=HR.out
   unfold decF at hr
   rw[if_neg (by rw[←HN.out];have:=H9.out;omega),if_pos (by rw[HGF.out];rfl)] at hr
   rw[hr]
   exact bodyPost_ret (v:= .tuple #[frV fr0 (.slice none 0 0) (.slice none 0 0),.int .i64 4]) (by simp[results,Tryz.results65,go_sem,frV,fr0,k0,k1,k2,k3,k4,k5]) rfl (PDecF.err _ _ _ G)
end Go.Proofs.YtnpihllannobgaaGreatDoor
