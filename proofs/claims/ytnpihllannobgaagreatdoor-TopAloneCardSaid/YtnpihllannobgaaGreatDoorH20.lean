/- Steps of the proof, part H20. No condition. -/
import Derived.Test.YtnpihllannobgaaGreatDoorH18
namespace Go.Proofs.YtnpihllannobgaaGreatDoor
set_option linter.unusedVariables false
set_option linter.unusedSimpArgs false
set_option maxRecDepth 100000
set_option maxHeartbeats 32000000
theorem rTake_app(m:Nat)(x:Int)(R:List Int)(hx:num (be m x)=x):qk ⟨be m x++R,0⟩ m=x:=by
 have hl:=qq m x
 unfold qk
 rw[if_pos ⟨rfl,by simp[hl]⟩]
 simp only[]
 rw[List.take_append_of_le_length (by omega),List.take_of_length_le (by omega)]
 exact hx
theorem rTakeS_app(m:Nat)(x:Int)(R:List Int):qN ⟨be m x++R,0⟩ m=⟨R,0⟩:=by
 have hl:=qq m x
 unfold qN
 rw[if_pos rfl,if_pos (by simp[hl])]
 simp only[]
 rw[List.drop_append_of_le_length (by omega),List.drop_of_length_le (by omega)]
 rfl
theorem zz(x:Int)(R:List Int):qk ⟨x::R,0⟩ 1=x:=by
 unfold qk
 rw[if_pos ⟨rfl,by simp⟩]
 simp[num]
theorem zf(x:Int)(R:List Int):qN ⟨x::R,0⟩ 1=⟨R,0⟩:=by
 unfold qN
 rw[if_pos rfl,if_pos (by simp)]
 rfl
theorem rText_app(T R:List Int)(n:Int)(h:n=T.length):jY ⟨T++R,0⟩ n=T:=by
 subst h
 unfold jY
 rw[if_pos ⟨rfl,by simp;omega⟩]
 simp
theorem rTextS_app(T R:List Int)(n:Int)(h:n=T.length):zP ⟨T++R,0⟩ n=⟨R,0⟩:=by
 subst h
 unfold zP
 by_cases h:(T.length:Int)≤0
 ·rw[if_pos h]
  have:T=[]:=List.eq_nil_of_length_eq_zero (by omega)
  subst this;rfl
 ·rw[if_neg h,if_pos rfl,if_pos (by simp;omega)]
  simp
theorem jk(R:List Int):zd ⟨R,0⟩=false:=by
 unfold zd rEnd
 rw[if_pos rfl]
 split <;> rfl
theorem be1(x:Int)(h0:0≤x)(h1:x<256):be 1 x=[x]:=by
 simp only[be]
 rw[Int.pow_zero,Int.ediv_one,Int.emod_eq_of_lt h0 h1]
theorem num_be5(x:Int)(h0:0≤x)(h1:x<1099511627776):num (be 5 x)=x:=by
 simp only[be,num,List.foldl]
 have e4:(256:Int)^4=4294967296:=rfl
 have e3:(256:Int)^3=16777216:=rfl
 have e2:(256:Int)^2=65536:=rfl
 have e1:(256:Int)^1=256:=rfl
 have e0:(256:Int)^0=1:=rfl
 rw[e4,e3,e2,e1,e0]
 omega
theorem num_be2(x:Int)(h0: -32768≤x)(h1:x≤32767):i16 (num (be 2 (IntKind.u64.wrap x)))=x:=by
 have hw:IntKind.u64.wrap x=x % 18446744073709551616:=rfl
 rw[hw]
 simp only[be,num,List.foldl,i16]
 split <;> omega
theorem oneE_enc(e:El)(h:mayE e=true)(R:List Int):oneE ⟨encE e++R,0⟩=(0,e,⟨R,0⟩):=by
 unfold mayE at h
 simp only[Bool.and_eq_true,decide_eq_true_eq] at h
 obtain⟨h1,h2,h3⟩:=h
 have hk:=h1
 simp only[ofE,inR,Bool.and_eq_true,decide_eq_true_eq] at hk
 unfold oneE encE
 rw[List.cons_append]
 simp only[zz,zf,jk,h1,Bool.not_true,Bool.false_eq_true,if_false]
 unfold zW at h2
 unfold plainE at h3
 unfold bodyE
 by_cases k1:e.kind=1
 ·rw[if_pos k1] at h2 h3
  simp only[Bool.and_eq_true,decide_eq_true_eq,inR] at h2
  obtain⟨⟨a0,a1⟩,b0,b1⟩:=h2
  rw[if_pos k1,k1]
  simp only[List.cons_append,zz,zf,jk,Bool.false_eq_true,if_false]
  have e1:jq 1 6=true:=rfl
  rw[e1]
  simp only[Bool.not_true,Bool.false_eq_true,if_false,jL,kK,if_true]
  rw[List.append_assoc,rTakeS_app,rTake_app 5 _ _ (num_be5 _ a0 (by omega)),be1 _ b0 (by omega)]
  simp only[List.cons_append,zz,zf,jk,Bool.false_eq_true,if_false,List.nil_append]
  rw[←h3]
 ·rw[if_neg k1] at h2 h3
  rw[if_neg k1]
  by_cases k2:e.kind=2
  ·rw[if_pos k2] at h2 h3
   simp only[Bool.and_eq_true,decide_eq_true_eq,inR] at h2
   obtain⟨a0,a1⟩:=h2
   rw[if_pos k2,k2]
   simp only[List.cons_append,zz,zf,jk,Bool.false_eq_true,if_false]
   have e1:jq 2 2=true:=rfl
   rw[e1]
   have t:qk ⟨be 2 (IntKind.u64.wrap e.ticks)++R,0⟩ 2=num (be 2 (IntKind.u64.wrap e.ticks)):=by
    unfold qk
    rw[if_pos ⟨rfl,by simp[qq]⟩]
    simp only[]
    rw[List.take_append_of_le_length (by simp[qq]),List.take_of_length_le (by simp[qq])]
   simp only[Bool.not_true,Bool.false_eq_true,if_false,jL,kK,if_true]
   have n21:¬(2:Int)=1:=by decide
   rw[if_neg n21,if_neg n21,rTakeS_app,t,num_be2 _ a0 a1,if_neg (by rw[jk];simp)]
   rw[←h3]
  ·rw[if_neg k2] at h2 h3
   rw[if_neg k2]
   simp only[Bool.and_eq_true,decide_eq_true_eq] at h2
   simp only[List.cons_append,zz,zf,jk,Bool.false_eq_true,if_false]
   have e1:jq e.kind (e.list.length:Int)=true:=by
    unfold jq
    rw[if_neg k1,if_neg k2]
    simp;omega
   rw[e1]
   simp only[Bool.not_true,Bool.false_eq_true,if_false,jL,kK,if_neg k1,if_neg k2]
   rw[rTextS_app _ _ _ rfl,rText_app _ _ _ rfl]
   simp only[jk,Bool.false_eq_true,if_false]
   rw[←h3]
theorem loopE_enc(l acc:List El)(h:∀e∈l,mayE e=true)(R:List Int):loopE l.length acc ⟨l.flatMap encE++R,0⟩=(0,acc++l,⟨R,0⟩):=by
 induction l generalizing acc with
 |nil=>simp[loopE]
 |cons e l ih=>
  rw[List.length_cons,List.flatMap_cons,List.append_assoc]
  unfold loopE
  rw[oneE_enc e (h e (by simp))]
  simp only[if_true]
  rw[ih (acc++[e]) (λx hx=>h x (by simp[hx]))]
  simp
theorem decI_enc(l:List El)(h:∀e∈l,mayE e=true)(hl:l.length≤4):decI (encI l)=(0,l):=by
 unfold decI encI
 simp only[zz,zf,jk,Bool.false_eq_true,if_false]
 rw[if_neg (by omega)]
 have:=loopE_enc l [] h []
 rw[List.append_nil] at this
 rw[Int.toNat_natCast,this]
 simp[rEnd]
theorem decF_enc(f:Fr)(h:mayF f=true):decF (encF f)=(0,f):=by
 obtain⟨m1,m2,m3,m4,m5,m6,m7,m8,m9,ma,mb⟩:=vN h
 have hi:(encI f.ies).length≤18*f.ies.length+1:=by
  have:=encI_len m2
  unfold encI
  simp only[List.length_cons]
  omega
 have hb:8≤(bodyF f).length:=by
  unfold bodyF headF
  simp only[List.length_append,qq]
  unfold encI
  simp only[List.length_cons]
  omega
 have hl:(encF f).length=(bodyF f).length+2:=by unfold encF jJ;simp
 have ht:(encF f).take ((encF f).length-2)=bodyF f:=by
  rw[hl];unfold encF;simp
 have hg:jV (encF f)=true:=by
  unfold jV
  rw[ht]
  simp only[Bool.and_eq_true,decide_eq_true_eq]
  exact⟨by omega,rfl⟩
 have hr:readF ⟨bodyF f,0⟩=(197,⟨f.kind,f.src,f.dst,f.seq,[],f.data⟩,encI f.ies,⟨[],0⟩):=by
  unfold readF bodyF headF
  simp only[List.append_assoc]
  rw[be1 197 (by decide) (by decide),be1 f.kind (by omega) (by omega),be1 f.src (by omega) (by omega),be1 f.dst (by omega) (by omega),be1 f.seq (by omega) (by omega),be1 ((encI f.ies).length:Int) (by omega) (by omega),be1 (f.data.length:Int) (by omega) (by omega)]
  simp only[List.cons_append,List.nil_append,zz,zf]
  rw[rText_app _ _ _ rfl,rTextS_app _ _ _ rfl]
  simp only[zz,zf]
  have e1:=rText_app f.data [] f.data.length rfl
  have e2:=rTextS_app f.data [] f.data.length rfl
  rw[List.append_nil] at e1 e2
  rw[e1,e2]
 unfold decF
 rw[if_neg (by omega),hg,ht,hr]
 simp only[Bool.not_true,Bool.false_eq_true,if_false]
 rw[if_neg (by simp[rEnd]),decI_enc f.ies m2 m1]
 simp only[ne_eq,not_true_eq_false,if_false]
 rw[if_pos h]
theorem encF_byte(f:Fr)(h:mayF f=true)(hd:∀x∈f.data,0≤x∧x<256):∀x∈encF f,0≤x∧x<256:=by
 obtain⟨m1,m2,_⟩:=vN h
 have hi:=encI_byte m1 m2
 have hs:=crcSum_bd (bodyF f)
 have hb:∀x∈bodyF f,0≤x∧x<256:=by
  intro x hx
  unfold bodyF headF at hx
  simp only[List.mem_append] at hx
  rcases hx with ((((((((hx|hx)|hx)|hx)|hx)|hx)|hx)|hx)|hx)
  ·exact zK _ _ x hx
  ·exact zK _ _ x hx
  ·exact zK _ _ x hx
  ·exact zK _ _ x hx
  ·exact zK _ _ x hx
  ·exact zK _ _ x hx
  ·exact hi x hx
  ·exact zK _ _ x hx
  ·exact hd x hx
 intro x hx
 unfold encF jJ at hx
 rw[List.mem_append] at hx
 rcases hx with hx|hx
 ·exact hb x hx
 ·simp at hx
  rcases hx with rfl|rfl <;> omega
end Go.Proofs.YtnpihllannobgaaGreatDoor
