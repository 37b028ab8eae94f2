/- Steps of the proof, part G37. No condition. -/
import Derived.Test.YtnpihllannobgaaGreatDoorG36
import Derived.Test.YtnpihllannobgaaGreatDoorG24
import Derived.BigRegion
namespace Go.Proofs.YtnpihllannobgaaGreatDoor
set_option linter.unusedVariables false
set_option linter.unusedSimpArgs false
set_option maxRecDepth 100000
set_option maxHeartbeats 32000000
def vU(f w k:Nat):Nat:=f-k*w
def mU(f w:Nat):Nat:=(f+w-1) / w
def jY(f w k:Nat):List Int:=(List.range (k+1)).map (λj=>(vU f w j:Int))
def pU(f w:Nat)(N u:Int)(k:Nat):Pk:=⟨f,0,N,15-(k:Int),jY f w k,[u]⟩
def tabU(f w:Nat):Bool:=
 decide (1≤mU f w)&&decide (mU f w≤7)&&decide (vU f w (mU f w)=0)&&
 (List.range (mU f w+1)).all (λj=>decide (vU f w j≤f)&&(List.range (mU f w+1)).all (λk=>(vU f w j != vU f w k)||(j==k)))&&
 (List.range (mU f w)).all (λk=>jQ (jY f w k)&& !(jY f w k).contains 0&&(decide (k+1=mU f w)|| !(jY f w k).contains (vU f w (k+1):Int))&&decide (1≤vU f w k)&&zG w (vU f w k) (vU f w (k+1))&&decide (vU f w (k+1)=vU f w k-w))
theorem tabU_all:(List.range 7).all (λa=>(List.range 3).all (λb=>tabU (a+1) (b+1)))=true:=by decide+kernel
structure TabU(f w:Nat):Prop where
 m1:1≤mU f w
 m7:mU f w≤7
 z:vU f w (mU f w)=0
 le:∀j,j≤mU f w→vU f w j≤f
 inj:∀j k,j≤mU f w→k≤mU f w→vU f w j=vU f w k→j=k
 po:∀k,k<mU f w→jQ (jY f w k)=true
 no0:∀k,k<mU f w→(jY f w k).contains 0=false
 non:∀k,k+1<mU f w→(jY f w k).contains (vU f w (k+1):Int)=false
 pos:∀k,k<mU f w→1≤vU f w k
 near:∀k,k<mU f w→zG w (vU f w k) (vU f w (k+1))=true
 nxt:∀k,k<mU f w→vU f w (k+1)=vU f w k-w
theorem vT{f w:Nat}(hf:1≤f∧f≤7)(hw:1≤w∧w≤3):TabU f w:=by
 have h:=tabU_all
 rw[List.all_eq_true] at h
 have h1:=h (f-1) (by rw[List.mem_range];omega)
 rw[List.all_eq_true] at h1
 have h2:=h1 (w-1) (by rw[List.mem_range];omega)
 rw[show f-1+1=f from by omega,show w-1+1=w from by omega] at h2
 unfold tabU at h2
 simp only[Bool.and_eq_true,decide_eq_true_eq,List.all_eq_true,List.mem_range,Bool.or_eq_true,bne_iff_ne,ne_eq,beq_iff_eq,Bool.not_eq_true'] at h2
 obtain⟨⟨⟨⟨h3,h4⟩,h5⟩,h6⟩,h7⟩:=h2
 refine⟨h3,h4,h5,λj hj=>(h6 j (by omega)).1,λj k hj hk e=>?_,λk hk=>(h7 k hk).1.1.1.1.1,λk hk=>(h7 k hk).1.1.1.1.2,λk hk=>?_,λk hk=>(h7 k hk).1.1.2,λk hk=>(h7 k hk).1.2,λk hk=>(h7 k hk).2⟩
 ·rcases (h6 j (by omega)).2 k (by omega) with h|h
  ·exact absurd e h
  ·exact h
 ·rcases (h7 k (by omega)).1.1.1.2 with h|h
  ·omega
  ·exact h
theorem pathU_head(f w k:Nat):∃l,jY f w k=(f:Int)::l:=by
 unfold jY
 rw[List.range_succ_eq_map,List.map_cons]
 rw[show vU f w 0=f from by unfold vU;simp]
 exact⟨_,rfl⟩
theorem pathU_succ(f w k:Nat):jY f w (k+1)=jY f w k++[(vU f w (k+1):Int)]:=by
 unfold jY
 rw[List.range_succ (n:=k+1),List.map_append];rfl
theorem pathU_len(f w k:Nat):(jY f w k).length=k+1:=by unfold jY;simp
theorem pathU_mem{f w k:Nat}{z:Int}(h:z∈jY f w k):∃j,j≤k∧z=(vU f w j:Int):=by
 unfold jY at h
 rw[List.mem_map] at h
 obtain⟨j,hj,e⟩:=h
 rw[List.mem_range] at hj
 exact⟨j,by omega,e.symm⟩
def qx:Seen:=λ_=>none
def jb:Int→Option (List Int):=λ_=>none
def E_U(f w:Nat)(N u:Int)(k:Nat):DT:=
 if k=0 then ([(64,encP (pU f w N u 0))],qx,qx,qx,jb,N)
 else if k<mU f w then ([(64,encP (pU f w N u k))],upd qx f (N,1),qx,qx,jb,-1)
 else ([],qx,qx,upd qx f (N,1),(λz=>if z=(f:Int) then some (0::(jY f w (mU f w-1)).reverse) else none),-1)
def gotU(f w:Nat)(N u:Int):Ev:=⟨4,0,0,0,pU f w N u (mU f w-1)⟩
section
variable {n w f:Nat}{N u:Int}
theorem mayU(hf:1≤f∧f≤7)(hw:1≤w∧w≤3)(hN:0≤N∧N≤200000){k:Nat}(hk:k<mU f w):mayP (pU f w N u k)=true:=by
 have hT:=vT hf hw
 have m7:=hT.m7
 have h1:=hT.po k hk
 have a1:qt (f:Int)=true:=by unfold qt inR;simp;omega
 have a2:qt 0=true:=by decide
 have a3:((f:Int) != 0)=true:=by simp;omega
 have a4:inR N 0 70368744177663=true:=by unfold inR;simp;omega
 have a5:inR (15-(k:Int)) 0 15=true:=by unfold inR;simp;omega
 have a6:inR (([u]:List Int).length:Int) 1 24=true:=by simp[inR]
 unfold mayP pU
 dsimp only
 rw[a1,a2,a3,a4,a5,h1,a6];rfl
theorem knownU(hf:f<n)(hw:1≤w∧w≤3)(k:Nat):knownB (cT n w) (pU f w N u k)=true:=by
 have hb:∀j:Nat,j<n→hasB (cT n w) (j:Int)=true:=λj hj=>by
  unfold hasB inR
  show (decide ((0:Int)≤j)&&decide ((j:Int)≤(n:Int)-1))=true
  simp;omega
 unfold knownB pU
 dsimp only
 have h1:((jY f w k).any (λz=>!hasB (cT n w) z))=false:=by
  rw[List.any_eq_false]
  intro z hz
  obtain⟨j,_,e⟩:=pathU_mem hz
  rw[e,hb (vU f w j) (by unfold vU;omega)];simp
 rw[hb f hf,h1,show (0:Int)=((0:Nat):Int) from rfl,hb 0 (by omega)];rfl
theorem new_none(hf:f≤7)(hN:0≤N):isnew qx f N=true∧kF qx f N=upd qx f (N,1):=by
 have h:may (f:Int) N=true:=by unfold may;exact decide_eq_true ⟨by omega,by omega,hN⟩
 unfold isnew kF
 rw[h]
 exact⟨rfl,rfl⟩
theorem stepU(hf:1≤f∧f≤7)(hw:1≤w∧w≤3)(hN:0≤N∧N≤200000){k:Nat}(hk:k+1<mU f w):upP (pU f w N u k) (vU f w (k+1):Int)=(0,pU f w N u (k+1)):=by
 have hT:=vT hf hw
 have m7:=hT.m7
 have hm:=mayU (u:=u) hf hw hN (k:=k) (by omega)
 have hle:=hT.le (k+1) (by omega)
 have a1:qt (vU f w (k+1):Int)=true:=by unfold qt inR;simp;omega
 have hs:stepP (pU f w N u k) (vU f w (k+1):Int)=(0,{pU f w N u k with life:=15-(k:Int)-1}):=by
  unfold stepP
  rw[hm,a1]
  simp only[Bool.and_self,Bool.not_true,Bool.false_eq_true,if_false]
  rw[if_neg (by show¬(15-(k:Int)=0);omega)];rfl
 unfold upP
 rw[hs]
 dsimp only
 rw[if_neg (by simp),if_neg (by show¬(jY f w k).contains (vU f w (k+1):Int)=true;rw[hT.non k hk];simp),if_neg (by show¬16≤(jY f w k).length;rw[pathU_len];omega)]
 show (0,(⟨f,0,N,15-(k:Int)-1,jY f w k++[(vU f w (k+1):Int)],[u]⟩:Pk))=_
 unfold pU
 rw[pathU_succ]
 have:(15:Int)-(k:Int)-1=15-((k+1:Nat):Int):=by push_cast;omega
 rw[this]
theorem dt_all{s:NSt}{q:List (Int×List Int)}{a b c:Seen}{p:Int→Option (List Int)}{l:Int}(h:dtOf s=(q,a,b,c,p,l)):s.q=q∧s.up=a∧s.down=b∧s.got=c∧s.paths=p∧s.last=l:=by
 unfold dtOf at h
 simpa [Prod.mk.injEq] using h
theorem hopU(hn:n≤8)(hf:1≤f∧f<n)(hw:1≤w∧w≤3)(hN:0≤N∧N≤200000){k:Nat}(hk:k<mU f w)(s1:NSt)(h1:dtOf s1=dtOf (newN (vU f w (k+1))))(h2:evK s1.ev=[]):
  dtOf (zm (cT n w) (vU f w (k+1)) s1 (encP (pU f w N u k)))=E_U f w N u (k+1)∧evK (zm (cT n w) (vU f w (k+1)) s1 (encP (pU f w N u k))).ev=if k+1<mU f w then [] else [gotU f w N u]:=by
 have hf7:1≤f∧f≤7:=by omega
 have hT:=vT hf7 hw
 have m7:=hT.m7
 have hm:=mayU (u:=u) hf7 hw hN hk
 have hkn:=knownU (N:=N) (u:=u) hf.2 hw k
 obtain⟨w1,w2⟩:=new_none (f:=f) (N:=N) (by omega) hN.1
 obtain⟨q1,q2,q3,q4,q5,q6⟩:=dt_all (show dtOf s1=([],qx,qx,qx,jb,-1) from h1)
 obtain⟨l,hl⟩:=pathU_head f w k
 unfold zm
 rw[decP_enc _ hm]
 dsimp only
 rw[if_neg (by simp),hkn,if_pos rfl]
 by_cases hlast:k+1<mU f w
 ·have hD:=hT.pos (k+1) hlast
  have hdst:¬(pU f w N u k).dst=((vU f w (k+1):Nat):Int):=by show¬(0:Int)=_;omega
  have hdn:downB (vU f w (k+1)) (pU f w N u k)=false:=by
   unfold downB
   have:(pU f w N u k).path=(f:Int)::l:=hl
   rw[this]
   have:((f:Int)==0)=false:=by simp;omega
   dsimp only
   rw[this,Bool.and_false]
  have hway:wayS (vU f w (k+1)) s1 (pU f w N u k)=qx:=by unfold wayS;rw[if_neg hdst,hdn,if_neg (by decide),q2]
  have hset:∀g,zS (vU f w (k+1)) s1 (pU f w N u k) g=upS s1 g:=λg=>by unfold zS;rw[if_neg hdst,hdn,if_neg (by decide)]
  unfold kY
  rw[hway,show (pU f w N u k).src=(f:Int) from rfl,show (pU f w N u k).n=N from rfl,w1,w2,if_pos rfl,hset]
  unfold jX
  rw[if_neg hdst,hdn,if_neg (by decide),if_neg (by omega)]
  unfold kB
  rw[stepU hf7 hw hN hlast]
  dsimp only
  rw[if_neg (by simp)]
  unfold putN
  have hm2:=mayU (u:=u) hf7 hw hN hlast
  rw[if_pos ⟨hm2,by show ((s1.q.length:Nat):Int)<6;rw[q1];decide⟩]
  refine⟨?_,by rw[if_pos hlast];exact h2⟩
  unfold E_U
  rw[if_neg (by omega),if_pos hlast]
  show (s1.q++_,upd qx f (N,1),s1.down,s1.got,s1.paths,s1.last)=_
  rw[q1,q3,q4,q5,q6];rfl
 ·have hkm:k+1=mU f w:=by omega
  have hD:vU f w (k+1)=0:=by rw[hkm];exact hT.z
  rw[hD]
  have hdst:(pU f w N u k).dst=((0:Nat):Int):=rfl
  have hway:wayS 0 s1 (pU f w N u k)=qx:=by unfold wayS;rw[if_pos hdst,q4]
  have hset:∀g,zS 0 s1 (pU f w N u k) g=gotS s1 g:=λg=>by unfold zS;rw[if_pos hdst]
  unfold kY
  rw[hway,show (pU f w N u k).src=(f:Int) from rfl,show (pU f w N u k).n=N from rfl,w1,w2,if_pos rfl,hset]
  unfold jX
  rw[if_pos hdst]
  have hlb:kC 0 (pU f w N u k)=true:=by
   unfold kC
   have e1:(pU f w N u k).path=jY f w k:=rfl
   rw[e1,hT.no0 k hk,pathU_len]
   rw[hl]
   show (decide (0=0)&&((f:Int)==(f:Int))&& !false&&decide (k+1<16))=true
   simp;omega
  unfold jF
  rw[if_pos hlb]
  refine⟨?_,?_⟩
  ·unfold E_U
   rw[if_neg (by omega),if_neg hlast]
   show (s1.q,s1.up,s1.down,upd qx f (N,1),(λz=>if z=(f:Int) then some (0::(jY f w k).reverse) else s1.paths z),s1.last)=_
   rw[q1,q2,q3,q5,q6,show mU f w-1=k from by omega];rfl
  ·rw[if_neg hlast]
   show evK (s1.ev++[_])=_
   rw[jg,h2]
   unfold gotU
   rw[show mU f w-1=k from by omega];rfl
theorem tripU(hn:2≤n∧n≤8)(hf:1≤f∧f<n)(hw:1≤w∧w≤3)(hN:0≤N∧N≤200000):
  Trip n w (mU f w) (vU f w) (λ_=>64) (λk=>encP (pU f w N u k)) (λi=>dtOf (newN i)) (E_U f w N u) (gotU f w N u):=by
 have hf7:1≤f∧f≤7:=by omega
 have hT:=vT hf7 hw
 have m7:=hT.m7
 refine⟨hT.m1,λk hk=>by have:=hT.le k hk;omega,hT.inj,hT.near,λk hk=> .inr ⟨rfl,by have:=hT.pos k hk;omega,hT.nxt k hk⟩,λk hk=>?_,λi hi=>⟨rfl,λz L hL=>by cases hL⟩,λk hk=>?_,λk hk s1 h1 h2=>hopU hn.2 hf hw hN hk s1 h1 h2⟩
 ·have hm:=mayU (u:=u) hf7 hw hN hk
  have:=encP_len hm
  refine⟨?_,by omega⟩
  unfold encP
  simp[be]
 ·unfold E_U
  by_cases h0:k=0
  ·subst h0
   rw[if_pos rfl,if_pos (by have:=hT.m1;omega)]
   exact⟨rfl,λz L hL=>by cases hL⟩
  ·rw[if_neg h0]
   by_cases hkm:k<mU f w
   ·rw[if_pos hkm,if_pos hkm]
    exact⟨rfl,λz L hL=>by cases hL⟩
   ·rw[if_neg hkm,if_neg hkm]
    refine⟨rfl,λz L hL=>?_⟩
    have hL:(if z=(f:Int) then some (0::(jY f w (mU f w-1)).reverse) else none)=some L:=hL
    split at hL
    ·cases hL
     rw[List.length_cons,List.length_reverse,pathU_len];omega
    ·cases hL
end
def PL(f w:Nat):List Int:=0::(jY f w (mU f w-1)).reverse
def uD(f w k:Nat):Nat:=vU f w (mU f w-k)
def pD(f w:Nat)(N u:Int)(k:Nat):Pk:=⟨0,f,N,15-(k:Int),PL f w,[u]⟩
def ttD(f w k:Nat):Int:=(uD f w (k+1):Int)
def tabD(f w:Nat):Bool:=
 jQ (PL f w)&&decide ((PL f w).length=mU f w+1)&&
 (List.range (mU f w+1)).all (λk=>((PL f w).getD k 0==(uD f w k:Int))&&(jJ (PL f w) (uD f w k:Int)==(k:Int)))
theorem tabD_all:(List.range 7).all (λa=>(List.range 3).all (λb=>tabD (a+1) (b+1)))=true:=by decide+kernel
structure TabD(f w:Nat):Prop where
 po:jQ (PL f w)=true
 len:(PL f w).length=mU f w+1
 get:∀k,k≤mU f w→(PL f w).getD k 0=(uD f w k:Int)
 idx:∀k,k≤mU f w→jJ (PL f w) (uD f w k:Int)=(k:Int)
theorem tabD_of{f w:Nat}(hf:1≤f∧f≤7)(hw:1≤w∧w≤3):TabD f w:=by
 have h:=tabD_all
 rw[List.all_eq_true] at h
 have h1:=h (f-1) (by rw[List.mem_range];omega)
 rw[List.all_eq_true] at h1
 have h2:=h1 (w-1) (by rw[List.mem_range];omega)
 rw[show f-1+1=f from by omega,show w-1+1=w from by omega] at h2
 unfold tabD at h2
 simp only[Bool.and_eq_true,decide_eq_true_eq,List.all_eq_true,List.mem_range,beq_iff_eq] at h2
 obtain⟨⟨h3,h4⟩,h5⟩:=h2
 exact⟨h3,h4,λk hk=>(h5 k (by omega)).1,λk hk=>(h5 k (by omega)).2⟩
def upU(f:Nat)(N:Int):Seen:=upd qx f (N,1)
def pathsU(f w:Nat):Int→Option (List Int):=λz=>if z=(f:Int) then some (PL f w) else none
def E_D(f w:Nat)(N N2 u:Int)(k:Nat):DT:=
 if k=0 then ([(ttD f w 0,encP (pD f w N2 u 0))],qx,qx,upU f N,pathsU f w,N2)
 else if k<mU f w then ([(ttD f w k,encP (pD f w N2 u k))],upU f N,upd qx 0 (N2,1),qx,jb,-1)
 else ([],qx,qx,upd qx 0 (N2,1),jb,N)
def gotD(f w:Nat)(N u:Int):Ev:=⟨4,f,0,0,pD f w N u (mU f w-1)⟩
section
variable {n w f:Nat}{N N2 u u1:Int}
theorem mayD(hf:1≤f∧f≤7)(hw:1≤w∧w≤3)(hN:0≤N∧N≤200000){k:Nat}(hk:k<mU f w):mayP (pD f w N u k)=true:=by
 have hT:=vT hf hw
 have m7:=hT.m7
 have h1:=(tabD_of hf hw).po
 have a1:qt (f:Int)=true:=by unfold qt inR;simp;omega
 have a2:qt 0=true:=by decide
 have a3:((0:Int) != (f:Int))=true:=by simp;omega
 have a4:inR N 0 70368744177663=true:=by unfold inR;simp;omega
 have a5:inR (15-(k:Int)) 0 15=true:=by unfold inR;simp;omega
 have a6:inR (([u]:List Int).length:Int) 1 24=true:=by simp[inR]
 unfold mayP pD
 dsimp only
 rw[a1,a2,a3,a4,a5,h1,a6];rfl
theorem knownD(hf:f<n)(hw:1≤w∧w≤3)(k:Nat):knownB (cT n w) (pD f w N u k)=true:=by
 have hb:∀j:Nat,j<n→hasB (cT n w) (j:Int)=true:=λj hj=>by
  unfold hasB inR
  show (decide ((0:Int)≤j)&&decide ((j:Int)≤(n:Int)-1))=true
  simp;omega
 unfold knownB pD
 dsimp only
 have h1:((PL f w).any (λz=>!hasB (cT n w) z))=false:=by
  rw[List.any_eq_false]
  intro z hz
  unfold PL at hz
  rw[List.mem_cons,List.mem_reverse] at hz
  rcases hz with e|hz
  ·rw[e,show (0:Int)=((0:Nat):Int) from rfl,hb 0 (by omega)];simp
  ·obtain⟨j,_,e⟩:=pathU_mem hz
   rw[e,hb (vU f w j) (by unfold vU;omega)];simp
 rw[hb f hf,h1,show (0:Int)=((0:Nat):Int) from rfl,hb 0 (by omega)];rfl
theorem new_none0(hN:0≤N):isnew qx 0 N=true∧kF qx 0 N=upd qx 0 (N,1):=by
 have h:may 0 N=true:=by unfold may;exact decide_eq_true ⟨by omega,by omega,hN⟩
 unfold isnew kF
 rw[h]
 exact⟨rfl,rfl⟩
theorem stepD(hf:1≤f∧f≤7)(hw:1≤w∧w≤3)(hN:0≤N∧N≤200000){k:Nat}(hk:k+1<mU f w):downP (pD f w N u k) (uD f w (k+1):Int)=(0,ttD f w (k+1),pD f w N u (k+1)):=by
 have hT:=vT hf hw
 have hD:=tabD_of hf hw
 have m7:=hT.m7
 have hm:=mayD (u:=u) hf hw hN (k:=k) (by omega)
 have hle:=hT.le (mU f w-(k+1)) (by omega)
 have a1:qt (uD f w (k+1):Int)=true:=by unfold qt inR uD;simp;omega
 have hs:stepP (pD f w N u k) (uD f w (k+1):Int)=(0,{pD f w N u k with life:=15-(k:Int)-1}):=by
  unfold stepP
  rw[hm,a1]
  simp only[Bool.and_self,Bool.not_true,Bool.false_eq_true,if_false]
  rw[if_neg (by show¬(15-(k:Int)=0);omega)];rfl
 have hi:=hD.idx (k+1) (by omega)
 have hg:=hD.get (k+1+1) (by omega)
 have hl:=hD.len
 unfold downP
 rw[hs]
 dsimp only
 rw[if_neg (by simp)]
 show (if jJ (PL f w) (uD f w (k+1):Int)<0∨jJ (PL f w) (uD f w (k+1):Int)=((PL f w).length:Int)-1 then (6,0,pk0) else (0,(PL f w).getD ((jJ (PL f w) (uD f w (k+1):Int)).toNat+1) 0,(⟨0,f,N,15-(k:Int)-1,PL f w,[u]⟩:Pk)))=_
 rw[hi,if_neg (by rw[hl];push_cast;omega),show (((k+1:Nat):Int)).toNat+1=k+1+1 from by omega,hg]
 unfold pD ttD
 have:(15:Int)-(k:Int)-1=15-((k+1:Nat):Int):=by push_cast;omega
 rw[this]
theorem tripD(hn:2≤n∧n≤8)(hf:1≤f∧f<n)(hw:1≤w∧w≤3)(hN:0≤N∧N≤200000)(hN2:0≤N2∧N2≤200000){S:Nat→DT}
  (hS0:∀i,i<n→(S i).1=[]∧∀z L,pathsD (S i) z=some L→L.length≤100) (hSv:∀j,0<j→j<mU f w→S (vU f w j)=([],upU f N,qx,qx,jb,-1)) (hSf:S f=([],qx,qx,qx,jb,N)):
  Trip n w (mU f w) (uD f w) (ttD f w) (λk=>encP (pD f w N2 u k)) S (E_D f w N N2 u) (gotD f w N2 u):=by
 have hf7:1≤f∧f≤7:=by omega
 have hT:=vT hf7 hw
 have hD:=tabD_of hf7 hw
 have m7:=hT.m7
 have m1:=hT.m1
 have hvf:vU f w 0=f:=by unfold vU;simp
 refine⟨m1,λk hk=>by have:=hT.le (mU f w-k) (by omega);unfold uD;omega,λj k hj hk e=>by have:=hT.inj (mU f w-j) (mU f w-k) (by omega) (by omega) e;omega,λk hk=>?_,λk hk=> .inl rfl,λk hk=>?_,hS0,λk hk=>?_,λk hk s1 h1 h2=>?_⟩
 ·have:=hT.near (mU f w-(k+1)) (by omega)
  have e:=near_sym this
  rw[show mU f w-(k+1)+1=mU f w-k from by omega] at e
  exact e
 ·have hm:=mayD (u:=u) hf7 hw hN2 hk
  have:=encP_len hm
  refine⟨?_,by omega⟩
  unfold encP
  simp[be]
 ·unfold E_D
  by_cases h0:k=0
  ·subst h0
   rw[if_pos rfl,if_pos (by omega)]
   refine⟨rfl,λz L hL=>?_⟩
   have hL:pathsU f w z=some L:=hL
   unfold pathsU at hL
   split at hL
   ·cases hL;rw[hD.len];omega
   ·cases hL
  ·rw[if_neg h0]
   by_cases hkm:k<mU f w
   ·rw[if_pos hkm,if_pos hkm]
    exact⟨rfl,λz L hL=>by cases hL⟩
   ·rw[if_neg hkm,if_neg hkm]
    exact⟨rfl,λz L hL=>by cases hL⟩
 ·have hm:=mayD (u:=u) hf7 hw hN2 hk
  have hkn:=knownD (N:=N2) (u:=u) hf.2 hw k
  obtain⟨w1,w2⟩:=new_none0 hN2.1
  unfold zm
  rw[decP_enc _ hm]
  dsimp only
  rw[if_neg (by simp),hkn,if_pos rfl]
  by_cases hlast:k+1<mU f w
  ·have huv:uD f w (k+1)=vU f w (mU f w-(k+1)):=rfl
   have hpos:=hT.pos (mU f w-(k+1)) (by omega)
   have hne:uD f w (k+1)≠f:=λe=>by
    have:=hT.inj (mU f w-(k+1)) 0 (by omega) (by omega) (by rw[hvf,←huv];exact e)
    omega
   have hne0:uD f w (k+1)≠0:=by rw[huv];omega
   rw[huv,hSv _ (by omega) (by omega)] at h1
   obtain⟨q1,q2,q3,q4,q5,q6⟩:=dt_all h1
   have hdst:¬(pD f w N2 u k).dst=((uD f w (k+1):Nat):Int):=by show¬(f:Int)=_;omega
   have hdn:downB (uD f w (k+1)) (pD f w N2 u k)=true:=by
    unfold downB
    rw[decide_eq_true hne0];rfl
   have hway:wayS (uD f w (k+1)) s1 (pD f w N2 u k)=qx:=by unfold wayS;rw[if_neg hdst,hdn,if_pos rfl,q3]
   have hset:∀g,zS (uD f w (k+1)) s1 (pD f w N2 u k) g=downS s1 g:=λg=>by unfold zS;rw[if_neg hdst,hdn,if_pos rfl]
   unfold kY
   rw[hway,show (pD f w N2 u k).src=0 from rfl,show (pD f w N2 u k).n=N2 from rfl,w1,w2,if_pos rfl,hset]
   unfold jX
   rw[if_neg hdst,hdn,if_pos rfl]
   unfold vZ
   rw[stepD hf7 hw hN2 hlast]
   dsimp only
   rw[if_neg (by decide),if_neg (by simp)]
   unfold putN
   have hm2:=mayD (u:=u) hf7 hw hN2 hlast
   rw[if_pos ⟨hm2,by show ((s1.q.length:Nat):Int)<6;rw[q1];decide⟩]
   refine⟨?_,by rw[if_pos hlast];exact h2⟩
   unfold E_D
   rw[if_neg (by omega),if_pos hlast]
   show (s1.q++_,s1.up,upd qx 0 (N2,1),s1.got,s1.paths,s1.last)=_
   rw[q1,q2,q4,q5,q6];rfl
  ·have hkm:k+1=mU f w:=by omega
   have huf:uD f w (k+1)=f:=by unfold uD;rw[hkm,Nat.sub_self,hvf]
   rw[huf] at h1 ⊢
   rw[hSf] at h1
   obtain⟨q1,q2,q3,q4,q5,q6⟩:=dt_all h1
   have hdst:(pD f w N2 u k).dst=(f:Int):=rfl
   have hway:wayS f s1 (pD f w N2 u k)=qx:=by unfold wayS;rw[if_pos hdst,q4]
   have hset:∀g,zS f s1 (pD f w N2 u k) g=gotS s1 g:=λg=>by unfold zS;rw[if_pos hdst]
   unfold kY
   rw[hway,show (pD f w N2 u k).src=0 from rfl,show (pD f w N2 u k).n=N2 from rfl,w1,w2,if_pos rfl,hset]
   unfold jX
   rw[if_pos hdst]
   have hlb:kC f (pD f w N2 u k)=false:=by
    unfold kC
    rw[decide_eq_false (show¬f=0 by omega)];simp
   unfold jF
   rw[hlb,if_neg (by decide)]
   refine⟨?_,?_⟩
   ·unfold E_D
    rw[if_neg (by omega),if_neg hlast]
    show (s1.q,s1.up,s1.down,upd qx 0 (N2,1),s1.paths,s1.last)=_
    rw[q1,q2,q3,q5,q6]
   ·rw[if_neg hlast]
    show evK (s1.ev++[_])=_
    rw[jg,h2]
    unfold gotD
    rw[show mU f w-1=k from by omega];rfl
end
open Go.ChangeShapes Go.WideShapes Go.ChangeAt Go.RowKit
def vf(c:Cfg)(i:Nat)(s:NSt)(now tw:Int)(T:List Int)(L:List Int):Pk:=⟨i,tw,max (s.last+1) (now*64),c.life,L,T⟩
def z8(c:Cfg)(s:NSt)(p:Pk)(goes:Int):NSt×Int×Int:=
 if 70368744177663<p.n∨mayP p=false∨c.queue≤s.q.length then (s,0,5) else ({s with q:=s.q++[(goes,encP p)],last:=p.n},p.n,0)
def postN(c:Cfg)(i:Nat)(s:NSt)(now tw:Int)(T:List Int):NSt×Int×Int:=
 if hasB c tw=false∨tw=i∨inR T.length 1 24=false then (s,0,1) else
 if s.synced=false∨(i≠0∧qM s=64) then (s,0,7) else
 if i=0 then (match s.paths tw with|none=>(s,0,6)|some L=>z8 c s (vf c i s now tw T L) (L.getD 1 0))
 else z8 c s (vf c i s now tw T [(i:Int)]) 64
def PPost(x:NSt×Int×Int)(v:Value)(w:World)(o:Cls):Prop:=v= .tuple #[.int .i64 x.2.1,.int .i64 x.2.2]
section
variable {w0 w w':World}{o0 o o':Cls}{c:Cfg}{i b:Nat}{s s':NSt}{r r':NR}
theorem jS(w:World)(c1 c2:Array Value)(t1 t2:TypeId):((w.alloc (.cells c1 t1)).alloc (.cells c2 t2)).drew.heap[w.heap.size]? =some (.cells c1 t1 (0,0))∧((w.alloc (.cells c1 t1)).alloc (.cells c2 t2)).drew.heap[w.heap.size+1]? =some (.cells c2 t2 (0,0))∧Chg (λ_=>False) w ((w.alloc (.cells c1 t1)).alloc (.cells c2 t2)).drew:=by
 refine⟨Chg.keep ((Chg.alloc (λ_=>False) _ _).trans (Chg.drew _ _)) (qV w _) (λe=>e),?_,((Chg.alloc _ _ _).trans (Chg.alloc _ _ _)).trans (Chg.drew _ _)⟩
 have:=qV (w.alloc (.cells c1 t1)) (.cells c2 t2)
 rw[show (w.alloc (.cells c1 t1)).heap.size=w.heap.size+1 from by simp] at this
 exact Chg.keep (Chg.drew (λ_=>False) _) this (λe=>e)
theorem RV.one{w:World}{o:Cls}{pb:Nat}{x:Int}(h:w.heap[pb]? =some (.cells #[.int .i64 x] 3 (0,0))) (ho:o pb=0):RV VI w o (.slice (some ⟨pb,0,none⟩) 1 1) [x]:=
 ⟨some ⟨pb,0,none⟩,1,rfl,⟨rfl,λk hk=>⟨_,rfl,ho,by
  have:k=0:=by simp at hk;exact hk
  subst this
  rw[add_mk];rw[qJ h];rfl⟩⟩,(λe=>by cases e),Nat.le_refl _,by decide⟩
theorem npost_any(hc:CfgOk c)(h:NAt w0 o0 c i b s w o r)(hi:i<c.nodes)(now tw:Int)(v:Value)(T:List Int)(hv:BO w o v T)(hT:T.length≤100000)(h0:0≤now)(h1:now<1099511627776)(hl: -1≤s.last∧s.last≤140737488355328)
  (hpl:∀n L,s.paths n=some L→2≤L.length∧L.length≤100000) (hq:s.q.length≤900):
  Calls Tryz.prog 39 #[.pointer (some ⟨b,0,none⟩),.int .i64 now,.int .i64 tw,v] w (PN w0 o0 c i b (postN c i s now tw T).1 (PPost (postN c i s now tw T))):=by
 obtain⟨FS,hFS⟩:∃FS,postN c i s now tw T=FS:=⟨_,rfl⟩
 rw[hFS]
 unfold postN at hFS
 obtain⟨vA,vc,rfl,hvr,hvn,_⟩:=hv.1
 obtain⟨tn,htn⟩:∃n,n=T.length:=⟨_,rfl⟩
 rw[←htn] at hvr hFS ⊢
 have hc16:c.nodes≤16:=hc.n1
 have HASN:=qQ (λw=>jt now h0 h1 w)
 have HHAS:=nhas_any h tw hc16
 have HIN:=qQ (λW=>nin_any (tn:Int) 1 24 W)
 have HFI:=zZ h
 obtain⟨B1,hB1⟩:∃B,B=hasB c tw:=⟨_,rfl⟩
 change Calls Tryz.prog 78 _ _ (PV0 (.bool (hasB c tw)) w) at HHAS
 rw[←hB1] at HHAS hFS
 obtain⟨B2,hB2⟩:∃B,B=inR (tn:Int) 1 24:=⟨_,rfl⟩
 rw[←hB2] at HIN hFS
 obtain⟨t,ht⟩:=qZ (qM s)
 rw[←ht] at HFI hFS
 have HHAS:=qQ HHAS
 have HFI:=qQ HFI
 have H:=qQ h
 have HFS:=qQ hFS
 have HV:=qQ (show BO w o (.slice vA tn vc) T from by rw[htn];exact hv)
 have HB2:=qQ (And.intro hB2 htn)
 have HPL:=qQ hpl
 have HC:=qQ (And.intro hc (And.intro hi (And.intro hT hq)))
 have c9:w.cell? ⟨b,9,none⟩=some (.int .i64 i):=h.cell 9
 have c18:w.cell? ⟨b,18,none⟩=some (.bool s.synced):=h.cell 18
 have c16:w.cell? ⟨b,16,none⟩=some (.int .i64 s.last):=h.cell 16
 have c8:w.cell? ⟨b,8,none⟩=some (.int .i64 c.life):=h.cell 8
 clear h hc hi hv hT hpl hq hFS hB1 hB2 hc16 ht hvr hvn htn
 go_enter Tryz.func39,Tryz.ntmps39
 go_wp2_with fail
 (with_reducible refine (HASN.out _).mono ?_)
 rintro en w1 ⟨rfl,rfl⟩
 go_wp2_with fail
 with_reducible refine HHAS.out.mono ?_
 rintro en w2 ⟨rfl,hw2⟩
 subst hw2
 cases B1 with
 |false=>
  have HF:=qQ (show FS=(s,0,1) from by rw[←HFS.out,if_pos (.inl rfl)])
  go_wp2_with fail
  go_ret2
  rw[HF.out]
  exact⟨_,o,r,rfl,H.out,rfl⟩
 |true=>
 by_cases hti:tw=(i:Int)
 ·have t35:(tw==(i:Int))=true:=by simpa using hti
  have HF:=qQ (show FS=(s,0,1) from by rw[←HFS.out,if_pos (.inr (.inl hti))])
  clear hti
  go_wp2_with fail
  go_ret2
  rw[HF.out]
  exact⟨_,o,r,rfl,H.out,rfl⟩
 have t35:(tw==(i:Int))=false:=by simpa using hti
 have HTI:=qQ hti
 clear hti
 go_wp2_with fail
 (with_reducible refine (HIN.out _).mono ?_)
 rintro en w2 ⟨rfl,hw2⟩
 subst hw2
 cases B2 with
 |false=>
  have HF:=qQ (show FS=(s,0,1) from by rw[←HFS.out,if_pos (.inr (.inr rfl))])
  go_wp2_with fail
  go_ret2
  rw[HF.out]
  exact⟨_,o,r,rfl,H.out,rfl⟩
 |true=>
 have HFS1:=qQ (show FS=if s.synced=false∨(i≠0∧t=64) then (s,0,7) else if i=0 then (match s.paths tw with|none=>(s,0,6)|some L=>z8 c s (vf c i s now tw T L) (L.getD 1 0)) else z8 c s (vf c i s now tw T [(i:Int)]) 64 from by
  rw[←HFS.out,if_neg (λe=>by rcases e with e|e|e;cases e;exact HTI.out e;cases e)])
 clear HFS
 cases hsy:s.synced with
 |false=>
  have HF:=qQ (show FS=(s,0,7) from by rw[HFS1.out,if_pos (.inl hsy)])
  rw[hsy] at c18
  clear hsy
  go_wp2_with fail
  go_ret2
  rw[HF.out]
  exact⟨_,o,r,rfl,H.out,rfl⟩
 |true=>
 rw[hsy] at c18
 have HSY:=qQ hsy
 clear hsy
 obtain⟨dead,hdead⟩:=qZ (decide (i≠0∧t=64))
 have HDEAD:=qQ hdead
 clear hdead
 go_upto_region 3 with fail
 go_cut [59] (λu wx=>u= .bool dead∧Chg (λ_=>False) w2 wx)
 case first=>
  by_cases hi0:i=0
  ·have t53:((i:Int) != 0)=false:=by simp;omega
   have HI0:=qQ (show dead=false from by rw[HDEAD.out];simp[hi0])
   clear hi0
   go_wp2_with fail
   go_meet
   exact⟨by rw[HI0.out],Chg.refl _ _⟩
  ·have t53:((i:Int) != 0)=true:=by simp;omega
   have HI0:=qQ (show dead=(t==64) from by rw[HDEAD.out];simp only[hi0,ne_eq,not_false_eq_true,true_and];rfl)
   clear hi0
   go_wp2_with fail
   with_reducible refine HFI.out.mono ?_
   rintro en w3 ⟨rfl,g2⟩
   have HG2:=qQ g2
   clear g2
   go_wp2_with fail
   go_meet
   exact⟨by rw[HI0.out],HG2.out⟩
 case rest=>
  obtain⟨rfl,hG⟩:=hcut
  have HN:=qQ (H.out.kept hG)
  have HVV:=qQ (HV.out.keep hG (λ_ _ e=>e))
  clear c9 c18 c16 c8 H HV HHAS HFI hG
  cases dead with
  |true=>
   have HF:=qQ (show FS=(s,0,7) from by rw[HFS1.out,if_pos (.inr (of_decide_eq_true HDEAD.out.symm))])
   go_wp2_with fail
   go_ret2
   rw[HF.out]
   exact⟨_,o,r,rfl,HN.out,rfl⟩
  |false=>
  have HFS2:=qQ (show FS=if i=0 then (match s.paths tw with|none=>(s,0,6)|some L=>z8 c s (vf c i s now tw T L) (L.getD 1 0)) else z8 c s (vf c i s now tw T [(i:Int)]) 64 from by
   rw[HFS1.out,if_neg (λe=>by rcases e with e|e;(rw[HSY.out] at e;cases e);exact of_decide_eq_false HDEAD.out.symm e)])
  clear HFS1 HDEAD
  obtain⟨wB,rfl⟩:=qZ wc
  have c9:wB.cell? ⟨b,9,none⟩=some (.int .i64 i):=HN.out.cell 9
  have c16:wB.cell? ⟨b,16,none⟩=some (.int .i64 s.last):=HN.out.cell 16
  have c8:wB.cell? ⟨b,8,none⟩=some (.int .i64 c.life):=HN.out.cell 8
  obtain⟨num,hnum⟩:=qZ (max (s.last+1) (now*64))
  have HNUM:=qQ hnum
  have e1:IntKind.i64.wrap (s.last+1)=s.last+1:=IntWalk.i64_in _ (by omega)
  have e2:IntKind.i64.wrap (now*64)=now*64:=IntWalk.i64_in _ (by omega)
  go_upto_region 5 with fail
  go_cut [10] (λu10 wx=>∃a pb,u10= .pointer (some ⟨a,0,none⟩)∧wx.heap[a]? =some (.cells #[.int .i64 i,.int .i64 tw,.int .i64 num,.int .i64 c.life,.slice (some ⟨pb,0,none⟩) 1 1,.slice vA tn vc] 42 (0,0))∧wx.heap[pb]? =some (.cells #[.int .i64 i] 3 (0,0))∧wB.heap.size≤a∧wB.heap.size≤pb∧Chg (λ_=>False) wB wx)
  case first=>
   have c9a:=qN c9 (.cells #[.int .i64 0,.int .i64 0,.int .i64 0,.int .i64 0,.slice none 0 0,.slice none 0 0] 42)
   have c9b:=qN c9 (.cells #[.int .i64 i] 3)
   have c9c:=qN c9a (.cells #[.int .i64 i] 3)
   have c9d:=qN c9b (.cells #[.int .i64 0,.int .i64 0,.int .i64 0,.int .i64 0,.slice none 0 0,.slice none 0 0] 42)
   have c16a:=qN c16 (.cells #[.int .i64 0,.int .i64 0,.int .i64 0,.int .i64 0,.slice none 0 0,.slice none 0 0] 42)
   have c16b:=qN c16 (.cells #[.int .i64 i] 3)
   have c16c:=qN c16a (.cells #[.int .i64 i] 3)
   have c16d:=qN c16b (.cells #[.int .i64 0,.int .i64 0,.int .i64 0,.int .i64 0,.slice none 0 0,.slice none 0 0] 42)
   have c8a:=qN c8 (.cells #[.int .i64 0,.int .i64 0,.int .i64 0,.int .i64 0,.slice none 0 0,.slice none 0 0] 42)
   have c8b:=qN c8 (.cells #[.int .i64 i] 3)
   have c8c:=qN c8a (.cells #[.int .i64 i] 3)
   have c8d:=qN c8b (.cells #[.int .i64 0,.int .i64 0,.int .i64 0,.int .i64 0,.slice none 0 0,.slice none 0 0] 42)
   have HNM:=HNUM.out
   by_cases hlt:s.last+1<now*64
   ·have hnm:num=now*64:=by rw[hnum];omega
    clear hnum HNM
    subst hnm
    go_region
    all_goals
     go_wp2_with fail
     go_meet
     first
      |exact⟨_,_,rfl,(jS wB _ _ _ _).2.1,(jS wB _ _ _ _).1,by omega,Nat.le_refl _,(jS wB _ _ _ _).2.2⟩
      |exact⟨_,_,rfl,(jS wB _ _ _ _).1,(jS wB _ _ _ _).2.1,Nat.le_refl _,by omega,(jS wB _ _ _ _).2.2⟩
   ·have hnm:num=s.last+1:=by rw[hnum];omega
    clear hnum HNM
    subst hnm
    go_region
    all_goals
     go_wp2_with fail
     go_meet
     first
      |exact⟨_,_,rfl,(jS wB _ _ _ _).2.1,(jS wB _ _ _ _).1,by omega,Nat.le_refl _,(jS wB _ _ _ _).2.2⟩
      |exact⟨_,_,rfl,(jS wB _ _ _ _).1,(jS wB _ _ _ _).2.1,Nat.le_refl _,by omega,(jS wB _ _ _ _).2.2⟩
  case rest=>
   obtain⟨a,pb,rfl,hA,hB,ha,hb,hX⟩:=hcut
   obtain⟨wD,rfl⟩:=qZ wc
   have HNW:=qQ (HN.out.kept hX)
   have HVN:=qQ (HVV.out.keep hX (λ_ _ e=>e))
   have HOA:=qQ (show o a=0 from HN.out.z _ ha)
   have HRP:=qQ (RV.one hB (HN.out.z _ hb))
   have HBA:=qQ hA
   have HNB:=qQ (And.intro HN.out (And.intro HVV.out (And.intro hX ha)))
   clear hA hB ha hb hX c9 c16 c8 HN HVV e1 e2 hnum
   obtain⟨d0,d1,d2,d3,d4,d5⟩:=qC HBA.out
   have c9:wD.cell? ⟨b,9,none⟩=some (.int .i64 i):=HNW.out.cell 9
   by_cases hi0:i=0
   ·have t89:((i:Int)==0)=true:=by simp;omega
    have HFS2:=qQ (show FS=(match s.paths tw with|none=>(s,0,6)|some L=>z8 c s (vf c i s now tw T L) (L.getD 1 0)) from by rw[HFS2.out,if_pos hi0])
    have c22:wD.cell? ⟨b,22,none⟩=some (.map (some r.paths)):=HNW.out.cell 22
    obtain⟨v,hv,hlk⟩:=HNB.out.1.nd.np.2.2.2.2.2.2.2.2.2.1.look tw
    have hlk:=hlk wD HNB.out.2.2.1
    obtain⟨y,hy⟩:=qZ (s.paths tw)
    have HY:=qQ hy
    rw[←hy] at hv hlk HFS2
    have HV0:=qQ hv
    obtain⟨pA,pc,hvv,hro,_⟩:=hv
    cases y with
    |none=>
     have HF:=qQ (show FS=(s,0,6) from HFS2.out)
     simp only[Option.getD_none,List.length_nil] at hvv
     subst hvv
     clear hi0 hro HFS2 hy
     go_wp2_with fail
     go_ret2
     rw[HF.out]
     exact⟨_,o,r,rfl,HNW.out,rfl⟩
    |some L=>
     have HFS2:=qQ (show FS=z8 c s (vf c i s now tw T L) (L.getD 1 0) from HFS2.out)
     have hpl:=HPL.out tw L HY.out.symm
     have HLL:=qQ hpl.2
     simp only[Option.getD_some] at hvv hro
     obtain⟨x,z,hpx,hz,hcx⟩:=hro.at (i:=1) (by omega)
     have hzz:L.getD 1 0=z:=by rw[List.getD_eq_getElem?_getD,hz];rfl
     have hlt:=qP hcx
     have hcx:wD.cell? (x.add 1)=some (.int .i64 z):=by rw[HNB.out.2.2.1.cell hlt (λe=>e)];exact hcx
     have HV0:=qQ (show RV VI wB o v L from HV0.out)
     obtain⟨kL,hkL⟩:∃k,k=L.length:=⟨_,rfl⟩
     rw[←hkL] at hvv
     subst hpx hvv
     have i1:(1:Int)<(kL:Int):=by omega
     have i2:1<kL:=by omega
     have hxa:¬(x.add 1).block=a:=by have:=HNB.out.2.2.2;rw[zw] at hlt ⊢;omega
     have hxa2:¬x.block=a:=by rw[zw] at hxa;exact hxa
     have f4:=qK HBA.out 4
     obtain⟨xg,xo,xs⟩:=x
     have hga:¬xg=a:=hxa2
     have hag:¬a=xg:=λe=>hga e.symm
     have hcx2:wD.cell? ⟨xg,xo+1,none⟩=some (.int .i64 z):=hcx
     have hcx3:(wD.setCell ⟨a,4,none⟩ (.slice (some ⟨xg,xo,xs⟩) kL pc)).cell? ⟨xg,xo+1,none⟩=some (.int .i64 z):=cell_st hcx2 hga 4 _
     clear hi0 hro hy hpl hz hlt hkL
     go_upto_region 11 with fail
     go_cut [11] (λu11 wx=>u11= .int .i64 z∧wx.heap[a]? =some (.cells #[.int .i64 i,.int .i64 tw,.int .i64 num,.int .i64 c.life,.slice (some ⟨xg,xo,xs⟩) kL pc,.slice vA tn vc] 42 (0,0))∧Chg (· =a) wD wx)
     case first=>
      go_region_with fail
      all_goals
       go_wp2_with fail
       go_meet
       exact⟨rfl,Chg.keep (Chg.drew (λ_=>False) _) (by have:=qB HBA.out 4 (.slice (some ⟨xg,xo,xs⟩) kL pc);simpa using this) (λe=>e),(chg1 wD a 4 _).trans (Chg.drew _ _)⟩
     case rest=>
      obtain⟨rfl,hA,hX⟩:=hcut
      obtain⟨wE,rfl⟩:=qZ wc
      have G0:Chg (λ_=>False) wB wE:=(HNB.out.2.2.1.none.trans (hX.mono (λk _ e=>by rw[show k=a from e];exact HNB.out.2.2.2))).fresh
      have HNW:=qQ (HNB.out.1.kept G0)
      have HVN:=qQ (HNB.out.2.1.keep G0 (λ_ _ e=>e))
      have HRV:=qQ (HV0.out.keep G0 (λ_ _ e=>e))
      have HBA:=qQ hA
      clear d0 d1 d2 d3 d4 d5 c9 c22 hcx hcx2 hcx3 hga hag hxa hxa2 f4 hX hA G0 hlk
      obtain⟨d0,d1,d2,d3,d4,d5⟩:=qC HBA.out
      rw[hzz] at HFS2
      clear hzz
      have HPO:=qQ (show PO wE o (.slice (some ⟨xg,xo,xs⟩) kL pc) (.slice vA tn vc) (vf c i s now tw T L) from ⟨HRV.out,HVN.out⟩)
      have HENC:=pencode_any wE o (vf c i s now tw T L) _ _ HPO.out (by show List.length (L)≤100000;exact HLL.out) (by show T.length≤100000;exact HC.out.2.2.1)
      unfold pkV vf at HENC
      rw[←HNUM.out] at HENC
      have HENC:=qQ HENC
      go_wp2_with fail
      with_reducible refine HENC.out.mono ?_
      rintro en w5 hP
      obtain⟨pk,hpk⟩:=qZ (vf c i s now tw T L)
      have hpn:pk.n=num:=by rw[hpk];exact HNUM.out.symm
      have hpke:(⟨i,tw,num,c.life,L,T⟩:Pk)=pk:=by rw[hpk,HNUM.out];rfl
      rw[hpke] at hP
      have HFS3:=qQ (show FS=z8 c s pk z from by rw[HFS2.out,hpk])
      have HDB:=qQ (show∀x∈pk.data,0≤x∧x<256 from by rw[hpk];exact HVN.out.2)
      have HPN:=qQ hpn
      clear hpk hpn hpke HENC
      rcases hP with ⟨hmay,y,rfl,hO,G⟩|⟨hmay,rfl,G⟩
      ·obtain⟨A1,n1,c1,rfl⟩:∃A n c,y= .slice A n c:=by rcases qD hO with ⟨e,_⟩|⟨g,cap,e,_⟩ <;> exact⟨_,_,_,e⟩
       have hN5:=HNW.out.kept G
       have hb5:=Chg.keep G HBA.out (λe=>e)
       have hnn:num≤70368744177663:=by rw[←HPN.out];exact (jD hmay).2.2.2.1.2
       have t113:decide (num>70368744177663)=false:=by simp;omega
       have c11:w5.cell? ⟨b,11,none⟩=some (.pointer (some ⟨r.q,0,none⟩)):=hN5.cell 11
       obtain⟨v,lost,ps,q1,q2,q3,q4,q5,q6,q7,q8⟩:=hN5.nd.np.2.2.2.1
       have HQB:=qQ (show Qb w5 r.q c.queue v lost ps from ⟨q1,q5⟩)
       have HQO:=qQ (And.intro q3 (And.intro q4 (And.intro q6 (And.intro q7 q8))))
       have hsq:s.q.length=ps.length:=by rw[q8,List.length_map]
       have HSQ:=qQ hsq
       have HBS:=qQ (show BS w5 w5.heap.size (.slice A1 n1 c1) (encP pk) from BS.of_own hO (vk hmay HDB.out))
       have HLEN:=qQ (encP_len hmay)
       have HMAY:=qQ hmay
       have HN5:=qQ hN5
       have HB5:=qQ hb5
       clear d0 d1 d2 d3 d4 d5
       obtain⟨d0,d1,d2,d3,d4,d5⟩:=qC hb5
       clear q1 q2 q3 q4 q5 q6 q7 q8 hsq hmay hN5 hb5 hO G
       by_cases hlt:(ps.length:Int)<c.queue
       ·have HP:=qQ (qput_any w5 r.q c.queue lost v (.slice A1 n1 c1) ps z (encP pk) HQB.out hlt HBS.out (by have:=HLEN.out;omega) (by have:=HC.out.2.2.2;have:=HSQ.out;omega))
        have HF:=qQ (show FS=({s with q:=s.q++[(z,encP pk)],last:=num},num,0) from by
         rw[HFS3.out];unfold z8;rw[if_neg (λe=>by rcases e with e|e|e;(rw[HPN.out] at e;omega);(rw[HMAY.out] at e;cases e);(rw[HSQ.out] at e;omega)),HPN.out])
        clear hlt
        go_wp2_with fail
        with_reducible refine HP.out.mono ?_
        rintro en w6 ⟨rfl,x',v',h1,h2,h3,h4⟩
        obtain⟨o6,hE6,hN6,_⟩:=HN5.out.qset HQB.out HQO.out.2.2.1 HQO.out.2.2.2.1 h2 ⟨HQO.out.1,HQO.out.2.1⟩ h3 h4 (λq hq=>by
         rcases List.mem_append.1 hq with hq|hq
         ·exact .inl hq
         ·simp at hq;subst hq;exact .inr ⟨h1,vk HMAY.out HDB.out⟩)
        rw[List.map_append,←HQO.out.2.2.2.2] at hN6
        have hb6:=Chg.keep h4 HB5.out (λe=>by
         have hoa:=HOA.out
         have hoq:=HN5.out.nd.np.2.2.2.1
         obtain⟨_,_,_,_,hoq,_⟩:=hoq
         rcases e with e|e
         ·rw[show a=r.q from e,hoq] at hoa;exact qf i 2 hoa
         ·rw[HQO.out.2.2.1 a e] at hoa;exact qf i 2 hoa)
        clear d0 d1 d2 d3 d4 d5
        obtain⟨d0,d1,d2,d3,d4,d5⟩:=qC hb6
        have HX:=qQ hN6
        have c16:w6.cell? ⟨b,16,none⟩=some (.int .i64 s.last):=HX.out.cell 16
        have f16:=HX.out.f 16
        have hab:¬a=b:=λe=>by have hoa:=HOA.out;have:=HN5.out.nd.ob;rw[←e,hoa] at this;exact qf i 0 this.symm
        have hab2:¬b=a:=λe=>hab e.symm
        clear h1 h2 h3 h4 hN6 hE6 hb6 HP c11
        go_wp2_with fail
        go_ret2
        rw[HF.out]
        exact⟨_,o6,r,rfl,HX.out.set 16 (.int .i64 num) rfl HX.out.nd.np,rfl⟩
       ·have HP:=qQ (qput_full w5 r.q c.queue lost v (.slice A1 n1 c1) ps z HQB.out (by omega) ⟨HQO.out.1,HQO.out.2.1⟩ (by have:=HC.out.2.2.2;have:=HSQ.out;omega))
        have HF:=qQ (show FS=(s,0,5) from by
         rw[HFS3.out];unfold z8;rw[if_pos (.inr (.inr (by rw[HSQ.out];omega)))])
        clear hlt
        go_wp2_with fail
        with_reducible refine HP.out.mono ?_
        rintro en w6 ⟨rfl,lost',l1,l2,h2,h4⟩
        have g4:Chg (λk=>k=r.q∨v.ownBlock=some k) w5 w6:=h4.mono (λk _ e=> .inl e)
        obtain⟨o6,hE,hN6,_⟩:=HN5.out.qset HQB.out HQO.out.2.2.1 HQO.out.2.2.2.1 h2 ⟨l1,l2⟩ (.inl rfl) g4 (λq hq=> .inl hq)
        rw[←HQO.out.2.2.2.2] at hN6
        have HX:=qQ hN6
        clear h2 h4 g4 hE hN6 l1 l2 HP c11 d0 d1 d2 d3 d4 d5
        go_wp2_with fail
        go_ret2
        rw[HF.out]
        exact⟨_,o6,r,rfl,HX.out,rfl⟩
      ·have HF:=qQ (show FS=(s,0,5) from by rw[HFS3.out];unfold z8;rw[if_pos (.inr (.inl hmay))])
       have HX:=qQ (HNW.out.kept G)
       have hb5:=Chg.keep G HBA.out (λe=>e)
       clear hmay G d0 d1 d2 d3 d4 d5
       obtain⟨d0,d1,d2,d3,d4,d5⟩:=qC hb5
       clear hb5
       by_cases hnn:num>70368744177663
       ·have t113:decide (num>70368744177663)=true:=by simp;omega
        clear hnn
        go_wp2_with fail
        go_ret2
        rw[HF.out]
        exact⟨_,o,r,rfl,HX.out,rfl⟩
       ·have t113:decide (num>70368744177663)=false:=by simp;omega
        clear hnn
        go_wp2_with fail
        go_ret2
        rw[HF.out]
        exact⟨_,o,r,rfl,HX.out,rfl⟩
   ·have t89:((i:Int)==0)=false:=by simp;omega
    have HFS2:=qQ (show FS=z8 c s (vf c i s now tw T [(i:Int)]) 64 from by rw[HFS2.out,if_neg hi0])
    have HRV:=HRP
    have HLL:=qQ (show List.length [(i:Int)]≤100000 by simp)
    clear hi0
    have HPO:=qQ (show PO wD o (.slice (some ⟨pb,0,none⟩) 1 1) (.slice vA tn vc) (vf c i s now tw T [(i:Int)]) from ⟨HRV.out,HVN.out⟩)
    have HENC:=pencode_any wD o (vf c i s now tw T [(i:Int)]) _ _ HPO.out (by show List.length ([(i:Int)])≤100000;exact HLL.out) (by show T.length≤100000;exact HC.out.2.2.1)
    unfold pkV vf at HENC
    rw[←HNUM.out] at HENC
    have HENC:=qQ HENC
    go_wp2_with fail
    with_reducible refine HENC.out.mono ?_
    rintro en w5 hP
    obtain⟨pk,hpk⟩:=qZ (vf c i s now tw T [(i:Int)])
    have hpn:pk.n=num:=by rw[hpk];exact HNUM.out.symm
    have hpke:(⟨i,tw,num,c.life,[(i:Int)],T⟩:Pk)=pk:=by rw[hpk,HNUM.out];rfl
    rw[hpke] at hP
    have HFS3:=qQ (show FS=z8 c s pk 64 from by rw[HFS2.out,hpk])
    have HDB:=qQ (show∀x∈pk.data,0≤x∧x<256 from by rw[hpk];exact HVN.out.2)
    have HPN:=qQ hpn
    clear hpk hpn hpke HENC
    rcases hP with ⟨hmay,y,rfl,hO,G⟩|⟨hmay,rfl,G⟩
    ·obtain⟨A1,n1,c1,rfl⟩:∃A n c,y= .slice A n c:=by rcases qD hO with ⟨e,_⟩|⟨g,cap,e,_⟩ <;> exact⟨_,_,_,e⟩
     have hN5:=HNW.out.kept G
     have hb5:=Chg.keep G HBA.out (λe=>e)
     have hnn:num≤70368744177663:=by rw[←HPN.out];exact (jD hmay).2.2.2.1.2
     have t113:decide (num>70368744177663)=false:=by simp;omega
     have c11:w5.cell? ⟨b,11,none⟩=some (.pointer (some ⟨r.q,0,none⟩)):=hN5.cell 11
     obtain⟨v,lost,ps,q1,q2,q3,q4,q5,q6,q7,q8⟩:=hN5.nd.np.2.2.2.1
     have HQB:=qQ (show Qb w5 r.q c.queue v lost ps from ⟨q1,q5⟩)
     have HQO:=qQ (And.intro q3 (And.intro q4 (And.intro q6 (And.intro q7 q8))))
     have hsq:s.q.length=ps.length:=by rw[q8,List.length_map]
     have HSQ:=qQ hsq
     have HBS:=qQ (show BS w5 w5.heap.size (.slice A1 n1 c1) (encP pk) from BS.of_own hO (vk hmay HDB.out))
     have HLEN:=qQ (encP_len hmay)
     have HMAY:=qQ hmay
     have HN5:=qQ hN5
     have HB5:=qQ hb5
     clear d0 d1 d2 d3 d4 d5 c9
     obtain⟨d0,d1,d2,d3,d4,d5⟩:=qC hb5
     clear q1 q2 q3 q4 q5 q6 q7 q8 hsq hmay hN5 hb5 hO G
     by_cases hlt:(ps.length:Int)<c.queue
     ·have HP:=qQ (qput_any w5 r.q c.queue lost v (.slice A1 n1 c1) ps 64 (encP pk) HQB.out hlt HBS.out (by have:=HLEN.out;omega) (by have:=HC.out.2.2.2;have:=HSQ.out;omega))
      have HF:=qQ (show FS=({s with q:=s.q++[(64,encP pk)],last:=num},num,0) from by
       rw[HFS3.out];unfold z8;rw[if_neg (λe=>by rcases e with e|e|e;(rw[HPN.out] at e;omega);(rw[HMAY.out] at e;cases e);(rw[HSQ.out] at e;omega)),HPN.out])
      clear hlt
      go_wp2_with fail
      with_reducible refine HP.out.mono ?_
      rintro en w6 ⟨rfl,x',v',h1,h2,h3,h4⟩
      obtain⟨o6,hE6,hN6,_⟩:=HN5.out.qset HQB.out HQO.out.2.2.1 HQO.out.2.2.2.1 h2 ⟨HQO.out.1,HQO.out.2.1⟩ h3 h4 (λq hq=>by
       rcases List.mem_append.1 hq with hq|hq
       ·exact .inl hq
       ·simp at hq;subst hq;exact .inr ⟨h1,vk HMAY.out HDB.out⟩)
      rw[List.map_append,←HQO.out.2.2.2.2] at hN6
      have hb6:=Chg.keep h4 HB5.out (λe=>by
       have hoa:=HOA.out
       have hoq:=HN5.out.nd.np.2.2.2.1
       obtain⟨_,_,_,_,hoq,_⟩:=hoq
       rcases e with e|e
       ·rw[show a=r.q from e,hoq] at hoa;exact qf i 2 hoa
       ·rw[HQO.out.2.2.1 a e] at hoa;exact qf i 2 hoa)
      clear d0 d1 d2 d3 d4 d5
      obtain⟨d0,d1,d2,d3,d4,d5⟩:=qC hb6
      have HX:=qQ hN6
      have c16:w6.cell? ⟨b,16,none⟩=some (.int .i64 s.last):=HX.out.cell 16
      have f16:=HX.out.f 16
      have hab:¬a=b:=λe=>by have hoa:=HOA.out;have:=HN5.out.nd.ob;rw[←e,hoa] at this;exact qf i 0 this.symm
      have hab2:¬b=a:=λe=>hab e.symm
      clear h1 h2 h3 h4 hN6 hE6 hb6 HP c11
      go_wp2_with fail
      go_ret2
      rw[HF.out]
      exact⟨_,o6,r,rfl,HX.out.set 16 (.int .i64 num) rfl HX.out.nd.np,rfl⟩
     ·have HP:=qQ (qput_full w5 r.q c.queue lost v (.slice A1 n1 c1) ps 64 HQB.out (by omega) ⟨HQO.out.1,HQO.out.2.1⟩ (by have:=HC.out.2.2.2;have:=HSQ.out;omega))
      have HF:=qQ (show FS=(s,0,5) from by
       rw[HFS3.out];unfold z8;rw[if_pos (.inr (.inr (by rw[HSQ.out];omega)))])
      clear hlt
      go_wp2_with fail
      with_reducible refine HP.out.mono ?_
      rintro en w6 ⟨rfl,lost',l1,l2,h2,h4⟩
      have g4:Chg (λk=>k=r.q∨v.ownBlock=some k) w5 w6:=h4.mono (λk _ e=> .inl e)
      obtain⟨o6,hE,hN6,_⟩:=HN5.out.qset HQB.out HQO.out.2.2.1 HQO.out.2.2.2.1 h2 ⟨l1,l2⟩ (.inl rfl) g4 (λq hq=> .inl hq)
      rw[←HQO.out.2.2.2.2] at hN6
      have HX:=qQ hN6
      clear h2 h4 g4 hE hN6 l1 l2 HP c11 d0 d1 d2 d3 d4 d5
      go_wp2_with fail
      go_ret2
      rw[HF.out]
      exact⟨_,o6,r,rfl,HX.out,rfl⟩
    ·have HF:=qQ (show FS=(s,0,5) from by rw[HFS3.out];unfold z8;rw[if_pos (.inr (.inl hmay))])
     have HX:=qQ (HNW.out.kept G)
     have hb5:=Chg.keep G HBA.out (λe=>e)
     clear hmay G d0 d1 d2 d3 d4 d5 c9
     obtain⟨d0,d1,d2,d3,d4,d5⟩:=qC hb5
     clear hb5
     by_cases hnn:num>70368744177663
     ·have t113:decide (num>70368744177663)=true:=by simp;omega
      clear hnn
      go_wp2_with fail
      go_ret2
      rw[HF.out]
      exact⟨_,o,r,rfl,HX.out,rfl⟩
     ·have t113:decide (num>70368744177663)=false:=by simp;omega
      clear hnn
      go_wp2_with fail
      go_ret2
      rw[HF.out]
      exact⟨_,o,r,rfl,HX.out,rfl⟩
end
end Go.Proofs.YtnpihllannobgaaGreatDoor
