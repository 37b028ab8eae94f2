/- Steps of the proof, part G36. No condition. -/
import Derived.Test.YtnpihllannobgaaGreatDoorG35
import Derived.Test.YtnpihllannobgaaGreatDoorG33
namespace Go.Proofs.YtnpihllannobgaaGreatDoor
set_option linter.unusedVariables false
set_option linter.unusedSimpArgs false
set_option maxRecDepth 100000
set_option maxHeartbeats 32000000
section
variable {n w t:Nat}{A A':List AC}{x:WM}{s:Nat}{r:Int}
theorem ok_of{B:List AC}(h:jL n w s A B=true){i:Nat}(hi:i<n)(hi0:i≠0){R:Int}{L:List Pa}(ha:A.getD i none=some (R,L)):
  zB (B.getD i none)≠64∧(zB (B.getD i none)=zB (A.getD i none)∨zB (B.getD i none)=(s:Int))∧∀p∈L,p.node≠(s:Int)∨((A.getD s none).isSome=true∧zG w i s=true):=by
 unfold jL at h
 rw[Bool.and_eq_true,List.all_eq_true] at h
 have h1:=h.2 i (by rw[List.mem_range];exact hi)
 rw[ha] at h1
 simp only[Bool.or_eq_true,beq_iff_eq,Bool.and_eq_true,bne_iff_ne,ne_eq,List.all_eq_true] at h1
 rcases h1 with h1|⟨⟨h1,h2⟩,h3⟩
 ·exact absurd h1 hi0
 ·exact⟨h1,by rw[ha];exact h2,h3⟩
theorem ok_rank{B:List AC}(h:jL n w s A B=true){L:List Pa}(ha:A.getD s none=some (r,L)):0≤r∧r≤200:=by
 unfold jL at h
 rw[Bool.and_eq_true,ha] at h
 simpa using h.1
theorem hearAll_at(now:Nat){i:Nat}(hi:i<n):(zd n w now s r A).getD i none=zh n w now s r i (A.getD i none):=by
 unfold zd
 simp[List.getD_eq_getElem?_getD,List.getElem?_map,List.getElem?_range,hi]
theorem near_self(w i:Nat):zG w i i=false:=by unfold zG;simp
theorem CM.noEv{n t i:Nat}{a:AC}{s:NSt}(h:CM n t i a s):CM n t i a (noEv s):=h.cong rfl
theorem LN.quiet(h:LN n w t A x)(hd:DtOk n x)(hm:A.getD (t % n) none=none)(hok:jL n w (t % n) A A=true)(ht:t<2000):
  LN n w (t+1) A (zX (qp (cT n w) d0 n t qG x))∧SlotOkV (cT n w) d0 qG t x∧(∀i,i<n→dtOf ((zX (qp (cT n w) d0 n t qG x)).nd i)=dtOf (x.nd i))∧evK (qp (cT n w) d0 n t qG x).ev=[]:=by
 have hi':∀i,i<n→CM n t i (A.getD i none) (vy i 0 (x.nd i)):=λi hi=>(h.nd i hi).idle h.n8 (λR L ha p hp=>by
  by_cases hi0:i=0
  ·have hs:=(h.nd i hi).st
   rw[ha] at hs
   dsimp only at hs
   rw[if_pos hi0] at hs
   rw[hs.2.2.2.2] at hp
   cases hp
  ·rcases (ok_of hok hi hi0 ha).2.2 p hp with e|⟨e,_⟩
   ·exact e
   ·rw[hm] at e;cases e)
 obtain⟨a1,a2,a3,a4⟩:=h.fin (A':=A) h.al hd (λi hi=>by
   rw[(h.mute hm hi).1]
   exact (hi' i hi).noEv) (λq hq he=>by rw[(h.mute hm hq).2.2] at he;cases he) (λj hj=>by rw[(h.mute hm hj).2.2];simp) ht
 refine⟨a1,a2,λi hi=>by rw[a3 i hi,(h.mute hm hi).1];rfl,?_⟩
 rw[a4,flat_nil (λi hi=>by
   rw[List.mem_range] at hi
   rw[(h.mute hm hi).2.1]
   show evK (x.nd i).ev=[]
   rw[(h.nd i hi).ev];rfl),flat_nil (λi hi=>by
   rw[List.mem_range] at hi
   rw[(h.mute hm hi).2.2];rfl)]
 rfl
theorem SC.hrs(h:SC n w t A x s r)(hok:jL n w s A (zd n w t s r A)=true){i:Nat}(hi:i<n)(his:i≠s):
  CM n t i (zh n w t s r i (A.getD i none)) (uQ (cT n w) d0 t x qG i)∧∃s1,SameD (x.nd i) s1∧evK s1.ev=[]∧
   (uH (cT n w) d0 t x qG i=s1∨uH (cT n w) d0 t x qG i=zL (cT n w) i (nxC n w t x s) s1)∧
   (zG w i s=true→(A.getD i none).isSome=true→uH (cT n w) d0 t x qG i=zL (cT n w) i (nxC n w t x s) s1∧(i≠0→tmOf s1=tmOf (qq i (vy i 0 (x.nd i)) s r t 0))∧
    (∀B:NSt→Option (List Int),(∀y y',tmOf y=tmOf y'→B y=B y')→ansN i (cT n w) (vS d0 x i) (0,nxC n w t x s) t 0 B=B s1)∧CM n t i (zh n w t s r i (A.getD i none)) s1):=by
 have hN:=h.cw.nd i hi
 have hq:uQ (cT n w) d0 t x qG i=noEv (uH (cT n w) d0 t x qG i):=h.oQ hi his
 have hoH:=h.oH hi his
 have hg:=h.good his
 have hev:(x.nd i).ev=[]:=hN.ev
 have hvev:evK (vS d0 x i).ev=[]:=by show evK (x.nd i).ev=[];rw[hev];rfl
 have hno:∀R L,A.getD i none=some (R,L)→zG w i s=false→∀p∈L,p.node≠((t % n:Nat):Int):=λR L ha hnb p hp=>by
  rw[h.tn]
  by_cases hi0:i=0
  ·have hs:=hN.st
   rw[ha] at hs
   dsimp only at hs
   rw[if_pos hi0] at hs
   rw[hs.2.2.2.2] at hp
   cases hp
  ·rcases (ok_of hok hi hi0 ha).2.2 p hp with e|⟨_,e⟩
   ·exact e
   ·rw[hnb] at e;cases e
 by_cases hnb:zG w i s=true
 ·cases ha:A.getD i none with
  |none=>
   rw[ha] at hoH hN
   have hst:=hN.st
   dsimp only at hst
   obtain⟨k1,k2,k3,k4⟩:=hst
   have hidle:CM n t i none (vS d0 x i):=hN.idle h.cw.n8 (λR L e=>by cases e)
   have habs:zh n w t s r i none=if decide (2*n≤t)&&((t+1) / (n*3) % 3==t % 3) then some (qy (r+1) [] s r 0) else none:=by unfold zh;rw[if_pos hnb]
   rw[habs]
   by_cases hch:(t % 3==(t+1) / (n*3) % 3)=true
   ·have hhc:jN n w t s i none=true:=by unfold jN;rw[hnb,hch];rfl
    rw[if_pos hhc] at hoH
    have hE:zy i (cT n w) (vS d0 x i) (0,nxC n w t x s) t 0 (zL (cT n w) i (nxC n w t x s))=adoptN i (cT n w) (vS d0 x i) (nxC n w t x s) r t 0:=by
     unfold zy
     rw[hg]
     dsimp only
     rw[h.rk,if_pos (show (true&&(r,true).2)=true from rfl),if_neg (by rw[show (vS d0 x i).synced=(x.nd i).synced from rfl,k2];simp)]
    rw[hE] at hoH
    have hlis:(vS d0 x i).listened=(t:Int)+1:=by
     show (if (x.nd i).synced then (x.nd i).listened else (x.nd i).listened+1)=_
     rw[k2,k3];rfl
    have hch2:((t+1) / (n*3) % 3==t % 3)=true:=by rw[beq_iff_eq] at hch ⊢;exact hch.symm
    rw[hch2,Bool.and_true]
    by_cases h2n:2*n≤t
    ·have hk3:(nxC n w t x s).kind=3:=by
      rcases h.kd with e|e
      ·exact e.1
      ·have:=e.2 i hi;rw[ha] at this;cases this
     have had:adoptN i (cT n w) (vS d0 x i) (nxC n w t x s) r t 0=adopt2N i (vS d0 x i) (nxC n w t x s).src r t 0:=by
      unfold adoptN
      rw[if_pos ⟨hk3,by have:=h.r0;omega,by rw[hlis];show 2*(n:Int)<_;omega⟩]
     rw[had,h.src] at hoH
     obtain⟨c1,c2⟩:=hN.adopt h.cw.n8 s h.sn (Ne.symm his) h.tn.symm r h.r0
     rw[if_pos (by simpa using h2n),hq,hoH]
     refine⟨c1.noEv,adopt2N i (vS d0 x i) s r t 0,c2.symm,?_,.inl rfl,λ_ e=>by cases e⟩
     show evK (adopt2N i (vS d0 x i) s r t 0).ev=[]
     rw[evK_adopt];exact hvev
    ·have had:adoptN i (cT n w) (vS d0 x i) (nxC n w t x s) r t 0=vS d0 x i:=by
      unfold adoptN
      rw[if_neg (λe=>by have:=e.2.2;rw[hlis] at this;have e2:(cT n w).loss=2*(n:Int):=rfl;rw[e2] at this;omega)]
     rw[had] at hoH
     rw[if_neg (by simpa using h2n),hq,hoH]
     exact⟨hidle.noEv,vS d0 x i,rfl,hvev,.inl rfl,λ_ e=>by cases e⟩
   ·have hhc:jN n w t s i none=false:=by unfold jN;rw[hnb];simpa using hch
    rw[hhc,if_neg (by decide)] at hoH
    have hch2:((t+1) / (n*3) % 3==t % 3)=false:=by rw[Bool.not_eq_true,beq_eq_false_iff_ne] at hch;rw[beq_eq_false_iff_ne];exact hch.symm
    rw[hch2,Bool.and_false,if_neg (by decide),hq,hoH]
    exact⟨hidle.noEv,vS d0 x i,rfl,hvev,.inl rfl,λ_ e=>by cases e⟩
  |some q=>
   obtain⟨R,L⟩:=q
   rw[ha] at hoH hN
   have hst:=hN.st
   dsimp only at hst
   have hsy:(vS d0 x i).synced=true:=hst.1
   have hhc:jN n w t s i (some (R,L))=true:=by unfold jN;rw[hnb];rfl
   rw[if_pos hhc] at hoH
   have habs:zh n w t s r i (some (R,L))=if i=0 then some (R,L) else some (qy R L s r 0):=by unfold zh;rw[if_pos hnb]
   by_cases hi0:i=0
   ·have hE:zy i (cT n w) (vS d0 x i) (0,nxC n w t x s) t 0 (zL (cT n w) i (nxC n w t x s))=zL (cT n w) i (nxC n w t x s) (evN (vS d0 x i) ⟨1,i,(nxC n w t x s).src,0,pk0⟩):=by
     unfold zy hear2N
     rw[hg]
     dsimp only
     rw[h.rk,if_pos (show (true&&(r,true).2)=true from rfl),if_pos hsy,if_pos hi0]
    rw[hE] at hoH
    have hc1:CM n t i (some (R,L)) (evN (vS d0 x i) ⟨1,i,(nxC n w t x s).src,0,pk0⟩):=by
     have hh:=hst.2
     rw[if_pos hi0] at hh
     refine (hN.idle h.cw.n8 (λR' L' e p hp=>?_)).cong rfl
     cases e
     rw[hh.2.2.2] at hp;cases hp
    rw[habs,if_pos hi0,hq,hoH]
    refine⟨(hc1.cong (tm_back _ _ _ _)).noEv,evN (vS d0 x i) ⟨1,i,(nxC n w t x s).src,0,pk0⟩,(show dtOf (x.nd i)=dtOf (x.nd i) from rfl),?_,.inr rfl,λ_ _=>⟨rfl,λe=>absurd hi0 e,λB _=>?_,hc1⟩⟩
    ·rw[evK_ev1];exact hvev
    ·unfold ansN
     rw[hg]
     dsimp only
     rw[h.rk,hsy,if_pos (show (true&&(r,true).2&&true)=true from rfl),if_pos hi0]
   ·obtain⟨o1,o2,o3⟩:=ok_of hok hi hi0 ha
    rw[hearAll_at t hi,ha,habs,if_neg hi0] at o1 o2
    obtain⟨c1,c2⟩:=hN.hears (s':=evN (vS d0 x i) ⟨1,i,(nxC n w t x s).src,0,pk0⟩) h.cw.n8 hi0 rfl s h.sn (Ne.symm his) r h.r0 (.inl h.tn.symm) o1 o2
    have hfn:qM (qq i (evN (vS d0 x i) ⟨1,i,(nxC n w t x s).src,0,pk0⟩) s r t 0)≠64:=by
     have hs2:=c1.st
     have hzz:∃a b,qy R L s r 0=(a,b):=⟨_,_,rfl⟩
     obtain⟨ra,rb,hz⟩:=hzz
     rw[hz] at hs2 o1
     dsimp only at hs2
     have h2:=hs2.2
     rw[if_neg hi0] at h2
     obtain⟨_,_,L',y,p1,p2,_⟩:=h2
     intro e
     unfold qM at e
     rw[p1] at e
     cases L' with
     |nil=>rw[←p2] at o1;exact o1 rfl
     |cons f q=>rw[←p2] at o1;exact o1 e
    have hE:zy i (cT n w) (vS d0 x i) (0,nxC n w t x s) t 0 (zL (cT n w) i (nxC n w t x s))=zL (cT n w) i (nxC n w t x s) (qq i (evN (vS d0 x i) ⟨1,i,(nxC n w t x s).src,0,pk0⟩) s r t 0):=by
     unfold zy hear2N
     rw[hg]
     dsimp only
     rw[h.rk,if_pos (show (true&&(r,true).2)=true from rfl),if_pos hsy,if_neg hi0]
     dsimp only
     rw[h.src] at hfn ⊢
     rw[if_neg hfn]
    rw[hE] at hoH
    rw[habs,if_neg hi0,hq,hoH]
    refine⟨(c1.cong (tm_back _ _ _ _)).noEv,qq i (evN (vS d0 x i) ⟨1,i,(nxC n w t x s).src,0,pk0⟩) s r t 0,c2.symm,?_,.inr rfl,λ_ _=>⟨rfl,λ_=>?_,λB hB=>?_,c1⟩⟩
    ·rw[evK_hears,evK_ev1];exact hvev
    ·have hs3:=hst.2
     rw[if_neg hi0] at hs3
     obtain⟨_,_,L',y,p1,_⟩:=hs3
     rw[(tm_hears i (evN (vS d0 x i) ⟨1,i,(nxC n w t x s).src,0,pk0⟩) s r t hN.base R L' p1).1,(tm_hears i (vy i 0 (x.nd i)) s r t hN.base R L' p1).1]
     rfl
    ·unfold ansN
     rw[hg]
     dsimp only
     rw[h.rk,hsy,if_pos (show (true&&(r,true).2&&true)=true from rfl),if_neg hi0]
     dsimp only
     rw[h.src] at hfn ⊢
     rw[if_neg hfn]
 ·rw[Bool.not_eq_true] at hnb
  have hhc:jN n w t s i (A.getD i none)=false:=by unfold jN;rw[hnb];rfl
  rw[hhc,if_neg (by decide)] at hoH
  have habs:zh n w t s r i (A.getD i none)=A.getD i none:=by unfold zh;rw[hnb,if_neg (by decide)]
  have hidle:CM n t i (A.getD i none) (vS d0 x i):=hN.idle h.cw.n8 (λR L ha=>hno R L ha hnb)
  rw[habs,hq,hoH]
  exact⟨hidle.noEv,vS d0 x i,rfl,hvev,.inl rfl,λe=>by rw[hnb] at e;cases e⟩
end
theorem uW_len(c:Cfg)(d:Dr)(t:Int)(x:WM)(i:Nat):((uW c d t x i).getD []).length≤1000:=by
 have hK:∀k,((uK c d t x k).getD []).length≤1000:=λk=>by
  unfold uK
  split
  ·split
   ·exact ansN_len
   ·simp
  ·simp
 unfold uW
 split
 ·exact hK _
 ·simp
section
variable {n w t:Nat}{A A':List AC}{x:WM}{s:Nat}{r:Int}
theorem LN.sn(h:LN n w t A x):t % n<n:=Nat.mod_lt _ (by have:=h.n8;omega)
theorem LN.rank(h:LN n w t A x){i:Nat}(hi:i<n){R:Int}{L:List Pa}(ha:A.getD i none=some (R,L)):rankN i (vS d0 x i)=R∧(vS d0 x i).synced=true:=by
 have hs:=(h.nd i hi).st
 rw[ha] at hs
 dsimp only at hs
 have hsy:(vS d0 x i).synced=true:=hs.1
 refine⟨?_,hsy⟩
 unfold rankN
 rw[if_pos hsy]
 have h2:=hs.2
 by_cases hi0:i=0
 ·rw[if_pos hi0] at h2 ⊢
  exact h2.2.2.1.symm
 ·rw[if_neg hi0] at h2 ⊢
  obtain⟨_,_,L',y,p1,_⟩:=h2
  rw[show (vS d0 x i).p=(x.nd i).p from rfl,p1]
theorem LN.first(h:LN n w t A x){i:Nat}(hi:i<n){R:Int}{L:List Pa}(ha:A.getD i none=some (R,L)):qM (vS d0 x i)=zB (some (R,L))∧dueN (cT n w) (vS d0 x i)=false:=by
 have hs:=(h.nd i hi).st
 rw[ha] at hs
 dsimp only at hs
 have h2:=hs.2
 by_cases hi0:i=0
 ·rw[if_pos hi0] at h2
  obtain⟨p1,p2,p3,p4⟩:=h2
  subst p4
  refine⟨?_,?_⟩
  ·unfold qM;rw[show (vS d0 x i).p=(x.nd i).p from rfl,p1];rfl
  ·unfold dueN;rw[show (vS d0 x i).k=(x.nd i).k from rfl,p2]
 ·rw[if_neg hi0] at h2
  obtain⟨_,_,L',y,p1,p2,p3,p4,p5,p6,p7,p8⟩:=h2
  refine⟨?_,?_⟩
  ·unfold qM
   rw[show (vS d0 x i).p=(x.nd i).p from rfl,p1]
   cases L' with
   |nil=>rw[←p2];rfl
   |cons f q=>rw[←p2];rfl
  ·unfold dueN
   rw[show (vS d0 x i).k=(x.nd i).k from rfl,p6]
   have:=gap_bd h.n8 t (zB (some (R,L)))
   have hn:=h.n8
   exact decide_eq_false (by show¬(10:Int)≤y;omega)
theorem LN.beaconF(h:LN n w t A x)(hs:s<n)(hq:(x.nd s).q=[]){L:List Pa}(ha:A.getD s none=some (r,L)):
  nxC n w t x s=⟨3,s,64,(x.nd s).seq,[⟨1,t,r,0,[]⟩,⟨3,0,0,0,[11,15,20]⟩],[]⟩:=by
 have hk:(pktN (vS d0 x s)).2.2=false:=by unfold pktN;rw[show (vS d0 x s).q=(x.nd s).q from rfl,hq]
 unfold nxC nextN
 rw[hk,if_neg (by decide),(h.first hs ha).2,if_neg (by simp)]
 unfold syncE
 rw[(h.rank hs ha).1]
 rfl
theorem LN.sc0(h:LN n w t A x)(hq:(x.nd (t % n)).q=[]){L:List Pa}(ha:A.getD (t % n) none=some (r,L))(hr:0≤r∧r≤200):SC n w t A x (t % n) r∧(nxC n w t x (t % n)).kind=3:=by
 have hs:=h.sn
 have hF:=h.beaconF hs hq ha
 have hn:=h.n8
 have ht:=h.t2
 have hsq:=(h.nd _ hs).seq
 refine⟨⟨h,hs,rfl,by rw[ha];rfl,?_,by rw[hF],by rw[hF],?_,hr,.inl (by rw[hF];exact⟨rfl,rfl⟩)⟩,by rw[hF]⟩
 ·rw[hF]
  have m1:mayE ⟨1,t,r,0,[]⟩=true:=mayE_sync (by omega) (by omega) hr.1 (by omega)
  have m2:mayE ⟨3,0,0,0,[11,15,20]⟩=true:=by decide
  have a1:qt ((t % n:Nat):Int)=true:=by unfold qt inR;simp;omega
  have a3:((64:Int) != ((t % n:Nat):Int))=true:=by simp;omega
  have a4:inR (x.nd (t % n)).seq 0 255=true:=by unfold inR;simp;omega
  unfold mayF zY
  simp only[List.all_cons,List.all_nil,m1,m2,Bool.and_true]
  rw[a1,a3,a4]
  simp[zH]
 ·rw[hF]
  unfold zV zH
  simp
theorem LN.beacon(h:LN n w t A x)(hd:DtOk n x)(hq:(x.nd (t % n)).q=[]){L:List Pa}(ha:A.getD (t % n) none=some (r,L))(hok:jL n w (t % n) A (zd n w t (t % n) r A)=true)(ht:t<2000):
  LN n w (t+1) (zd n w t (t % n) r A) (zX (qp (cT n w) d0 n t qG x))∧SlotOkV (cT n w) d0 qG t x∧(∀i,i<n→dtOf ((zX (qp (cT n w) d0 n t qG x)).nd i)=dtOf (x.nd i))∧evK (qp (cT n w) d0 n t qG x).ev=[]:=by
 have hr:=ok_rank hok ha
 obtain⟨hS,hk3⟩:=h.sc0 hq ha hr
 obtain⟨s,hs⟩:=qZ (t % n)
 rw[←hs] at hS hk3 hq ha hok ⊢
 have hback:∀i s1,zL (cT n w) i (nxC n w t x s) s1=s1:=λi s1=>by unfold zL;rw[if_neg (λe=>by rw[hk3] at e;cases e.2)]
 have hop:(sendN (vS d0 x s) (nxC n w t x s) t).sopen=false:=by show ((nxC n w t x s).kind != 3)=false;rw[hk3];rfl
 have hQs:uQ (cT n w) d0 t x qG s=noEv (sendN (vS d0 x s) (nxC n w t x s) t):=by
  rw[hS.oQs]
  exact ackDN_closed (.inr (.inl hop))
 have hCs:CM n t s (zh n w t s r s (A.getD s none)) (sendN (vS d0 x s) (nxC n w t x s) t):=by
  have e:zh n w t s r s (A.getD s none)=A.getD s none:=by unfold zh;rw[near_self,if_neg (by decide)]
  rw[e]
  have hN:=h.nd s hS.sn
  have hi:=hN.idle h.n8 (λR L' ha' p hp=>by
   by_cases hi0:s=0
   ·have hst:=hN.st
    rw[ha'] at hst
    dsimp only at hst
    rw[if_pos hi0] at hst
    rw[hst.2.2.2.2] at hp;cases hp
   ·rw[←hs]
    rcases (ok_of hok hS.sn hi0 ha').2.2 p hp with e|⟨_,e⟩
    ·exact e
    ·rw[near_self] at e;cases e)
  have hsq:=hN.seq
  exact (hi.seqs (((x.nd s).seq+1) % 256) (by omega)).cong rfl
 have hal:(zd n w t s r A).length=n:=by unfold zd;simp
 obtain⟨a1,a2,a3,a4⟩:=h.fin (A':=zd n w t s r A) hal hd (λi hi=>by
   rw[hearAll_at t hi]
   by_cases his:i=s
   ·subst his;rw[hQs];exact hCs.noEv
   ·exact (hS.hrs hok hi his).1) (λq hq' he=>by
   by_cases his:q=s
   ·subst his
    refine⟨rfl,by have:=uW_len (cT n w) d0 t x q;omega,.inl (.inr (.inl ?_))⟩
    rw[hS.oHs];exact hop
   ·rw[hS.vo hq' his] at he;cases he) (λj hj=>by
   by_cases his:j=s
   ·subst his
    unfold vA;rw[hS.pl]
    have:=encF_len _ hS.may
    show (encF (nxC n w t x j)).length≤100000
    omega
   ·rw[hS.vo hj his];simp) ht
 refine⟨a1,a2,λi hi=>?_,?_⟩
 ·rw[a3 i hi]
  by_cases his:i=s
  ·subst his;rw[hQs];rfl
  ·obtain⟨_,s1,b1,b2,b3,_⟩:=hS.hrs hok hi his
   rw[hS.oQ hi his]
   rcases b3 with e|e
   ·rw[e];exact b1.symm
   ·rw[e,hback];exact b1.symm
 ·rw[a4,flat_nil (λi hi=>?_),flat_nil (λi hi=>?_)]
  ·rfl
  ·rw[List.mem_range] at hi
   by_cases his:i=s
   ·subst his;rw[hS.ve,if_neg (by decide),hQs];rfl
   ·rw[hS.vo hi his];rfl
  ·rw[List.mem_range] at hi
   by_cases his:i=s
   ·subst his
    rw[hS.oHs]
    show evK (x.nd i).ev=[]
    rw[(h.nd i hi).ev];rfl
   ·obtain⟨_,s1,b1,b2,b3,_⟩:=hS.hrs hok hi his
    rcases b3 with e|e
    ·rw[e];exact b2
    ·rw[e,hback];exact b2
theorem LN.step(h:LN n w t A x)(hd:DtOk n x)(hq:(x.nd (t % n)).q=[])(hok:jL n w (t % n) A (jV n w t A)=true)(ht:t<2000):
  LN n w (t+1) (jV n w t A) (zX (qp (cT n w) d0 n t qG x))∧SlotOkV (cT n w) d0 qG t x∧(∀i,i<n→dtOf ((zX (qp (cT n w) d0 n t qG x)).nd i)=dtOf (x.nd i))∧evK (qp (cT n w) d0 n t qG x).ev=[]:=by
 unfold jV at hok ⊢
 cases ha:A.getD (t % n) none with
 |none=>rw[ha] at hok;exact h.quiet hd ha hok ht
 |some q=>obtain⟨R,L⟩:=q;rw[ha] at hok;exact h.beacon hd hq ha hok ht
end
structure Std(n w:Nat)(A:List AC):Prop where
 al:A.length=n
 a0:A.getD 0 none=some (0,[])
 syn:∀i,i<n→(A.getD i none).isSome=true
 fst:∀i,i<n→i≠0→zB (A.getD i none)=((i-w:Nat):Int)
 hr:∀s,s<n→∀r L,A.getD s none=some (r,L)→∀t,zd n w t s r A=A
 ok:∀s,s<n→jL n w s A A=true
theorem std_of{n w:Nat}{A:List AC}(h:steadyB n w A=true):Std n w A:=by
 unfold steadyB at h
 simp only[Bool.and_eq_true,decide_eq_true_eq,List.all_eq_true,List.mem_range,Bool.or_eq_true,beq_iff_eq] at h
 obtain⟨⟨⟨h1,h2⟩,h3⟩,h4⟩:=h
 have hsy:∀i,i<n→(A.getD i none).isSome=true:=λi hi=>(h3 i hi).1
 refine⟨h1,h2,hsy,λi hi hi0=>?_,λs hs r L ha t=>?_,λs hs=>(h4 s hs).2⟩
 ·rcases (h3 i hi).2 with e|e
  ·exact absurd e hi0
  ·exact e
 ·have h5:=(h4 s hs).1
  rw[ha] at h5
  have h6:zd n w 0 s r A=A:=by simpa using h5
  have h7:zd n w t s r A=zd n w 0 s r A:=by
   unfold zd
   apply List.map_congr_left
   intro i hi
   rw[List.mem_range] at hi
   have h8:=hsy i hi
   cases he:A.getD i none with
   |none=>rw[he] at h8;cases h8
   |some q=>unfold zh;rfl
  rw[h7,h6]
theorem Std.abs{n w:Nat}{A:List AC}(h:Std n w A)(t:Nat)(hn:0<n):jV n w t A=A:=by
 unfold jV
 have hs:t % n<n:=Nat.mod_lt _ hn
 cases he:A.getD (t % n) none with
 |none=>rfl
 |some q=>obtain⟨r,L⟩:=q;exact h.hr _ hs r L he t
theorem Std.at{n w:Nat}{A:List AC}(h:Std n w A){i:Nat}(hi:i<n):∃r L,A.getD i none=some (r,L):=by
 have:=h.syn i hi
 cases he:A.getD i none with
 |none=>rw[he] at this;cases this
 |some q=>exact⟨q.1,q.2,rfl⟩
theorem Std.rk{n w:Nat}{A:List AC}(h:Std n w A){i:Nat}(hi:i<n){r:Int}{L:List Pa}(ha:A.getD i none=some (r,L)):0≤r∧r≤200:=ok_rank (h.ok i hi) ha
theorem Std.hear{n w:Nat}{A:List AC}(h:Std n w A){i s:Nat}(hi:i<n)(hs:s<n){r:Int}{L:List Pa}(ha:A.getD s none=some (r,L))(t:Nat):zh n w t s r i (A.getD i none)=A.getD i none:=by
 rw[←hearAll_at t hi,h.hr s hs r L ha t]
theorem CN.seqs{n t i:Nat}{a:AC}{s:NSt}(h:CN n t i a s)(y:Int)(hy:0≤y∧y≤255):CN n t i a {s with seq:=y}:=⟨h.base,h.sum,h.slots,h.lis,hy,h.tries,h.ev,h.st⟩
theorem near_sym{w i j:Nat}(h:zG w i j=true):zG w j i=true:=by
 unfold zG at h ⊢
 simp only[Bool.and_eq_true,decide_eq_true_eq] at h ⊢
 omega
theorem near_ne{w i j:Nat}(h:zG w i j=true):i≠j:=by
 unfold zG at h
 simp only[Bool.and_eq_true,decide_eq_true_eq] at h
 exact h.1
section
variable {n w t:Nat}{A:List AC}{x:WM}{s D:Nat}{r:Int}
theorem LN.dataF(h:LN n w t A x)(hS:Std n w A)(hs:s<n){tt:Int}{P:List Int}(hq:(x.nd s).q=[(tt,P)])(hto:(if tt=64 then qM (vS d0 x s) else tt)=(D:Int))(hD:D<n){L:List Pa}(ha:A.getD s none=some (r,L)):
  nxC n w t x s=⟨1,s,D,(x.nd s).seq,[⟨1,t,r,0,[]⟩],P⟩:=by
 have hn:=h.n8
 have hk:pktN (vS d0 x s)=(P,(D:Int),true):=by
  unfold pktN
  rw[show (vS d0 x s).q=(x.nd s).q from rfl,hq]
  dsimp only
  rw[hto]
  have:((D:Int)≠64):=by omega
  rw[decide_eq_true this]
 unfold nxC nextN
 rw[hk]
 dsimp only
 unfold syncE
 rw[(h.rank hs ha).1]
 rfl
theorem LN.sc1(h:LN n w t A x)(hS:Std n w A){tt:Int}{P:List Int}(hs:s=t % n)(hq:(x.nd s).q=[(tt,P)])(hto:(if tt=64 then qM (vS d0 x s) else tt)=(D:Int))(hD:D<n)(hDs:D≠s)(hP:P≠[]∧P.length≤64){L:List Pa}(ha:A.getD s none=some (r,L)):
  SC n w t A x s r:=by
 have hsn:s<n:=by rw[hs];exact h.sn
 have hF:=h.dataF hS hsn hq hto hD ha
 have hn:=h.n8
 have ht:=h.t2
 have hsq:=(h.nd _ hsn).seq
 have hr:=hS.rk hsn ha
 refine⟨h,hsn,hs.symm,hS.syn s hsn,?_,by rw[hF],by rw[hF],?_,hr,.inr ⟨by rw[hF],hS.syn⟩⟩
 ·rw[hF]
  have m1:mayE ⟨1,t,r,0,[]⟩=true:=mayE_sync (by omega) (by omega) hr.1 (by omega)
  have a1:qt (s:Int)=true:=by unfold qt inR;simp;omega
  have a2:qt (D:Int)=true:=by unfold qt inR;simp;omega
  have a3:((D:Int) != (s:Int))=true:=by simp;omega
  have a4:inR (x.nd s).seq 0 255=true:=by unfold inR;simp;omega
  have a5:((D:Int) != 64)=true:=by simp;omega
  have a6:decide (P.length≤64)=true:=decide_eq_true hP.2
  have a7:decide (P=[])=false:=decide_eq_false hP.1
  unfold mayF zY
  simp only[List.all_cons,List.all_nil,m1,Bool.and_true,a5,a6,a7]
  rw[a1,a2,a3,a4]
  simp
 ·rw[hF]
  unfold zV zH
  simp
theorem LN.data(h:LN n w t A x)(hS:Std n w A)(hd:DtOk n x){tt:Int}{P:List Int}(hs:s=t % n)(hq:(x.nd s).q=[(tt,P)])(hto:(if tt=64 then qM (vS d0 x s) else tt)=(D:Int))(hD:D<n)(hnb:zG w s D=true)(hP:P≠[]∧P.length≤64)(ht:t<2000):
  LN n w (t+1) A (zX (qp (cT n w) d0 n t qG x))∧SlotOkV (cT n w) d0 qG t x∧
   (∀i,i<n→i≠s→i≠D→dtOf ((zX (qp (cT n w) d0 n t qG x)).nd i)=dtOf (x.nd i))∧
   dtOf ((zX (qp (cT n w) d0 n t qG x)).nd s)=dtOf {(x.nd s) with q:=[]}∧
   ∃s1,SameD (x.nd D) s1∧evK s1.ev=[]∧dtOf ((zX (qp (cT n w) d0 n t qG x)).nd D)=dtOf (zm (cT n w) D s1 P)∧evK (qp (cT n w) d0 n t qG x).ev=evK (zm (cT n w) D s1 P).ev:=by
 have hsn:s<n:=by rw[hs];exact h.sn
 have hDs:D≠s:=(near_ne hnb).symm
 obtain⟨r,L,ha⟩:=hS.at hsn
 obtain⟨rD,LD,haD⟩:=hS.at hD
 have hSC:=h.sc1 hS hs hq hto hD hDs hP ha
 have hF:=h.dataF hS hsn hq hto hD ha
 have hn:=h.n8
 have hrD:=hS.rk hD haD
 have hall:zd n w t s r A=A:=hS.hr s hsn r L ha t
 have hok:jL n w s A (zd n w t s r A)=true:=by rw[hall];exact hS.ok s hsn
 have hid:∀i,i<n→zh n w t s r i (A.getD i none)=A.getD i none:=λi hi=>hS.hear hi hsn ha t
 obtain⟨F,hFe⟩:=qZ (nxC n w t x s)
 have hoth:=λi (hi:i<n) (his:i≠s)=>hSC.hrs hok hi his
 rw[←hFe] at hF hoth
 have hF1:F.kind=1:=by rw[hF]
 have hFd:F.dst=(D:Int):=by rw[hF]
 have hFs:F.src=(s:Int):=by rw[hF]
 have hback:∀i s1,i≠D→zL (cT n w) i F s1=s1:=λi s1 hi=>by unfold zL;rw[if_neg (λe=>by rw[hFd] at e;omega)]
 have hbackD:∀s1,zL (cT n w) D F s1=zm (cT n w) D s1 P:=λs1=>by unfold zL;rw[if_pos ⟨hFd,hF1⟩,hF]
 -- the node that it goes to
 obtain⟨cD,s1,b1,b2,b3,b4⟩:=hoth D hD hDs
 obtain⟨c1,c2,c3,c4⟩:=b4 (near_sym hnb) (hS.syn D hD)
 rw[hid D hD] at c4
 have hrk1:rankN D s1=rD:=by
  have hst:=c4.st
  rw[haD] at hst
  dsimp only at hst
  unfold rankN
  rw[if_pos hst.1]
  have h2:=hst.2
  by_cases hD0:D=0
  ·rw[if_pos hD0] at h2 ⊢;exact h2.2.2.1.symm
  ·rw[if_neg hD0] at h2 ⊢
   obtain⟨_,_,L',y,p1,_⟩:=h2
   rw[p1]
 obtain⟨Ak,hAk⟩:∃Ak:Fr,Ak=⟨2,D,s,(x.nd s).seq,[⟨1,t,rD,0,[]⟩,⟨2,0,0,0,[]⟩],[]⟩:=⟨_,rfl⟩
 have hackF:ackFr D s1 F t 0=Ak:=by
  unfold ackFr syncE
  rw[hrk1,hFs,hAk,hF];rfl
 have hsq:=(h.nd s hsn).seq
 have hmayA:mayF Ak=true:=by
  rw[hAk]
  have m1:mayE ⟨1,t,rD,0,[]⟩=true:=mayE_sync (by omega) (by have:=h.t2;omega) hrD.1 (by omega)
  have m2:mayE ⟨2,0,0,0,[]⟩=true:=by decide
  have a1:qt (D:Int)=true:=by unfold qt inR;simp;omega
  have a2:qt (s:Int)=true:=by unfold qt inR;simp;omega
  have a3:((s:Int) != (D:Int))=true:=by simp;omega
  have a4:inR (x.nd s).seq 0 255=true:=by unfold inR;simp;omega
  have a5:((s:Int) != 64)=true:=by simp;omega
  unfold mayF zY
  simp only[List.all_cons,List.all_nil,m1,m2,Bool.and_true,a5]
  rw[a1,a2,a3,a4]
  simp
 have hK:uK (cT n w) d0 t x D=some (encF Ak):=by
  rw[hSC.oK hD hDs]
  have hh:jN n w t s D (A.getD D none)=true:=by unfold jN;rw[near_sym hnb,hS.syn D hD];rfl
  rw[if_pos hh,←hFe]
  have:=c3 (vW D F t 0) (λy y' e=>by
   unfold tmOf at e
   simp only[Prod.mk.injEq] at e
   obtain⟨_,_,_,_,_,_,e7,e8,_⟩:=e
   have:rankN D y=rankN D y':=by unfold rankN;rw[e7,e8]
   unfold vW ackFr syncE
   rw[this])
  rw[this]
  unfold vW
  rw[if_pos ⟨hFd,.inl hF1⟩,hackF,if_pos hmayA]
 have hW:uW (cT n w) d0 t x s=some (encF Ak):=by
  unfold uW
  rw[hSC.dx,←hFe]
  dsimp only
  rw[hFd]
  have e1:inR (D:Int) 0 (((cT n w).nodes:Int)-1)=true:=by unfold inR;show (decide ((0:Int)≤D)&&decide ((D:Int)≤(n:Int)-1))=true;simp;omega
  have e2:bitW (atL (cT n w).near s) (atL d0.acks s) (D:Int).toNat=true:=by
   rw[show ((D:Int)).toNat=D from by omega,show atL d0.acks s=0 from rfl,cT_bit h.n8 h.w3 hsn hD];exact hnb
  rw[e1,e2]
  show uK (cT n w) d0 t x (D:Int).toNat=_
  rw[show ((D:Int)).toNat=D from by omega,hK]
 have hdec:decF (encF Ak)=(0,Ak):=decF_enc _ hmayA
 have hrkA:zV Ak t=(rD,true):=by rw[hAk];unfold zV zH;simp
 have htk:ticksF Ak=0:=by rw[hAk];unfold ticksF zH;simp
 -- the sender
 obtain⟨y,hy⟩:=qZ (noEv (sendN (vS d0 x s) F t))
 have hyq:y.q=[(tt,P)]:=by rw[hy];exact hq
 have hya:y.synced=true∧y.sopen=true∧y.sasn=(t:Int)∧y.sdst=(D:Int)∧y.sseq=(x.nd s).seq∧y.skind=1:=by
  rw[hy]
  refine⟨(h.rank hsn ha).2,?_,rfl,hFd,by show F.seq=_;rw[hF],hF1⟩
  show (F.kind != 3)=true
  rw[hF1];rfl
 have hgood:zf s y (0,Ak) t=true:=by
  unfold zf
  rw[hrkA,hya.2.2.2.1,hya.2.2.2.2.1,hAk]
  simp
 have hQs:uQ (cT n w) d0 t x qG s=vm s (qh (opnN y false)) Ak D rD t:=by
  rw[hSC.oQs,hW,←hFe,←hy]
  unfold vJ
  rw[hya.1,hya.2.1,decide_eq_true hya.2.2.1]
  simp only[Bool.and_self,if_true,Option.getD_some]
  rw[hdec,if_pos hgood]
  unfold acksN
  rw[if_pos (show (opnN y false).skind=1 from hya.2.2.2.2.2),hrkA,hya.2.2.2.1]
 obtain⟨z,hz⟩:=qZ (qh (opnN y false))
 rw[←hz] at hQs
 obtain⟨u,hu⟩:=qZ ({(x.nd s) with seq:=((x.nd s).seq+1) % 256})
 have hNu:CN n t s (A.getD s none) u:=by rw[hu];exact (h.nd s hsn).seqs _ (by omega)
 have htz:tmOf z=tmOf (vy s 0 u):=by
  rw[hz,hy,hu]
  have e6:=(h.nd s hsn).tries
  unfold tmOf
  show ((x.nd s).base,_,_,_,_,(0:Int),_,_,_)=((x.nd s).base,_,_,_,_,(x.nd s).tries,_,_,_)
  rw[e6];rfl
 have hdz:dtOf z=dtOf {(x.nd s) with q:=[]}:=by
  have e0:z.q=[]:=by
   have e1:z.q=y.q.tail:=by rw[hz];rfl
   rw[e1,hyq];rfl
  unfold dtOf
  rw[e0,hz,hy];rfl
 have hze:z.ev=[]:=by rw[hz,hy];rfl
 have hnoL:∀R L',A.getD s none=some (R,L')→∀p∈L',p.node≠((t % n:Nat):Int):=λR L' ha' p hp=>by
  rw[←hs]
  by_cases hs0:s=0
  ·have hst:=hNu.st
   rw[ha'] at hst
   dsimp only at hst
   rw[if_pos hs0] at hst
   rw[hst.2.2.2.2] at hp;cases hp
  ·rcases (ok_of hok hsn hs0 ha').2.2 p hp with e|⟨_,e⟩
   ·exact e
   ·rw[near_self] at e;cases e
 have hCs:CM n t s (A.getD s none) (uQ (cT n w) d0 t x qG s)∧dtOf (uQ (cT n w) d0 t x qG s)=dtOf {(x.nd s) with q:=[]}∧evK (uQ (cT n w) d0 t x qG s).ev=[]:=by
  rw[hQs]
  unfold vm
  by_cases hc:s≠0∧qM z=(D:Int)
  ·rw[if_pos hc,htk]
   have hh:=hS.hear hsn hD haD t
   rw[ha] at hh hNu ⊢
   unfold zh at hh
   rw[if_pos hnb] at hh
   dsimp only at hh
   rw[if_neg hc.1] at hh
   have hh2:some (qy r L D rD 0)=some (r,L):=hh
   have hst64:=(ok_of (hS.ok s hsn) hsn hc.1 ha).1
   rw[ha] at hst64
   obtain⟨k1,k2⟩:=hNu.hears (s':=z) h.n8 hc.1 htz D hD hDs rD hrD (.inr (λp hp=>hnoL r L ha p hp)) (by rw[hh2];exact hst64) (.inl (by rw[hh2]))
   rw[hh2] at k1
   exact⟨k1,k2.trans hdz,by rw[evK_hears,hze];rfl⟩
  ·rw[if_neg hc]
   exact⟨(hNu.idle h.n8 hnoL).cong htz,hdz,by rw[hze];rfl⟩
 obtain⟨a1,a2,a3,a4⟩:=h.fin (A':=A) hS.al hd (λi hi=>by
   by_cases his:i=s
   ·subst his;exact hCs.1
   ·have:=(hoth i hi his).1
    rw[hid i hi] at this;exact this) (λq hq' he=>by
   by_cases his:q=s
   ·subst his
    have hoHs:=hSC.oHs
    rw[←hFe] at hoHs
    refine⟨rfl,by have:=uW_len (cT n w) d0 t x q;omega,.inr ⟨?_,?_,?_,?_,λ_=>?_⟩⟩
    ·rw[hoHs];show-1000000000000000≤(x.nd q).base∧(x.nd q).base≤1000000000000000;rw[(h.nd q hq').base];omega
    ·rw[hoHs]
     show (x.nd q).p≠none→(x.nd q).k≠none
     intro hp
     have hst:=(h.nd q hq').st
     rw[ha] at hst
     dsimp only at hst
     have h2:=hst.2
     by_cases h0:q=0
     ·rw[if_pos h0] at h2;exact absurd h2.1 hp
     ·rw[if_neg h0] at h2
      obtain⟨_,_,L',v,_,_,_,_,_,p6,_⟩:=h2
      rw[p6];simp
    ·rw[hoHs];show 0≤F.dst∧F.dst<(n:Int);rw[hFd];omega
    ·rw[hoHs];show F.dst≠(q:Int);rw[hFd];omega
    ·rw[hoHs]
     have e1:(noEv (sendN (vS d0 x q) F t)).q=(x.nd q).q:=rfl
     have e2:(noEv (sendN (vS d0 x q) F t)).tries=(x.nd q).tries:=rfl
     rw[e1,e2,(h.nd q hq').tries]
     have hdq:=hd q hq'
     exact⟨by rw[hq];simp,hdq.1.1,λp hp=>by have:=hdq.1.2 p hp;omega,by omega⟩
   ·rw[hSC.vo hq' his] at he;cases he) (λj hj=>by
   by_cases his:j=s
   ·subst his
    unfold vA;rw[hSC.pl]
    have:=encF_len _ hSC.may
    show (encF (nxC n w t x j)).length≤100000
    omega
   ·rw[hSC.vo hj his];simp) ht
 refine⟨a1,a2,λi hi his hiD=>?_,?_,s1,b1,b2,?_,?_⟩
 ·rw[a3 i hi,hSC.oQ hi his]
  obtain⟨_,s2,d1,d2,d3,_⟩:=hoth i hi his
  rcases d3 with e|e
  ·rw[e];exact d1.symm
  ·rw[e,hback i s2 hiD];exact d1.symm
 ·rw[a3 s hsn];exact hCs.2.1
 ·rw[a3 D hD,hSC.oQ hD hDs,c1,hbackD];rfl
 ·have hoHs:=hSC.oHs
  rw[←hFe] at hoHs
  have e2:(List.range n).flatMap (λi=>evK (if (vA (cT n w) d0 t x i).2.1.isEmpty then [] else (uQ (cT n w) d0 t x qG i).ev))=[]:=flat_nil (λi hi=>by
   rw[List.mem_range] at hi
   by_cases his:i=s
   ·subst his;rw[hSC.ve,if_neg (by decide)];exact hCs.2.2
   ·rw[hSC.vo hi his];rfl)
  rw[a4,e2,List.append_nil]
  have hone:∀k,k≤n→(List.range k).flatMap (λi=>evK (uH (cT n w) d0 t x qG i).ev)=if D<k then evK (zm (cT n w) D s1 P).ev else []:=by
   intro k
   induction k with
   |zero=>intro _;simp
   |succ k ih=>
    intro hk
    rw[List.range_succ,List.flatMap_append,ih (by omega)]
    have hlast:[k].flatMap (λi=>evK (uH (cT n w) d0 t x qG i).ev)=if k=D then evK (zm (cT n w) D s1 P).ev else []:=by
     rw[List.flatMap_cons,List.flatMap_nil,List.append_nil]
     by_cases hkD:k=D
     ·subst hkD
      rw[if_pos rfl,c1,hbackD]
     ·rw[if_neg hkD]
      by_cases his:k=s
      ·subst his
       rw[hoHs]
       show evK (x.nd k).ev=[]
       rw[(h.nd k (by omega)).ev];rfl
      ·obtain⟨_,s2,d1,d2,d3,_⟩:=hoth k (by omega) his
       rcases d3 with e|e
       ·rw[e];exact d2
       ·rw[e,hback k s2 hkD];exact d2
    rw[hlast]
    by_cases h1:D<k
    ·rw[if_pos h1,if_neg (by omega),if_pos (by omega),List.append_nil]
    ·rw[if_neg h1,List.nil_append]
     by_cases h2:k=D
     ·rw[if_pos h2,if_pos (by omega)]
     ·rw[if_neg h2,if_neg (by omega)]
  rw[hone n (Nat.le_refl _),if_pos hD]
end
theorem num_be6(x:Int)(h0:0≤x)(h1:x<281474976710656):num (be 6 x)=x:=by
 simp only[be,num,List.foldl]
 have e5:(256:Int)^5=1099511627776:=rfl
 have e4:(256:Int)^4=4294967296:=rfl
 have e3:(256:Int)^3=16777216:=rfl
 have e2:(256:Int)^2=65536:=rfl
 have e1:(256:Int)^1=256:=rfl
 have e0:(256:Int)^0=1:=rfl
 rw[e5,e4,e3,e2,e1,e0]
 omega
theorem decP_enc(p:Pk)(h:mayP p=true):decP (encP p)=(0,p):=by
 obtain⟨m1,m2,m3,m4,m5,m6,m7,m8⟩:=jD h
 have e0:encP p=p.src::p.dst::(be 6 p.n++(p.life::(p.path.length:Int)::(p.path++((p.data.length:Int)::(p.data++[]))))):=by
  unfold encP
  rw[be1 p.src (by omega) (by omega),be1 p.dst (by omega) (by omega),be1 p.life (by omega) (by omega),be1 (p.path.length:Int) (by omega) (by omega),be1 (p.data.length:Int) (by omega) (by omega)]
  simp only[List.append_assoc,List.cons_append,List.nil_append,List.append_nil]
 rw[e0]
 unfold decP
 simp only[zt,zM,rTakeS_app]
 rw[if_neg (by omega)]
 rw[vj _ _ _ rfl]
 simp only[zt,zM]
 have e1:¬rEnd ⟨p.data++[],0⟩=2:=by
  have:=jq (p.data++[])
  unfold zq at this
  simpa using this
 rw[if_neg e1]
 have e2:inR (p.data.length:Int) 1 24=true:=by unfold inR;simp;omega
 rw[e2,vj _ _ _ rfl,rText_app _ _ _ rfl,rText_app _ _ _ rfl,rTake_app 6 _ _ (num_be6 _ m4.1 (by omega))]
 have e3:rEnd ⟨[],0⟩=0:=rfl
 simp only[Bool.not_true,Bool.false_eq_true,if_false]
 rw[if_neg (by rw[e3];simp),if_pos (by exact h)]
def AS(n w:Nat):Nat→List AC
 |0=>startA n
 |t+1=>jV n w t (AS n w t)
theorem start_dec:(List.range 7).all (λa=>decide (decA (a+2) 1=startA (a+2)))=true:=by decide+kernel
section
variable {n w:Nat}
theorem joins_ok(hn:2≤n∧n≤8)(hw:1≤w∧w≤3):steadyB n w (AS n w (25*n))=true∧∀t,t<25*n→jL n w (t % n) (AS n w t) (AS n w (t+1))=true:=by
 have hd:decA n 1=startA n:=by
  have h:=start_dec
  rw[List.all_eq_true] at h
  have:=h (n-2) (by rw[List.mem_range];omega)
  rw[decide_eq_true_eq,show n-2+2=n from by omega] at this
  exact this
 have hr:=joins hn hw
 obtain⟨A,h1,h2,h3⟩:=runB_ind (n:=n) (w:=w) (N:=25*n) (fin:=steadyB n w) (Inv:=λt A=>A=AS n w t∧∀k,k<t→jL n w (k % n) (AS n w k) (AS n w (k+1))=true)
  (λnow A hI hok=>by
   obtain⟨rfl,hI⟩:=hI
   refine⟨rfl,λk hk=>?_⟩
   by_cases e:k=now
   ·subst e;exact hok
   ·exact hI k (by omega)) (25*n) 1 (Nat.le_refl _) hr (by
   rw[Nat.sub_self,hd]
   exact⟨rfl,λk hk=>absurd hk (Nat.not_lt_zero _)⟩)
 rw[h2] at h1
 exact⟨h1,h3⟩
theorem AS_std(hn:2≤n∧n≤8)(hw:1≤w∧w≤3)(t:Nat)(ht:25*n≤t):Std n w (AS n w t):=by
 have h:=std_of (joins_ok hn hw).1
 have key:∀k,AS n w (25*n+k)=AS n w (25*n):=by
  intro k
  induction k with
  |zero=>rfl
  |succ k ih=>
   show jV n w (25*n+k) (AS n w (25*n+k))=_
   rw[ih,h.abs _ (by omega)]
 have:=key (t-25*n)
 rw[show 25*n+(t-25*n)=t from by omega] at this
 rw[this];exact h
theorem AS_ok(hn:2≤n∧n≤8)(hw:1≤w∧w≤3)(t:Nat):jL n w (t % n) (AS n w t) (jV n w t (AS n w t))=true:=by
 by_cases ht:t<25*n
 ·exact (joins_ok hn hw).2 t ht
 ·have h:=AS_std hn hw t (by omega)
  rw[h.abs t (by omega)]
  exact h.ok _ (Nat.mod_lt _ (by omega))
theorem startA_at{i:Nat}(hi:i<n):(startA n).getD i none=if i=0 then some (0,[]) else none:=by
 unfold startA
 cases i with
 |zero=>rfl
 |succ k=>
  rw[if_neg (by omega)]
  simp only[List.getD_eq_getElem?_getD,List.getElem?_cons_succ,List.getElem?_replicate]
  split <;> rfl
theorem LN.start(hn:2≤n∧n≤8)(hw:1≤w∧w≤3):LN n w 0 (AS n w 0) (newW (cT n w))∧∀i,i<n→dtOf ((newW (cT n w)).nd i)=dtOf (newN i):=by
 have hnd:∀i,i<n→(newW (cT n w)).nd i=newN i:=λi hi=>newW_nd (cT n w) i hi
 refine⟨⟨hn,hw,by omega,by show ((List.range n).map newN).length=n;simp,by show (startA n).length=n;unfold startA;simp;omega,λi hi=>?_,rfl,?_⟩,λi hi=>by rw[hnd i hi]⟩
 ·rw[hnd i hi]
  show CN n 0 i ((startA n).getD i none) (newN i)
  rw[startA_at hi]
  refine⟨rfl,rfl,rfl,⟨Int.le_refl _,Int.le_refl _⟩,⟨by show (0:Int)≤0;omega,by show (0:Int)≤255;omega⟩,rfl,rfl,?_⟩
  by_cases h0:i=0
  ·rw[if_pos h0]
   subst h0
   dsimp only
   rw[if_pos rfl]
   exact⟨rfl,rfl,rfl,rfl,rfl⟩
  ·rw[if_neg h0]
   dsimp only
   refine⟨h0,?_,rfl,rfl⟩
   show ((i:Int)==0)=false
   simp;omega
 ·show Bn n (3*((0:Nat):Int)) ((List.replicate n (-1)).set 0 0)
  refine⟨by simp,λz hz=>?_⟩
  rcases List.mem_or_eq_of_mem_set hz with h|h
  ·have:=List.eq_of_mem_replicate h;omega
  ·omega
end
abbrev DT:=List (Int×List Int)×Seen×Seen×Seen×(Int→Option (List Int))×Int
def noQ(d:DT):DT:=([],d.2)
def pathsD(d:DT):Int→Option (List Int):=d.2.2.2.2.1
structure Trip(n w m:Nat)(v:Nat→Nat)(tt:Nat→Int)(B:Nat→List Int)(S0:Nat→DT)(E:Nat→DT)(got:Ev):Prop where
 m0:0<m
 hv:∀k,k≤m→v k<n
 inj:∀j k,j≤m→k≤m→v j=v k→j=k
 near:∀k,k<m→zG w (v k) (v (k+1))=true
 tgt:∀k,k<m→tt k=(v (k+1):Int)∨(tt k=64∧v k≠0∧v (k+1)=v k-w)
 bt:∀k,k<m→B k≠[]∧(B k).length≤64
 s0:∀i,i<n→(S0 i).1=[]∧∀z L,pathsD (S0 i) z=some L→L.length≤100
 e0:∀k,k≤m→(E k).1=(if k<m then [(tt k,B k)] else [])∧∀z L,pathsD (E k) z=some L→L.length≤100
 hop:∀k,k<m→∀s1:NSt,dtOf s1=S0 (v (k+1))→evK s1.ev=[]→dtOf (zm (cT n w) (v (k+1)) s1 (B k))=E (k+1)∧evK (zm (cT n w) (v (k+1)) s1 (B k)).ev=if k+1<m then [] else [got]
structure TpAt(n m:Nat)(v:Nat→Nat)(S0:Nat→DT)(E:Nat→DT)(k:Nat)(x:WM):Prop where
 km:k≤m
 old:∀j,j<k→dtOf (x.nd (v j))=noQ (E j)
 cur:dtOf (x.nd (v k))=E k
 new:∀i,i<n→(∀j,j≤k→v j≠i)→dtOf (x.nd i)=S0 i
def Due(n m:Nat)(v:Nat→Nat)(T k t:Nat):Prop:=k<m→(t:Int)+((v k:Int)-t) % (n:Int)+1+(n:Int)*((m:Int)-1-k)≤T
section
variable {n w m:Nat}{v:Nat→Nat}{tt:Nat→Int}{B:Nat→List Int}{S0 E:Nat→DT}{got:Ev}{k t T:Nat}{x:WM}{A:List AC}
theorem TpAt.at(h:TpAt n m v S0 E k x)(hT:Trip n w m v tt B S0 E got){i:Nat}(hi:i<n):(dtOf (x.nd i)).1=(if k<m∧v k=i then [(tt k,B k)] else [])∧∀z L,pathsD (dtOf (x.nd i)) z=some L→L.length≤100:=by
 by_cases hk:v k=i
 ·subst hk
  rw[h.cur]
  have:=hT.e0 k h.km
  refine⟨?_,this.2⟩
  rw[this.1]
  by_cases hkm:k<m
  ·rw[if_pos hkm,if_pos ⟨hkm,rfl⟩]
  ·rw[if_neg hkm,if_neg (λe=>hkm e.1)]
 ·rw[if_neg (λe=>hk e.2)]
  by_cases ho:∃j,j<k∧v j=i
  ·obtain⟨j,hj,rfl⟩:=ho
   rw[h.old j hj]
   have hkm:=h.km
   exact⟨rfl,(hT.e0 j (by omega)).2⟩
  ·rw[h.new i hi (λj hj e=>by
    by_cases e2:j=k
    ·subst e2;exact hk e
    ·exact ho ⟨j,by omega,e⟩)]
   exact hT.s0 i hi
theorem TpAt.ok(h:TpAt n m v S0 E k x)(hT:Trip n w m v tt B S0 E got):DtOk n x:=λi hi=>by
 obtain⟨h1,h2⟩:=h.at hT hi
 have h1:(x.nd i).q=(if k<m∧v k=i then [(tt k,B k)] else []):=h1
 refine⟨?_,λz L hL=>by have:L.length≤100:=h2 z L hL;omega⟩
 rw[h1]
 by_cases hc:k<m∧v k=i
 ·rw[if_pos hc]
  refine⟨by simp,λp hp=>?_⟩
  simp at hp
  subst hp
  have:=(hT.bt k hc.1).2
  show (B k).length≤1000
  omega
 ·rw[if_neg hc]
  exact⟨by simp,λp hp=>by cases hp⟩
theorem due_start(hn:2≤n∧n≤8)(hm:0<m)(t0:Nat)(hT:t0+n*m≤T):Due n m v T 0 t0:=λ_=>by
 have h1:((v 0:Int)-t0) % (n:Int)≤(n:Int)-1:=by rcases jd hn with rfl|rfl|rfl|rfl|rfl|rfl|rfl <;> omega
 have h2:(n:Int)*((m:Int)-1-(0:Nat))=(n:Int)*m-n:=by rw[Int.mul_sub,Int.mul_sub];simp
 have h3:(t0:Int)+(n:Int)*(m:Int)≤T:=by exact_mod_cast hT
 omega
theorem due_end(h:Due n m v T k t)(hn:2≤n∧n≤8)(hT:T≤t):¬k<m:=λhk=>by
 have h1:=h hk
 have h2:0≤((v k:Int)-t) % (n:Int):=by rcases jd hn with rfl|rfl|rfl|rfl|rfl|rfl|rfl <;> omega
 have h3:0≤(n:Int)*((m:Int)-1-k):=Int.mul_nonneg (by omega) (by omega)
 omega
theorem due_stay(h:Due n m v T k t)(hn:2≤n∧n≤8)(hk:v k<n)(hne:v k≠t % n):Due n m v T k (t+1):=λhkm=>by
 have h1:=h hkm
 have h2:((v k:Int)-((t+1:Nat):Int)) % (n:Int)+1≤((v k:Int)-t) % (n:Int):=by
  push_cast
  rcases jd hn with rfl|rfl|rfl|rfl|rfl|rfl|rfl <;> omega
 push_cast at h2 ⊢
 omega
theorem due_hop(h:Due n m v T k t)(hn:2≤n∧n≤8)(hkm:k<m)(he:v k=t % n):Due n m v T (k+1) (t+1):=λhkm2=>by
 have h1:=h hkm
 have h0:0≤((v k:Int)-t) % (n:Int):=by rcases jd hn with rfl|rfl|rfl|rfl|rfl|rfl|rfl <;> omega
 have h2:((v (k+1):Int)-((t+1:Nat):Int)) % (n:Int)≤(n:Int)-1:=by rcases jd hn with rfl|rfl|rfl|rfl|rfl|rfl|rfl <;> omega
 have h3:(n:Int)*((m:Int)-1-((k+1:Nat):Int))=(n:Int)*((m:Int)-1-k)-n:=by
  have:((m:Int)-1-((k+1:Nat):Int))=((m:Int)-1-k)-1:=by push_cast;omega
  rw[this,Int.mul_sub,Int.mul_one]
 rw[h3]
 push_cast at h2 ⊢
 omega
theorem trip_slot(hT:Trip n w m v tt B S0 E got)(hS:Std n w A)(h:LN n w t A x)(ha:TpAt n m v S0 E k x)(hd:Due n m v T k t)(ht:t<2000):
  LN n w (t+1) A (zX (qp (cT n w) d0 n t qG x))∧SlotOkV (cT n w) d0 qG t x∧∃k',k≤k'∧TpAt n m v S0 E k' (zX (qp (cT n w) d0 n t qG x))∧Due n m v T k' (t+1)∧
   evK (qp (cT n w) d0 n t qG x).ev=if k<m∧k'=m then [got] else []:=by
 have hn:=h.n8
 have hok:=ha.ok hT
 have hsn:=h.sn
 have hvk:=hT.hv k ha.km
 by_cases hc:k<m∧v k=t % n
 ·obtain⟨hkm,hvt⟩:=hc
  have hq:(x.nd (v k)).q=[(tt k,B k)]:=by
   have:=(ha.at hT hvk).1
   rw[if_pos ⟨hkm,rfl⟩] at this
   exact this
  have hD:=hT.hv (k+1) (by omega)
  obtain⟨r,L,hA⟩:=hS.at hvk
  have hto:(if tt k=64 then qM (vS d0 x (v k)) else tt k)=(v (k+1):Int):=by
   rcases hT.tgt k hkm with e|⟨e,e1,e2⟩
   ·rw[e,if_neg (by omega)]
   ·rw[e,if_pos rfl,(h.first hvk hA).1,←hA,hS.fst (v k) hvk e1,e2]
  obtain⟨a1,a2,a3,a4,s1,a5,a6,a7,a8⟩:=h.data hS hok hvt hq hto hD (hT.near k hkm) (hT.bt k hkm) ht
  have hnew:dtOf s1=S0 (v (k+1)):=by
   rw[←a5]
   exact ha.new _ hD (λj hj e=>by have:=hT.inj j (k+1) (by omega) (by omega) e;omega)
  obtain⟨b1,b2⟩:=hT.hop k hkm s1 hnew a6
  refine⟨a1,a2,k+1,by omega,⟨by omega,λj hj=>?_,by rw[a7,b1],λi hi hno=>?_⟩,due_hop hd hn hkm hvt,?_⟩
  ·by_cases e:j=k
   ·subst e
    rw[a4]
    have hcur:=ha.cur
    show ([],(dtOf (x.nd (v j))).2)=noQ (E j)
    rw[hcur];rfl
   ·have hjn:=hT.hv j (by omega)
    rw[a3 (v j) hjn (λe2=>e (hT.inj j k (by omega) (by omega) e2)) (λe2=>by have:=hT.inj j (k+1) (by omega) (by omega) e2;omega)]
    exact ha.old j (by omega)
  ·rw[a3 i hi (λe=>hno k (by omega) e.symm) (λe=>hno (k+1) (Nat.le_refl _) e.symm)]
   exact ha.new i hi (λj hj=>hno j (by omega))
  ·rw[a8,b2]
   by_cases e:k+1<m
   ·rw[if_pos e,if_neg (λe2=>by omega)]
   ·rw[if_neg e,if_pos ⟨hkm,by omega⟩]
 ·have hq:(x.nd (t % n)).q=[]:=by
   have:=(ha.at hT hsn).1
   rw[if_neg hc] at this
   exact this
  have hok2:jL n w (t % n) A (jV n w t A)=true:=by rw[hS.abs t (by omega)];exact hS.ok _ hsn
  obtain⟨a1,a2,a3,a4⟩:=h.step hok hq hok2 ht
  rw[hS.abs t (by omega)] at a1
  refine⟨a1,a2,k,Nat.le_refl _,⟨ha.km,λj hj=>?_,by rw[a3 _ hvk];exact ha.cur,λi hi hno=>by rw[a3 i hi];exact ha.new i hi hno⟩,λhkm=>?_,?_⟩
  ·have hkm:=ha.km
   rw[a3 _ (hT.hv j (by omega))];exact ha.old j hj
  ·exact due_stay hd hn hvk (λe=>hc ⟨hkm,e⟩) hkm
  ·rw[a4,if_neg (λe=>by omega)]
end
end Go.Proofs.YtnpihllannobgaaGreatDoor
