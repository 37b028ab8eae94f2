/- Steps of the proof, part G35. No condition. -/
import Derived.Test.YtnpihllannobgaaGreatDoorG11
import Derived.Test.YtnpihllannobgaaGreatDoorG34
namespace Go.Proofs.YtnpihllannobgaaGreatDoor
set_option linter.unusedVariables false
set_option linter.unusedSimpArgs false
set_option maxRecDepth 100000
set_option maxHeartbeats 32000000
def zP(p:Pa):Pa:=⟨p.rank,p.node,0⟩
def vN(L:List Pa):List Pa:=L.map zP
theorem cmp_zP(x y:Pa):cmpP (zP x) (zP y)=cmpP x y:=rfl
theorem insK_zero(x:Pa)(S:List Pa):insK (zP x) (vN S)=insK x S:=by
 induction S with
 |nil=>rfl
 |cons s r ih=>
  show (if insK (zP x) (vN r)=0∧cmpP (zP x) (zP s)<0 then 0 else insK (zP x) (vN r)+1)=_
  rw[ih,cmp_zP];rfl
theorem insP_zero(x:Pa)(S:List Pa):vN (insP x S)=insP (zP x) (vN S):=by
 unfold insP midP
 rw[insK_zero]
 unfold vN
 rw[List.map_append,List.map_cons,List.map_take,List.map_drop]
theorem filter_zero(q:Pa→Bool)(q':Pa→Bool)(h:∀p,q' (zP p)=q p)(L:List Pa):vN (L.filter q)=(vN L).filter q':=by
 unfold vN
 rw[List.filter_map]
 congr 1
 apply List.filter_congr
 intro p _
 exact (h p).symm
theorem hearL_zero(R:Int)(L:List Pa)(node rank now:Int):qy R (vN L) node rank 0=((qy R L node rank now).1,vN (qy R L node rank now).2):=by
 have e1:(vN L).filter (λp=>!(p.node==node))=vN (L.filter (λp=>!(p.node==node))):=(filter_zero _ _ (λp=>rfl) L).symm
 unfold qy
 dsimp only
 rw[e1]
 split
 ·rfl
 ·have e2:insP ⟨rank,node,0⟩ (vN (L.filter (λp=>!(p.node==node))))=vN (insP ⟨rank,node,now⟩ (L.filter (λp=>!(p.node==node)))):=(insP_zero ⟨rank,node,now⟩ _).symm
  rw[e2,←filter_zero (λp=>!(decide (min R (rank+1)≤p.rank))) (λp=>!(decide (min R (rank+1)≤p.rank))) (λp=>rfl)]
  unfold vN
  rw[List.map_take]
theorem mem_insP{x:Pa}{S:List Pa}{p:Pa}(h:p∈insP x S):p=x∨p∈S:=by
 unfold insP midP at h
 rw[List.mem_append,List.mem_cons] at h
 rcases h with h|h|h
 ·exact .inr (List.mem_of_mem_take h)
 ·exact .inl h
 ·exact .inr (List.mem_of_mem_drop h)
theorem mem_hearL{R:Int}{L:List Pa}{node rank now:Int}{p:Pa}(h:p∈(qy R L node rank now).2):p=⟨rank,node,now⟩∨(p∈L∧p.node≠node):=by
 have hf:∀q,q∈L.filter (λp=>!(p.node==node))→q∈L∧q.node≠node:=λq hq=>by
  rw[List.mem_filter] at hq
  exact⟨hq.1,by simpa using hq.2⟩
 unfold qy at h
 dsimp only at h
 split at h
 ·exact .inr (hf p h)
 ·have h1:=List.mem_of_mem_take h
  rw[List.mem_filter] at h1
  rcases mem_insP h1.1 with h2|h2
  ·exact .inl h2
  ·exact .inr (hf p h2)
/- the line of nodes -/
def vV(n w i:Nat):Nat:=(List.range n).foldl (λm j=>if zG w i j then m+2^j else m) 0
def cT(n w:Nat):Cfg:=⟨n,(List.range n).map (λi=>(vV n w i:Int)),[11,15,20],300,1,10,2*n,6,15⟩
def d0:Dr:=⟨[],[],[],[]⟩
def nears(n w:Nat):Bool:=(List.range n).all (λi=>decide (vV n w i<65536∧vV n w i<2^n)&&(List.range n).all (λj=>(vV n w i / 2^j % 2==1)==zG w i j))
theorem nears_all:(List.range 7).all (λa=>(List.range 3).all (λb=>nears (a+2) (b+1)))=true:=by decide+kernel
theorem near_bit{n w:Nat}(hn:2≤n∧n≤8)(hw:1≤w∧w≤3){i:Nat}(hi:i<n):(vV n w i<65536∧vV n w i<2^n)∧∀j,j<n→(vV n w i / 2^j % 2=1↔zG w i j=true):=by
 have h:=nears_all
 rw[List.all_eq_true] at h
 have h1:=h (n-2) (by rw[List.mem_range];omega)
 rw[List.all_eq_true] at h1
 have h2:=h1 (w-1) (by rw[List.mem_range];omega)
 rw[show n-2+2=n from by omega,show w-1+1=w from by omega] at h2
 unfold nears at h2
 rw[List.all_eq_true] at h2
 have h3:=h2 i (by rw[List.mem_range];exact hi)
 rw[Bool.and_eq_true,decide_eq_true_eq,List.all_eq_true] at h3
 refine⟨h3.1,λj hj=>?_⟩
 have h4:=h3.2 j (by rw[List.mem_range];exact hj)
 rw[beq_iff_eq] at h4
 rw[←h4,beq_iff_eq]
theorem cT_near{n w i:Nat}(hi:i<n):atL (cT n w).near i=(vV n w i:Int):=by
 unfold atL cT
 simp[List.getD_eq_getElem?_getD,List.getElem?_map,List.getElem?_range,hi]
theorem cT_bit{n w:Nat}(hn:2≤n∧n≤8)(hw:1≤w∧w≤3){i j:Nat}(hi:i<n)(hj:j<n):bitW (atL (cT n w).near i) 0 j=zG w i j:=by
 rw[cT_near hi]
 unfold bitW
 have h:=(near_bit hn hw hi).2 j hj
 have e1:((vV n w i:Int) / 2^j % 2=1)↔(vV n w i / 2^j % 2=1):=by
  have:((vV n w i:Int) / 2^j % 2)=((vV n w i / 2^j % 2:Nat):Int):=by push_cast;rfl
  rw[this];omega
 have e2:((0:Int) / 2^j % 2=0):=by simp
 rw[decide_eq_true e2,Bool.and_true]
 by_cases hb:zG w i j=true
 ·rw[hb];exact decide_eq_true (e1.2 (h.2 hb))
 ·rw[Bool.not_eq_true] at hb
  rw[hb];exact decide_eq_false (λe=>by have:=h.1 (e1.1 e);rw[hb] at this;cases this)
theorem cT_ok{n w:Nat}(hn:2≤n∧n≤8)(hw:1≤w∧w≤3):CfgOk (cT n w):=by
 refine⟨hn.1,by show n≤16;omega,by simp[cT],λi x hx=>?_,⟨(by decide:∀c∈([11,15,20]:List Int),0≤c∧c≤31),(by decide:([11,15,20]:List Int).Nodup),(by decide:1≤([11,15,20]:List Int).length),(by decide:([11,15,20]:List Int).length≤16)⟩,(by decide:(1:Int)≤300∧(300:Int)≤4000),(by decide:(0:Int)≤1∧(1:Int)≤1000),(by decide:(1:Int)≤10∧(10:Int)≤10000),by show (2:Int)≤2*(n:Int)∧(2*(n:Int))≤10000;omega,(by decide:(1:Int)≤6∧(6:Int)≤32),(by decide:(1:Int)≤15∧(15:Int)≤15)⟩
 have hi:i<n:=by
  have:i<(cT n w).near.length:=(List.getElem?_eq_some_iff.1 hx).1
  simpa [cT] using this
 have hx2:x=(vV n w i:Int):=by
  have:(cT n w).near[i]? =some (vV n w i:Int):=by unfold cT;simp[List.getElem?_map,List.getElem?_range,hi]
  rw[this] at hx;cases hx;rfl
 obtain⟨⟨h1,h2⟩,h3⟩:=near_bit hn hw hi
 subst hx2
 refine⟨by omega,by omega,?_,?_⟩
 ·show (vV n w i:Int)<2^n
  exact_mod_cast h2
 ·have h4:=h3 i hi
  have h5:zG w i i=false:=by unfold zG;simp
  rw[h5] at h4
  have h6:vV n w i / 2^i % 2=0:=by
   have:¬vV n w i / 2^i % 2=1:=λe=>by have:=h4.1 e;cases this
   omega
  have:((vV n w i:Int) / 2^i % 2)=((vV n w i / 2^i % 2:Nat):Int):=by push_cast;rfl
  rw[this,h6];rfl
def gapT(n:Nat)(t j:Int):Int:=(t-1-j) % (n:Int)
theorem jd{n:Nat}(hn:2≤n∧n≤8):n=2∨n=3∨n=4∨n=5∨n=6∨n=7∨n=8:=by omega
theorem gap_bd{n:Nat}(hn:2≤n∧n≤8)(t j:Int):0≤gapT n t j∧gapT n t j≤(n:Int)-1:=by
 unfold gapT
 rcases jd hn with rfl|rfl|rfl|rfl|rfl|rfl|rfl <;> omega
theorem gap_up{n:Nat}(hn:2≤n∧n≤8){t:Nat}{j:Int}(hj:0≤j∧j<n)(h:((t % n:Nat):Int)≠j):gapT n ((t:Int)+1) j=gapT n t j+1:=by
 unfold gapT
 rcases jd hn with rfl|rfl|rfl|rfl|rfl|rfl|rfl <;> omega
def tmOf(s:NSt):Int×Int×Int×Int×Int×Int×Bool×Option (Int×List Pa)×Option Int:=(s.base,s.sum,s.slots,s.listened,s.seq,s.tries,s.synced,s.p,s.k)
def dtOf(s:NSt):List (Int×List Int)×Seen×Seen×Seen×(Int→Option (List Int))×Int:=(s.q,s.up,s.down,s.got,s.paths,s.last)
def nodesOk(n:Nat)(i:Nat)(L:List Pa):Prop:=∀p∈L,0≤p.node∧p.node<(n:Int)∧p.node≠(i:Int)
structure CN(n:Nat)(t:Nat)(i:Nat)(a:AC)(s:NSt):Prop where
 base:s.base=0
 sum:s.sum=0
 slots:s.slots=t
 lis:0≤s.listened∧s.listened≤t
 seq:0≤s.seq∧s.seq≤255
 tries:s.tries=0
 ev:s.ev=[]
 st:match a with
  |none=>i≠0∧s.synced=false∧s.listened=t∧s.p=none
  |some (R,L)=>s.synced=true∧if i=0 then s.p=none∧s.k=none∧R=0∧L=[] else
    0≤R∧R≤255∧∃L' x,s.p=some (R,L')∧vN L'=L∧L≠[]∧nodesOk n i L'∧(∀p∈L',(t:Int)-1-gapT n t p.node≤p.heard∧p.heard≤(t:Int)-1)∧s.k=some x∧0≤x∧x≤gapT n t (zB a)+1
structure CM(n:Nat)(t:Nat)(i:Nat)(a:AC)(s:NSt):Prop where
 base:s.base=0
 sum:s.sum=0
 slots:s.slots=(t:Int)+1
 lis:0≤s.listened∧s.listened≤(t:Int)+1
 seq:0≤s.seq∧s.seq≤255
 tries:s.tries=0
 st:match a with
  |none=>i≠0∧s.synced=false∧s.listened=(t:Int)+1∧s.p=none
  |some (R,L)=>s.synced=true∧if i=0 then s.p=none∧s.k=none∧R=0∧L=[] else
    0≤R∧R≤255∧∃L' x,s.p=some (R,L')∧vN L'=L∧L≠[]∧nodesOk n i L'∧(∀p∈L',(t:Int)-gapT n ((t:Int)+1) p.node≤p.heard∧p.heard≤(t:Int))∧s.k=some x∧0≤x∧x≤gapT n ((t:Int)+1) (zB a)
section
variable {n w t i:Nat}{a a':AC}{s s':NSt}
theorem CM.cong(h:CM n t i a s)(e:tmOf s'=tmOf s):CM n t i a s':=by
 unfold tmOf at e
 simp only[Prod.mk.injEq] at e
 obtain⟨e1,e2,e3,e4,e5,e6,e7,e8,e9⟩:=e
 obtain⟨h1,h2,h3,h4,h5,h6,h7⟩:=h
 refine⟨by rw[e1];exact h1,by rw[e2];exact h2,by rw[e3];exact h3,by rw[e4];exact h4,by rw[e5];exact h5,by rw[e6];exact h6,?_⟩
 cases a with
 |none=>dsimp only at h7 ⊢;rw[e7,e4,e8];exact h7
 |some q=>obtain⟨R,L⟩:=q;dsimp only at h7 ⊢;rw[e7,e8,e9];exact h7
theorem CM.seqs(h:CM n t i a s)(x:Int)(hx:0≤x∧x≤255):CM n t i a {s with seq:=x}:=⟨h.base,h.sum,h.slots,h.lis,hx,h.tries,h.st⟩
theorem CN.idle(hn:2≤n∧n≤8)(h:CN n t i a s)(hL:∀R L,a=some (R,L)→∀p∈L,p.node≠((t % n:Nat):Int)):CM n t i a (vy i 0 s):=by
 have e0:cutf (if i=0 then 0 else 0) 100*10000=0:=by split <;> decide
 refine⟨h.base,?_,?_,?_,h.seq,h.tries,?_⟩
 ·show s.sum+cutf (if i=0 then 0 else 0) 100*10000=0
  rw[e0,h.sum];rfl
 ·show s.slots+1=_;rw[h.slots]
 ·have:=h.lis
  show 0≤(if s.synced then s.listened else s.listened+1)∧(if s.synced then s.listened else s.listened+1)≤_
  split <;> omega
 ·have hs:=h.st
  cases a with
  |none=>
   dsimp only at hs ⊢
   obtain⟨h1,h2,h3,h4⟩:=hs
   refine⟨h1,h2,?_,h4⟩
   show (if s.synced then s.listened else s.listened+1)=_
   rw[h2,h3];rfl
  |some q=>
   obtain⟨R,L⟩:=q
   dsimp only at hs ⊢
   refine⟨hs.1,?_⟩
   have h2:=hs.2
   by_cases hi:i=0
   ·rw[if_pos hi] at h2 ⊢;exact h2
   ·rw[if_neg hi] at h2 ⊢
    obtain⟨r0,r1,L',x,p1,p2,p3,p4,p5,p6,p7,p8⟩:=h2
    have hno:=hL R L rfl
    have hno':∀p∈L',p.node≠((t % n:Nat):Int):=λp hp=>by
     have:=hno (zP p) (by rw[←p2];exact List.mem_map_of_mem hp)
     exact this
    refine⟨r0,r1,L',x,p1,p2,p3,p4,λp hp=>?_,p6,p7,?_⟩
    ·obtain⟨q1,q2⟩:=p5 p hp
     have:=gap_up hn ⟨(p4 p hp).1,(p4 p hp).2.1⟩ (Ne.symm (hno' p hp))
     omega
    ·cases L' with
     |nil=>exact absurd p2.symm p3
     |cons f r=>
      have hf:=hno' f (List.mem_cons_self ..)
      have e:zB (some (R,L))=f.node:=by rw[←p2];rfl
      rw[e] at p8 ⊢
      have:=gap_up hn ⟨(p4 f (List.mem_cons_self ..)).1,(p4 f (List.mem_cons_self ..)).2.1⟩ (Ne.symm hf)
      omega
theorem CM.ends(hn:2≤n∧n≤8)(hw:1≤w∧w≤3)(h:CM n t i a s)(hi:i<n)(ht:t≤2000):
  EndOk (cT n w) i (noEv s) t∧CN n (t+1) i a (noEv (jx (cT n w) i (noEv s) t))∧(jx (cT n w) i (noEv s) t).ev=[]∧dtOf (noEv (jx (cT n w) i (noEv s) t))=dtOf s:=by
 have hs:=h.st
 by_cases ho:i=0∨s.synced=false
 ·have e:jx (cT n w) i (noEv s) t=noEv s:=by unfold jx;exact if_pos ho
  rw[e]
  refine⟨⟨rfl,.inl ho⟩,⟨h.base,h.sum,by rw[show (noEv (noEv s)).slots=s.slots from rfl,h.slots];push_cast;rfl,by have:=h.lis;show 0≤s.listened∧s.listened≤((t+1:Nat):Int);push_cast;omega,h.seq,h.tries,rfl,?_⟩,rfl,rfl⟩
  cases a with
  |none=>
   dsimp only at hs ⊢
   exact⟨hs.1,hs.2.1,by show s.listened=((t+1:Nat):Int);rw[hs.2.2.1];push_cast;rfl,hs.2.2.2⟩
  |some q=>
   obtain⟨R,L⟩:=q
   dsimp only at hs ⊢
   have hi0:i=0:=by
    rcases ho with h|h
    ·exact h
    ·rw[hs.1] at h;cases h
   refine⟨hs.1,?_⟩
   have h2:=hs.2
   rw[if_pos hi0] at h2 ⊢
   exact h2
 ·have ho1:i≠0:=λe=>ho (.inl e)
  have ho2:s.synced=true:=by
   cases hsy:s.synced with
   |true=>rfl
   |false=>exact absurd (.inr hsy) ho
  cases a with
  |none=>dsimp only at hs;rw[ho2] at hs;cases hs.2.1
  |some q=>
   obtain⟨R,L⟩:=q
   dsimp only at hs
   have h2:=hs.2
   rw[if_neg ho1] at h2
   obtain⟨r0,r1,L',x,p1,p2,p3,p4,p5,p6,p7,p8⟩:=h2
   have hkl:keptL L' t (cT n w).loss=L':=by
    unfold keptL
    rw[List.filter_eq_self]
    intro p hp
    obtain⟨q1,q2⟩:=p5 p hp
    have:=gap_bd hn ((t:Int)+1) p.node
    have e:(cT n w).loss=2*(n:Int):=rfl
    rw[e]
    simp only[Bool.not_eq_true',decide_eq_false_iff_not]
    omega
   cases L' with
   |nil=>exact absurd p2.symm p3
   |cons f r=>
    have hf:=p4 f (List.mem_cons_self ..)
    have ef:∀y,qM (pN (kN (noEv s) y) (some (R,f::r)))=f.node:=λy=>rfl
    have ef0:qM (noEv s)=f.node:=by unfold qM;rw[show (noEv s).p=s.p from rfl,p1]
    have h64:f.node≠64:=by omega
    have hend:jx (cT n w) i (noEv s) t=pN (kN (noEv s) (some (vR x))) (some (R,f::r)):=by
     unfold jx
     rw[if_neg (by rintro (h|h);exact ho1 h;rw[show (noEv s).synced=s.synced from rfl,ho2] at h;cases h),show (noEv s).p=s.p from rfl,show (noEv s).k=s.k from rfl,p1,p6]
     dsimp only
     rw[hkl,if_neg (by rw[ef];exact h64)]
     unfold endN
     rw[hkl]
     unfold qz
     rw[if_pos (.inl (by rw[ef,ef0]))]
    rw[hend]
    have hx:vR x=x+1:=by
     have:=gap_bd hn ((t:Int)+1) (zB (some (R,L)))
     unfold vR;omega
    have efc:zB (some (R,L))=f.node:=by rw[←p2];rfl
    refine⟨⟨rfl,.inr ⟨R,f::r,x,p1,p6,by rw[hkl,ef];exact h64⟩⟩,⟨h.base,h.sum,by show s.slots=((t+1:Nat):Int);rw[h.slots];push_cast;rfl,by have:=h.lis;show 0≤s.listened∧s.listened≤((t+1:Nat):Int);push_cast;omega,h.seq,h.tries,rfl,?_⟩,rfl,rfl⟩
    dsimp only
    refine⟨ho2,?_⟩
    rw[if_neg ho1]
    refine⟨r0,r1,f::r,x+1,rfl,p2,p3,p4,λp hp=>?_,by rw[←hx];rfl,by omega,?_⟩
    ·have:=p5 p hp
     push_cast
     omega
    ·push_cast
     omega
theorem cut_0:cutf (0+cutf 0 1000000) 1000000000000=0:=by decide
theorem tm_hears(i:Nat)(s:NSt)(j r now:Int)(hb:s.base=0)(R:Int)(L:List Pa)(hp:s.p=some (R,L)):
  tmOf (qq i s j r now 0)=(0,s.sum,s.slots,s.listened,s.seq,s.tries,s.synced,some (qy R L j r now),if qM (zR s j r now)=j then some 0 else s.k)∧dtOf (qq i s j r now 0)=dtOf s:=by
 have hp2:(zR s j r now).p=some (qy R L j r now):=by unfold zR pN;rw[hp]
 have e1:∀(s2:NSt) q,tmOf (qz i s2 q)=tmOf s2∧dtOf (qz i s2 q)=dtOf s2:=λs2 q=>by unfold qz;split <;> exact⟨rfl,rfl⟩
 unfold qq
 rw[(e1 _ _).1,(e1 _ _).2]
 unfold zT
 by_cases h:qM (zR s j r now)=j
 ·rw[if_pos h,if_pos h]
  refine⟨?_,rfl⟩
  show (cutf (s.base+cutf 0 1000000) 1000000000000,s.sum,s.slots,s.listened,s.seq,s.tries,s.synced,(zR s j r now).p,some (0:Int))=_
  rw[hb,cut_0,hp2]
 ·rw[if_neg h,if_neg h]
  refine⟨?_,rfl⟩
  show (s.base,s.sum,s.slots,s.listened,s.seq,s.tries,s.synced,(zR s j r now).p,s.k)=_
  rw[hb,hp2]
theorem first_heard(s:NSt)(j r now:Int)(R:Int)(L:List Pa)(hp:s.p=some (R,L)):qM (zR s j r now)=zB (some (qy R (vN L) j r 0)):=by
 have hp2:(zR s j r now).p=some (qy R L j r now):=by unfold zR pN;rw[hp]
 rw[hearL_zero R L j r now]
 unfold qM
 rw[hp2]
 cases h:(qy R L j r now).2 with
 |nil=>
  have:qy R L j r now=((qy R L j r now).1,[]):=by rw[←h]
  rw[this];rfl
 |cons f q=>
  have:qy R L j r now=((qy R L j r now).1,f::q):=by rw[←h]
  rw[this];rfl
theorem hearL_rank{R:Int}(L:List Pa){j r now:Int}(hR:0≤R∧R≤255)(hr:0≤r):0≤(qy R L j r now).1∧(qy R L j r now).1≤255:=by
 unfold qy
 dsimp only
 split
 ·exact hR
 ·show 0≤min R (r+1)∧min R (r+1)≤255
  omega
theorem CN.hears{R:Int}{L:List Pa}(hn:2≤n∧n≤8)(h:CN n t i (some (R,L)) s)(hi0:i≠0)(hs:tmOf s'=tmOf (vy i 0 s))(j:Nat)(hj:j<n)(hji:j≠i)(r:Int)(hr:0≤r∧r≤200)
  (hσ:j=t % n∨∀p∈L,p.node≠((t % n:Nat):Int)) (h64:zB (some (qy R L j r 0))≠64) (hf:zB (some (qy R L j r 0))=zB (some (R,L))∨zB (some (qy R L j r 0))=(j:Int)):
  CM n t i (some (qy R L j r 0)) (qq i s' j r t 0)∧dtOf (qq i s' j r t 0)=dtOf s':=by
 have hst:=h.st
 dsimp only at hst
 have h2:=hst.2
 rw[if_neg hi0] at h2
 obtain⟨r0,r1,L',x,p1,p2,p3,p4,p5,p6,p7,p8⟩:=h2
 have e0:cutf (if i=0 then 0 else 0) 100*10000=0:=by split <;> decide
 unfold tmOf at hs
 simp only[Prod.mk.injEq] at hs
 obtain⟨e1,e2,e3,e4,e5,e6,e7,e8,e9⟩:=hs
 have b0:s'.base=0:=by rw[e1];exact h.base
 have hp':s'.p=some (R,L'):=by rw[e8];exact p1
 obtain⟨htm,hdt⟩:=tm_hears i s' j r t b0 R L' hp'
 refine⟨?_,hdt⟩
 have hfh:=first_heard s' j r t R L' hp'
 rw[p2] at hfh
 have hz:=hearL_zero R L' j r t
 rw[p2] at hz
 obtain⟨N,hN⟩:=qZ (qy R L' j r t)
 rw[←hN] at htm hz
 have hmem:∀p∈N.2,p=⟨r,j,t⟩∨(p∈L'∧p.node≠(j:Int)):=λp hp=>mem_hearL (by rw[←hN];exact hp)
 have hnoσ:∀p∈L',p.node≠(j:Int)→p.node≠((t % n:Nat):Int):=λp hp hne=>by
  rcases hσ with e|e
  ·rw[←e];exact hne
  ·have:=e (zP p) (by rw[←p2];exact List.mem_map_of_mem hp)
   exact this
 unfold tmOf at htm
 simp only[Prod.mk.injEq] at htm
 obtain⟨f1,f2,f3,f4,f5,f6,f7,f8,f9⟩:=htm
 refine⟨f1,?_,?_,?_,?_,?_,?_⟩
 ·rw[f2,e2];show s.sum+cutf (if i=0 then 0 else 0) 100*10000=0;rw[e0,h.sum];rfl
 ·rw[f3,e3];show s.slots+1=_;rw[h.slots]
 ·rw[f4,e4]
  have:=h.lis
  show 0≤(if s.synced then s.listened else s.listened+1)∧(if s.synced then s.listened else s.listened+1)≤_
  split <;> omega
 ·rw[f5,e5];exact h.seq
 ·rw[f6,e6];exact h.tries
 ·rw[hz]
  dsimp only
  refine⟨by rw[f7,e7];exact hst.1,?_⟩
  rw[if_neg hi0]
  have hrk:=hearL_rank L' (j:=j) (r:=r) (now:=t) ⟨r0,r1⟩ hr.1
  rw[←hN] at hrk
  have hfc:zB (some (qy R L j r 0))=zB (some (N.1,vN N.2)):=by rw[hz]
  rw[hfc] at h64 hf hfh
  have hnn:vN N.2≠[]:=λe=>h64 (by rw[e];rfl)
  refine⟨hrk.1,hrk.2,N.2,(if qM (zR s' j r t)=j then 0 else x),by rw[f8],rfl,hnn,λp hp=>?_,λp hp=>?_,?_,?_,?_⟩
  ·rcases hmem p hp with e|⟨e,_⟩
   ·subst e;exact⟨by show (0:Int)≤j;omega,by show (j:Int)<n;omega,by show (j:Int)≠i;omega⟩
   ·exact p4 p e
  ·rcases hmem p hp with e|⟨e,ne⟩
   ·subst e
    have:=gap_bd hn ((t:Int)+1) j
    show (t:Int)-gapT n ((t:Int)+1) j≤t∧(t:Int)≤t
    omega
   ·have h3:=p5 p e
    have h4:=gap_up hn ⟨(p4 p e).1,(p4 p e).2.1⟩ (Ne.symm (hnoσ p e ne))
    omega
  ·rw[f9,e9]
   show (if qM (zR s' j r t)=j then some 0 else s.k)=_
   split
   ·rfl
   ·exact p6
  ·split <;> omega
  ·by_cases hq:qM (zR s' j r t)=j
   ·rw[if_pos hq]
    exact (gap_bd hn _ _).1
   ·rw[if_neg hq]
    rw[hfh] at hq
    rcases hf with e|e
    ·rw[e]
     cases L' with
     |nil=>exact absurd p2.symm p3
     |cons f q=>
      have ef:zB (some (R,L))=f.node:=by rw[←p2];rfl
      rw[ef] at p8 ⊢
      have hne:f.node≠(j:Int):=λe2=>hq (by rw[e,ef];exact e2)
      have:=gap_up hn ⟨(p4 f (List.mem_cons_self ..)).1,(p4 f (List.mem_cons_self ..)).2.1⟩ (Ne.symm (hnoσ f (List.mem_cons_self ..) hne))
      omega
    ·exact absurd e hq
theorem hearL_one(r j now:Int):qy (r+1) [] j r now=(r+1,[⟨r,j,now⟩]):=by
 unfold qy
 dsimp only
 rw[if_neg (by omega)]
 have:min (r+1) (r+1)=r+1:=by omega
 rw[this]
 show (r+1,(([⟨r,j,now⟩]:List Pa).filter (λp=>!(decide (r+1≤p.rank)))).take 3)=_
 rw[List.filter_cons_of_pos (by show (!(decide (r+1≤r)))=true;rw[decide_eq_false (by omega)];rfl)]
 rfl
theorem CN.adopt(hn:2≤n∧n≤8)(h:CN n t i none s)(j:Nat)(hj:j<n)(hji:j≠i)(hσ:j=t % n)(r:Int)(hr:0≤r∧r≤200):
  CM n t i (some (qy (r+1) [] j r 0)) (adopt2N i (vy i 0 s) j r t 0)∧dtOf (adopt2N i (vy i 0 s) j r t 0)=dtOf s:=by
 have hst:=h.st
 dsimp only at hst
 obtain⟨h1,h2,h3,h4⟩:=hst
 have e0:cutf (if i=0 then 0 else 0) 100*10000=0:=by split <;> decide
 rw[hearL_one]
 refine⟨⟨?_,?_,?_,?_,h.seq,h.tries,?_⟩,rfl⟩
 ·show cutf (s.base+cutf 0 1000000) 1000000000000=0
  rw[h.base];exact cut_0
 ·show s.sum+cutf (if i=0 then 0 else 0) 100*10000=0
  rw[e0,h.sum];rfl
 ·show s.slots+1=_;rw[h.slots]
 ·have:=h.lis
  show 0≤(if s.synced then s.listened else s.listened+1)∧(if s.synced then s.listened else s.listened+1)≤_
  split <;> omega
 ·dsimp only
  refine⟨rfl,?_⟩
  rw[if_neg h1]
  refine⟨by omega,by omega,[⟨r,j,t⟩],0,?_,rfl,by simp,λp hp=>?_,λp hp=>?_,rfl,by omega,(gap_bd hn _ _).1⟩
  ·show some (qy (r+1) [] j r t)=_
   rw[hearL_one]
  ·simp at hp;subst hp
   exact⟨by show (0:Int)≤j;omega,by show (j:Int)<n;omega,by show (j:Int)≠i;omega⟩
  ·simp at hp;subst hp
   have:=gap_bd hn ((t:Int)+1) j
   show (t:Int)-gapT n ((t:Int)+1) j≤t∧(t:Int)≤t
   omega
end
structure LN(n w t:Nat)(A:List AC)(x:WM):Prop where
 n8:2≤n∧n≤8
 w3:1≤w∧w≤3
 t2:t≤2000
 hn:x.nodes.length=n
 al:A.length=n
 nd:∀i,i<n→CN n t i (A.getD i none) (x.nd i)
 xe:x.ev=[]
 bd:Bn n (3*(t:Int)) x.bound
section
variable {n w t:Nat}{A:List AC}{x:WM}
theorem LN.off(h:LN n w t A x){i:Nat}(hi:i<n):offN (vS d0 x i)=0:=by
 have e0:cutf (if i=0 then 0 else 0) 100*10000=0:=by split <;> decide
 have hN:=h.nd i hi
 show (x.nd i).base+downf ((x.nd i).sum+cutf (if i=0 then 0 else 0) 100*10000)=0
 rw[e0,hN.base,hN.sum];decide
theorem LN.syn(h:LN n w t A x){i:Nat}(hi:i<n):(x.nd i).synced=(A.getD i none).isSome:=by
 have hs:=(h.nd i hi).st
 cases ha:A.getD i none with
 |none=>rw[ha] at hs;exact hs.2.1
 |some q=>obtain⟨R,L⟩:=q;rw[ha] at hs;exact hs.1
theorem LN.turn(h:LN n w t A x)(i:Nat):(t:Int) % ((cT n w).nodes:Int)=(i:Int)↔t % n=i:=by
 show (t:Int) % (n:Int)=(i:Int)↔t % n=i
 omega
theorem LN.idle(h:LN n w t A x){i:Nat}(hi:i<n)(hno:¬(t % n=i∧(A.getD i none).isSome=true)):vP (cT n w) d0 t x i=(vS d0 x i,vK (cT n w) (vS d0 x i) t,[]):=by
 refine vP_idle (λe=>hno ⟨(h.turn i).1 e.2,?_⟩)
 rw[←h.syn hi];exact e.1
theorem meas_0:meas 0 0 0 1=0:=by decide
theorem LN.ms(h:LN n w t A x){i j:Nat}(hi:i<n)(hj:j<n):vM (cT n w) d0 t x i j=0:=by
 unfold vM vA
 rw[(vP_off i).1,(vP_off j).1,h.off hi,h.off hj]
 exact meas_0
theorem LN.within(h:LN n w t A x){i j:Nat}(hi:i<n)(hj:j<n):zx (vA (cT n w) d0 t x i).2.2 (vA (cT n w) d0 t x j).2.2 (cT n w).guard=true:=by
 unfold vA
 rw[(vP_off i).1,(vP_off j).1,h.off hi,h.off hj]
 show zx 0 0 300=true
 decide
theorem ch_eq(u v:Nat):(jW [11,15,20] (u:Int)==jW [11,15,20] (v:Int))=(u % 3==v % 3):=by
 have key:∀z:Nat,jW [11,15,20] (z:Int)=([11,15,20]:List Int).getD (z % 3) 0:=λz=>by
  unfold jW
  congr 1
 rw[key,key]
 have h1:u % 3<3:=Nat.mod_lt _ (by decide)
 have h2:v % 3<3:=Nat.mod_lt _ (by decide)
 generalize u % 3=a at *
 generalize v % 3=b at *
 have ha:a=0∨a=1∨a=2:=by omega
 have hb:b=0∨b=1∨b=2:=by omega
 rcases ha with rfl|rfl|rfl <;> rcases hb with rfl|rfl|rfl <;> decide
def jN(n w t s i:Nat)(a:AC):Bool:=zG w i s&&(a.isSome||(t % 3==(t+1) / (n*3) % 3))
theorem LN.chan(h:LN n w t A x){i s:Nat}(hi:i<n)(hs:s<n)(hss:(A.getD s none).isSome=true):(vK (cT n w) (vS d0 x s) t==vK (cT n w) (vS d0 x i) t)=((A.getD i none).isSome||(t % 3==(t+1) / (n*3) % 3)):=by
 have e1:vK (cT n w) (vS d0 x s) t=jW [11,15,20] (t:Int):=by
  unfold vK
  rw[if_pos (show (vS d0 x s).synced=true from (h.syn hs).trans hss)];rfl
 rw[e1]
 cases ha:(A.getD i none).isSome with
 |true=>
  have e2:vK (cT n w) (vS d0 x i) t=jW [11,15,20] (t:Int):=by
   unfold vK
   rw[if_pos (show (vS d0 x i).synced=true from (h.syn hi).trans ha)];rfl
  rw[e2];simp
 |false=>
  have e2:vK (cT n w) (vS d0 x i) t=jW [11,15,20] (((t+1) / (n*3):Nat):Int):=by
   unfold vK
   have h1:(vS d0 x i).synced=false:=(h.syn hi).trans ha
   rw[h1]
   show jW [11,15,20] ((vS d0 x i).slots / ((n:Int)*3))=_
   have h2:(vS d0 x i).slots=((t+1:Nat):Int):=by show (x.nd i).slots+1=_;rw[(h.nd i hi).slots];push_cast;rfl
   rw[h2]
   congr 1
  rw[e2,ch_eq,Bool.false_or]
def nxC(n w t:Nat)(x:WM)(s:Nat):Fr:=nextN (cT n w) s (vS d0 x s) t
structure SC(n w t:Nat)(A:List AC)(x:WM)(s:Nat)(r:Int):Prop where
 cw:LN n w t A x
 sn:s<n
 tn:t % n=s
 syn:(A.getD s none).isSome=true
 may:mayF (nxC n w t x s)=true
 src:(nxC n w t x s).src=s
 seq:(nxC n w t x s).seq=(x.nd s).seq
 rk:zV (nxC n w t x s) t=(r,true)
 r0:0≤r∧r≤200
 kd:(nxC n w t x s).kind=3∧(nxC n w t x s).dst=64∨(nxC n w t x s).kind=1∧∀i,i<n→(A.getD i none).isSome=true
section
variable {s:Nat}{r:Int}
theorem SC.pl(h:SC n w t A x s r):vP (cT n w) d0 t x s=(sendN (vS d0 x s) (nxC n w t x s) t,vK (cT n w) (vS d0 x s) t,encF (nxC n w t x s)):=by
 have:=vP_send (c:=cT n w) (d:=d0) (x:=x) (t:=(t:Int)) (i:=s) (show (vS d0 x s).synced=true from (h.cw.syn h.sn).trans h.syn) ((h.cw.turn s).2 h.tn)
 rw[this]
 unfold encO
 rw[if_pos (show mayF (nextN (cT n w) s (vS d0 x s) t)=true from h.may)];rfl
theorem SC.other(h:SC n w t A x s r){k:Nat}(hk:k<n)(hks:k≠s):vP (cT n w) d0 t x k=(vS d0 x k,vK (cT n w) (vS d0 x k) t,[]):=
 h.cw.idle hk (λe=>hks (by rw[←e.1,h.tn]))
theorem SC.dx(h:SC n w t A x s r):vX (cT n w) d0 t x s=(0,nxC n w t x s):=by
 unfold vX vA
 rw[h.pl]
 exact decF_enc _ h.may
theorem SC.ve(h:SC n w t A x s r):(vA (cT n w) d0 t x s).2.1.isEmpty=false:=by
 unfold vA;rw[h.pl];exact encF_ne _
theorem SC.vo(h:SC n w t A x s r){k:Nat}(hk:k<n)(hks:k≠s):(vA (cT n w) d0 t x k).2.1=[]:=by
 unfold vA;rw[h.other hk hks]
theorem SC.vl(h:SC n w t A x s r){i:Nat}(hi:i<n)(his:i≠s):vL (cT n w) d0 t x i=if jN n w t s i (A.getD i none) then [s] else []:=by
 unfold vL
 rw[filter_one (show s<(cT n w).nodes from h.sn) (λk hk hks=>by
  unfold vB
  rw[h.vo hk hks];simp)]
 have e:vB (cT n w) d0 t x i s=jN n w t s i (A.getD i none):=by
  unfold vB jN
  rw[h.cw.within hi h.sn,h.ve]
  have e2:(vA (cT n w) d0 t x s).1=vK (cT n w) (vS d0 x s) t:=(vP_off s).2.2.2.1
  have e3:(vA (cT n w) d0 t x i).1=vK (cT n w) (vS d0 x i) t:=(vP_off i).2.2.2.1
  rw[e2,e3,h.cw.chan hi h.sn h.syn,show atL d0.lost i=0 from rfl,cT_bit h.cw.n8 h.cw.w3 hi h.sn]
  simp
 rw[e]
theorem SC.good(h:SC n w t A x s r){i:Nat}(his:i≠s):goodF i (cT n w) (0,nxC n w t x s)=true:=by
 have hj:=h.sn
 unfold goodF
 rw[h.src]
 simp only[inR,beq_self_eq_true,Bool.true_and,Bool.and_eq_true,decide_eq_true_eq,Bool.not_eq_true',beq_eq_false_iff_ne,ne_eq]
 show (0≤(s:Int)∧(s:Int)≤(n:Int)-1)∧¬(s:Int)=(i:Int)
 omega
theorem SC.oH(h:SC n w t A x s r){i:Nat}(hi:i<n)(his:i≠s):
  uH (cT n w) d0 t x qG i=if jN n w t s i (A.getD i none) then zy i (cT n w) (vS d0 x i) (0,nxC n w t x s) t 0 (zL (cT n w) i (nxC n w t x s)) else vS d0 x i:=by
 unfold uH
 rw[h.vl hi his,h.vo hi his]
 simp only[List.isEmpty_nil,if_true]
 by_cases hr:jN n w t s i (A.getD i none)=true
 ·rw[if_pos hr,if_pos hr]
  dsimp only
  rw[h.dx,h.cw.ms hi h.sn,h.other hi his]
 ·rw[if_neg hr,if_neg hr]
  dsimp only[qG]
  rw[h.other hi his]
theorem SC.oK(h:SC n w t A x s r){i:Nat}(hi:i<n)(his:i≠s):
  uK (cT n w) d0 t x i=if jN n w t s i (A.getD i none) then ansN i (cT n w) (vS d0 x i) (0,nxC n w t x s) t 0 (vW i (nxC n w t x s) t 0) else none:=by
 unfold uK
 rw[h.vl hi his,h.vo hi his]
 simp only[List.isEmpty_nil,if_true]
 by_cases hr:jN n w t s i (A.getD i none)=true
 ·rw[if_pos hr,if_pos hr]
  dsimp only
  rw[h.dx,h.cw.ms hi h.sn,h.other hi his]
 ·rw[if_neg hr,if_neg hr]
theorem SC.oQ(h:SC n w t A x s r){i:Nat}(hi:i<n)(his:i≠s):uQ (cT n w) d0 t x qG i=noEv (uH (cT n w) d0 t x qG i):=by
 unfold uQ
 rw[h.vo hi his];rfl
theorem SC.oHs(h:SC n w t A x s r):uH (cT n w) d0 t x qG s=sendN (vS d0 x s) (nxC n w t x s) t:=by
 unfold uH
 rw[h.ve,h.pl];rfl
theorem SC.oQs(h:SC n w t A x s r):uQ (cT n w) d0 t x qG s=vJ s (noEv (sendN (vS d0 x s) (nxC n w t x s) t)) ((uW (cT n w) d0 t x s).getD []) t:=by
 unfold uQ
 rw[h.oHs,h.ve];rfl
end
theorem LN.mute(h:LN n w t A x)(hm:A.getD (t % n) none=none){i:Nat}(hi:i<n):uQ (cT n w) d0 t x qG i=noEv (vS d0 x i)∧uH (cT n w) d0 t x qG i=vS d0 x i∧(vA (cT n w) d0 t x i).2.1=[]:=by
 have hp:∀k,k<n→vP (cT n w) d0 t x k=(vS d0 x k,vK (cT n w) (vS d0 x k) t,[]):=λk hk=>h.idle hk (λe=>by rw[←e.1,hm] at e;cases e.2)
 have hv:∀k,k<n→(vA (cT n w) d0 t x k).2.1=[]:=λk hk=>by unfold vA;rw[hp k hk]
 have hl:vL (cT n w) d0 t x i=[]:=by
  unfold vL
  rw[List.filter_eq_nil_iff]
  intro k hk
  rw[List.mem_range] at hk
  unfold vB
  rw[hv k hk];simp
 have hH:uH (cT n w) d0 t x qG i=vS d0 x i:=by
  unfold uH
  rw[hl,hv i hi,hp i hi];rfl
 refine⟨?_,hH,hv i hi⟩
 unfold uQ
 rw[hv i hi,hH];rfl
end
theorem slot_bndV(c:Cfg)(d:Dr)(t:Int)(ij:Inj)(x:WM)(K:Int)(hK:0≤K∧K≤100000000)(he:0≤c.err∧c.err≤1000)(h:Bn c.nodes K x.bound):Bn c.nodes (K+1+c.err) (qp c d c.nodes t ij x).bound:=by
 have hdb:=drift_bnd d x c.nodes (by rw[h.1];exact Nat.le_refl _)
 have h1:Bn c.nodes (K+1) (qR d c.nodes x).bound:=by
  refine⟨hdb.1.trans h.1,λz hz=>?_⟩
  obtain⟨i,hi,e⟩:=List.getElem_of_mem hz
  have e1:atL (qR d c.nodes x).bound i=z:=by unfold atL;rw[List.getD_eq_getElem?_getD,List.getElem?_eq_getElem hi,e];rfl
  have e2:=hdb.2 i
  have e3:atL (qR d c.nodes x).bound i=atL (iter (zz d) c.nodes x).bound i:=rfl
  rw[←e1,e3,e2]
  have:=h.at hK.1 i
  split
  ·unfold ageB;split <;> omega
  ·omega
 have hk:∀i,-1≤atL (qR d c.nodes x).bound i∧atL (qR d c.nodes x).bound i≤K+1:=h1.at (by omega)
 have tl:∀(l:List Ev) {b:List Int},Bn c.nodes (K+1+c.err) b→Bn c.nodes (K+1+c.err) (l.foldl (tellF c.err (qR d c.nodes x).bound) b):=λl=>Bn.tell hk he.1 (Int.le_refl _) (by omega) l
 have h2:Bn c.nodes (K+1+c.err) (zp c d c.nodes t x).bound:=
  iter_inv (f:=jT c t) (P:=λz=>Bn c.nodes (K+1+c.err) z.bound) (λk z hz=>hz) c.nodes _ (h1.more (by omega))
 have h3:Bn c.nodes (K+1+c.err) (zW c d c.nodes t ij x).bound:=
  iter_inv (P:=λz=>Bn c.nodes (K+1+c.err) z.bound) (λk z hz=>by
   unfold qj
   split
   ·split
    ·unfold hear1V WM.tells
     exact tl _ hz
    ·split
     ·unfold hear0V WM.tells
      exact tl _ hz
     ·exact hz
    ·exact hz
   ·exact hz) c.nodes _ h2
 have h4:Bn c.nodes (K+1+c.err) (vY c d c.nodes t ij x).bound:=
  iter_inv (P:=λz=>Bn c.nodes (K+1+c.err) z.bound) (λk z hz=>by
   unfold ackV
   split
   ·exact hz
   ·unfold WM.tells
    exact tl _ hz) c.nodes _ h3
 exact iter_inv (P:=λz=>Bn c.nodes (K+1+c.err) z.bound) (λk z hz=>by
   unfold endV WM.tells
   exact tl _ hz) c.nodes _ h4
/- packets leave a node's time as it is -/
theorem tm_put(c:Cfg)(i:Nat)(s:NSt)(p:Pk)(t:Int)(came:Pk):tmOf (putN c i s p t came)=tmOf s:=by unfold putN;split <;> rfl
theorem tm_rises(c:Cfg)(i:Nat)(s:NSt)(p:Pk):tmOf (kB c i s p)=tmOf s:=by unfold kB;split;rfl;exact tm_put _ _ _ _ _ _
theorem tm_hands(c:Cfg)(i:Nat)(s:NSt)(p came:Pk):tmOf (vZ c i s p came)=tmOf s:=by unfold vZ;split;rfl;split;rfl;exact tm_put _ _ _ _ _ _
theorem tm_turns(c:Cfg)(i:Nat)(s:NSt)(p:Pk):tmOf (turnsN c i s p)=tmOf s:=by unfold turnsN;split;rfl;exact tm_hands _ _ _ _ _
theorem tm_learns(i:Nat)(s:NSt)(p:Pk):tmOf (jF i s p)=tmOf s:=by unfold jF;split <;> rfl
theorem tm_way(i:Nat)(s:NSt)(p:Pk)(f:Seen):tmOf (zS i s p f)=tmOf s:=by unfold zS;split;rfl;split <;> rfl
theorem tm_take3(c:Cfg)(i:Nat)(s:NSt)(p:Pk):tmOf (jX c i s p)=tmOf s:=by
 unfold jX
 split
 ·exact tm_learns i s p
 ·split
  ·exact tm_hands _ _ _ _ _
  ·split
   ·exact tm_turns _ _ _ _
   ·exact tm_rises _ _ _ _
theorem tm_takes(c:Cfg)(i:Nat)(s:NSt)(L:List Int):tmOf (zm c i s L)=tmOf s:=by
 unfold zm
 split
 ·rfl
 ·split
  ·unfold kY
   split
   ·exact (tm_take3 _ _ _ _).trans (tm_way _ _ _ _)
   ·exact tm_way _ _ _ _
  ·rfl
theorem tm_back(c:Cfg)(i:Nat)(f:Fr)(s:NSt):tmOf (zL c i f s)=tmOf s:=by
 unfold zL
 split
 ·exact tm_takes _ _ _ _
 ·rfl
/- what a packet makes of a node's packets hangs on them alone -/
def SameD(s s':NSt):Prop:=dtOf s=dtOf s'
/- events of packets, or of a node that is lost -/
def evK(l:List Ev):List Ev:=l.filter (λe=>e.kind==3||(e.kind==4||e.kind==5))
theorem jg(l m:List Ev):evK (l++m)=evK l++evK m:=by unfold evK;rw[List.filter_append]
theorem evK_hears(i:Nat)(s:NSt)(j r now tk:Int):evK (qq i s j r now tk).ev=evK s.ev:=by
 have e1:∀(s2:NSt) q,evK (qz i s2 q).ev=evK s2.ev:=λs2 q=>by
  unfold qz
  split
  ·rfl
  ·show evK (s2.ev++[_])=_
   rw[jg];simp[evK]
 unfold qq
 rw[e1]
 unfold zT
 split
 ·show evK (s.ev++[_])=_
  rw[jg];simp[evK]
 ·rfl
theorem evK_ev1(i:Nat)(s:NSt)(j:Int):evK (evN s ⟨1,i,j,0,pk0⟩).ev=evK s.ev:=by
 show evK (s.ev++[_])=_
 rw[jg];simp[evK]
theorem evK_adopt(i:Nat)(s:NSt)(j r now ms:Int):evK (adopt2N i s j r now ms).ev=evK s.ev:=by
 show evK (((s.ev++[_])++[_]++[_])++[_])=_
 rw[jg,jg,jg,jg];simp[evK]
theorem evK_flat(l:List Nat)(f:Nat→List Ev):evK (l.flatMap f)=l.flatMap (λi=>evK (f i)):=by
 induction l with
 |nil=>rfl
 |cons a l ih=>rw[List.flatMap_cons,List.flatMap_cons,jg,ih]
theorem flat_nil{l:List Nat}{f:Nat→List Ev}(h:∀i∈l,f i=[]):l.flatMap f=[]:=by
 induction l with
 |nil=>rfl
 |cons a l ih=>rw[List.flatMap_cons,h a (List.mem_cons_self ..),ih (λi hi=>h i (List.mem_cons_of_mem _ hi))];rfl
theorem CN.plan{n t i:Nat}{a:AC}{s:NSt}(h:CN n t i a s)(ht:t≤2000)(hq:s.q.length≤900∧∀p∈s.q,p.2.length≤1000):PlanOk i (vy i 0 s):=by
 have e0:cutf (if i=0 then 0 else 0) 100*10000=0:=by split <;> decide
 have hs:=h.st
 have hp:s.p≠none→s.k≠none:=λhp=>by
  cases a with
  |none=>exact absurd hs.2.2.2 hp
  |some q=>
   obtain⟨R,L⟩:=q
   dsimp only at hs
   have h2:=hs.2
   by_cases hi:i=0
   ·rw[if_pos hi] at h2;exact absurd h2.1 hp
   ·rw[if_neg hi] at h2
    obtain⟨_,_,L',x,p1,p2,p3,p4,p5,p6,p7,p8⟩:=h2
    rw[p6];simp
 refine⟨λhsy hi=>?_,λhf=>hp (λe=>hf (by unfold qM;rw[show (vy i 0 s).p=s.p from rfl,e])),⟨by show s.q.length≤1000;omega,hq.2⟩,h.seq,?_,?_,?_⟩
 ·show s.p≠none
  cases a with
  |none=>rw[show (vy i 0 s).synced=s.synced from rfl,hs.2.1] at hsy;cases hsy
  |some q=>
   obtain⟨R,L⟩:=q
   dsimp only at hs
   have h2:=hs.2
   rw[if_neg hi] at h2
   obtain⟨_,_,L',x,p1,_⟩:=h2
   rw[p1];simp
 ·show 0≤s.slots+1∧s.slots+1≤1000000
  rw[h.slots];omega
 ·show-1000000000000000≤s.base∧s.base≤1000000000000000
  rw[h.base];omega
 ·show-1000000000000000≤s.sum+cutf (if i=0 then 0 else 0) 100*10000∧s.sum+cutf (if i=0 then 0 else 0) 100*10000≤1000000000000000
  rw[e0,h.sum];omega
theorem vP_same(c:Cfg)(d:Dr)(t:Int)(x:WM)(i:Nat):(vP c d t x i).1.base=(vS d x i).base∧(vP c d t x i).1.synced=(vS d x i).synced∧(vP c d t x i).1.p=(vS d x i).p∧(vP c d t x i).1.k=(vS d x i).k∧(vP c d t x i).1.q=(vS d x i).q∧(vP c d t x i).1.paths=(vS d x i).paths:=by
 unfold vP jK
 split <;> exact⟨rfl,rfl,rfl,rfl,rfl,rfl⟩
section
variable {n w t:Nat}{A A':List AC}{x:WM}
def DtOk(n:Nat)(x:WM):Prop:=∀i,i<n→((x.nd i).q.length≤800∧∀p∈(x.nd i).q,p.2.length≤1000)∧∀m L,(x.nd i).paths m=some L→L.length≤100000
theorem LN.fin(h:LN n w t A x)(hal:A'.length=n)(hd:DtOk n x)(hm:∀i,i<n→CM n t i (A'.getD i none) (uQ (cT n w) d0 t x qG i))
  (hak:∀q,q<n→(vA (cT n w) d0 t x q).2.1.isEmpty=false→AckOkV (cT n w) q (noEv (uH (cT n w) d0 t x qG q)) ((uW (cT n w) d0 t x q).getD []) t) (hln:∀j,j<n→(vA (cT n w) d0 t x j).2.1.length≤100000) (ht:t<2000):
  LN n w (t+1) A' (zX (qp (cT n w) d0 n t qG x))∧SlotOkV (cT n w) d0 qG t x∧(∀i,i<n→dtOf ((zX (qp (cT n w) d0 n t qG x)).nd i)=dtOf (uQ (cT n w) d0 t x qG i))∧
   evK (qp (cT n w) d0 n t qG x).ev=(List.range n).flatMap (λi=>evK (uH (cT n w) d0 t x qG i).ev)++(List.range n).flatMap (λi=>evK (if (vA (cT n w) d0 t x i).2.1.isEmpty then [] else (uQ (cT n w) d0 t x qG i).ev)):=by
 have hnev:∀j,j<n→(x.nd j).ev=[]:=λj hj=>(h.nd j hj).ev
 obtain⟨s1,s2,s3⟩:=slot_ndV (c:=cT n w) (d:=d0) (now:=(t:Int)) (x:=x) (ij:=qG) rfl h.hn hnev
 have hE:=λi (hi:i<n)=>(hm i hi).ends h.n8 h.w3 hi h.t2
 have hnd:∀i,i<n→(zX (qp (cT n w) d0 n t qG x)).nd i=noEv (jx (cT n w) i (noEv (uQ (cT n w) d0 t x qG i)) t):=s3
 refine⟨⟨h.n8,h.w3,by omega,s1,hal,λi hi=>?_,rfl,?_⟩,?_,λi hi=>?_,?_⟩
 ·rw[hnd i hi];exact (hE i hi).2.1
 ·have:=slot_bndV (cT n w) d0 t qG x (3*(t:Int)) (by omega) (by show (0:Int)≤1∧(1:Int)≤1000;omega) h.bd
  exact this.more (by show 3*(t:Int)+1+1≤3*((t+1:Nat):Int);push_cast;omega)
 ·refine SlotN.ok ⟨cT_ok h.n8 h.w3,h.hn,h.xe,hnev,λi hi=>?_,⟨h.bd.1,λz hz=>by have:=h.bd.2 z hz;have:=h.t2;omega⟩,λi hi=>?_,λi hi=>?_,λi hi hemp=>?_,λi j hi hj=>?_,hln,hak,λq hq=>(hE q hq).1⟩
  ·have hN:=h.nd i hi
   have:=hN.lis
   have:=h.t2
   exact⟨by rw[hN.sum];omega,by rw[hN.slots];omega,by omega⟩
  ·have:=hd i hi
   exact (h.nd i hi).plan h.t2 ⟨by omega,this.1.2⟩
  ·rw[h.off hi];unfold OffOk;omega
  ·obtain⟨e1,e2,e3,e4,e5,e6⟩:=vP_same (cT n w) d0 t x i
   have hp:=(h.nd i hi).plan h.t2 ⟨by have:=hd i hi;omega,(hd i hi).1.2⟩
   rw[e1,e2,e3,e4,e5,e6]
   refine⟨hp.base,λhsy hi0=>⟨hp.p hsy hi0,?_⟩,by show (x.nd i).q.length≤900;have:=hd i hi;omega,(hd i hi).2⟩
   have hs:=(h.nd i hi).st
   have hsy2:(x.nd i).synced=true:=hsy
   show (x.nd i).k≠none
   cases ha:A.getD i none with
   |none=>rw[ha] at hs;rw[hs.2.1] at hsy2;cases hsy2
   |some q=>
    obtain⟨R,L⟩:=q
    rw[ha] at hs
    dsimp only at hs
    have h2:=hs.2
    rw[if_neg hi0] at h2
    obtain⟨_,_,L',y,p1,p2,p3,p4,p5,p6,_⟩:=h2
    rw[p6];simp
  ·rw[h.ms hi hj];omega
 ·rw[hnd i hi,(hE i hi).2.2.2]
 ·have s2:(qp (cT n w) d0 n (t:Int) qG x).ev=x.ev++(List.range n).flatMap (uEv (cT n w) d0 (t:Int) x qG)++(List.range n).flatMap (uQv (cT n w) d0 (t:Int) x qG)++(List.range n).flatMap (λi=>(uE (cT n w) d0 (t:Int) x qG i).ev):=s2
  rw[s2,h.xe,List.nil_append,jg,jg,evK_flat,evK_flat,evK_flat]
  have hz:(List.range n).flatMap (λi=>evK (uE (cT n w) d0 t x qG i).ev)=[]:=flat_nil (λi hi=>by
   rw[List.mem_range] at hi
   have:(uE (cT n w) d0 t x qG i).ev=[]:=(hE i hi).2.2.1
   rw[this];rfl)
  rw[hz,List.append_nil]
  rfl
end
end Go.Proofs.YtnpihllannobgaaGreatDoor
