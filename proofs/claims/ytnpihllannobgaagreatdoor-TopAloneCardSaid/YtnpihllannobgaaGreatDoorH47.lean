/- Steps of the proof, part H47. No condition. -/
import Derived.Test.YtnpihllannobgaaGreatDoorH43
import Derived.Test.YtnpihllannobgaaGreatDoorH40
import Derived.Test.YtnpihllannobgaaGreatDoorH37
namespace Go.Proofs.YtnpihllannobgaaGreatDoor
set_option linter.unusedVariables false
set_option linter.unusedSimpArgs false
set_option maxRecDepth 100000
set_option maxHeartbeats 32000000
/- events -/
def No1(l:List Ev):Prop:=∀e∈l,e.kind≠1
theorem No1.nil:No1 []:=λe he=>by cases he
theorem No1.app{l m:List Ev}(h:No1 l)(k:No1 m):No1 (l++m):=λe he=>by
 rcases List.mem_append.1 he with he|he
 ·exact h e he
 ·exact k e he
theorem No1.one{e:Ev}(h:e.kind≠1):No1 [e]:=λx hx=>by simp at hx;rw[hx];exact h
def Ad(l m:List Ev):Prop:=∃k,m=l++k∧No1 k
theorem Ad.refl(l:List Ev):Ad l l:=⟨[],by simp,No1.nil⟩
theorem Ad.trans{a b d:List Ev}(h:Ad a b)(k:Ad b d):Ad a d:=by
 obtain⟨m,e,n⟩:=h
 obtain⟨m2,e2,n2⟩:=k
 exact⟨m++m2,by rw[e2,e,List.append_assoc],n.app n2⟩
theorem Ad.one(l:List Ev){e:Ev}(h:e.kind≠1):Ad l (l++[e]):=⟨[e],rfl,No1.one h⟩
theorem hearsN_ad(i:Nat)(s:NSt)(src rk now tk:Int):Ad s.ev (qx i s src rk now tk).ev:=by
 have h1:Ad s.ev (zY i (jd s src rk now) src tk).ev:=by
  unfold zY
  split
  ·exact Ad.one _ (by show (7:Int)≠1;decide)
  ·exact Ad.refl _
 unfold qx zQ
 split
 ·exact h1
 ·exact h1.trans (Ad.one _ (by show (6:Int)≠1;decide))
theorem pkE_ad{s s':NSt}(h:PkE s s'):Ad s.ev s'.ev:=by
 obtain⟨m,a,_,b⟩:=h
 exact⟨m,a,λe he=>by have:=b e he;omega⟩
section
variable {c:Cfg}{d:Dr}{i n:Nat}{t now:Int}{s:NSt}{x y:WM}{ij:Inj}
theorem hear_k1(hev:s.ev=[])(X:Int×Fr)(ms:Int):∀e∈(zq i c s X now ms (z7 c i X.2)).ev,e.kind=1→e.src=X.2.src:=by
 have key:∀m,Ad [⟨1,i,X.2.src,0,pk0⟩] m→∀e∈m,e.kind=1→e.src=X.2.src:=λm hm e he h1=>by
  obtain⟨k,a,b⟩:=hm
  rw[a] at he
  rcases List.mem_append.1 he with he|he
  ·simp at he;rw[he]
  ·exact absurd h1 (b e he)
 unfold zq
 split
 ·split
  ·have h0:(evN s ⟨1,i,X.2.src,0,pk0⟩).ev=[⟨1,i,X.2.src,0,pk0⟩]:=by show s.ev++[_]=_;rw[hev];rfl
   apply key
   rw[←h0]
   unfold hear2N
   split
   ·exact pkE_ad (backS_pk _ _ _ _)
   ·split
    ·exact hearsN_ad _ _ _ _ _ _
    ·exact (hearsN_ad _ _ _ _ _ _).trans (pkE_ad (backS_pk _ _ _ _))
  ·unfold adoptN
   split
   ·apply key
    unfold adopt2N movesN
    refine⟨[⟨7,i,X.2.src,0,pk0⟩,⟨2,i,X.2.src,0,pk0⟩,⟨6,i,X.2.src,0,pk0⟩],?_,?_⟩
    ·show (((s.ev++_)++_)++_)++_=_
     rw[hev];rfl
    ·intro e he
     simp at he
     rcases he with rfl|rfl|rfl <;> (intro e;cases e)
   ·intro e he;rw[hev] at he;cases he
 ·intro e he;rw[hev] at he;cases he
theorem ack_ad(L:List Int):Ad s.ev (z8 i s L now).ev:=by
 unfold z8
 split
 ·split
  ·unfold acksN j7
   split
   ·split
    ·exact hearsN_ad _ (qT (opnN s false)) _ _ _ _
    ·exact Ad.refl _
   ·split
    ·exact hearsN_ad _ (opnN s false) _ _ _ _
    ·exact Ad.refl _
  ·unfold failN
   split
   ·split
    ·split
     ·exact Ad.one _ (by show (5:Int)≠1;decide)
     ·exact Ad.refl _
    ·exact Ad.refl _
   ·exact Ad.refl _
 ·exact Ad.refl _
theorem ack_evpG(hev:s.ev=[])(h:GN c i t s)(ho:SO c i s)(L:List Int):EvP i c.nodes (z8 i s L now).ev∧(z8 i s L now).ev.length≤10:=by
 have hE:EvP i c.nodes s.ev:=by rw[hev];exact EvP.nil _ _
 have h0:s.ev.length=0:=by rw[hev];rfl
 unfold z8
 split
 ·rename_i hx
  simp only[Bool.and_eq_true] at hx
  obtain⟨hs,_⟩:=ho hx.1.2
  split
  ·unfold acksN
   split
   ·obtain⟨a1,a2⟩:=doneN_evp (i:=i) (c:=c) (s:=qT (opnN s false)) (f:=(decF L).2) (tt:=s.sdst) (rk:=(zZ (decF L).2 now).1) (now:=now) hE ⟨hs.1,hs.2.1⟩
    exact⟨a1,by have:(qT (opnN s false)).ev.length=0:=h0;omega⟩
   ·obtain⟨a1,a2⟩:=doneN_evp (i:=i) (c:=c) (s:=opnN s false) (f:=(decF L).2) (tt:=s.sdst) (rk:=(zZ (decF L).2 now).1) (now:=now) hE ⟨hs.1,hs.2.1⟩
    exact⟨a1,by have:(opnN s false).ev.length=0:=h0;omega⟩
  ·unfold failN
   split
   ·split
    ·split
     ·refine⟨EvP.snoc (l:=s.ev) hE _ (λe=>by rcases e with e|e <;> cases e) (λe=>by cases e),?_⟩
      show (s.ev++[_]).length≤10
      rw[List.length_append];simp;omega
     ·exact⟨hE,by show s.ev.length≤10;omega⟩
    ·exact⟨hE,by show s.ev.length≤10;omega⟩
   ·exact⟨hE,by show s.ev.length≤10;omega⟩
 ·exact⟨hE,by omega⟩
theorem drops_evp(L:List (Int×List Int)):∀s:NSt,EvP i n s.ev→EvP i n (jg i L s).ev∧(jg i L s).ev.length≤s.ev.length+L.length∧Ad s.ev (jg i L s).ev:=by
 induction L with
 |nil=>intro s h;exact⟨h,by show s.ev.length≤_;omega,Ad.refl _⟩
 |cons p rest ih=>
  intro s h
  unfold jg
  split
  ·obtain⟨a,b,k⟩:=ih (evN (qT s) ⟨5,i,0,3,(decP p.2).2⟩) (EvP.snoc (l:=s.ev) h _ (λe=>by rcases e with e|e <;> cases e) (λe=>by cases e))
   refine⟨a,?_,(show Ad s.ev (evN (qT s) ⟨5,i,0,3,(decP p.2).2⟩).ev from Ad.one s.ev (by show (5:Int)≠1;decide)).trans k⟩
   have:(evN (qT s) ⟨5,i,0,3,(decP p.2).2⟩).ev.length=s.ev.length+1:=by show (s.ev++[_]).length=_;simp
   simp only[List.length_cons]
   omega
  ·obtain⟨a,b,k⟩:=ih (qT s) h
   refine⟨a,?_,k⟩
   have:(qT s).ev.length=s.ev.length:=rfl
   simp only[List.length_cons]
   omega
theorem end_ev(hev:s.ev=[])(h:GN c i t s):EvP i c.nodes (j6 c i s now).ev∧(j6 c i s now).ev.length≤50∧No1 (j6 c i s now).ev:=by
 have hE:EvP i c.nodes s.ev:=by rw[hev];exact EvP.nil _ _
 have h0:s.ev.length=0:=by rw[hev];rfl
 have hn:No1 s.ev:=by rw[hev];exact No1.nil
 unfold j6
 split
 ·exact⟨hE,by omega,hn⟩
 ·split
  ·split
   ·unfold endLN
    obtain⟨a,b,k⟩:=drops_evp (i:=i) (n:=c.nodes) s.q (evN (lost0N s) ⟨3,i,0,0,pk0⟩) (by
     show EvP i c.nodes (s.ev++[_])
     exact EvP.snoc hE _ (λ_=>rfl) (λe=>by cases e))
    have e1:(evN (lost0N s) ⟨3,i,0,0,pk0⟩).ev=[⟨3,i,0,0,pk0⟩]:=by show s.ev++[_]=_;rw[hev];rfl
    have hq:=h.ql
    rw[e1] at b k
    refine⟨a,by simp at b;omega,?_⟩
    obtain⟨m,em,nm⟩:=k
    rw[em]
    exact (No1.one (λe=>by cases e)).app nm
   ·unfold endN zQ
    split
    ·exact⟨hE,by show s.ev.length≤50;omega,hn⟩
    ·refine⟨EvP.snoc (l:=s.ev) hE _ (λe=>by rcases e with e|e <;> cases e) (λe=>by cases e),?_,?_⟩
     ·show (s.ev++[_]).length≤50
      rw[List.length_append];simp;omega
     ·show No1 (s.ev++[_])
      exact hn.app (No1.one (by show (6:Int)≠1;decide))
  ·exact⟨hE,by omega,hn⟩
/- bounds -/
def Bd(n:Nat)(M:Int)(b:List Int):Prop:=b.length=n∧∀z∈b,-1≤z∧z≤M
theorem Bd.at{M:Int}{b:List Int}(h:Bd n M b)(hM:0≤M)(j:Nat): -1≤atL b j∧atL b j≤M:=by
 unfold atL
 by_cases hj:j<b.length
 ·rw[List.getD_eq_getElem?_getD,List.getElem?_eq_getElem hj]
  exact h.2 _ (List.getElem_mem hj)
 ·rw[List.getD_eq_getElem?_getD,List.getElem?_eq_none (by omega)]
  exact⟨by show (-1:Int)≤0;decide,hM⟩
theorem Bd.mono{M M':Int}{b:List Int}(h:Bd n M b)(e:M≤M'):Bd n M' b:=⟨h.1,λz hz=>by have:=h.2 z hz;omega⟩
theorem Bd.set{M:Int}{b:List Int}(h:Bd n M b)(j:Nat)(v:Int)(hv: -1≤v∧v≤M):Bd n M (b.set j v):=⟨by rw[List.length_set];exact h.1,λz hz=>by
 rcases List.mem_or_eq_of_mem_set hz with hz|hz
 ·exact h.2 z hz
 ·rw[hz];exact hv⟩
theorem Bd.tells{M K err:Int}{known:List Int}(hk:Bd n K known)(hK:0≤K)(he:0≤err)(hM:K+err≤M)(l:List Ev):∀{b:List Int},Bd n M b→Bd n M (l.foldl (tellF err known) b):=by
 induction l with
 |nil=>intro b h;exact h
 |cons e l ih=>
  intro b h
  rw[List.foldl_cons]
  apply ih
  unfold tellF
  split
  ·have:=hk.at hK e.src.toNat
   apply h.set
   split <;> omega
  ·split
   ·exact h.set _ _ (by omega)
   ·exact h
structure GW(c:Cfg)(t:Int)(x:WM):Prop where
 nl:x.nodes.length=c.nodes
 bd:Bd c.nodes (2000*t) x.bound
 nd:∀i,i<c.nodes→GN c i t (x.nd i)∧(x.nd i).ev=[]
theorem GW.mono(h:GW c t x){t':Int}(e:t≤t'):GW c t' x:=⟨h.nl,h.bd.mono (by omega),λi hi=>⟨(h.nd i hi).1.mono e,(h.nd i hi).2⟩⟩
theorem nd_set(y:WM)(k j:Nat)(s:NSt)(hk:k<y.nodes.length)(bb:List Int)(ev:List Ev)(air:List Snd)(bk:List (Option (List Int))):(WM.mk (y.nodes.set k s) bb ev air bk).nd j=if j=k then s else y.nd j:=put_nd y k j s hk
theorem snd_set(y:WM)(k j:Nat)(p:Snd)(hk:k<y.air.length)(nn:List NSt)(bb:List Int)(ev:List Ev)(bk:List (Option (List Int))):(WM.mk nn bb ev (y.air.set k p) bk).snd j=if j=k then p else y.snd j:=by
 unfold WM.snd
 exact set_getD y.air k j p (0,[],0) hk
/- the clocks -/
structure G1(c:Cfg)(t:Int)(x:WM)(k:Nat)(y:WM):Prop where
 nl:y.nodes.length=c.nodes
 bd:Bd c.nodes (2000*t+k) y.bound
 ev:y.ev=x.ev
 nd:∀i,i<c.nodes→GN c i (if i<k then t+1 else t) (y.nd i)∧(y.nd i).ev=[]
theorem GW.g1(h:GW c t x)(ht:0≤t)(d:Dr):∀k,k≤c.nodes→G1 c t x k (iter (zC d) k x):=by
 intro k
 induction k with
 |zero=>intro _;exact⟨h.nl,h.bd.mono (by omega),rfl,λi hi=>by rw[if_neg (by omega)];exact h.nd i hi⟩
 |succ k ih=>
  intro hk
  obtain⟨a1,a2,a3,a4⟩:=ih (by omega)
  show G1 c t x (k+1) (zC d k (iter (zC d) k x))
  obtain⟨y,hy⟩:=qZ (iter (zC d) k x)
  rw[←hy] at a1 a2 a3 a4 ⊢
  unfold zC
  have h1:=a2.at (by omega) k
  refine⟨by simp[a1],(a2.mono (by omega)).set _ _ (by unfold ageB;split <;> omega),a3,λi hi=>?_⟩
  rw[nd_set y k i _ (by omega)]
  by_cases e:i=k
  ·subst e
   rw[if_pos rfl,if_pos (by omega)]
   have:=a4 i hi
   rw[if_neg (by omega)] at this
   exact⟨this.1.slot _,this.2⟩
  ·rw[if_neg e]
   have:=a4 i hi
   by_cases e2:i<k
   ·rw[if_pos e2] at this;rw[if_pos (by omega)];exact this
   ·rw[if_neg e2] at this;rw[if_neg (by omega)];exact this
/- who sends -/
def SndOk(c:Cfg)(now:Int)(i:Nat)(y:WM):Prop:=
 OffOk (y.snd i).2.2∧(y.snd i).2.1.length≤1000∧((y.snd i).2.1.isEmpty=false→i<c.nodes∧now % (c.nodes:Int)=i∧(decF (y.snd i).2.1).1=0∧(decF (y.snd i).2.1).2.src=i)
structure G2(c:Cfg)(t now:Int)(x:WM)(bb:List Int)(k:Nat)(y:WM):Prop where
 nl:y.nodes.length=c.nodes
 al:y.air.length=c.nodes
 bd:y.bound=bb
 ev:y.ev=x.ev
 nd:∀i,i<c.nodes→GN c i (t+1) (y.nd i)∧(y.nd i).ev=[]
 sn:∀i,SndOk c now i y
 so:∀i,(y.snd i).2.1.isEmpty=false→SO c i (y.nd i)
 em:∀i,k≤i→(y.snd i).2.1.isEmpty=true
theorem GN.off(h:GN c i t s)(ht:t≤1000000):OffOk (offN s):=by
 have h1:=h.base
 have h2:=h.sum
 unfold OffOk offN downf
 omega
theorem plan_bytes(h:(zS c i s now).2.2.isEmpty=false):now % (c.nodes:Int)=i∧(decF (zS c i s now).2.2).1=0∧(decF (zS c i s now).2.2).2.src=i:=by
 unfold zS at h ⊢
 split
 ·rename_i hx
  simp only[Bool.and_eq_true,decide_eq_true_eq] at hx
  rw[if_pos (by simp only[Bool.and_eq_true,decide_eq_true_eq];exact hx)] at h
  dsimp only at h ⊢
  unfold encO at h ⊢
  by_cases hm:mayF (vJ c i s now)=true
  ·rw[if_pos hm]
   rw[decF_enc _ hm]
   refine⟨hx.2,rfl,?_⟩
   unfold vJ
   split
   ·rfl
   ·split <;> rfl
  ·rw[if_neg hm] at h
   exact absurd h (by decide)
 ·rename_i hx
  rw[if_neg hx] at h
  cases h
theorem plan_len:(zS c i s now).2.2.length≤1000:=by
 unfold zS
 split
 ·dsimp only
  unfold encO
  split
  ·rename_i hm;exact encF_len _ hm
  ·simp
 ·simp
theorem plan_ev:(zS c i s now).1.ev=s.ev:=by
 unfold zS
 split <;> rfl
theorem G2.step{bb:List Int}(ht:t≤999999)(k:Nat)(hk:k<c.nodes)(h:G2 c t now x bb k y):G2 c t now x bb (k+1) (vH c now k y):=by
 obtain⟨a1,a2,a3,a4,a5,a6,a7,a8⟩:=h
 unfold vH
 have hN:=a5 k hk
 have hP:GN c k (t+1) (zS c k (y.nd k) now).1:=hN.1.plan
 refine⟨by simp[a1],by simp[a2],a3,a4,λi hi=>?_,λi=>?_,λi hne=>?_,λi hi=>?_⟩
 ·rw[nd_set y k i _ (by omega)]
  by_cases e:i=k
  ·subst e;rw[if_pos rfl];exact⟨hP,by rw[plan_ev];exact hN.2⟩
  ·rw[if_neg e];exact a5 i hi
 ·unfold SndOk
  rw[snd_set y k i _ (by omega)]
  by_cases e:i=k
  ·subst e
   rw[if_pos rfl]
   refine⟨hP.off (by omega),plan_len,λhne=>?_⟩
   obtain⟨b1,b2,b3⟩:=plan_bytes hne
   exact⟨hk,b1,b2,b3⟩
  ·rw[if_neg e];exact a6 i
 ·rw[snd_set y k i _ (by omega)] at hne
  rw[nd_set y k i _ (by omega)]
  by_cases e:i=k
  ·subst e;rw[if_pos rfl] at hne ⊢;exact hN.1.planS hne
  ·rw[if_neg e] at hne ⊢;exact a7 i hne
 ·rw[snd_set y k i _ (by omega),if_neg (by omega)];exact a8 i (by omega)
theorem G2.iter{bb:List Int}(ht:t≤999999)(h:G2 c t now x bb 0 y):∀k,k≤c.nodes→G2 c t now x bb k (iter (vH c now) k y):=by
 intro k
 induction k with
 |zero=>intro _;exact h
 |succ k ih=>intro hk;exact (ih (by omega)).step ht k (by omega)
/- who hears -/
structure G3(c:Cfg)(t now:Int)(ij:Inj)(x y1:WM)(k:Nat)(y:WM):Prop where
 nl:y.nodes.length=c.nodes
 air:y.air=y1.air
 bl:y.back.length=c.nodes
 bd:Bd c.nodes (2000*(t+1)) y.bound
 nd:∀i,i<c.nodes→GN c i (t+1) (y.nd i)∧(y.nd i).ev=[]
 so:∀i,(y1.snd i).2.1.isEmpty=false→SO c i (y.nd i)
 bk:∀j,((y.back.getD j none).getD []).length≤1000
 evl:y.ev.length≤10*k
 ev1:ij=qh→∀e∈y.ev,e.kind=1→e.src=now % (c.nodes:Int)
theorem snd_air{y y1:WM}(h:y.air=y1.air)(i:Nat):y.snd i=y1.snd i:=by unfold WM.snd;rw[h]
theorem heardW_mem{j:Nat}(h:j∈heardW c d y i):j<c.nodes∧(y.snd j).2.1.isEmpty=false:=by
 unfold heardW at h
 rw[List.mem_filter,List.mem_range] at h
 refine⟨h.1,?_⟩
 have:=h.2
 unfold jb at this
 simp only[Bool.and_eq_true,Bool.not_eq_true'] at this
 exact this.1.2.1
theorem G3.step{y1:WM}{known:List Int}(hc:CfgOk c)(hkn:Bd c.nodes (2000*t+16) known)(ht:0≤t)(hsn:∀i,SndOk c now i y1)(k:Nat)(hk:k<c.nodes)(h:G3 c t now ij x y1 k y):G3 c t now ij x y1 (k+1) (qz c d known now ij k y):=by
 obtain⟨a1,a2,a3,a4,a5,a6,a7,a8,a9⟩:=h
 have hce:=hc.e
 have hsame:G3 c t now ij x y1 (k+1) y:=⟨a1,a2,a3,a4,a5,a6,a7,by omega,a9⟩
 have hnode:∀(L:List Int) (ms:Int) (bk:List (Option (List Int))),(y1.snd k).2.1.isEmpty=true→bk.length=c.nodes→(∀j,((bk.getD j none).getD []).length≤1000)→(ij=qh→(decF L).2.src=now % (c.nodes:Int))→
   G3 c t now ij x y1 (k+1) {WM.tells c known (y.put k (noEv (zq k c (y.nd k) (decF L) now ms (z7 c k (decF L).2)))) (zq k c (y.nd k) (decF L) now ms (z7 c k (decF L).2)).ev with back:=bk}:=by
  intro L ms bk he hbk hbl hsrc
  obtain⟨n1,n2⟩:=a5 k hk
  obtain⟨e1,e2⟩:=hearN_evpV (c:=c) (i:=k) n2 (decF L) now ms
  have e3:=hear_k1 (c:=c) (i:=k) (now:=now) n2 (decF L) ms
  unfold WM.tells
  refine⟨by simp[WM.put,a1],a2,hbk,hkn.tells (by omega) hce.1 (by omega) _ a4,λi hi=>?_,λi hne=>?_,hbl,?_,λhn e he h1=>?_⟩
  ·show GN c i (t+1) ((y.put k _).nd i)∧((y.put k _).nd i).ev=[]
   rw[put_nd y k i _ (by omega)]
   by_cases e:i=k
   ·subst e;rw[if_pos rfl];exact⟨(n1.hear hc _ _).noEv,rfl⟩
   ·rw[if_neg e];exact a5 i hi
  ·show SO c i ((y.put k _).nd i)
   rw[put_nd y k i _ (by omega)]
   by_cases e:i=k
   ·subst e;rw[he] at hne;cases hne
   ·rw[if_neg e];exact a6 i hne
  ·show (y.ev++_).length≤10*(k+1)
   rw[List.length_append];omega
  ·have he:e∈y.ev++_:=he
   rcases List.mem_append.1 he with he|he
   ·exact a9 hn e he h1
   ·rw[e3 e he h1];exact hsrc hn
 unfold qz
 by_cases he:(y.snd k).2.1.isEmpty=true
 ·rw[if_pos he]
  have he1:(y1.snd k).2.1.isEmpty=true:=by rw[←snd_air a2];exact he
  split
  ·rename_i j hj
   obtain⟨hj1,hj2⟩:=heardW_mem (c:=c) (d:=d) (y:=y) (i:=k) (j:=j) (by rw[hj];simp)
   unfold hear1V
   refine hnode _ _ _ he1 (by simp[a3]) (λq=>?_) (λ_=>?_)
   ·rw[set_getD _ _ _ _ _ (by omega)]
    split
    ·exact ansN_len
    ·exact a7 q
   ·rw[snd_air a2] at hj2 ⊢
    obtain⟨_,_,k3⟩:=hsn j
    obtain⟨_,m1,m2,m3⟩:=k3 hj2
    rw[m3,m1]
  ·split
   ·rename_i b hb
    unfold hear0V
    exact hnode b _ y.back he1 a3 a7 (λe=>by rw[e] at hb;cases hb)
   ·exact hsame
  ·exact hsame
 ·rw[if_neg he];exact hsame
theorem G3.iter{y1:WM}{known:List Int}(hc:CfgOk c)(hkn:Bd c.nodes (2000*t+16) known)(ht:0≤t)(hsn:∀i,SndOk c now i y1)(h:G3 c t now ij x y1 0 y):∀k,k≤c.nodes→G3 c t now ij x y1 k (iter (qz c d known now ij) k y):=by
 intro k
 induction k with
 |zero=>intro _;exact h
 |succ k ih=>intro hk;exact (ih (by omega)).step hc hkn ht hsn k (by omega)
/- who is answered -/
structure G4(c:Cfg)(t now:Int)(ij:Inj)(x y1:WM)(k:Nat)(y:WM):Prop where
 nl:y.nodes.length=c.nodes
 air:y.air=y1.air
 bd:Bd c.nodes (2000*(t+1)) y.bound
 nd:∀i,i<c.nodes→GN c i (t+1) (y.nd i)∧(y.nd i).ev=[]
 so:∀i,k≤i→(y1.snd i).2.1.isEmpty=false→SO c i (y.nd i)
 bk:∀j,((y.back.getD j none).getD []).length≤1000
 evl:y.ev.length≤160+10*k
 ev1:ij=qh→∀e∈y.ev,e.kind=1→e.src=now % (c.nodes:Int)
theorem answer_len(h:∀j,((y.back.getD j none).getD []).length≤1000):((jK c d y i).getD []).length≤1000:=by
 unfold jK
 dsimp only
 split
 ·exact h _
 ·simp
theorem G4.step{y1:WM}{known:List Int}(hc:CfgOk c)(hkn:Bd c.nodes (2000*t+16) known)(ht:0≤t)(k:Nat)(hk:k<c.nodes)(h:G4 c t now ij x y1 k y):G4 c t now ij x y1 (k+1) (ackV c d known now k y):=by
 obtain⟨a1,a2,a3,a4,a5,a6,a7,a8⟩:=h
 have hce:=hc.e
 unfold ackV
 by_cases he:(y.snd k).2.1.isEmpty=true
 ·rw[if_pos he]
  exact⟨a1,a2,a3,a4,λi hi=>a5 i (by omega),a6,by omega,a8⟩
 ·rw[if_neg he]
  have he1:(y1.snd k).2.1.isEmpty=false:=by rw[←snd_air a2];simpa using he
  obtain⟨n1,n2⟩:=a4 k hk
  have ho:=a5 k (Nat.le_refl _) he1
  obtain⟨e1,e2⟩:=ack_evpG (now:=now) n2 n1 ho ((jK c d y k).getD [])
  have e3:=ack_ad (i:=k) (s:=y.nd k) (now:=now) ((jK c d y k).getD [])
  unfold WM.tells
  refine⟨by simp[WM.put,a1],a2,hkn.tells (by omega) hce.1 (by omega) _ a3,λi hi=>?_,λi hi hne=>?_,a6,?_,λhn e he h1=>?_⟩
  ·show GN c i (t+1) ((y.put k _).nd i)∧((y.put k _).nd i).ev=[]
   rw[put_nd y k i _ (by omega)]
   by_cases e:i=k
   ·subst e;rw[if_pos rfl];exact⟨(n1.ack ho _).noEv,rfl⟩
   ·rw[if_neg e];exact a4 i hi
  ·show SO c i ((y.put k _).nd i)
   rw[put_nd y k i _ (by omega),if_neg (by omega)]
   exact a5 i (by omega) hne
  ·show (y.ev++_).length≤160+10*(k+1)
   rw[List.length_append];omega
  ·have he:e∈y.ev++_:=he
   rcases List.mem_append.1 he with he|he
   ·exact a8 hn e he h1
   ·obtain⟨m,em,nm⟩:=e3
    rw[em,n2] at he
    exact absurd h1 (nm e (by simpa using he))
theorem G4.iter{y1:WM}{known:List Int}(hc:CfgOk c)(hkn:Bd c.nodes (2000*t+16) known)(ht:0≤t)(h:G4 c t now ij x y1 0 y):∀k,k≤c.nodes→G4 c t now ij x y1 k (iter (ackV c d known now) k y):=by
 intro k
 induction k with
 |zero=>intro _;exact h
 |succ k ih=>intro hk;exact (ih (by omega)).step hc hkn ht k (by omega)
/- the end -/
structure G5(c:Cfg)(t now:Int)(ij:Inj)(x:WM)(k:Nat)(y:WM):Prop where
 nl:y.nodes.length=c.nodes
 bd:Bd c.nodes (2000*(t+1)) y.bound
 nd:∀i,i<c.nodes→GN c i (t+1) (y.nd i)∧(y.nd i).ev=[]
 evl:y.ev.length≤320+50*k
 ev1:ij=qh→∀e∈y.ev,e.kind=1→e.src=now % (c.nodes:Int)
theorem G5.step{known:List Int}(hc:CfgOk c)(hkn:Bd c.nodes (2000*t+16) known)(ht:0≤t)(k:Nat)(hk:k<c.nodes)(h:G5 c t now ij x k y):G5 c t now ij x (k+1) (endV c known now k y):=by
 obtain⟨a1,a3,a4,a7,a8⟩:=h
 have hce:=hc.e
 obtain⟨n1,n2⟩:=a4 k hk
 obtain⟨e1,e2,e3⟩:=end_ev (now:=now) n2 n1
 unfold endV WM.tells
 refine⟨by simp[WM.put,a1],hkn.tells (by omega) hce.1 (by omega) _ a3,λi hi=>?_,?_,λhn e he h1=>?_⟩
 ·show GN c i (t+1) ((y.put k _).nd i)∧((y.put k _).nd i).ev=[]
  rw[put_nd y k i _ (by omega)]
  by_cases e:i=k
  ·subst e;rw[if_pos rfl];exact⟨n1.endD.noEv,rfl⟩
  ·rw[if_neg e];exact a4 i hi
 ·show (y.ev++_).length≤320+50*(k+1)
  rw[List.length_append];omega
 ·have he:e∈y.ev++_:=he
  rcases List.mem_append.1 he with he|he
  ·exact a8 hn e he h1
  ·exact absurd h1 (e3 e he)
theorem G5.iter{known:List Int}(hc:CfgOk c)(hkn:Bd c.nodes (2000*t+16) known)(ht:0≤t)(h:G5 c t now ij x 0 y):∀k,k≤c.nodes→G5 c t now ij x k (iter (endV c known now) k y):=by
 intro k
 induction k with
 |zero=>intro _;exact h
 |succ k ih=>intro hk;exact (ih (by omega)).step hc hkn ht k (by omega)
structure GS(c:Cfg)(d:Dr)(t now:Int)(ij:Inj)(x:WM):Prop where
 g1:∀k,k≤c.nodes→G1 c t x k (iter (zC d) k x)
 kn:Bd c.nodes (2000*t+16) (qf d c.nodes x).bound
 g2:∀k,k≤c.nodes→G2 c t now x (qf d c.nodes x).bound k (iter (vH c now) k (slotA d c x))
 g3:∀k,k≤c.nodes→G3 c t now ij x (jM c d now x) k (iter (qz c d (qf d c.nodes x).bound now ij) k (jM c d now x))
 g4:∀k,k≤c.nodes→G4 c t now ij x (jM c d now x) k (iter (ackV c d (qf d c.nodes x).bound now) k (zN c d c.nodes now ij x))
 g5:∀k,k≤c.nodes→G5 c t now ij x k (iter (endV c (qf d c.nodes x).bound now) k (slot4V c d c.nodes now ij x))
theorem GW.slot(hc:CfgOk c)(h:GW c t x)(hx:x.ev=[])(ht:0≤t∧t≤999999)(d:Dr)(now:Int)(ij:Inj):GS c d t now ij x:=by
 have hn1:=hc.n1
 have hce:=hc.e
 have k1:=h.g1 ht.1 d
 have kn:Bd c.nodes (2000*t+16) (qf d c.nodes x).bound:=(k1 c.nodes (Nat.le_refl _)).bd.mono (by omega)
 have a0:G2 c t now x (qf d c.nodes x).bound 0 (slotA d c x):=by
  obtain⟨b1,b2,b3,b4⟩:=k1 c.nodes (Nat.le_refl _)
  have hs:∀i,(slotA d c x).snd i=(0,[],0):=λi=>by
   unfold WM.snd slotA
   by_cases hi:i<c.nodes
   ·simp[List.getD_eq_getElem?_getD,List.getElem?_replicate,hi]
   ·simp[List.getD_eq_getElem?_getD,List.getElem?_replicate,hi]
  refine⟨b1,by simp[slotA],rfl,b3,λi hi=>?_,λi=>?_,λi hne=>?_,λi _=>by rw[hs];rfl⟩
  ·have:=b4 i hi
   rw[if_pos hi] at this
   exact this
  ·unfold SndOk
   rw[hs]
   exact⟨⟨by decide,by decide⟩,by simp,λe=>by cases e⟩
  ·rw[hs] at hne;cases hne
 have k2:=a0.iter ht.2
 have hB:G2 c t now x (qf d c.nodes x).bound c.nodes (jN c d c.nodes now x):=k2 c.nodes (Nat.le_refl _)
 have a1:G3 c t now ij x (jM c d now x) 0 (jM c d now x):=by
  obtain⟨b1,b2,b3,b4,b5,b6,b7,b8⟩:=hB
  refine⟨b1,rfl,by simp[jM],?_,b5,b7,λj=>?_,?_,λ_ e he=>?_⟩
  ·show Bd c.nodes (2000*(t+1)) (jN c d c.nodes now x).bound
   rw[b3];exact kn.mono (by omega)
  ·show (((List.replicate c.nodes none).getD j none).getD []).length≤1000
   by_cases hj:j<c.nodes
   ·simp[List.getD_eq_getElem?_getD,List.getElem?_replicate,hj]
   ·simp[List.getD_eq_getElem?_getD,List.getElem?_replicate,hj]
  ·show (jN c d c.nodes now x).ev.length≤10*0
   rw[b4,hx];simp
  ·have he:e∈(jN c d c.nodes now x).ev:=he
   rw[b4,hx] at he;cases he
 have k3:=a1.iter (d:=d) hc kn ht.1 (show∀i,SndOk c now i (jM c d now x) from hB.sn)
 have a2:G4 c t now ij x (jM c d now x) 0 (zN c d c.nodes now ij x):=by
  obtain⟨b1,b2,b3,b4,b5,b6,b7,b8,b9⟩:=k3 c.nodes (Nat.le_refl _)
  exact⟨b1,b2,b4,b5,λi _=>b6 i,b7,(show (zN c d c.nodes now ij x).ev.length≤160+10*0 from Nat.le_trans b8 (by omega)),b9⟩
 have k4:=a2.iter (d:=d) hc kn ht.1
 have a3:G5 c t now ij x 0 (slot4V c d c.nodes now ij x):=by
  obtain⟨b1,b2,b3,b4,b5,b6,b7,b8⟩:=k4 c.nodes (Nat.le_refl _)
  exact⟨b1,b3,b4,(show (slot4V c d c.nodes now ij x).ev.length≤320+50*0 from Nat.le_trans b7 (by omega)),b8⟩
 exact⟨k1,kn,k2,k3,k4,a3.iter hc kn ht.1⟩
theorem GS.fin(h:GS c d t now ij x):GW c (t+1) (zh (slot5V c d c.nodes now ij x))∧(ij=qh→∀e∈(slot5V c d c.nodes now ij x).ev,e.kind=1→e.src=now % (c.nodes:Int)):=by
 obtain⟨b1,b2,b3,b4,b5⟩:=h.g5 c.nodes (Nat.le_refl _)
 exact⟨⟨b1,b2,b3⟩,b5⟩
end
section
variable {c:Cfg}{d:Dr}{i:Nat}{t now:Int}{s:NSt}{x:WM}{ij:Inj}
theorem GN.planOk(h:GN c i t s)(ht:t≤100000):PlanOk i s:=by
 have h1:=h.base
 have h2:=h.sum
 have h3:=h.slots
 refine⟨h.pk.1,λhf=>h.pk.2 (λe=>hf (by unfold qR;rw[e])),⟨by have:=h.ql;omega,λp hp=>by have:=(h.q p hp).1;omega⟩,h.seq,by omega,by omega,by omega⟩
theorem GN.ackOk(h:GN c i t s)(ev:s.ev=[])(ho:SO c i s){L:List Int}(hL:L.length≤1000)(now:Int):AckOkV c i s L now:=by
 have h1:=h.base
 have h7:=h.tries
 refine⟨ev,by omega,?_⟩
 cases hs:s.sopen with
 |false=>exact .inl (.inr (.inl rfl))
 |true=>
  obtain⟨⟨k1,k2,k3⟩,k4⟩:=ho hs
  exact .inr ⟨by omega,h.pk.2,⟨k1,k2⟩,k3,λhk=>⟨k4 hk,by have:=h.ql;omega,λp hp=>by have:=(h.q p hp).1;omega,by omega⟩⟩
theorem GN.endOk(h:GN c i t s)(ev:s.ev=[])(now:Int):EndOkV c i s now:=by
 refine⟨ev,?_⟩
 by_cases h0:i=0∨s.synced=false
 ·exact .inl h0
 ·have hs:s.synced=true:=by
   cases e:s.synced with
   |true=>rfl
   |false=>exact absurd (.inr e) h0
  have hp:=h.pk.1 hs (λe=>h0 (.inl e))
  cases e1:s.p with
  |none=>exact absurd e1 hp
  |some y=>
   obtain⟨R,L⟩:=y
   cases e2:s.k with
   |none=>exact absurd e2 (h.pk.2 hp)
   |some k=>exact .inr ⟨R,L,k,rfl,rfl,.inr ⟨by have:=h.ql;omega,λp hp=>by have:=(h.q p hp).1;omega⟩⟩
theorem GW.bndOk(h:GW c t x)(ht:0≤t∧t≤100000):BndOk x:=λi=>by
 have:=h.bd.at (by omega) i
 omega
theorem GS.ok(h:GS c d t now ij x)(hw:GW c t x)(hc:CfgOk c)(ht:0≤t∧t≤99999)(hij:∀j b,ij j=some b→b.length≤100000):SlotOkV c d ij now x:=by
 have hn1:=hc.n1
 have hB:=h.g2 c.nodes (Nat.le_refl _)
 have hsB:∀i,SndOk c now i (jM c d now x):=hB.sn
 refine⟨λi hi=>?_,hw.bndOk ⟨ht.1,by omega⟩,⟨h.kn.1,λz hz=>by have:=h.kn.2 z hz;omega⟩,λq hq=>((h.g2 q (by omega)).nd q hq).1.planOk (by omega),λj=>(hB.sn j).1,λq hq=>?_,λq hq=>?_,λq hq hne=>?_,λq hq=>?_,λq hq=>?_,λq hq=>?_⟩
 ·have hg:=(hw.nd i hi).1
  have h1:=hg.sum
  have h2:=hg.slots
  have h3:=hg.lis
  exact⟨by omega,by omega,by omega⟩
 ·obtain⟨b1,b2,b3,b4,b5,b6,b7,b8,b9⟩:=h.g3 q (by omega)
  intro he
  obtain⟨g1,g2⟩:=b5 q hq
  have k1:=g1.base
  refine⟨⟨g2,by omega,λhs h0=>⟨g1.pk.1 hs h0,g1.pk.2 (g1.pk.1 hs h0)⟩,by have:=g1.ql;omega,λn L hL=>by have:=(g1.paths n L hL).2.1;omega⟩,λj hj=>?_,λ_ b hb=>hij q b hb⟩
  rw[snd_air b2]
  have:=(hsB j).2.1
  omega
 ·have:=(h.g3 q hq).evl;omega
 ·have h3:=h.g3 c.nodes (Nat.le_refl _)
  have ha:(zN c d c.nodes now ij x).air=(jM c d now x).air:=h3.air
  obtain⟨b1,b2,b3,b4,b5,b6,b7,b8⟩:=h.g4 q (by omega)
  rw[snd_air ha] at hne ⊢
  refine⟨by have:=(hsB q).2.1;omega,?_⟩
  obtain⟨g1,g2⟩:=b4 q hq
  exact g1.ackOk g2 (b5 q (Nat.le_refl _) hne) (answer_len b6) now
 ·have:=(h.g4 q hq).evl;omega
 ·obtain⟨g1,g2⟩:=(h.g5 q (by omega)).nd q hq
  exact g1.endOk g2 now
 ·have:=(h.g5 q hq).evl;omega
theorem GW.new(c:Cfg):GW c 0 (newW c):=by
 refine⟨by simp[newW],⟨by simp[newW],λz hz=>?_⟩,λi hi=>?_⟩
 ·unfold newW at hz
  rcases List.mem_or_eq_of_mem_set hz with hz|hz
  ·rw[(List.mem_replicate.1 hz).2];omega
  ·omega
 ·rw[newW_nd c i hi]
  exact⟨GN.new i (by omega),rfl⟩
end
end Go.Proofs.YtnpihllannobgaaGreatDoor
