/- Steps of the proof, part G10. No condition. -/
import Derived.Test.YtnpihllannobgaaGreatDoorG09
import Derived.Lib.SliceRun
namespace Go.Proofs.YtnpihllannobgaaGreatDoor
set_option linter.unusedVariables false
set_option linter.unusedSimpArgs false
set_option maxRecDepth 100000
set_option maxHeartbeats 32000000
open Go.ChangeShapes Go.WideShapes Go.ChangeAt Go.RowKit
def HopOk(L:List Int):Prop:=(∀c∈L,0≤c∧c≤31)∧L.Nodup∧1≤L.length∧L.length≤16
theorem nodup_at{L:List Int}(h:L.Nodup)(k:Nat)(z:Int)(hz:L[k]? =some z):(L.take k).contains z=false:=by
 rw[Bool.eq_false_iff]
 intro hc
 have hc:z∈L.take k:=by simpa using hc
 obtain⟨j,hj,he⟩:=List.getElem_of_mem hc
 have hlt:=(List.getElem?_eq_some_iff.1 hz).1
 have hj2:j<k:=by rw[List.length_take] at hj;omega
 have h1:L[j]'(by omega)=L[k]:=by
  rw[List.getElem_take] at he
  rw[he]
  exact (List.getElem?_eq_some_iff.1 hz).2.symm
 exact List.pairwise_iff_getElem.1 h j k (by omega) hlt hj2 h1
theorem hopmay_any(w:World)(A:Option Addr)(len c:Nat)(L:List Int)(h:Rs VI w w.heap.size A len L)(hc:len≤c)(hcm:c≤maxLen)(hL:HopOk L):
  Calls Tryz.prog 49 #[.slice A len c] w (PV (.bool true) w):=by
 have HR:=qQ h
 have HO:=qQ hL
 have hl:=h.1
 have h1:(1:Int)≤len:=by have:=hL.2.2.1;omega
 have h2:(len:Int)≤16:=by have:=hL.2.2.2;omega
 have hcc:(len:Int)≤c:=by omega
 have HL:=qQ hl
 clear h hL hl hcm
 go_enter Tryz.func49,Tryz.ntmps49
 go_wp2_with fail
 go_loopw [7] (λi wr=>∃(k:Nat),k≤len∧i= .int .i64 k∧Chg (λ_=>False) w wr) (λi _=>len-(intOf i).toNat)
 case atStart=>exact⟨0,by omega,rfl,Chg.refl _ _⟩
 case round=>
  obtain⟨k,hk,rfl,hG⟩:=hrel
  have HG:=qQ hG
  clear hG
  by_cases hlt:k<len
  ·obtain⟨x,z,rfl,_,hz,hcz⟩:=(HR.out.keep HG.out (λ_ _ e=>e)).at hlt
   obtain⟨z0,z1⟩:=HO.out.1 z (List.mem_of_getElem? hz)
   unfold VI at hcz
   have hcont:=jy wr (some x) k c (L.take k) z (((HR.out.keep HG.out (λ_ _ e=>e)).more HG.out.size).take k (by omega)) (by omega)
   rw[nodup_at HO.out.2.1 k z hz] at hcont
   have HC:=qQ hcont
   have hkc:(k:Int)≤c:=by omega
   have hkc2:k≤c:=by omega
   clear hz hcont
   go_wp2_with fail
   with_reducible refine HC.out.mono ?_
   rintro en w2 ⟨rfl,rfl⟩
   clear hcz
   go_wp2_with fail
   go_roundw
   case measure=>simp[intOf];omega
   case rel=>exact⟨k+1,by omega,by go_num,HG.out⟩
  ·obtain rfl:k=len:=by omega
   go_wp2_with fail
   go_ret
   exact⟨rfl,HG.out⟩
theorem delI_none(w:World)(A:Option Addr)(len c n:Nat)(caps:Array Value)(L:List Int)(h:Rs VI w w.heap.size A len L)(hL:len≤100000)(hf:FnI w n caps L (λ_=>false)):
  Calls Tryz.prog 143 #[.slice A len c,.func (.func n) #[] caps] w (PV (.slice A len c) w):=by
 have hi:=indexFI_any w A len c n caps L _ h hL hf
 rw[indexP_no L (λ_=>false) (λ_ _ _=>rfl)] at hi
 clear h hf
 go_enter Tryz.func143,Tryz.ntmps143
 go_wp2_with fail
 with_reducible refine hi.mono ?_
 rintro e w1 ⟨rfl,G⟩
 have HG:=qQ G
 clear G hi
 go_wp2_with fail
 go_ret
 exact⟨rfl,HG.out⟩
theorem cf144(args:Array Value)(w':World):(callFunc 144 args).run Tryz.prog w'= .ok (.enter 144 args) w':=by kernel_rfl
theorem black0(z:Int)(h0:0≤z)(h1:z≤31)(b:Nat)(w:World)(hc:w.cell? ⟨b,0,none⟩=some (.int .u32 0)):Calls Tryz.prog 144 #[.int .i64 z,.pointer (some ⟨b,0,none⟩)] w (PV (.bool false) w):=by
 go_enter Tryz.func144,Tryz.ntmps144
 go_wp2_with fail
 go_ret
 exact⟨vF (by decide+kernel),Chg.refl _ _⟩
theorem open_any(w:World)(A:Option Addr)(len c:Nat)(L:List Int)(h:Rs VI w w.heap.size A len L)(hA:A=none→c=0)(hc:len≤c)(hcm:c≤maxLen)(hL:HopOk L):
  Calls Tryz.prog 94 #[.slice A len c,.int .u32 0] w (PNew VI 3 w L):=by
 have hl:=h.1
 have hl16:len≤16:=by have:=hL.2.2.2;omega
 have hl1:1≤len:=by have:=hL.2.2.1;omega
 have g0:=Chg.alloc (λ_=>False) w (.cells #[.int .u32 0] 128)
 have hb0:=qV w (.cells #[.int .u32 0] 128)
 have hm:=hopmay_any _ A len c L ((h.keep g0 (λ_ _ e=>e)).more g0.size) hc hcm hL
 have HM:=qQ hm
 have HB:=qQ (And.intro g0 hb0)
 have HR:=qQ h
 have HA:=qQ hA
 have HO:=qQ hL
 have HL:=qQ hl
 clear h hA hL hl g0 hb0 hm hcm
 go_enter Tryz.func94,Tryz.ntmps94
 go_wp2_with fail
 with_reducible refine HM.out.mono ?_
 rintro en w2 ⟨rfl,G2⟩
 have HG2:=qQ (HB.out.1.trans G2)
 have HB2:=qQ (Chg.keep G2 HB.out.2 (λe=>e))
 clear G2 HB HM
 go_wp2_with fail
 (with_reducible refine (jz w2 A len c L ((HR.out.keep HG2.out (λ_ _ e=>e)).more HG2.out.size) HA.out (by omega)).mono ?_)
 rintro en w3 ⟨v3,rfl,hown,G3⟩
 rw[HL.out] at hown
 obtain⟨A3,c3,rfl,hr3,_⟩:=Rs.of_own (V:=VI) (zs:=L) hown
 have HG3:=qQ (HG2.out.trans G3)
 have HB3:=qQ (Chg.keep G3 HB2.out (λe=>e))
 have HO3:=qQ (qk hown HG2.out.size)
 have hdel:=delI_none w3 A3 len c3 144 #[.pointer (some ⟨w.heap.size,0,none⟩)] L hr3 (by omega) ⟨cf144,λz W hz gW=>by
  have hzb:=HO.out.1 z hz
  exact black0 z hzb.1 hzb.2 w.heap.size W (by
   rw[qJ (Chg.keep gW HB3.out (λe=>e))];rfl)⟩
 have HD:=qQ hdel
 clear hown hr3 G3 HG2 HB2 hdel
 go_wp2_with fail
 with_reducible refine HD.out.mono ?_
 rintro en w4 ⟨rfl,G4⟩
 have HX:=qQ (And.intro (qY HO3.out G4 (λ_ _ e=>e)) (HG3.out.trans G4))
 have hz:(len==0)=false:=by simp;omega
 have hz2:((len:Int)==0)=false:=by simp;omega
 clear G4 HO3 HG3 HD HB3
 go_wp2_with fail
 go_ret
 refine⟨_,rfl,?_,HX.out.2⟩
 rw[HL.out];exact HX.out.1
def jW(L:List Int)(asn:Int):Int:=L.getD (asn % (L.length:Int)).toNat 0
theorem channel_any(w:World)(A:Option Addr)(len c:Nat)(L:List Int)(asn:Int)(h:Rs VI w w.heap.size A len L)(hA:A=none→c=0)(hc:len≤c)(hcm:c≤maxLen)(hL:HopOk L)(h0:0≤asn)(h1:asn<1099511627776):
  Calls Tryz.prog 57 #[.slice A len c,.int .u32 0,.int .i64 asn,.int .i64 0] w (PV (.int .i64 (jW L asn)) w):=by
 have hl:=h.1
 have hl16:len≤16:=by have:=hL.2.2.2;omega
 have hl1:1≤len:=by have:=hL.2.2.1;omega
 have hop:=open_any w A len c L h hA hc hcm hL
 have HO:=qQ hop
 have HL:=qQ hl
 clear h hA hL hop hcm hl
 go_enter Tryz.func57,Tryz.ntmps57
 go_wp2_with fail
 with_reducible refine HO.out.mono ?_
 rintro en w2 ⟨v2,rfl,hown,G2⟩
 rw[HL.out] at hown
 obtain⟨A2,c2,rfl,hr2,_⟩:=Rs.of_own (V:=VI) (zs:=L) hown
 obtain⟨q,hq⟩:∃q:Nat,q=(asn % (len:Int)).toNat:=⟨_,rfl⟩
 have hm:=Int.emod_lt_of_pos asn (show (0:Int)<len by omega)
 have hm0:=Int.emod_nonneg asn (show (len:Int)≠0 by omega)
 have hqi:(q:Int)=asn % (len:Int):=by rw[hq];omega
 have hql:q<len:=by omega
 obtain⟨x,z,rfl,_,hz,hcz⟩:=hr2.at hql
 unfold VI at hcz
 have hch:jW L asn=z:=by
  unfold jW
  rw[HL.out,←hq,List.getD_eq_getElem?_getD,hz];rfl
 have HCH:=qQ hch
 have HG2:=qQ G2
 have hz1:(len==0)=false:=by simp;omega
 have hz2:((len:Int)==0)=false:=by simp;omega
 have e1:asn.tmod (len:Int)=(q:Int):=by rw[Int.tmod_eq_emod_of_nonneg h0,hqi]
 have i1:(q:Int)<(len:Int):=by omega
 have e2:asn % (len:Int)=(q:Int):=hqi.symm
 clear hown hr2 hq hm hm0 hqi hz hch G2 HO
 go_wp2_with fail
 go_ret
 rw[HCH.out]
 exact⟨rfl,HG2.out⟩
structure Pa where
 rank:Int
 node:Int
 heard:Int
 deriving DecidableEq
def VPa(p:Pa):Value:= .agg #[.int .i64 p.rank,.int .i64 p.node,.int .i64 p.heard]
def vH(p:Pa):List Value:=[.int .i64 p.rank,.int .i64 p.node,.int .i64 p.heard]
theorem z6(p:Pa):(vH p).length=3:=rfl
def RowP(w:World)(base:Nat)(v:Value)(L:List Pa):Prop:=w.ownsRow base 104 3 v L.length (L.flatMap vH)
theorem RowP.at{w:World}{base g cap:Nat}{L:List Pa}{n:Nat}(h:RowP w base (.slice (some ⟨g,0,none⟩) n cap) L){k:Nat}{p:Pa}(hk:L[k]? =some p):
  w.cell? ⟨g,k*3,none⟩=some (.int .i64 p.rank)∧w.cell? ⟨g,k*3+1,none⟩=some (.int .i64 p.node)∧w.cell? ⟨g,k*3+2,none⟩=some (.int .i64 p.heard):=by
 have hn:n=L.length:=by
  rcases h.2 with ⟨h1,_⟩|⟨g',c',_,h1,_⟩
  ·cases h1
  ·cases h1;rfl
 subst hn
 refine⟨qL h _ _ ?_,qL h _ _ ?_,qL h _ _ ?_⟩
 ·exact vh z6 L k 0 p hk (by omega)
 ·exact vh z6 L k 1 p hk (by omega)
 ·exact vh z6 L k 2 p hk (by omega)
structure FnP(S:Nat→Prop)(w:World)(n:Nat)(caps:Array Value)(L:List Pa)(p:Pa→Bool):Prop where
 cf:∀(args:Array Value) (w':World),(callFunc n args).run Tryz.prog w'= .ok (.enter n args) w'
 at':∀(z:Pa) (w':World),z∈L→Chg S w w'→Calls Tryz.prog n (#[VPa z]++caps) w' (PV (.bool (p z)) w')
theorem indexFP_any(S:Nat→Prop)(w:World)(base:Nat)(v:Value)(n:Nat)(caps:Array Value)(L:List Pa)(p:Pa→Bool)(h:RowP w base v L)(hL:L.length≤1000)(hf:FnP S w n caps L p):
  Calls Tryz.prog 228 #[v,.func (.func n) #[] caps] w (PV (.int .i64 (indexP L p)) w):=by
 have HR:=qQ h
 have HF:=qQ hf
 obtain⟨A,c,len,rfl,hlen⟩:∃A c len,v= .slice A len c∧len=L.length:=by
  rcases qD h with ⟨e,h1,_⟩|⟨g,cap,e,_⟩
  ·exact⟨_,_,_,e,h1.symm⟩
  ·exact⟨_,_,_,e,rfl⟩
 rw[←hlen] at hL
 have hl:(len:Int)≤1000:=by omega
 have HL:=qQ hlen
 clear hf hlen h
 go_enter Tryz.func228,Tryz.ntmps228
 go_wp2_with fail
 go_loopw [8] (λi wr=>∃(k:Nat),k≤len∧i= .int .i64 k∧(∀j y,j<k→L[j]? =some y→p y=false)∧Chg (λ_=>False) w wr) (λi _=>len-(intOf i).toNat)
 case atStart=>exact⟨0,by omega,rfl,(λj y hj=>absurd hj (by omega)),Chg.refl _ _⟩
 case round=>
  obtain⟨k,hk,rfl,hno,hG⟩:=hrel
  have HN:=qQ hno
  have HG:=qQ hG
  clear hno hG
  by_cases hlt:k<len
  ·obtain⟨z,hz⟩:∃z,L[k]? =some z:=⟨_,List.getElem?_eq_getElem (by have:=HL.out;omega)⟩
   obtain⟨g,cap,hv⟩:∃g cap,A=some ⟨g,0,none⟩∧c=cap:=by
    rcases qD HR.out with ⟨e,h1,_⟩|⟨g,cap,e,_⟩
    ·have:=HL.out;omega
    ·cases e;exact⟨_,_,rfl,rfl⟩
   obtain⟨rfl,rfl⟩:=hv
   have hrow:RowP wr base _ L:=qY HR.out HG.out (λ_ _ e=>e)
   obtain⟨c0,c1,c2⟩:=hrow.at hz
   have hmem:=List.mem_of_getElem? hz
   have hcf:=HF.out.cf
   have hat:=HF.out.at' z wr hmem HG.out.none
   have i1:(k:Int)<(len:Int):=by omega
   unfold VPa at hat
   have HA:=qQ hat
   have HZ:=qQ hz
   clear hz hat hmem hrow
   go_wp2_with fail
   clear hcf c0 c1 c2
   with_reducible refine HA.out.mono ?_
   rintro e w1 ⟨rfl,G1⟩
   have HG1:=qQ (HG.out.trans G1)
   clear G1 HA HG
   by_cases hp:p z=true
   ·rw[hp]
    have hi:=indexP_at L p k z HZ.out hp HN.out
    have HI:=qQ hi
    clear hi hp
    go_wp2_with fail
    go_ret
    rw[HI.out];exact⟨rfl,HG1.out⟩
   ·have hp:p z=false:=by simpa using hp
    rw[hp]
    have hn:∀j y,j<k+1→L[j]? =some y→p y=false:=λj y hj hy=>by
     by_cases e:j=k
     ·subst e;rw[HZ.out] at hy;cases hy;exact hp
     ·exact HN.out j y (by omega) hy
    have HN1:=qQ hn
    clear hn hp
    go_wp2_with fail
    go_roundw
    case measure=>simp[intOf];omega
    case rel=>exact⟨k+1,by omega,by go_num,HN1.out,HG1.out⟩
  ·obtain rfl:k=len:=by omega
   have hi:=indexP_no L p (λj y hj=>HN.out j y (by have:=(List.getElem?_eq_some_iff.1 hj).1;rw[←HL.out] at this;exact this) hj)
   have HI:=qQ hi
   clear hi
   go_wp2_with fail
   go_ret
   rw[HI.out];exact⟨rfl,HG.out⟩
theorem zero104(w:World):(zeroValue 104).run Tryz.prog w= .ok (.agg #[.int .i64 0,.int .i64 0,.int .i64 0]) w:=by kernel_rfl
theorem run_clearS{P:Program}(w:World)(t e ty:TypeId)(z:Value)(size:Nat)(ht:P.underlying t=some (.slice e))(hv:∀w,(zeroValue e).run P w= .ok z w)(hz:z.cells.size=size)(hs:0<size)(h1:∀u∈z.cells.toList,u.oneCell'=true)(b o n c:Nat)(hn:0<n)
  (hc:∀j,j<n*size→(w.cell? ⟨b,o+j,none⟩).isSome=true) (hf:∀j,j<n*size→w.frozen? ⟨b,o+j,none⟩=false):
  ∃zs:List Value,zs.length=n*size∧(Builtin.clear_ #[t] ty #[.slice (some ⟨b,o,none⟩) n c]).run P w= .ok (.tuple #[]) (w.setCells b o zs):=by
 obtain⟨zs,hzs⟩:=qZ ((Builtin.zeroCells z.cells n).toList)
 have hl:zs.length=n*size:=by rw[hzs];simp[size_zeroCells,hz]
 have h1':∀v∈zs,v.oneCell'=true:=by
  intro v hv'
  rw[hzs] at hv'
  simp only[Builtin.zeroCells,Array.toList_map,List.mem_map] at hv'
  obtain⟨i,_,rfl⟩:=hv'
  apply h1
  have hlt:i % z.cells.size<z.cells.size:=Nat.mod_lt _ (by omega)
  rw[getElem!_pos z.cells _ hlt]
  simp
 have hst:=run_storeCells_cells (P:=P) b o zs 0 w (by rw[hl];simpa using hc) (by rw[hl];simpa using hf) h1'
 simp only[Nat.add_zero] at hst
 obtain⟨m,rfl⟩:∃m,n=m+1:=⟨n-1,by omega⟩
 exact⟨zs,hl,by simp[Builtin.clear_,run_underlying ht,hv,←hzs,hst]⟩
theorem block_setCells(b:Nat)(t:TypeId):∀(vs:List Value) (o:Nat) (w:World) (cur:Array Value),w.heap[b]? =some (.cells cur t (0,0))→
  ∃cur',(w.setCells b o vs).heap[b]? =some (.cells cur' t (0,0))∧cur'.size=cur.size∧∀k,k<o→cur'[k]? =cur[k]?
 |[],o,w,cur,h=>⟨cur,h,rfl,λ_ _=>rfl⟩
 |v::r,o,w,cur,h=>by
  obtain⟨cur',h1,h2,h3⟩:=block_setCells b t r (o+1) (w.setCell ⟨b,o,none⟩ v) _ (qB h o v)
  exact⟨cur',h1,by simpa using h2,λk hk=>by rw[h3 k (by omega),Array.getElem?_setIfInBounds];simp;omega⟩
theorem chg_setCells(b:Nat):∀(vs:List Value) (o:Nat) (w:World),Chg (· =b) w (w.setCells b o vs)
 |[],_,_=>Chg.refl _ _
 |v::r,o,w=>(chg1 w b o v).trans (chg_setCells b r (o+1) _)
theorem own_cut{w:World}{base e size g cap n i:Nat}{xs:List Value}(h:w.ownsRow base e size (.slice (some ⟨g,0,none⟩) n cap) n xs)(hi:i≤n)(vs:List Value):
  (w.setCells g (i*size) vs).ownsRow base e size (.slice (some ⟨g,0,none⟩) i cap) i (xs.take (i*size)):=by
 obtain⟨h1,h2⟩:=h
 have hm:i*size≤n*size:=Nat.mul_le_mul_right _ hi
 refine⟨by rw[List.length_take,h1];omega,?_⟩
 rcases h2 with ⟨h2,_⟩|⟨g',cap',cur,he,hb,hg,hc,hmx,hs,ht⟩
 ·cases h2
 ·cases he
  obtain⟨cur',k1,k2,k3⟩:=block_setCells g e vs (i*size) w cur hg
  refine .inr ⟨g,cap,cur',rfl,hb,k1,by omega,hmx,by rw[k2,hs],?_⟩
  rw[←ht]
  apply List.ext_getElem?
  intro k
  rw[List.getElem?_take,List.getElem?_take,List.getElem?_take]
  by_cases hk:k<i*size
  ·rw[if_pos hk,if_pos hk,if_pos (by omega)]
   have:=k3 k hk
   simpa using this
  ·rw[if_neg hk,if_neg hk]
theorem own_less{w:World}{base e size g cap n i:Nat}{xs:List Value}(h:w.ownsRow base e size (.slice (some ⟨g,0,none⟩) n cap) n xs)(hi:i≤n):
  w.ownsRow base e size (.slice (some ⟨g,0,none⟩) i cap) i (xs.take (i*size)):=own_cut h hi []
theorem take_flat{α:Type}{f:α→List Value}{s:Nat}(hf:∀a,(f a).length=s)(ps:List α)(i:Nat)(hi:i≤ps.length):(ps.flatMap f).take (i*s)=(ps.take i).flatMap f:=by
 induction ps generalizing i with
 |nil=>simp
 |cons p ps ih=>
  cases i with
  |zero=>simp
  |succ i=>
   have hp:=hf p
   rw[List.flatMap_cons,List.take_succ_cons,List.flatMap_cons,List.take_append,hp,←ih i (by simpa using hi)]
   rw[show (i+1)*s-s=i*s from by rw[Nat.add_mul];omega,List.take_of_length_le (by rw[hp,Nat.add_mul];omega)]
theorem own_setP{w:World}{base g cap n:Nat}{L:List Pa}(h:RowP w base (.slice (some ⟨g,0,none⟩) n cap) L)(i:Nat)(p:Pa)(hi:i<L.length):
  RowP (((w.setCell ⟨g,i*3,none⟩ (.int .i64 p.rank)).setCell ⟨g,i*3+1,none⟩ (.int .i64 p.node)).setCell ⟨g,i*3+2,none⟩ (.int .i64 p.heard)) base (.slice (some ⟨g,0,none⟩) n cap) (L.set i p):=by
 unfold RowP at *
 obtain⟨h1,h2⟩:=h
 rw[List.length_set]
 have hfl:((L.set i p).flatMap vH).length=L.length*3:=by rw[flat_len z6,List.length_set]
 refine⟨hfl,?_⟩
 rcases h2 with ⟨h2,_⟩|⟨g',cap',cur,he,hb,hg,hc,hm,hs,ht⟩
 ·cases h2
 ·cases he
  have k1:=qB (qB (qB hg (i*3) (.int .i64 p.rank)) (i*3+1) (.int .i64 p.node)) (i*3+2) (.int .i64 p.heard)
  refine .inr ⟨g,cap,_,rfl,hb,k1,hc,hm,by simpa using hs,?_⟩
  apply List.ext_getElem?
  intro k
  rw[List.getElem?_take]
  by_cases hk:k<L.length*3
  ·rw[if_pos hk]
   have hk3:k=(k / 3)*3+k % 3:=by omega
   have hq:k / 3<L.length:=by omega
   have hr:((L.set i p).flatMap vH)[k]? =(vH ((L.set i p)[k / 3]'(by simpa using hq)))[k % 3]? :=by
    conv=>lhs;rw[hk3]
    exact vh z6 _ _ _ _ (List.getElem?_eq_getElem (by simpa using hq)) (by omega)
   have hold:(L.flatMap vH)[k]? =(vH L[k / 3])[k % 3]? :=by
    conv=>lhs;rw[hk3]
    exact vh z6 _ _ _ _ (List.getElem?_eq_getElem hq) (by omega)
   have hcur:cur.toList[k]? =(vH L[k / 3])[k % 3]? :=by
    rw[←hold,←ht,List.getElem?_take,if_pos hk]
   have hsz:k<cur.size:=by rw[hs];have:=Nat.mul_le_mul_right 3 hc;omega
   rw[hr]
   by_cases he:k / 3=i
   ·have e1:(L.set i p)[k / 3]'(by simpa using hq)=p:=by simp[he]
    rw[e1]
    rcases (by omega:k=i*3∨k=i*3+1∨k=i*3+2) with rfl|rfl|rfl
    ·have e2:i*3 % 3=0:=by omega
     rw[e2];simp[Array.getElem?_setIfInBounds,vH,hsz]
    ·have e2:(i*3+1) % 3=1:=by omega
     rw[e2];simp[Array.getElem?_setIfInBounds,vH,hsz]
    ·have e2:(i*3+2) % 3=2:=by omega
     rw[e2];simp[Array.getElem?_setIfInBounds,vH,hsz]
   ·have e1:(L.set i p)[k / 3]'(by simpa using hq)=L[k / 3]:=by rw[List.getElem_set_ne (by omega)]
    rw[e1,←hcur]
    have n0:¬i*3=k:=by omega
    have n1:¬i*3+1=k:=by omega
    have n2:¬i*3+2=k:=by omega
    simp[Array.getElem?_setIfInBounds,n0,n1,n2]
  ·rw[if_neg hk,List.getElem?_eq_none (by rw[hfl];omega)]
def PDel(w:World)(base:Nat)(v:Value)(M:List Pa)(en:Ending)(w':World):Prop:=
 ∃v',en= .returned v'∧RowP w' base v' M∧Chg (λk=>v.ownBlock=some k) w w'∧v'.ownBlock=v.ownBlock
theorem cell3{w:World}{b:Nat}{v0 v1 v2:Value}{t:TypeId}(h:w.heap[b]? =some (.cells #[v0,v1,v2] t (0,0))):
  w.cell? ⟨b,0,none⟩=some v0∧w.cell? ⟨b,1,none⟩=some v1∧w.cell? ⟨b,2,none⟩=some v2:=by
 refine⟨?_,?_,?_⟩ <;> (rw[qJ h];rfl)
theorem filter_none{α:Type}(L:List α)(p:α→Bool)(h:∀x∈L,p x=false):L.filter (λx=>!p x)=L:=by
 rw[List.filter_eq_self];intro x hx;rw[h x hx];rfl
theorem zJ{w:World}{base e size n m g cap:Nat}{xs:List Value}(h:w.ownsRow base e size (.slice (some ⟨g,0,none⟩) n cap) m xs)(i:Nat):w.frozen? ⟨g,i,none⟩=false:=by
 rcases h.2 with ⟨h2,_⟩|⟨g',cap',cur,he,hb,hg,_⟩
 ·cases h2
 ·cases he;exact qK hg i
structure DlAt(w:World)(base:Nat)(v:Value)(L:List Pa)(p:Pa→Bool)(i j:Nat)(M:List Pa)(W:World):Prop where
 row:RowP W base v M
 len:M.length=L.length
 ij:i<j
 tk:M.take i=(L.take j).filter (λx=>!p x)
 dr:∀k,j≤k→M[k]? =L[k]?
 chg:Chg (λk=>v.ownBlock=some k) w W
theorem delP_any(w:World)(base:Nat)(v:Value)(n:Nat)(caps:Array Value)(L:List Pa)(p:Pa→Bool)(h:RowP w base v L)(hL:L.length≤1000)(hf:FnP (λk=>v.ownBlock=some k) w n caps L p):
  Calls Tryz.prog 173 #[v,.func (.func n) #[] caps] w (PDel w base v (L.filter (λx=>!p x))):=by
 have hi:=indexFP_any _ w base v n caps L p h hL hf
 by_cases hno:∀x∈L,p x=false
 ·rw[filter_none L p hno]
  rw[indexP_no L p (λj y hy=>hno y (List.mem_of_getElem? hy))] at hi
  have HI:=qQ hi
  have H:=qQ h
  obtain⟨A,c,len,rfl⟩:∃A c len,v= .slice A len c:=by
   rcases qD h with ⟨e,h1,_⟩|⟨g,cap,e,_⟩
   ·exact⟨_,_,_,e⟩
   ·exact⟨_,_,_,e⟩
  clear hi h hf hno hL
  go_enter Tryz.func173,Tryz.ntmps173
  go_wp2_with fail
  with_reducible refine HI.out.mono ?_
  rintro en w1 ⟨rfl,G1⟩
  have HX:=qQ (And.intro (qY H.out G1 (λ_ _ e=>e)) G1)
  clear G1 HI
  go_wp2_with fail
  go_ret
  exact⟨_,rfl,HX.out.1,HX.out.2.none,rfl⟩
 ·obtain⟨k0,z0,hz0,hp0,hb0⟩:∃k z,L[k]? =some z∧p z=true∧∀j y,j<k→L[j]? =some y→p y=false:=by
   have hex:L.findIdx? p≠none:=by
    intro h0
    rw[List.findIdx?_eq_none_iff] at h0
    exact hno (λx hx=>by simpa using h0 x hx)
   obtain⟨k,hk⟩:=Option.ne_none_iff_exists'.1 hex
   rw[List.findIdx?_eq_some_iff_getElem] at hk
   obtain⟨hkl,hpk,hbk⟩:=hk
   exact⟨k,L[k],List.getElem?_eq_getElem hkl,hpk,λj y hj hy=>by
    have h1:=hbk j hj
    rw[List.getElem?_eq_getElem (by omega)] at hy
    cases hy;simpa using h1⟩
  rw[indexP_at L p k0 z0 hz0 hp0 hb0] at hi
  have hkl:k0<L.length:=(List.getElem?_eq_some_iff.1 hz0).1
  obtain⟨g,cap,rfl,hbg,hgs,hcap,hcm⟩:∃g cap,v= .slice (some ⟨g,0,none⟩) L.length cap∧base≤g∧g<w.heap.size∧L.length≤cap∧cap≤maxLen:=by
   rcases qD h with ⟨e,h1,_⟩|h1
   ·omega
   ·exact h1
  have hD0:DlAt w base (.slice (some ⟨g,0,none⟩) L.length cap) L p k0 (k0+1) L w:=by
   refine⟨h,rfl,by omega,?_,λ_ _=>rfl,Chg.refl _ _⟩
   rw[List.take_add_one,hz0,List.filter_append]
   have e1:(L.take k0).filter (λx=>!p x)=L.take k0:=filter_none _ _ (λx hx=>by
    obtain⟨j,hj,rfl⟩:=List.getElem_of_mem hx
    rw[List.length_take] at hj
    exact hb0 j _ (by omega) (by rw[List.getElem_take];exact List.getElem?_eq_getElem (by omega)))
   rw[e1];simp[hp0]
  have HD0:=qQ hD0
  have HI:=qQ hi
  have HF:=qQ hf
  obtain⟨R,hR⟩:=qZ (L.filter (λx=>!p x))
  rw[←hR]
  have HR:=qQ hR
  obtain⟨N,hN⟩:=qZ L.length
  rw[←hN] at hL hkl hcap HD0 HI HF ⊢
  have HN:=qQ hN
  have hnn:(N:Int)≤1000:=by omega
  have hkk:(k0:Int)<N:=by omega
  have hnc:(N:Int)≤cap:=by omega
  unfold maxLen at hcm
  have HCM:=qQ hcm
  have hNE:((k0:Int)== -1)=false:=by simp <;> omega
  clear hi h hf hno hz0 hp0 hb0 hD0 hR hN hcm
  go_enter Tryz.func173,Tryz.ntmps173
  go_wp2_with fail
  with_reducible refine HI.out.mono ?_
  rintro en w1 ⟨rfl,G1⟩
  have hD1:DlAt w base (.slice (some ⟨g,0,none⟩) N cap) L p k0 (k0+1) L w1:=⟨qY HD0.out.row G1 (λ_ _ e=>e),HD0.out.len,HD0.out.ij,HD0.out.tk,HD0.out.dr,HD0.out.chg.trans G1.none⟩
  have HD1:=qQ hD1
  clear G1 HI hD1 HD0
  go_wp2_with fail
  go_loopw [5,6] (λu5 u6 wr=>∃(i j:Nat) (M:List Pa),j≤N∧u5= .int .i64 i∧u6= .int .i64 j∧DlAt w base (.slice (some ⟨g,0,none⟩) N cap) L p i j M wr) (λ_ u6 _=>N-(intOf u6).toNat)
  case atStart=>exact⟨k0,k0+1,L,by omega,rfl,by go_num,HD1.out⟩
  case round=>
   obtain⟨i,j,M,hj,rfl,rfl,hD⟩:=hrel
   have HD:=qQ hD
   have hij:=hD.ij
   clear hD HD1
   by_cases hlt:j<N
   ·obtain⟨z,hz⟩:∃z,L[j]? =some z:=⟨_,List.getElem?_eq_getElem (by have:=HN.out;omega)⟩
    obtain⟨c0,c1,c2⟩:=HD.out.row.at (k:=j) (p:=z) (by rw[HD.out.dr j (Nat.le_refl _)];exact hz)
    have i1:(j:Int)<(N:Int):=by omega
    have hcf:=HF.out.cf
    have ga:=Chg.alloc (λ_=>False) wr (.cells #[.int .i64 z.rank,.int .i64 z.node,.int .i64 z.heard] 104)
    have hba:=qV wr (.cells #[.int .i64 z.rank,.int .i64 z.node,.int .i64 z.heard] 104)
    have hat:=HF.out.at' z _ (List.mem_of_getElem? hz) (HD.out.chg.trans ga.none)
    unfold VPa at hat
    have HA:=qQ hat
    have HGA:=qQ (And.intro ga hba)
    have HZ:=qQ hz
    clear hat ga hba hz
    go_wp2_with fail
    clear hcf c0 c1 c2
    with_reducible refine HA.out.mono ?_
    rintro en w2 ⟨rfl,G2⟩
    have hg2:=HGA.out.1.trans G2
    have hrow2:RowP w2 base (.slice (some ⟨g,0,none⟩) N cap) M:=qY HD.out.row hg2 (λ_ _ e=>e)
    have HX2:=qQ (And.intro hrow2 (And.intro (HD.out.chg.trans hg2.none) (Chg.keep G2 HGA.out.2 (λe=>e))))
    clear G2 HA HGA hg2 hrow2
    by_cases hp:p z=true
    ·rw[hp]
     have hD2:DlAt w base (.slice (some ⟨g,0,none⟩) N cap) L p i (j+1) M w2:=by
      refine⟨HX2.out.1,HD.out.len,by omega,?_,λk hk=>HD.out.dr k (by omega),HX2.out.2.1⟩
      rw[HD.out.tk,List.take_add_one,HZ.out,List.filter_append];simp[hp]
     have HD2:=qQ hD2
     clear hD2 hp HX2 HD
     go_wp2_with fail
     go_roundw
     case measure=>simp[intOf];omega
     case rel=>exact⟨i,j+1,M,by omega,rfl,by go_num,HD2.out⟩
    ·have hp:p z=false:=by simpa using hp
     rw[hp]
     have hiN:i<M.length:=by have:=HD.out.len;have:=HN.out;omega
     obtain⟨y,hy⟩:∃y,M[i]? =some y:=⟨_,List.getElem?_eq_getElem hiN⟩
     obtain⟨d0,d1,d2⟩:=HX2.out.1.at hy
     have f0:=zJ HX2.out.1 (i*3)
     have f1:=zJ HX2.out.1 (i*3+1)
     have f2:=zJ HX2.out.1 (i*3+2)
     obtain⟨b0,b1,b2⟩:=cell3 HX2.out.2.2
     have hset:=own_setP HX2.out.1 i z hiN
     have gs:Chg (λk=>(Value.slice (some ⟨g,0,none⟩) N cap).ownBlock=some k) w2 (((w2.setCell ⟨g,i*3,none⟩ (.int .i64 z.rank)).setCell ⟨g,i*3+1,none⟩ (.int .i64 z.node)).setCell ⟨g,i*3+2,none⟩ (.int .i64 z.heard)):=
      (((chg1 _ _ _ _).trans (chg1 _ _ _ _)).trans (chg1 _ _ _ _)).mono (λk _ e=>by rw[show k=g from e];rfl)
     have hD2:DlAt w base (.slice (some ⟨g,0,none⟩) N cap) L p (i+1) (j+1) (M.set i z) (((w2.setCell ⟨g,i*3,none⟩ (.int .i64 z.rank)).setCell ⟨g,i*3+1,none⟩ (.int .i64 z.node)).setCell ⟨g,i*3+2,none⟩ (.int .i64 z.heard)):=by
      refine⟨hset,by rw[List.length_set];exact HD.out.len,by omega,?_,λk hk=>?_,HX2.out.2.1.trans gs⟩
      ·rw[List.take_add_one,List.take_set_of_le (Nat.le_refl _),HD.out.tk,List.take_add_one,HZ.out,List.filter_append]
       have e1:(M.set i z)[i]? =some z:=by rw[List.getElem?_set_self hiN]
       rw[e1];simp[hp]
      ·rw[List.getElem?_set_ne (by omega)];exact HD.out.dr k (by omega)
     have HD2:=qQ hD2
     have i2:(i:Int)<(N:Int):=by omega
     clear hD2 hp HX2 HD hset gs hy
     go_wp2_with fail
     go_roundw
     case measure=>simp[intOf];omega
     case rel=>exact⟨i+1,j+1,M.set i z,by omega,by go_num,by go_num,HD2.out⟩
   ·obtain rfl:j=N:=by omega
    have hML:=HD.out.len
    have hiM:i≤M.length:=by have:=HN.out;omega
    have hrow:=HD.out.row
    unfold RowP at hrow
    rw[hML,←HN.out] at hrow
    have hcl:∀o:Nat,o<(j-i)*3→(wr.cell? ⟨g,i*3+o,none⟩).isSome=true:=λo ho=>by
     have hk:i+o / 3<M.length:=by have:=HN.out;omega
     obtain⟨d0,d1,d2⟩:=HD.out.row.at (List.getElem?_eq_getElem hk)
     rcases (by omega:o % 3=0∨o % 3=1∨o % 3=2) with h3|h3|h3
     ·rw[show i*3+o=(i+o / 3)*3 from by omega,d0];rfl
     ·rw[show i*3+o=(i+o / 3)*3+1 from by omega,d1];rfl
     ·rw[show i*3+o=(i+o / 3)*3+2 from by omega,d2];rfl
    have hfr:∀o:Nat,o<(j-i)*3→wr.frozen? ⟨g,i*3+o,none⟩=false:=λo _=>zJ hrow _
    obtain⟨zs,hzl,hrun⟩:=run_clearS (P:=Tryz.prog) wr 100 104 0 (.agg #[.int .i64 0,.int .i64 0,.int .i64 0]) 3 Tryz.underlying100 zero104 rfl (by omega) (by intro u hu;simp[Value.cells] at hu;rw[hu];rfl) g (i*3) (j-i) (cap-i) (by omega) hcl hfr
    have hcut:=own_cut hrow (show i≤j by omega) zs
    have hfin:(M.flatMap vH).take (i*3)=R.flatMap vH:=by
     rw[take_flat z6 M i hiM,HD.out.tk,HR.out,List.take_of_length_le (by rw[←HN.out];exact Nat.le_refl _)]
    have hRl:R.length=i:=by
     rw[HR.out]
     have h1:=HD.out.tk
     rw[List.take_of_length_le (l:=L) (by rw[←HN.out];exact Nat.le_refl _)] at h1
     rw[←h1,List.length_take];omega
    have HX:=qQ (show RowP (wr.setCells g (i*3) zs) base (.slice (some ⟨g,0,none⟩) i cap) R from by unfold RowP;rw[hRl,←hfin];exact hcut)
    have HG:=qQ (HD.out.chg.trans ((chg_setCells g zs (i*3) wr).mono (λk _ e=>by rw[show k=g from e];rfl)))
    have i2:(i:Int)≤(j:Int):=by omega
    have i3:(i:Int)≤(cap:Int):=by omega
    have e1:(j:Int)-(i:Int)=((j-i:Nat):Int):=by omega
    clear hML hiM hrow hcl hfr hcut hfin hRl HD
    go_wp2_with fail
    go_ret
    exact⟨_,rfl,HX.out,HG.out,rfl⟩
def cmpI(a b:Int):Int:=if a<b then-1 else if b<a then 1 else 0
theorem j8(a:Int)(w:World):Calls Tryz.prog 261 #[.int .i64 a] w λe w'=>e= .returned (.bool false)∧w'=w:=by
 go_enter Tryz.func261,Tryz.ntmps261
 go_wp2_with fail
 go_ret
 exact⟨vF (by simp),rfl⟩
theorem compare_any(a b:Int)(w:World):Calls Tryz.prog 249 #[.int .i64 a,.int .i64 b] w λe w'=>e= .returned (.int .i64 (cmpI a b))∧w'=w:=by
 by_cases h1:a<b
 ·have e:cmpI a b= -1:=by unfold cmpI;rw[if_pos h1]
  rw[e]
  clear e
  go_enter Tryz.func249,Tryz.ntmps249
  go_wp2_with fail
  (with_reducible refine (j8 _ _).mono ?_)
  rintro en w1 ⟨rfl,rfl⟩
  go_wp2_with fail
  (with_reducible refine (j8 _ _).mono ?_)
  rintro en w1 ⟨rfl,rfl⟩
  go_wp2_with fail
  go_ret
  exact⟨rfl,rfl⟩
 ·by_cases h2:b<a
  ·have e:cmpI a b=1:=by unfold cmpI;rw[if_neg h1,if_pos h2]
   have h3:b≤a:=by omega
   rw[e]
   clear e h1
   go_enter Tryz.func249,Tryz.ntmps249
   go_wp2_with fail
   (with_reducible refine (j8 _ _).mono ?_)
   rintro en w1 ⟨rfl,rfl⟩
   go_wp2_with fail
   (with_reducible refine (j8 _ _).mono ?_)
   rintro en w1 ⟨rfl,rfl⟩
   go_wp2_with fail
   go_ret
   exact⟨rfl,rfl⟩
  ·obtain rfl:a=b:=by omega
   have e:cmpI a a=0:=by unfold cmpI;rw[if_neg h1,if_neg h2]
   rw[e]
   clear e h1 h2
   go_enter Tryz.func249,Tryz.ntmps249
   go_wp2_with fail
   (with_reducible refine (j8 _ _).mono ?_)
   rintro en w1 ⟨rfl,rfl⟩
   go_wp2_with fail
   (with_reducible refine (j8 _ _).mono ?_)
   rintro en w1 ⟨rfl,rfl⟩
   go_wp2_with fail
   go_ret
   exact⟨rfl,rfl⟩
def orI(x y:Int):Int:=if x=0 then y else x
theorem orI_0{x y:Int}(h:x=0):orI x y=y:=if_pos h
theorem orI_1{x y:Int}(h:¬x=0):orI x y=x:=if_neg h
theorem or2_any(x y:Int)(b:Nat)(w:World)(c0:w.cell? ⟨b,0,none⟩=some (.int .i64 x))(c1:w.cell? ⟨b,1,none⟩=some (.int .i64 y)):
  Calls Tryz.prog 248 #[.slice (some ⟨b,0,none⟩) 2 2] w λe w'=>e= .returned (.int .i64 (orI x y))∧w'=w:=by
 by_cases hx:x=0
 ·rw[orI_0 hx]
  have g1:(x != 0)=false:=by simpa using hx
  by_cases hy:y=0
  ·have g2:(y != 0)=false:=by simpa using hy
   have HY:=qQ hy
   clear hx hy
   go_enter Tryz.func248,Tryz.ntmps248
   go_wp2_with fail
   go_loop [8] (λi=>∃(k:Nat),k≤2∧i= .int .i64 k) (λi=>2-(intOf i).toNat)
   case atStart=>exact⟨0,by omega,rfl⟩
   case round=>
    obtain⟨k,hk,rfl⟩:=hrel
    rcases (by omega:k=0∨k=1∨k=2) with rfl|rfl|rfl
    ·go_wp2_with fail
     go_round
     case measure=>simp[intOf]
     case rel=>exact⟨1,by omega,rfl⟩
    ·go_wp2_with fail
     go_round
     case measure=>simp[intOf]
     case rel=>exact⟨2,by omega,rfl⟩
    ·go_wp2_with fail
     go_ret
     rw[HY.out]
     exact⟨rfl,rfl⟩
  ·have g2:(y != 0)=true:=by simpa using hy
   clear hx hy
   go_enter Tryz.func248,Tryz.ntmps248
   go_wp2_with fail
   go_loop [8] (λi=>∃(k:Nat),k≤1∧i= .int .i64 k) (λi=>2-(intOf i).toNat)
   case atStart=>exact⟨0,by omega,rfl⟩
   case round=>
    obtain⟨k,hk,rfl⟩:=hrel
    rcases (by omega:k=0∨k=1) with rfl|rfl
    ·go_wp2_with fail
     go_round
     case measure=>simp[intOf]
     case rel=>exact⟨1,by omega,rfl⟩
    ·go_wp2_with fail
     go_ret
     exact⟨rfl,rfl⟩
 ·rw[orI_1 hx]
  have g1:(x != 0)=true:=by simpa using hx
  clear hx
  go_enter Tryz.func248,Tryz.ntmps248
  go_wp2_with fail
  go_loop [8] (λi=>i= .int .i64 0) (λi=>2-(intOf i).toNat)
  case atStart=>rfl
  case round=>
   obtain rfl:=hrel
   go_wp2_with fail
   go_ret
   exact⟨rfl,rfl⟩
theorem or2_new(x y:Int)(w:World):Calls Tryz.prog 248 #[.slice (some ⟨w.heap.size,0,none⟩) 2 2] (w.alloc (.cells #[.int .i64 x,.int .i64 y] 3)).drew λe w'=>e= .returned (.int .i64 (orI x y))∧w'=(w.alloc (.cells #[.int .i64 x,.int .i64 y] 3)).drew:=
 or2_any x y w.heap.size _ (by simp) (by simp)
theorem qN{w:World}{p:Addr}{v:Value}(h:w.cell? p=some v)(o:Obj):(w.alloc o).cell? p=some v:=by
 rw[(Chg.alloc (λ_=>False) w o).cell (qP h) (λe=>e),h]
def cmpP(p q:Pa):Int:=orI (cmpI p.rank q.rank) (cmpI p.node q.node)
theorem by_any(p q:Pa)(w:World):Calls Tryz.prog 202 #[VPa p,VPa q] w (PV (.int .i64 (cmpP p q)) w):=by
 unfold VPa cmpP
 obtain⟨x,hx⟩:∃x,cmpI p.rank q.rank=x:=⟨_,rfl⟩
 obtain⟨y,hy⟩:∃y,cmpI p.node q.node=y:=⟨_,rfl⟩
 rw[hx,hy]
 have hc1:=λw=>compare_any p.rank q.rank w
 have hc2:=λw=>compare_any p.node q.node w
 rw[hx] at hc1
 rw[hy] at hc2
 have HC1:=qQ hc1
 have HC2:=qQ hc2
 have g:=(Chg.alloc (λ_=>False) w (.cells #[.int .i64 p.rank,.int .i64 p.node,.int .i64 p.heard] 104)).trans (Chg.alloc _ _ (.cells #[.int .i64 q.rank,.int .i64 q.node,.int .i64 q.heard] 104))
 have HG:=qQ g
 have HZ:=qQ (show w.heap.size≠w.heap.size+1 by omega)
 have hbp:=Chg.keep (Chg.alloc (λ_=>False) (w.alloc (.cells #[.int .i64 p.rank,.int .i64 p.node,.int .i64 p.heard] 104)) (.cells #[.int .i64 q.rank,.int .i64 q.node,.int .i64 q.heard] 104)) (qV w (.cells #[.int .i64 p.rank,.int .i64 p.node,.int .i64 p.heard] 104)) (λe=>e)
 have hbq:=qV (w.alloc (.cells #[.int .i64 p.rank,.int .i64 p.node,.int .i64 p.heard] 104)) (.cells #[.int .i64 q.rank,.int .i64 q.node,.int .i64 q.heard] 104)
 have hsz:(w.alloc (.cells #[.int .i64 p.rank,.int .i64 p.node,.int .i64 p.heard] 104)).heap.size=w.heap.size+1:=by simp
 rw[hsz] at hbq
 have HB:=qQ (And.intro hbp hbq)
 clear hc1 hc2 hx hy g hbp hbq hsz
 go_enter Tryz.func202,Tryz.ntmps202
 go_wp2_with fail
 generalize (w.alloc (.cells #[.int .i64 p.rank,.int .i64 p.node,.int .i64 p.heard] 104)).alloc (.cells #[.int .i64 q.rank,.int .i64 q.node,.int .i64 q.heard] 104)=w1 at *
 generalize w.heap.size=b at *
 obtain⟨p0,p1,p2⟩:=cell3 HB.out.1
 obtain⟨q0,q1,q2⟩:=cell3 HB.out.2
 clear p2 q2
 go_region_held3 (λW=>W.cell? ⟨b,0,none⟩=some (.int .i64 p.rank)∧W.cell? ⟨b,1,none⟩=some (.int .i64 p.node)∧W.cell? ⟨b+1,0,none⟩=some (.int .i64 q.rank)∧W.cell? ⟨b+1,1,none⟩=some (.int .i64 q.node)) (first|exact⟨p0,p1,q0,q1⟩|exact⟨qN p0 _,qN p1 _,qN q0 _,qN q1 _⟩)
  (first
   |(go_at_call_of 249 (Value.int IntKind.i64 p.rank);refine (HC1.out _).mono ?_;rintro e w' ⟨rfl,rfl⟩)
   |(go_at_call_of 249 (Value.int IntKind.i64 p.node);refine (HC2.out _).mono ?_;rintro e w' ⟨rfl,rfl⟩)
   |(go_at_call 248;refine (or2_new x y w1).mono ?_;rintro e w' ⟨rfl,rfl⟩))
 go_wp2_with fail
 go_ret
 exact⟨rfl,(HG.out.trans (Chg.alloc _ _ _)).trans (Chg.drew _ _)⟩
end Go.Proofs.YtnpihllannobgaaGreatDoor
