/- Steps of the proof, part H15. No condition. -/
import Derived.Test.YtnpihllannobgaaGreatDoorH12
import Derived.Test.YtnpihllannobgaaGreatDoorH10
import Derived.Test.YtnpihllannobgaaGreatDoorH02
import Derived.Test.YtnpihllannobgaaGreatDoorH05
import Derived.Test.YtnpihllannobgaaGreatDoorH08
namespace Go.Proofs.YtnpihllannobgaaGreatDoor
set_option linter.unusedVariables false
set_option linter.unusedSimpArgs false
set_option maxRecDepth 100000
set_option maxHeartbeats 32000000
open Go.ChangeShapes Go.WideShapes Go.ChangeAt Go.RowKit
theorem insertI_nil(w:World):Calls Tryz.prog 217 #[.slice none 0 0,.int .i64 0,.int .i64 0] w (λe w'=>e= .returned (.tuple #[])∧w'=w):=by
 go_enter Tryz.func217,Tryz.ntmps217
 go_wp2_with fail
 go_loop [6] (λu6=>u6= .int .i64 1) (λu6=>6-(intOf u6).toNat)
 case atStart=>rfl
 case round=>
  obtain rfl:=hrel
  go_wp2_with fail
  go_end0
  exact⟨rfl,rfl⟩
theorem pdqI_nil(w:World)(lim:Int):Calls Tryz.prog 171 #[.slice none 0 0,.int .i64 0,.int .i64 0,.int .i64 lim] w (λe w'=>e= .returned (.tuple #[])∧w'=w):=by
 go_enter Tryz.func171,Tryz.ntmps171
 go_wp2_with fail
 refine wp_loop_rounds 1 ?_
 rw[rounds_succ]
 go_wp2_with fail
 (with_reducible refine (insertI_nil w).mono ?_)
 rintro en w1 ⟨rfl,rfl⟩
 go_wp2_with fail
 exact bodyPost_ret (v:= .tuple #[]) (by simp[results,Tryz.results171,go_sem]) rfl ⟨rfl,rfl⟩
theorem sortI_nil(w:World):Calls Tryz.prog 120 #[.slice none 0 0] w (λe w'=>e= .returned (.tuple #[])∧w'=w):=by
 have hl0:Calls Tryz.prog 172 #[.int .u64 0] w λe w'=>∃x,e= .returned (.int .i64 x)∧w'=w:=len_small 0 (by omega) w
 have HL:=qQ hl0
 clear hl0
 go_enter Tryz.func120,Tryz.ntmps120
 go_wp2_with fail
 with_reducible refine HL.out.mono ?_
 rintro en w1 ⟨lim,rfl,rfl⟩
 clear HL
 go_wp2_with fail
 (with_reducible refine (pdqI_nil w1 lim).mono ?_)
 rintro en w1 ⟨rfl,rfl⟩
 go_wp2_with fail
 go_end0
 exact⟨rfl,rfl⟩
theorem cf122(args:Array Value)(w':World):(callFunc 122 args).run Tryz.prog w'= .ok (.enter 122 args) w':=by kernel_rfl
theorem old1(p:Pa)(q:Int)(b:Nat)(w:World)(hb:b<w.heap.size)(hc:w.cell? ⟨b,0,none⟩=some (.int .i64 q)):Calls Tryz.prog 122 #[VPa p,.pointer (some ⟨b,0,none⟩)] w (PV (.bool (decide (p.heard≤q))) w):=by
 unfold VPa
 have hne:¬(b=w.heap.size):=by omega
 go_enter Tryz.func122,Tryz.ntmps122
 go_wp2_with fail
 go_ret
 exact⟨rfl,Chg.alloc _ _ _⟩
def POld(w:World)(b:Nat)(v:Value)(me R:Int)(M:List Pa)(en:Ending)(w':World):Prop:=
 ∃vo v',en= .returned vo∧Ps w' b v' me R M∧Chg (PsS b v) w w'∧v'.ownBlock=v.ownBlock
theorem psold_any(w:World)(b:Nat)(v:Value)(me R:Int)(L:List Pa)(now loss:Int)(h:Ps w b v me R L)(hL:L.length≤3)(ht:0≤now)(ht2:now≤1099511627776)(hl:1<loss)(hl2:loss≤10000):
  Calls Tryz.prog 74 #[.pointer (some ⟨b,0,none⟩),.int .i64 now,.int .i64 loss] w (POld w b v me R (L.filter (λp=>!(decide (p.heard≤now-loss))))):=by
 obtain⟨last,hlast⟩:=qZ (now-loss)
 rw[←hlast]
 have htd:decide (now<0)=false:=by simp;omega
 have H:=qQ h
 have c2:=h.c2
 have hbl:=qX h.blk
 obtain⟨A,c,rfl⟩:=h.val
 obtain⟨len,hlen⟩:∃n,n=L.length:=⟨_,rfl⟩
 rw[←hlen] at c2 hL H ⊢
 have hl3:(len:Int)≤3:=by omega
 have HL:=qQ (And.intro hlen hbl)
 have HLA:=qQ hlast
 have hne:¬(b=w.heap.size):=by omega
 have hne2:¬(w.heap.size=b):=by omega
 clear h hlen hlast
 go_enter Tryz.func74,Tryz.ntmps74
 go_wp2_with fail
 rw[←HLA.out]
 have hg1:=Chg.alloc (λ_=>False) w (.cells #[.int .i64 last] 2)
 have hb1:=qV w (.cells #[.int .i64 last] 2)
 have HW1:=qQ (And.intro hg1 (And.intro hb1 (show w.heap.size+1≤(w.alloc (.cells #[.int .i64 last] 2)).heap.size by simp)))
 clear hg1 hb1 c2
 generalize w.alloc (.cells #[.int .i64 last] 2)=w1 at *
 go_loopw [7,26] (λu7 i wr=>∃(k:Nat) (zs:List Int),k≤len∧i= .int .i64 k∧zs.length≤k∧wr.ownsRow (w.heap.size+1) 3 1 u7 zs.length (zs.map VI)∧Chg (λj=>w.heap.size+1≤j) w1 wr) (λ_ i _=>len-(intOf i).toNat)
 case atStart=>exact⟨0,[],by omega,rfl,by simp,World.ownsRow_nil _ _ _ _,Chg.refl _ _⟩
 case round=>
  obtain⟨k,zs,hk,rfl,hzk,hO,hG⟩:=hrel
  have HO:=qQ (And.intro hzk hO)
  have HG:=qQ hG
  clear hO hG
  by_cases hlt:k<len
  ·obtain⟨z,hz⟩:∃z,L[k]? =some z:=⟨_,List.getElem?_eq_getElem (by have:=HL.out.1;omega)⟩
   obtain⟨g,cap,hv⟩:∃g cap,A=some ⟨g,0,none⟩∧c=cap:=by
    rcases qD H.out.row with ⟨e,h1,_⟩|⟨g,cap,e,_⟩
    ·have:=HL.out.1;omega
    ·cases e;exact⟨_,_,rfl,rfl⟩
   obtain⟨rfl,rfl⟩:=hv
   have hgs:g<w.heap.size:=(qg H.out.row rfl).2
   have hrow1:RowP w1 0 _ L:=qY H.out.row HW1.out.1 (λ_ _ e=>e)
   have hrow:RowP wr 0 _ L:=qY hrow1 HG.out (λj hj e=>by cases hj;have:w.heap.size+1≤g:=e;omega)
   obtain⟨d0,d1,d2⟩:=hrow.at hz
   have i1:(k:Int)<(len:Int):=by omega
   have hlc:wr.cell? ⟨w.heap.size,0,none⟩=some (.int .i64 last):=by rw[qJ (Chg.keep HG.out HW1.out.2.1 (λe=>by have:w.heap.size+1≤w.heap.size:=e;omega))];rfl
   have hsz:w.heap.size+1≤wr.heap.size:=Nat.le_trans HW1.out.2.2 HG.out.size
   have hnew:¬(w.heap.size=wr.heap.size):=by omega
   have hsz2:w.heap.size<wr.heap.size:=by omega
   have hlc:=qL hlc (.cells #[.int .i64 z.rank,.int .i64 z.node,.int .i64 z.heard] 104)
   have hga:=Chg.alloc (λ_=>False) wr (.cells #[.int .i64 z.rank,.int .i64 z.node,.int .i64 z.heard] 104)
   have HGA:=qQ (And.intro (HG.out.trans hga.none) (qY HO.out.2 hga (λ_ _ e=>e)))
   have hz4:zs.length≤3:=by have:=HO.out.1;omega
   clear hz hrow hrow1 hga
   by_cases hq:z.heard≤last
   ·go_wp2_with (at_builtin;go_loud (refine app1 (V:=VI) elI rfl (.tmp 34) (.tmp 37) rfl (w.heap.size+1) u7 zs.length (zs.map VI) rfl (HGA.out.2.alloc _) (wr.heap.size+1) z.node rfl ?c1 rfl (by omega) (by omega) ?hb ?grow))
    case c1=>simp[VI]
    case hb=>simp;omega
    case grow=>
     intro v4 w4 hown hgr hat
     have ga:=Chg.alloc (λ_=>False) (wr.alloc (.cells #[.int .i64 z.rank,.int .i64 z.node,.int .i64 z.heard] 104)) (.cells #[.int .i64 z.node] 3)
     have gg:=qH (S:=λj=>w.heap.size+1≤j) hgr (λj e=>(qS HGA.out.2 e).1)
     have hX:w4.ownsRow (w.heap.size+1) 3 1 v4 (zs++[z.node]).length ((zs++[z.node]).map VI):=by rw[List.map_append,List.length_append];exact hown
     have HX:=qQ (And.intro hX ((HGA.out.1.trans ga.none).trans gg))
     have HZK:=qQ HO.out.1
     clear hown hgr hat ga gg hX HGA HO d0 d1 d2 hlc hq
     go_wp2_with fail
     go_roundw
     case measure=>simp[intOf];omega
     case rel=>exact⟨k+1,_,by omega,by go_num,by rw[List.length_append];have:=HZK.out;simp;omega,HX.out.1,HX.out.2⟩
   ·have hq2:last<z.heard:=by omega
    clear hq
    go_wp2_with fail
    go_roundw
    case measure=>simp[intOf];omega
    case rel=>exact⟨k+1,zs,by omega,by go_num,by have:=HO.out.1;omega,HGA.out.2,HGA.out.1⟩
  ·obtain rfl:k=len:=by omega
   have hsort:∃(P:World→Prop),(∀W,P W→Chg (λj=>w.heap.size+1≤j) w1 W)∧Calls Tryz.prog 120 #[u7] wr (λe w'=>e= .returned (.tuple #[])∧P w'):=by
    rcases qD HO.out.2 with ⟨e,h1,_⟩|⟨g,cap,e,hb,_⟩
    ·rw[e]
     exact⟨λW=>W=wr,λW hW=>hW▸HG.out,sortI_nil wr⟩
    ·have hz4:zs.length≤4:=by have:=HO.out.1;omega
     have hO:=HO.out.2
     rw[e] at hO ⊢
     have hna:NoAt wr (w.heap.size+1) g cap zs.length wr:=⟨⟨zs,rfl,hO⟩,Chg.refl _ _⟩
     exact⟨λW=>NoAt wr (w.heap.size+1) g cap zs.length W,λW hW=>HG.out.trans (hW.chg.mono (λj _ e=>by have:j=g:=e;show w.heap.size+1≤j;omega)),sortI_any wr _ g cap zs.length hz4 hna⟩
   obtain⟨P,hP,hcall⟩:=hsort
   have HP:=qQ hP
   have HC:=qQ hcall
   obtain⟨Ao,co,no,rfl⟩:∃A c n,u7= .slice A n c:=by
    rcases qD HO.out.2 with ⟨e,h1,_⟩|⟨g,cap,e,_⟩
    ·exact⟨_,_,_,e⟩
    ·exact⟨_,_,_,e⟩
   clear hP hcall HO HG
   go_wp2_with fail
   with_reducible refine HC.out.mono ?_
   rintro en w3 ⟨rfl,hp3⟩
   have hg3:=HP.out w3 hp3
   have hps3:Ps w3 b (.slice A k c) me R L:=(H.out.kept HW1.out.1).keep hg3 (λj hj e=>by
    have e:w.heap.size+1≤j:=e
    rcases hj with rfl|hj
    ·have:=HL.out.2;omega
    ·have:=(qg H.out.row hj).2;omega)
   have hb3:=Chg.keep hg3 HW1.out.2.1 (λe=>by have:w.heap.size+1≤w.heap.size:=e;omega)
   have hgo:∀j,(Value.slice A k c).ownBlock=some j→j<w.heap.size:=λj hj=>(qg H.out.row hj).2
   have HG3:=qQ (HW1.out.1.none.trans (hg3.mono (λj _ e=>(show w.heap.size≤j by have e:w.heap.size+1≤j:=e;omega))):Chg (λj=>w.heap.size≤j) w w3)
   have hlets:=lets_any w3 b (.slice A k c) me R L 122 #[.pointer (some ⟨w.heap.size,0,none⟩)] (λp=>decide (p.heard≤last)) hps3 (by have:=HL.out.1;omega) ⟨cf122,λz W hz g=>old1 z last w.heap.size W (Nat.lt_of_lt_of_le (qX hb3) g.size) (by
    rw[qJ (Chg.keep g hb3 (λe=>by have:=hgo _ e;omega))];rfl)⟩
   have HLT:=qQ hlets
   clear hp3 hg3 hps3 hb3 hgo hlets HP HC
   go_wp2_with fail
   with_reducible refine HLT.out.mono ?_
   rintro en w4 ⟨rfl,v4,hps4,G4,hv4⟩
   have HF:=qQ (And.intro hps4 (And.intro ((HG3.out.mono (λj _ e=> .inr e):Chg (λj=>PsS b (.slice A k c) j∨w.heap.size≤j) w w3).trans (G4.mono (λj _ e=> .inl e))).old hv4))
   clear hps4 G4 hv4 HLT HG3
   go_wp2_with fail
   go_ret
   exact⟨_,v4,rfl,HF.out.1,HF.out.2.1,HF.out.2.2⟩
def cl(i j:Nat):Nat:=i*16+j+1
theorem qP(i j:Nat):cl i j≠0:=by unfold cl;omega
theorem qy{i j i' j':Nat}(h:cl i j=cl i' j')(hj:j<16)(hj':j'<16):i=i'∧j=j':=by unfold cl at h;omega
def Off(own:Cls)(c:Nat)(S:Nat→Prop):Prop:=∀k,own k=0∨own k=c→¬S k
theorem Off.of{own:Cls}{c d:Nat}(h0:d≠0)(h:d≠c):Off own c (Of own d):=λk hk e=>by
 unfold Of at e;rcases hk with hk|hk <;> omega
def vY(p:Int×Value×List Int):List Value:=[.int .i64 p.1,p.2.1]
theorem vW(p:Int×Value×List Int):(vY p).length=2:=rfl
def Qo(w:World)(own:Cls)(c:Nat)(b:Nat)(most:Int)(l:List (Int×List Int)):Prop:=
 ∃(v:Value) (lost:Int) (ps:List (Int×Value×List Int)),w.heap[b]? =some (.cells #[.int .i64 most,v,.int .i64 lost] 166 (0,0))∧own b=c∧0≤lost∧lost≤1000000∧
  w.ownsRow 0 213 2 v ps.length (ps.flatMap vY)∧(∀k,v.ownBlock=some k→own k=c)∧(∀p∈ps,BO w own p.2.1 p.2.2)∧l=ps.map (λp=>(p.1,p.2.2))
def Wo(w:World)(own:Cls)(c:Nat)(b:Nat)(f:Seen):Prop:=∃m,Wk w b m f∧own b=c∧own m=c∧Fine f
def Po(w:World)(own:Cls)(c:Nat)(v:Value)(me:Int):Option (Int×List Pa)→Prop
 |none=>v= .pointer none
 |some (rank,L)=>∃b row,v= .pointer (some ⟨b,0,none⟩)∧Ps w b row me rank L∧own b=c∧(∀k,row.ownBlock=some k→own k=c)∧0≤rank∧rank≤255∧L.length≤3∧PSrt L
def Ko(w:World)(own:Cls)(c:Nat)(v:Value)(every:Int):Option Int→Prop
 |none=>v= .pointer none
 |some since=>∃b,v= .pointer (some ⟨b,0,none⟩)∧Kp w b every since∧own b=c∧0≤since∧since≤1000000
def Mo(w:World)(own:Cls)(c:Nat)(m:Nat)(f:Int→Option (List Int)):Prop:=
 ∃g,Mp w m g∧own m=c∧∀n,match f n with
  |none=>g n=none
  |some L=>∃v,g n=some v∧RV VI w own v L
def Co(w:World)(own:Cls)(c:Nat)(b:Nat)(x y z:Int):Prop:=Ck w b x y z∧own b=c
section
variable {w w':World}{own own':Cls}{c:Nat}{S:Nat→Prop}
theorem Off.zero(h:Off own c S):∀j,own j=0→¬S j:=λj hj=>h j (.inl hj)
theorem Ro.step{α:Type}{V:α→Value}{a:Option Addr}{len:Nat}{zs:List α}(h:Ro V w own a len zs)(e:Ext w own own')(g:Chg S w w')(hS:∀j,own j=0→¬S j):Ro V w' own' a len zs:=
 ⟨h.1,λi hi=>by
  obtain⟨x,e1,hb,hc⟩:=h.2 i hi
  have hl:=qG hc
  have hx:=zJ x i
  exact⟨x,e1,by rw[e _ (hx▸hl),hb],by rw[g.cell hl (λs=>hS _ hb (hx▸s)),hc]⟩⟩
theorem RV.step{V:Int→Value}{v:Value}{L:List Int}(h:RV V w own v L)(e:Ext w own own')(g:Chg S w w')(hS:∀j,own j=0→¬S j):RV V w' own' v L:=by
 obtain⟨A,c,h1,h2,h3⟩:=h
 exact⟨A,c,h1,h2.step e g hS,h3⟩
theorem BO.step{v:Value}{L:List Int}(h:BO w own v L)(e:Ext w own own')(g:Chg S w w')(hS:∀j,own j=0→¬S j):BO w' own' v L:=⟨h.1.step e g hS,h.2⟩
theorem Co.step{b:Nat}{x y z:Int}(h:Co w own c b x y z)(e:Ext w own own')(g:Chg S w w')(o:Off own c S):Co w' own' c b x y z:=
 ⟨h.1.keep g (o b (.inr h.2)),by rw[e b (qX h.1)];exact h.2⟩
theorem Qo.step{b:Nat}{most:Int}{l:List (Int×List Int)}(h:Qo w own c b most l)(e:Ext w own own')(g:Chg S w w')(o:Off own c S):Qo w' own' c b most l:=by
 obtain⟨v,lost,ps,h1,h2,h3,h4,h5,h6,h7,h8⟩:=h
 exact⟨v,lost,ps,Chg.keep g h1 (o b (.inr h2)),by rw[e b (qX h1)];exact h2,h3,h4,qY h5 g (λk hk=>o k (.inr (h6 k hk))),λk hk=>by rw[e k (qg h5 hk).2];exact h6 k hk,
  λp hp=>(h7 p hp).step e g o.zero,h8⟩
theorem Wo.step{b:Nat}{f:Seen}(h:Wo w own c b f)(e:Ext w own own')(g:Chg S w w')(o:Off own c S):Wo w' own' c b f:=by
 obtain⟨m,h1,h2,h3,h4⟩:=h
 exact⟨m,h1.keep g (o b (.inr h2)) (o m (.inr h3)),by rw[e b (qX h1.1)];exact h2,by rw[e m h1.2.1.lt];exact h3,h4⟩
theorem Po.step{v:Value}{me:Int}{p:Option (Int×List Pa)}(h:Po w own c v me p)(e:Ext w own own')(g:Chg S w w')(o:Off own c S):Po w' own' c v me p:=by
 cases p with
 |none=>exact h
 |some q=>
  obtain⟨b,row,h1,h2,h3,h4,h5⟩:=h
  exact⟨b,row,h1,h2.keep g (λk hk=>o k (.inr (hk.elim (λe=>e▸h3) (λe=>h4 k e)))),by rw[e b (qX h2.blk)];exact h3,λk hk=>by rw[e k (qg h2.row hk).2];exact h4 k hk,h5⟩
theorem Mo.step{m:Nat}{f:Int→Option (List Int)}(h:Mo w own c m f)(e:Ext w own own')(g:Chg S w w')(o:Off own c S):Mo w' own' c m f:=by
 obtain⟨q,h1,h2,h3⟩:=h
 refine⟨q,h1.keep g (o m (.inr h2)),by rw[e m h1.lt];exact h2,λn=>?_⟩
 have h4:=h3 n
 cases hf:f n with
 |none=>rw[hf] at h4;exact h4
 |some L=>
  rw[hf] at h4
  obtain⟨v,h5,h6⟩:=h4
  exact⟨v,h5,h6.step e g o.zero⟩
theorem Ko.step{v:Value}{every:Int}{k:Option Int}(h:Ko w own c v every k)(e:Ext w own own')(g:Chg S w w')(o:Off own c S):Ko w' own' c v every k:=by
 cases k with
 |none=>exact h
 |some q=>
  obtain⟨b,h1,h2,h3,h4⟩:=h
  exact⟨b,h1,h2.keep g (o b (.inr h3)),by rw[e b (qX h2)];exact h3,h4⟩
end
abbrev QE:=Int×Value×List Int
structure Qb(w:World)(b:Nat)(most:Int)(v:Value)(lost:Int)(ps:List QE):Prop where
 blk:w.heap[b]? =some (.cells #[.int .i64 most,v,.int .i64 lost] 166 (0,0))
 row:w.ownsRow 0 213 2 v ps.length (ps.flatMap vY)
section
variable {w w':World}{b:Nat}{most lost:Int}{v:Value}{ps:List QE}
theorem Qb.ne(h:Qb w b most v lost ps){k:Nat}(hk:v.ownBlock=some k):k≠b:=by
 intro e
 subst e
 rcases h.row.2 with ⟨e,_⟩|⟨g',c',cur,e2,_,hg,_⟩
 ·rw[e] at hk;cases hk
 ·rw[e2] at hk;cases hk
  rw[h.blk] at hg;cases hg
theorem Qb.c0(h:Qb w b most v lost ps):w.cell? ⟨b,0,none⟩=some (.int .i64 most):=by rw[qJ h.blk];rfl
theorem Qb.c1(h:Qb w b most v lost ps):w.cell? ⟨b,1,none⟩=some v:=by rw[qJ h.blk];rfl
theorem Qb.c2(h:Qb w b most v lost ps):w.cell? ⟨b,2,none⟩=some (.int .i64 lost):=by rw[qJ h.blk];rfl
theorem Qb.f(h:Qb w b most v lost ps)(o:Nat):w.frozen? ⟨b,o,none⟩=false:=qK h.blk o
theorem Qb.keep{S:Nat→Prop}(h:Qb w b most v lost ps)(g:Chg S w w')(h1:¬S b)(h2:∀k,v.ownBlock=some k→¬S k):Qb w' b most v lost ps:=
 ⟨Chg.keep g h.blk h1,qY h.row g h2⟩
theorem Qb.kept(h:Qb w b most v lost ps)(g:Chg (λ_=>False) w w'):Qb w' b most v lost ps:=h.keep g (λe=>e) (λ_ _ e=>e)
theorem Qb.val(h:Qb w b most v lost ps):∃A c,v= .slice A ps.length c:=by
 rcases qD h.row with ⟨e,h1,_⟩|⟨g,cap,e,_⟩
 ·exact⟨none,0,by rw[e,h1]⟩
 ·exact⟨_,_,e⟩
theorem Qb.at{g cap n:Nat}(h:Qb w b most (.slice (some ⟨g,0,none⟩) n cap) lost ps){k:Nat}{p:QE}(hk:ps[k]? =some p):
  w.cell? ⟨g,k*2,none⟩=some (.int .i64 p.1)∧w.cell? ⟨g,k*2+1,none⟩=some p.2.1:=by
 have hn:n=ps.length:=by
  rcases h.row.2 with ⟨h1,_⟩|⟨g',c',_,h1,_⟩
  ·cases h1
  ·cases h1;rfl
 subst hn
 refine⟨qM h.row _ _ ?_,qM h.row _ _ ?_⟩
 ·exact jz vW ps k 0 p hk (by omega)
 ·exact jz vW ps k 1 p hk (by omega)
end
theorem Qo.of{w:World}{own:Cls}{c b:Nat}{most lost:Int}{v:Value}{ps:List QE}(h:Qb w b most v lost ps)(h2:own b=c)(h3:0≤lost)(h4:lost≤1000000)(h6:∀k,v.ownBlock=some k→own k=c)(h7:∀p∈ps,BO w own p.2.1 p.2.2):
  Qo w own c b most (ps.map (λp=>(p.1,p.2.2))):=⟨v,lost,ps,h.blk,h2,h3,h4,h.row,h6,h7,rfl⟩
theorem qnew_any(n:Int)(h1:1≤n)(h2:n≤32)(w:World):Calls Tryz.prog 51 #[.int .i64 n] w (PNewAt w (λb w'=>Qb w' b n (.slice none 0 0) 0 [])):=by
 rcases (by omega:n=1∨(1<n∧n<32)∨n=32) with rfl|⟨a,b⟩|rfl
 all_goals clear h1 h2
 all_goals go_enter Tryz.func51,Tryz.ntmps51
 all_goals go_wp2_with fail
 all_goals try (rw[if_pos b])
 all_goals go_ret
 all_goals exact⟨_,rfl,⟨qV _ _,World.ownsRow_nil _ _ _ _⟩,Nat.le_refl _,Chg.alloc _ _ _⟩
theorem qlen_any(w:World)(b:Nat)(most lost:Int)(v:Value)(ps:List QE)(h:Qb w b most v lost ps):Calls Tryz.prog 77 #[.pointer (some ⟨b,0,none⟩)] w λe w'=>e= .returned (.int .i64 ps.length)∧w'=w:=by
 have c1:=h.c1
 obtain⟨A,c,rfl⟩:=h.val
 obtain⟨n,hn⟩:=qZ ps.length
 rw[←hn] at c1 ⊢
 clear h hn
 go_enter Tryz.func77,Tryz.ntmps77
 go_wp2_with fail
 go_ret
 exact⟨rfl,rfl⟩
theorem qat_nil(w:World)(b:Nat)(most lost:Int)(v:Value)(h:Qb w b most v lost []):Calls Tryz.prog 145 #[.pointer (some ⟨b,0,none⟩),.int .i64 0] w λe w'=>e= .returned (.tuple #[.slice none 0 0,.bool false])∧w'=w:=by
 have c1:=h.c1
 obtain⟨A,c,rfl⟩:=h.val
 clear h
 go_enter Tryz.func145,Tryz.ntmps145
 go_wp2_with fail
 go_ret2
 exact⟨rfl,rfl⟩
def PQAt(w:World)(L:List Int)(en:Ending)(w':World):Prop:=
 ∃v,en= .returned (.tuple #[v,.bool true])∧w'.ownsRow w.heap.size 5 1 v L.length (L.map V8)∧Chg (λ_=>False) w w'
theorem qat_any(w:World)(b:Nat)(most lost:Int)(v:Value)(p:QE)(ps:List QE)(h:Qb w b most v lost (p::ps))(hn:(p::ps).length≤1000)(hb:BS w w.heap.size p.2.1 p.2.2)(hL:p.2.2.length≤100000):
  Calls Tryz.prog 145 #[.pointer (some ⟨b,0,none⟩),.int .i64 0] w (PQAt w p.2.2):=by
 have c1:=h.c1
 obtain⟨g,cap,rfl,_⟩:∃g cap,v= .slice (some ⟨g,0,none⟩) (ps.length+1) cap∧True:=by
  rcases qD h.row with ⟨e,h1,_⟩|⟨g,cap,e,_⟩
  ·simp at h1
  ·exact⟨g,cap,e,trivial⟩
 obtain⟨d0,d1⟩:=h.at (k:=0) (p:=p) rfl
 simp only[Nat.zero_mul,Nat.zero_add] at d0 d1
 obtain⟨p1,pv,L⟩:=p
 dsimp only at *
 obtain⟨A,c,rfl,hR,hA,_⟩:=hb
 have HC:=qQ (λh=>vX w A L.length c L h hA hL)
 have HR:=qQ hR
 obtain⟨n,hn2⟩:=qZ (ps.length+1)
 rw[←hn2] at c1
 have i1:decide (0≥(n:Int))=false:=by simp;omega
 have i2:(0:Int)<(n:Int):=by omega
 have i3:0<n:=by omega
 obtain⟨ln,hln⟩:=qZ L.length
 rw[←hln] at d1 HC HR
 clear h hn hL hA hR hn2 hln
 go_enter Tryz.func145,Tryz.ntmps145
 go_wp2_with fail
 (with_reducible refine (HC.out HR.out).mono ?_)
 rintro en w1 ⟨v1,rfl,hO,hG⟩
 have HX:=qQ (And.intro hO hG)
 clear hO hG
 go_wp2_with fail
 go_ret2
 exact⟨_,rfl,HX.out⟩
theorem qto_any(w:World)(b:Nat)(most lost:Int)(v:Value)(L:List QE)(h:Qb w b most v lost L)(hL:L.length≤1000)(hs:∀p∈L,∃A n c,p.2.1= .slice A n c):
  Calls Tryz.prog 146 #[.pointer (some ⟨b,0,none⟩)] w (PNew VI 3 w (L.map Prod.fst)):=by
 have c2:=h.c1
 have H:=qQ h
 obtain⟨A,c,rfl⟩:=h.val
 obtain⟨len,hlen⟩:∃n,n=L.length:=⟨_,rfl⟩
 rw[←hlen] at c2 hL H
 have hl:(len:Int)≤1000:=by omega
 have HL:=qQ hlen
 obtain⟨Z,hZ⟩:=qZ (L.map Prod.fst)
 have hzl:Z.length=len:=by rw[hZ,List.length_map];exact hlen.symm
 have HZ:=qQ (And.intro hZ hzl)
 rw[←hZ]
 have HS:=qQ hs
 clear h hlen hZ hzl hs
 go_enter Tryz.func146,Tryz.ntmps146
 go_wp2_with fail
 clear c2
 go_loopw [3,13] (λu3 i wr=>∃(k:Nat),k≤len∧i= .int .i64 k∧wr.ownsRow w.heap.size 3 1 u3 k ((Z.take k).map VI)∧Chg (λj=>w.heap.size≤j) w wr) (λ_ i _=>len-(intOf i).toNat)
 case atStart=>exact⟨0,by omega,rfl,World.ownsRow_nil _ _ _ _,Chg.refl _ _⟩
 case round=>
  obtain⟨k,hk,rfl,hO,hG⟩:=hrel
  have HO:=qQ hO
  have HG:=qQ hG
  clear hO hG
  by_cases hlt:k<len
  ·obtain⟨z,hz⟩:∃z,L[k]? =some z:=⟨_,List.getElem?_eq_getElem (by have:=HL.out;omega)⟩
   obtain⟨g,cap,hv⟩:∃g cap,A=some ⟨g,0,none⟩∧c=cap:=by
    rcases qD H.out.row with ⟨e,h1,_⟩|⟨g,cap,e,_⟩
    ·have:=HL.out;omega
    ·cases e;exact⟨_,_,rfl,rfl⟩
   obtain⟨rfl,rfl⟩:=hv
   have hrow:Qb wr b most _ lost L:=H.out.kept HG.out.fresh
   obtain⟨d0,d1⟩:=hrow.at hz
   have i1:(k:Int)<(len:Int):=by omega
   have hnx:Z.take (k+1)=Z.take k++[z.1]:=by
    rw[List.take_add_one,HZ.out.1,List.getElem?_map,hz];rfl
   have HNX:=qQ hnx
   have hga:=Chg.alloc (λ_=>False) wr (.cells #[.int .i64 z.1,z.2.1] 213)
   have HGA:=qQ (And.intro (HG.out.trans hga.none) (qY HO.out hga (λ_ _ e=>e)))
   have HGS:=qQ HG.out.size
   obtain⟨zA,zn,zc,hzv⟩:=HS.out z (List.mem_of_getElem? hz)
   clear hz hrow HG hga hnx HO
   obtain⟨z1,zv,zl⟩:=z
   dsimp only at hzv
   subst hzv
   go_wp2_with (at_builtin;go_loud (refine app1 (V:=VI) elI rfl (.tmp 17) (.tmp 20) rfl w.heap.size u3 k ((Z.take k).map VI) rfl (HGA.out.2.alloc _) (wr.heap.size+1) z1 rfl ?c1 rfl (by omega) (by omega) ?hb ?grow))
   case c1=>simp[VI]
   case hb=>have:=HGS.out;simp;omega
   case grow=>
    intro v4 w4 hown hgr hat
    have ga:=Chg.alloc (λ_=>False) (wr.alloc (.cells #[.int .i64 z1,.slice zA zn zc] 213)) (.cells #[.int .i64 z1] 3)
    have gg:=qH (S:=λj=>w.heap.size≤j) hgr (λj e=>(qS HGA.out.2 e).1)
    have hX:w4.ownsRow w.heap.size 3 1 v4 (k+1) ((Z.take (k+1)).map VI):=by rw[HNX.out,List.map_append,List.map_take];exact hown
    have HX:=qQ (And.intro hX ((HGA.out.1.trans ga.none).trans gg))
    clear hown hgr hat ga gg hX HGA d0 d1
    go_wp2_with fail
    go_roundw
    case measure=>simp[intOf];omega
    case rel=>exact⟨k+1,by omega,by go_num,HX.out.1,HX.out.2⟩
  ·obtain rfl:k=len:=by omega
   have hO:=HO.out
   rw[List.take_of_length_le (by have:=HZ.out.2;omega)] at hO
   have HO2:=qQ hO
   clear hO HO
   go_wp2_with fail
   go_ret
   refine⟨_,rfl,?_,HG.out.fresh⟩
   rw[HZ.out.2];exact HO2.out
structure Cfg where
 nodes:Nat
 near:List Int
 hops:List Int
 guard:Int
 err:Int
 keep:Int
 loss:Int
 queue:Int
 life:Int
structure CfgOk(c:Cfg):Prop where
 n0:2≤c.nodes
 n1:c.nodes≤16
 near:c.near.length=c.nodes
 nearb:∀(i:Nat) x,c.near[i]? =some x→0≤x∧x<65536∧x<2^c.nodes∧x / 2^i % 2=0
 hops:HopOk c.hops
 g:1≤c.guard∧c.guard≤4000
 e:0≤c.err∧c.err≤1000
 k:1≤c.keep∧c.keep≤10000
 l:2≤c.loss∧c.loss≤10000
 q:1≤c.queue∧c.queue≤32
 f:1≤c.life∧c.life≤15
def cfgV(c:Cfg)(nv hv:Value):Value:=
 .agg #[.int .i64 c.nodes,nv,hv,.int .i64 c.guard,.int .i64 c.err,.int .i64 c.keep,.int .i64 c.loss,.int .i64 c.queue,.int .i64 c.life]
structure NSt where
 base:Int
 sum:Int
 slots:Int
 q:List (Int×List Int)
 up:Seen
 down:Seen
 got:Seen
 seq:Int
 last:Int
 tries:Int
 synced:Bool
 p:Option (Int×List Pa)
 k:Option Int
 listened:Int
 paths:Int→Option (List Int)
 sasn:Int
 skind:Int
 ssrc:Int
 sdst:Int
 sseq:Int
 sopen:Bool
 ev:List Ev
structure NR where
 nv:Value
 hv:Value
 clk:Nat
 q:Nat
 up:Nat
 down:Nat
 got:Nat
 pv:Value
 kv:Value
 paths:Nat
 ia:Option Addr
 il:Nat
 ic:Nat
 da:Option Addr
 dl:Nat
 dc:Nat
 ev:Value
def zr(c:Cfg)(i:Nat)(r:NR)(s:NSt):Array Value:=
 #[.int .i64 c.nodes,r.nv,r.hv,.int .i64 c.guard,.int .i64 c.err,.int .i64 c.keep,.int .i64 c.loss,.int .i64 c.queue,.int .i64 c.life,
  .int .i64 i,.pointer (some ⟨r.clk,0,none⟩),.pointer (some ⟨r.q,0,none⟩),.pointer (some ⟨r.up,0,none⟩),.pointer (some ⟨r.down,0,none⟩),.pointer (some ⟨r.got,0,none⟩),
  .int .i64 s.seq,.int .i64 s.last,.int .i64 s.tries,.bool s.synced,r.pv,r.kv,.int .i64 s.listened,.map (some r.paths),
  .int .i64 s.sasn,.int .i64 s.skind,.int .i64 s.ssrc,.int .i64 s.sdst,.int .i64 s.sseq,.slice r.ia r.il r.ic,.slice r.da r.dl r.dc,.bool s.sopen,r.ev]
def z6(e:Ev×Value×Value):List Value:=
 [.int .i64 e.1.kind,.int .i64 e.1.i,.int .i64 e.1.src,.int .i64 e.1.code,.int .i64 e.1.p.src,.int .i64 e.1.p.dst,.int .i64 e.1.p.n,.int .i64 e.1.p.life,e.2.1,e.2.2]
theorem cellsV_len(e:Ev×Value×Value):(z6 e).length=10:=rfl
def Eo(w:World)(own:Cls)(c:Nat)(v:Value)(l:List Ev):Prop:=
 ∃ps:List (Ev×Value×Value),w.ownsRow 0 44 10 v ps.length (ps.flatMap z6)∧(∀k,v.ownBlock=some k→own k=c)∧(∀p∈ps,RV VI w own p.2.1 p.1.p.path∧BO w own p.2.2 p.1.p.data)∧l=ps.map Prod.fst
def Np(w:World)(own:Cls)(c:Cfg)(i:Nat)(r:NR)(s:NSt):Prop:=
 RV VU w own r.nv c.near∧RV VI w own r.hv c.hops∧Co w own (cl i 1) r.clk s.base s.sum s.slots∧Qo w own (cl i 2) r.q c.queue s.q∧
 Wo w own (cl i 3) r.up s.up∧Wo w own (cl i 4) r.down s.down∧Wo w own (cl i 5) r.got s.got∧Po w own (cl i 6) r.pv i s.p∧Ko w own (cl i 7) r.kv c.keep s.k∧
 Mo w own (cl i 8) r.paths s.paths∧Eo w own (cl i 9) r.ev s.ev
structure Nd(w:World)(own:Cls)(c:Cfg)(i b:Nat)(r:NR)(s:NSt):Prop where
 blk:w.heap[b]? =some (.cells (zr c i r s) 75 (0,0))
 ob:own b=cl i 0
 np:Np w own c i r s
def NdS(own:Cls)(i:Nat):Nat→Prop:=λk=>∃j,j<16∧own k=cl i j
section
variable {w w':World}{own own':Cls}{c:Cfg}{i b:Nat}{r r':NR}{s s':NSt}{S:Nat→Prop}
theorem Eo.step{c:Nat}{v:Value}{l:List Ev}(h:Eo w own c v l)(e:Ext w own own')(g:Chg S w w')(o:Off own c S):Eo w' own' c v l:=by
 obtain⟨ps,h1,h2,h3,h4⟩:=h
 exact⟨ps,qY h1 g (λk hk=>o k (.inr (h2 k hk))),λk hk=>by rw[e k (qg h1 hk).2];exact h2 k hk,
  λp hp=>⟨(h3 p hp).1.step e g o.zero,(h3 p hp).2.step e g o.zero⟩,h4⟩
theorem Np.step(h:Np w own c i r s)(e:Ext w own own')(g:Chg S w w')(o0:∀k,own k=0→¬S k)(o:∀j,1≤j→j≤9→∀k,own k=cl i j→¬S k):Np w' own' c i r s:=by
 obtain⟨h1,h2,h3,h4,h5,h6,h7,h8,h9,ha,hb⟩:=h
 have of:∀j,1≤j→j≤9→Off own (cl i j) S:=λj h1 h2 k hk=>hk.elim (o0 k) (o j h1 h2 k)
 exact⟨h1.step e g o0,h2.step e g o0,h3.step e g (of 1 (by omega) (by omega)),h4.step e g (of 2 (by omega) (by omega)),h5.step e g (of 3 (by omega) (by omega)),h6.step e g (of 4 (by omega) (by omega)),
  h7.step e g (of 5 (by omega) (by omega)),h8.step e g (of 6 (by omega) (by omega)),h9.step e g (of 7 (by omega) (by omega)),ha.step e g (of 8 (by omega) (by omega)),hb.step e g (of 9 (by omega) (by omega))⟩
theorem Nd.step(h:Nd w own c i b r s)(e:Ext w own own')(g:Chg S w w')(o0:∀k,own k=0→¬S k)(o:∀k,NdS own i k→¬S k):Nd w' own' c i b r s:=
 ⟨Chg.keep g h.blk (o b ⟨0,by omega,h.ob⟩),by rw[e b (qX h.blk)];exact h.ob,h.np.step e g o0 (λj h1 h2 k hk=>o k ⟨j,by omega,hk⟩)⟩
theorem Nd.kept(h:Nd w own c i b r s)(g:Chg (λ_=>False) w w'):Nd w' own c i b r s:=h.step (Ext.refl _ _) g (λ_ _ e=>e) (λ_ _ e=>e)
theorem Nd.cell(h:Nd w own c i b r s)(o:Nat):w.cell? ⟨b,o,none⟩=(zr c i r s)[o]? :=by rw[qJ h.blk]
theorem Nd.f(h:Nd w own c i b r s)(o:Nat):w.frozen? ⟨b,o,none⟩=false:=qK h.blk o
end
structure NAt(w0:World)(o0:Cls)(c:Cfg)(i b:Nat)(s:NSt)(w:World)(o:Cls)(r:NR):Prop where
 nd:Nd w o c i b r s
 z:Z w o
 ext:Ext w0 o0 o
 chg:Chg (NdS o0 i) w0 w
section
variable {w0 w w':World}{o0 o o':Cls}{c:Cfg}{i b:Nat}{r r':NR}{s s':NSt}
theorem NAt.start(h:Nd w o c i b r s)(z:Z w o):NAt w o c i b s w o r:=⟨h,z,Ext.refl _ _,Chg.refl _ _⟩
theorem Chg.extN{w w1 w2:World}{o1 o2:Cls}(h:Chg (NdS o1 i) w w1)(e:Ext w o1 o2)(k:Chg (NdS o2 i) w1 w2):Chg (NdS o1 i) w w2:=
 ⟨k.os.trans h.os,k.tape.trans h.tape,k.output.trans h.output,Nat.le_trans h.size k.size,
  λq hi hn=>(k.block q (Nat.lt_of_lt_of_le hi h.size) (λhh=>hn (by obtain⟨j,h1,h2⟩:=hh;exact⟨j,h1,by rw[←e q hi];exact h2⟩))).trans (h.block q hi hn)⟩
theorem NAt.next(h:NAt w0 o0 c i b s w o r)(n:Nd w' o' c i b r' s')(z:Z w' o')(e:Ext w o o')(g:Chg (NdS o i) w w'):NAt w0 o0 c i b s' w' o' r':=
 ⟨n,z,h.ext.trans e h.chg.size,h.chg.extN h.ext g⟩
theorem NAt.trans{w1:World}{o1:Cls}{s1:NSt}{r1:NR}(h:NAt w0 o0 c i b s1 w1 o1 r1)(k:NAt w1 o1 c i b s w o r):NAt w0 o0 c i b s w o r:=
 h.next k.nd k.z k.ext k.chg
theorem NAt.kept(h:NAt w0 o0 c i b s w o r)(g:Chg (λ_=>False) w w'):NAt w0 o0 c i b s w' o r:=
 h.next (h.nd.kept g) (h.z.more g.size) (Ext.refl _ _) g.none
theorem NAt.cell(h:NAt w0 o0 c i b s w o r)(k:Nat):w.cell? ⟨b,k,none⟩=(zr c i r s)[k]? :=h.nd.cell k
theorem NAt.f(h:NAt w0 o0 c i b s w o r)(k:Nat):w.frozen? ⟨b,k,none⟩=false:=h.nd.f k
theorem NAt.set(h:NAt w0 o0 c i b s w o r)(k:Nat)(v:Value)(hc:zr c i r' s'=(zr c i r s).setIfInBounds k v)(hp:Np w o c i r' s'):NAt w0 o0 c i b s' (w.setCell ⟨b,k,none⟩ v) o r':=by
 have g:=chg1 w b k v
 have hb:=h.nd.ob
 refine h.next ⟨?_,hb,hp.step (Ext.refl _ _) g (λq h1 e=>?_) (λj h1 h2 q h3 e=>?_)⟩ (h.z.more g.size) (Ext.refl _ _) (g.mono (λq _ e=>⟨0,by omega,by rw[e];exact hb⟩))
 ·rw[hc]
  exact qB h.nd.blk k v
 ·subst e;rw[hb] at h1;exact qP i 0 h1
 ·subst e;rw[hb] at h3;have:=(qy h3 (by omega) (by omega)).2;omega
theorem NAt.part(h:NAt w0 o0 c i b s w o r)(j:Nat)(hj:1≤j∧j≤9)(e:Ext w o o')(z:Z w' o')(g:Chg (Of o (cl i j)) w w')(hc:zr c i r s'=zr c i r s)
  (hp:(∀k,o k=0→¬Of o (cl i j) k)→(∀m,m≠j→m<16→Off o (cl i m) (Of o (cl i j)))→Np w' o' c i r s'):NAt w0 o0 c i b s' w' o' r:=by
 have hb:=h.nd.ob
 refine h.next ⟨?_,?_,hp ?_ ?_⟩ z e (g.mono (λq _ e=>⟨j,by omega,e⟩))
 ·rw[hc]
  refine Chg.keep g h.nd.blk (λe=>?_)
  unfold Of at e;rw[hb] at e;have:=(qy e (by omega) (by omega)).2;omega
 ·rw[e b (qX h.nd.blk)];exact hb
 ·intro k h1 h2;unfold Of at h2;rw[h1] at h2;exact qP i j h2.symm
 ·intro m hm h16
  refine Off.of (qP i j) (λe=>?_)
  exact hm (qy e (by omega) (by omega)).2.symm
end
theorem nin_any(n a b:Int)(w:World):Calls Tryz.prog 48 #[.int .i64 n,.int .i64 a,.int .i64 b] w λe w'=>e= .returned (.bool (inR n a b))∧w'=w:=by
 by_cases h0:a≤n
 ·by_cases h1:n≤b
  ·have e:inR n a b=true:=zT h0 (by omega)
   rw[e]
   clear e
   go_enter Tryz.func48,Tryz.ntmps48
   go_wp2_with fail
   go_ret
   exact⟨rfl,rfl⟩
  ·have e:inR n a b=false:=jC (by omega)
   have h1:b<n:=by omega
   rw[e]
   clear e
   go_enter Tryz.func48,Tryz.ntmps48
   go_wp2_with fail
   go_ret
   exact⟨rfl,rfl⟩
 ·have e:inR n a b=false:=vP (by omega)
  have h0:n<a:=by omega
  rw[e]
  clear e
  go_enter Tryz.func48,Tryz.ntmps48
  go_wp2_with fail
  go_ret
  exact⟨rfl,rfl⟩
theorem jB(n:Int)(h0:0≤n)(h1:n<1099511627776)(w:World):Calls Tryz.prog 56 #[.int .i64 n] w λe w'=>e= .returned (.bool true)∧w'=w:=by
 go_enter Tryz.func56,Tryz.ntmps56
 go_wp2_with fail
 go_ret
 exact⟨rfl,rfl⟩
def PN(w0:World)(o0:Cls)(c:Cfg)(i b:Nat)(s:NSt)(V:Value→World→Cls→Prop)(en:Ending)(w':World):Prop:=
 ∃v o r,en= .returned v∧NAt w0 o0 c i b s w' o r∧V v w' o
def PV0(v:Value)(w:World)(e:Ending)(w':World):Prop:=e= .returned v∧w'=w
section
variable {w0 w:World}{o0 o:Cls}{c:Cfg}{i b:Nat}{s:NSt}{r:NR}
theorem nhas_any(h:NAt w0 o0 c i b s w o r)(q:Int)(hc:c.nodes≤16):Calls Tryz.prog 78 #[.pointer (some ⟨b,0,none⟩),.int .i64 q] w (PV0 (.bool (inR q 0 ((c.nodes:Int)-1))) w):=by
 have c0:w.cell? ⟨b,0,none⟩=some (.int .i64 c.nodes):=h.cell 0
 have HI:=qQ (λa b w=>nin_any q a b w)
 obtain⟨M,hM⟩:=qZ (inR q 0 ((c.nodes:Int)-1))
 have HM:=qQ hM
 rw[←hM]
 generalize c.nodes=n at *
 have hn:(n:Int)≤16:=by omega
 clear h hM hc
 go_enter Tryz.func78,Tryz.ntmps78
 go_wp2_with fail
 (with_reducible refine (HI.out _ _ _).mono ?_)
 rintro en w1 ⟨rfl,rfl⟩
 go_wp2_with fail
 have hm:=HM.out
 subst hm
 go_ret
 exact⟨rfl,rfl⟩
def clkN(s:NSt)(x y z:Int):NSt:={s with base:=x,sum:=y,slots:=z}
def lisN(s:NSt)(x:Int):NSt:={s with listened:=x}
theorem NAt.clk{w':World}{x y z:Int}(h:NAt w0 o0 c i b s w o r)(k:Ck w' r.clk x y z)(g0:Chg (· =r.clk) w w'):NAt w0 o0 c i b (clkN s x y z) w' o r:=by
 have ho:=h.nd.np.2.2.1.2
 have g:Chg (Of o (cl i 1)) w w':=g0.mono (λk _ e=>by subst e;exact ho)
 refine h.part 1 (by omega) (Ext.refl _ _) (h.z.more g.size) g rfl (λo0 o=>?_)
 obtain⟨p1,p2,p3,p4,p5,p6,p7,p8,p9,pa,pb⟩:=h.nd.np
 exact⟨p1.step (Ext.refl _ _) g o0,p2.step (Ext.refl _ _) g o0,⟨k,ho⟩,p4.step (Ext.refl _ _) g (o 2 (by omega) (by omega)),p5.step (Ext.refl _ _) g (o 3 (by omega) (by omega)),
  p6.step (Ext.refl _ _) g (o 4 (by omega) (by omega)),p7.step (Ext.refl _ _) g (o 5 (by omega) (by omega)),p8.step (Ext.refl _ _) g (o 6 (by omega) (by omega)),
  p9.step (Ext.refl _ _) g (o 7 (by omega) (by omega)),pa.step (Ext.refl _ _) g (o 8 (by omega) (by omega)),pb.step (Ext.refl _ _) g (o 9 (by omega) (by omega))⟩
theorem NAt.lis(h:NAt w0 o0 c i b s w o r)(x:Int):NAt w0 o0 c i b (lisN s x) (w.setCell ⟨b,21,none⟩ (.int .i64 x)) o r:=h.set 21 _ rfl h.nd.np
def slotN(i:Nat)(p:Int)(s:NSt):NSt:=
 lisN (clkN s s.base (s.sum+cutf (if i=0 then 0 else p) 100*10000) (s.slots+1)) (if s.synced then s.listened else s.listened+1)
theorem nslot_any(h:NAt w0 o0 c i b s w o r)(now p:Int)(h0:0≤now)(h1:now<1099511627776)(hs: -1000000000000≤s.sum∧s.sum≤1000000000000)(hz:0≤s.slots∧s.slots≤1000000)(hl:0≤s.listened∧s.listened≤1000000):
  Calls Tryz.prog 53 #[.pointer (some ⟨b,0,none⟩),.int .i64 now,.int .i64 p] w (PN w0 o0 c i b (slotN i p s) (λv _ _=>v= .tuple #[])):=by
 have HA:=qQ (λw=>jB now h0 h1 w)
 have c1:w.cell? ⟨b,9,none⟩=some (.int .i64 i):=h.cell 9
 have c2:w.cell? ⟨b,10,none⟩=some (.pointer (some ⟨r.clk,0,none⟩)):=h.cell 10
 obtain⟨q,hq⟩:=qZ ((if i=0 then 0 else p))
 obtain⟨y,hy⟩:=qZ (s.sum+cutf q 100*10000)
 have hk:=ckslot_any w r.clk s.base s.sum s.slots q h.nd.np.2.2.1.1 hs hz
 have hg:slotN i p s=lisN (clkN s s.base y (s.slots+1)) (if s.synced then s.listened else s.listened+1):=by rw[hy,hq];rfl
 rw[←hy] at hk
 have HH:=qQ (λw'=>h.clk (w':=w') (x:=s.base) (y:=y) (z:=s.slots+1))
 have HK:=qQ hk
 obtain⟨ck,hck⟩:=qZ r.clk
 rw[←hck] at c2 HH HK
 obtain⟨X,hX⟩:=qZ (clkN s s.base y (s.slots+1))
 rw[←hX] at HH hg
 have hsy:X.synced=s.synced:=by rw[hX];rfl
 have hli:X.listened=s.listened:=by rw[hX];rfl
 obtain⟨l0,l1⟩:=hl
 have e1:IntKind.i64.wrap (s.listened+1)=s.listened+1:=IntWalk.i64_in _ (by omega)
 obtain⟨F,hF⟩:=qZ (slotN i p s)
 rw[←hF] at hg ⊢
 have HG:=qQ hg
 clear hX hg hck hk hy h hF
 by_cases hi:i=0
 ·subst hi
  rw[if_pos rfl] at hq
  subst hq
  go_enter Tryz.func53,Tryz.ntmps53
  go_wp2_with fail
  (with_reducible refine (HA.out _).mono ?_)
  rintro en w1 ⟨rfl,rfl⟩
  go_wp2_with fail
  with_reducible refine HK.out.mono ?_
  rintro en w1 ⟨rfl,k1,k2⟩
  have K:=HH.out _ k1 k2
  have HKK:=qQ K
  have d1:w1.cell? ⟨b,18,none⟩=some (.bool s.synced):=(K.cell 18).trans (by rw[←hsy];rfl)
  have d2:w1.cell? ⟨b,21,none⟩=some (.int .i64 s.listened):=(K.cell 21).trans (by rw[←hli];rfl)
  have f2:=K.f 21
  clear k1 k2 K HH HK
  cases hsb:s.synced with
  |true=>
   rw[hsb] at d1 hsy
   go_wp2_with fail
   go_end0
   refine⟨_,o,r,rfl,?_,rfl⟩
   have hg:=HG.out
   rw[hsb,if_pos rfl,←hli] at hg
   rw[hg]
   exact HKK.out
  |false=>
   rw[hsb] at d1 hsy
   go_wp2_with fail
   go_end0
   refine⟨_,o,r,rfl,?_,rfl⟩
   have hg:=HG.out
   rw[hsb,if_neg (by decide)] at hg
   rw[hg]
   exact HKK.out.lis _
 ·rw[if_neg hi] at hq
  subst hq
  have hi':((i:Int)==0)=false:=by simp;omega
  go_enter Tryz.func53,Tryz.ntmps53
  go_wp2_with fail
  (with_reducible refine (HA.out _).mono ?_)
  rintro en w1 ⟨rfl,rfl⟩
  go_wp2_with fail
  with_reducible refine HK.out.mono ?_
  rintro en w1 ⟨rfl,k1,k2⟩
  have K:=HH.out _ k1 k2
  have HKK:=qQ K
  have d1:w1.cell? ⟨b,18,none⟩=some (.bool s.synced):=(K.cell 18).trans (by rw[←hsy];rfl)
  have d2:w1.cell? ⟨b,21,none⟩=some (.int .i64 s.listened):=(K.cell 21).trans (by rw[←hli];rfl)
  have f2:=K.f 21
  clear k1 k2 K HH HK
  cases hsb:s.synced with
  |true=>
   rw[hsb] at d1 hsy
   go_wp2_with fail
   go_end0
   refine⟨_,o,r,rfl,?_,rfl⟩
   have hg:=HG.out
   rw[hsb,if_pos rfl,←hli] at hg
   rw[hg]
   exact HKK.out
  |false=>
   rw[hsb] at d1 hsy
   go_wp2_with fail
   go_end0
   refine⟨_,o,r,rfl,?_,rfl⟩
   have hg:=HG.out
   rw[hsb,if_neg (by decide)] at hg
   rw[hg]
   exact HKK.out.lis _
end
def rankN(i:Nat)(s:NSt):Int:=
 if s.synced then (if i=0 then 0 else match s.p with|none=>255|some x=>x.1) else 255
def qR(s:NSt):Int:=match s.p with|some (_,p::_)=>p.node|_=>64
def pktN(s:NSt):List Int×Int×Bool:=
 match s.q with
 |[]=>([],0,false)
 |(d,L)::_=>(L,if d=64 then qR s else d,decide ((if d=64 then qR s else d)≠64))
def syncE(i:Nat)(s:NSt)(now:Int):El:=⟨1,now,rankN i s,0,[]⟩
section
variable {w0 w:World}{o0 o:Cls}{c:Cfg}{i b:Nat}{s:NSt}{r:NR}
theorem nrank_any(h:NAt w0 o0 c i b s w o r)(hp:s.synced=true→i≠0→s.p≠none):Calls Tryz.prog 134 #[.pointer (some ⟨b,0,none⟩)] w (PV0 (.int .i64 (rankN i s)) w):=by
 have c1:w.cell? ⟨b,9,none⟩=some (.int .i64 i):=h.cell 9
 have c2:w.cell? ⟨b,18,none⟩=some (.bool s.synced):=h.cell 18
 have c3:w.cell? ⟨b,19,none⟩=some r.pv:=h.cell 19
 have hpo:=h.nd.np.2.2.2.2.2.2.2.1
 clear h
 unfold rankN
 cases hs:s.synced with
 |false=>
  rw[hs] at c2
  rw[if_neg (by decide)]
  clear hpo c3 hp
  go_enter Tryz.func134,Tryz.ntmps134
  go_wp2_with fail
  go_ret
  exact⟨rfl,rfl⟩
 |true=>
  rw[hs] at c2
  rw[if_pos rfl]
  by_cases hi:i=0
  ·subst hi
   rw[if_pos rfl]
   clear hpo c3 hp
   go_enter Tryz.func134,Tryz.ntmps134
   go_wp2_with fail
   go_ret
   exact⟨rfl,rfl⟩
  ·rw[if_neg hi]
   have hi':((i:Int)==0)=false:=by simp;omega
   cases hsp:s.p with
   |none=>exact absurd hsp (hp hs hi)
   |some x=>
    rw[hsp] at hpo
    obtain⟨rank,L⟩:=x
    obtain⟨pb,row,e1,hP,_⟩:=hpo
    rw[e1] at c3
    have HR:=qQ (prank_any w pb row i rank L hP)
    clear hP hp
    go_enter Tryz.func134,Tryz.ntmps134
    go_wp2_with fail
    with_reducible refine HR.out.mono ?_
    rintro en w1 ⟨rfl,rfl⟩
    go_wp2_with fail
    go_ret
    exact⟨rfl,rfl⟩
theorem qt(h:NAt w0 o0 c i b s w o r):Calls Tryz.prog 73 #[.pointer (some ⟨b,0,none⟩)] w (PV (.int .i64 (qR s)) w):=by
 have c3:w.cell? ⟨b,19,none⟩=some r.pv:=h.cell 19
 have hpo:=h.nd.np.2.2.2.2.2.2.2.1
 clear h
 unfold qR
 cases hsp:s.p with
 |none=>
  rw[hsp] at hpo
  have e1:r.pv= .pointer none:=hpo
  rw[e1] at c3
  have HR:=qQ (first_nil w)
  clear hpo
  go_enter Tryz.func73,Tryz.ntmps73
  go_wp2_with fail
  with_reducible refine HR.out.mono ?_
  rintro en w1 ⟨rfl,hG⟩
  have HG:=qQ hG
  clear hG
  go_wp2_with fail
  go_ret
  exact⟨rfl,HG.out⟩
 |some x=>
  rw[hsp] at hpo
  obtain⟨rank,L⟩:=x
  obtain⟨pb,row,e1,hP,_,_,_,_,hL,_⟩:=hpo
  rw[e1] at c3
  have HR:=qQ (first_any w pb row i rank L hP (by omega))
  clear hP
  cases L with
  |nil=>
   have HR:=qQ (show Calls Tryz.prog 119 #[.pointer (some ⟨pb,0,none⟩)] w (PV (.tuple #[.int .i64 0,.bool false]) w) from HR.out)
   clear hL
   go_enter Tryz.func73,Tryz.ntmps73
   go_wp2_with fail
   with_reducible refine HR.out.mono ?_
   rintro en w1 ⟨rfl,hG⟩
   have HG:=qQ hG
   clear hG
   go_wp2_with fail
   go_ret
   exact⟨rfl,HG.out⟩
  |cons p t=>
   have HR:=qQ (show Calls Tryz.prog 119 #[.pointer (some ⟨pb,0,none⟩)] w (PV (.tuple #[.int .i64 p.node,.bool true]) w) from HR.out)
   clear hL
   go_enter Tryz.func73,Tryz.ntmps73
   go_wp2_with fail
   with_reducible refine HR.out.mono ?_
   rintro en w1 ⟨rfl,hG⟩
   have HG:=qQ hG
   clear hG
   go_wp2_with fail
   go_ret
   exact⟨rfl,HG.out⟩
theorem nsync_any(h:NAt w0 o0 c i b s w o r)(now:Int)(hp:s.synced=true→i≠0→s.p≠none):
  Calls Tryz.prog 95 #[.pointer (some ⟨b,0,none⟩),.int .i64 now] w (PV (elV (syncE i s now) (.slice none 0 0)) w):=by
 have HR:=qQ (λw1 (h1:NAt w0 o0 c i b s w1 o r)=>nrank_any h1 hp)
 have H:=qQ h
 obtain⟨P,hP⟩:=qZ (PV (elV (syncE i s now) (.slice none 0 0)) w)
 rw[←hP]
 have HP:=qQ hP
 clear h hP
 go_enter Tryz.func95,Tryz.ntmps95
 go_wp2_with fail
 (with_reducible refine (HR.out _ (H.out.kept (Chg.alloc _ w _))).mono ?_)
 rintro en w1 ⟨rfl,rfl⟩
 go_wp2_with fail
 have k0:(w.alloc (Obj.cells #[Value.int .i64 1,Value.int .i64 now,Value.int .i64 (rankN i s),Value.int .i64 0,Value.slice none 0 0] 172)).heap[w.heap.size]? =_:=qV _ _
 obtain⟨k0,k1,k2,k3,k4⟩:=zB k0
 refine bodyPost_ret (v:=elV (syncE i s now) (.slice none 0 0)) (by simp[results,Tryz.results95,go_sem,k0,k1,k2,k3,k4];rfl) rfl ?_
 rw[HP.out]
 exact⟨rfl,Chg.alloc _ _ _⟩
def PPkt(x:List Int×Int×Bool)(w:World)(o:Cls)(en:Ending)(w':World):Prop:=
 ∃v,en= .returned (.tuple #[v,.int .i64 x.2.1,.bool x.2.2])∧BO w' o v x.1∧Chg (λ_=>False) w w'
theorem npacket_any(h:NAt w0 o0 c i b s w o r)(hq:s.q.length≤1000)(hl:∀p∈s.q,p.2.length≤1000):
  Calls Tryz.prog 96 #[.pointer (some ⟨b,0,none⟩)] w (PPkt (pktN s) w o):=by
 have c3:w.cell? ⟨b,11,none⟩=some (.pointer (some ⟨r.q,0,none⟩)):=h.cell 11
 obtain⟨v,lost,ps,q1,q2,q3,q4,q5,q6,q7,q8⟩:=h.nd.np.2.2.2.1
 have hb:Qb w r.q c.queue v lost ps:=⟨q1,q5⟩
 have H:=qQ h
 obtain⟨qb,hqb⟩:∃q,q=r.q:=⟨_,rfl⟩
 rw[←hqb] at c3 hb
 cases ps with
 |nil=>
  have e:pktN s=([],0,false):=by unfold pktN;rw[q8];rfl
  rw[e]
  have HQ:=qQ (qat_nil w qb c.queue lost v hb)
  clear e hb q1 q2 q3 q4 q5 q6 q7 q8 h hq hl hqb
  go_enter Tryz.func96,Tryz.ntmps96
  go_wp2_with fail
  with_reducible refine HQ.out.mono ?_
  rintro en w1 ⟨rfl,rfl⟩
  go_wp2_with fail
  go_ret3
  exact⟨_,rfl,BO.nil _ _,Chg.refl _ _⟩
 |cons p ps=>
  obtain⟨d,pv,L⟩:=p
  obtain⟨F,hF⟩:=qZ (pktN s)
  have e:F=(L,if d=64 then qR s else d,decide ((if d=64 then qR s else d)≠64)):=by rw[hF];unfold pktN;rw[q8];rfl
  rw[←hF]
  have hB:BO w o pv L:=q7 (d,pv,L) (by simp)
  have hl1:L.length≤1000:=by have:=hl (d,L) (by rw[q8];simp);exact this
  have hn:(((d,pv,L):QE)::ps).length≤1000:=by rw[q8] at hq;simpa using hq
  have HQ:=qQ (qat_any w qb c.queue lost v (d,pv,L) ps hb hn hB.bs (by show L.length≤_;omega))
  have hsl:∀p∈((d,pv,L):QE)::ps,∃A n c,p.2.1= .slice A n c:=λp hp=>by
   obtain⟨⟨A,c,e,_⟩,_⟩:=q7 p hp
   exact⟨A,_,c,e⟩
  have HT:=qQ (λw1 (g:Chg (λ_=>False) w w1)=>qto_any w1 qb c.queue lost v ((d,pv,L)::ps) (hb.kept g) hn hsl)
  have HE:=qQ (And.intro e hB)
  have HF:=qQ (λw1 (g:Chg (λ_=>False) w w1)=>qt (h.kept g))
  have HZ:=qQ h.z
  have hcb:=hb
  clear hF e hb q1 q2 q3 q4 q5 q6 q7 q8 h hq hl hqb hB hn hsl hl1 hcb
  go_enter Tryz.func96,Tryz.ntmps96
  go_wp2_with fail
  with_reducible refine HQ.out.mono ?_
  rintro en w1 ⟨v1,rfl,hO,hG⟩
  have c3:w1.cell? ⟨b,11,none⟩=some (.pointer (some ⟨qb,0,none⟩)):=by rw[hG.cell (qG c3) (λe=>e),c3]
  have HB1:=qQ (And.intro (BO.of_own (own:=o) hO HE.out.2.2 HZ.out) hG)
  clear hO hG
  go_wp2_with fail
  (with_reducible refine (HT.out _ HB1.out.2).mono ?_)
  rintro en w2 ⟨v2,rfl,hO,hG⟩
  obtain⟨g,cap,cur,rfl,_,_,_,_⟩:=vL hO (by simp)
  have d0:w2.cell? ⟨g,0,none⟩=some (.int .i64 d):=qp hO 0 _ rfl
  obtain⟨m,hm⟩:=qZ ((List.map Prod.fst (((d,pv,L):QE)::ps)).length)
  have hm0:0<m:=by rw[hm];simp
  rw[←hm]
  have HB2:=qQ (And.intro (HB1.out.1.keep hG (λ_ _ e=>e)) (HB1.out.2.trans hG))
  clear hO hG hm HB1
  by_cases h64:d=64
  ·subst h64
   go_wp2_with fail
   (with_reducible refine (HF.out _ HB2.out.2).mono ?_)
   rintro en w3 ⟨rfl,hG⟩
   have HB3:=qQ (And.intro (HB2.out.1.keep hG (λ_ _ e=>e)) (HB2.out.2.trans hG))
   clear hG HB2
   obtain⟨t,ht⟩:=qZ (qR s)
   have HE2:=qQ (And.intro HE.out.1 ht)
   rw[←ht]
   clear ht
   go_wp2_with fail
   have he:F=(L,t,!(t==64)):=by
    have e1:=HE2.out.1
    simp only[if_true] at e1
    rw[e1,←HE2.out.2]
    by_cases q:t=64 <;> simp[q]
   subst he
   go_ret3
   exact⟨_,rfl,HB3.out⟩
  ·have h64':(d==64)=false:=by simpa using h64
   go_wp2_with fail
   have he:F=(L,d,d != 64):=by
    rw[HE.out.1,if_neg h64]
    simp[h64]
   subst he
   go_ret3
   exact⟨_,rfl,HB2.out⟩
end
theorem ElV:ElS 29 44 10 112:=ElS.of (z:= .agg #[.int .i64 0,.int .i64 0,.int .i64 0,.int .i64 0,.int .i64 0,.int .i64 0,.int .i64 0,.int .i64 0,.slice none 0 0,.slice none 0 0]) (by kernel_rfl) (by kernel_rfl) (by decide+kernel) (by decide)
def evN(s:NSt)(e:Ev):NSt:={s with ev:=s.ev++[e]}
def noEv(s:NSt):NSt:={s with ev:=[]}
section
variable {w0 w w':World}{o0 o o':Cls}{c:Cfg}{i b:Nat}{s s':NSt}{r r':NR}
theorem NAt.upd(h:NAt w0 o0 c i b s w o r)(j:Nat)(hj:1≤j∧j≤9)(e:Ext w o o')(z:Z w' o')(g:Chg (λq=>o q=cl i j∨q=b) w w')(hc:w'.heap[b]? =some (.cells (zr c i r' s') 75 (0,0)))
  (hp:(∀k,o k=0→¬(o k=cl i j∨k=b))→(∀m,1≤m→m≠j→m<16→Off o (cl i m) (λq=>o q=cl i j∨q=b))→Np w' o' c i r' s'):NAt w0 o0 c i b s' w' o' r':=by
 have hb:=h.nd.ob
 have h0:∀k,o k=0→¬(o k=cl i j∨k=b):=λk h1 h2=>by
  rcases h2 with h2|h2
  ·rw[h1] at h2;exact qP i j h2.symm
  ·subst h2;rw[hb] at h1;exact qP i 0 h1
 refine h.next ⟨hc,?_,hp h0 ?_⟩ z e (g.mono (λq _ e=>?_))
 ·rw[e b (qX h.nd.blk)];exact hb
 ·intro m h1 hm h16 k hk h2
  rcases hk with hk|hk
  ·exact h0 k hk h2
  ·rcases h2 with h2|h2
   ·exact hm (qy (hk.symm.trans h2) (by omega) (by omega)).2
   ·subst h2;have:=(qy (hb.symm.trans hk) (by omega) (by omega)).2;omega
 ·rcases e with e|e
  ·exact⟨j,by omega,e⟩
  ·exact⟨0,by omega,by rw[e];exact hb⟩
theorem NAt.told(h:NAt w0 o0 c i b s w o r)(e:Ev)(pv dv:Value)(g cap n:Nat)(w5:World)(G:Chg (λk=>r.ev.ownBlock=some k) w w5)(hn:n=s.ev.length)
  (ps:List (Ev×Value×Value)) (e3:∀p∈ps,RV VI w o p.2.1 p.1.p.path∧BO w o p.2.2 p.1.p.data) (e4:s.ev=ps.map Prod.fst)
  (hrow:w5.ownsRow 0 44 10 (.slice (some ⟨g,0,none⟩) (n+1) cap) (n+1) (ps.flatMap z6++z6 (e,pv,dv)))
  (hat:r.ev.ownBlock=some g∨w.heap.size≤g) (hlt:g<w5.heap.size) (hpd:RV VI w o pv e.p.path∧BO w o dv e.p.data):
  ∃o' r',NAt w0 o0 c i b (evN s e) (w5.setCell ⟨b,31,none⟩ (.slice (some ⟨g,0,none⟩) (n+1) cap)) o' r':=by
 obtain⟨p1,p2,p3,p4,p5,p6,p7,p8,p9,pa,_,_,e2,_,_⟩:=h.nd.np
 have hlen:ps.length=n:=by rw[hn,e4,List.length_map]
 have hbN:∀k,r.ev.ownBlock=some k→k≠b:=λk hk e=>by
  subst e;have h1:=e2 k hk;rw[h.nd.ob] at h1;have:=(qy h1 (by omega) (by omega)).2;omega
 have hlb:=qX h.nd.blk
 have hgb:g≠b:=by
  rcases hat with h1|h1
  ·exact hbN g h1
  ·omega
 have gs:=chg1 w5 b 31 (.slice (some ⟨g,0,none⟩) (n+1) cap)
 have G2:Chg (λq=>o q=cl i 9∨q=b) w (w5.setCell ⟨b,31,none⟩ (.slice (some ⟨g,0,none⟩) (n+1) cap)):=
  (G.mono (λk _ hk=>(.inl (e2 k hk):o k=cl i 9∨k=b))).trans (gs.mono (λk _ hk=> .inr hk))
 have hbk:(w5.setCell ⟨b,31,none⟩ (.slice (some ⟨g,0,none⟩) (n+1) cap)).heap[b]? =some (.cells (zr c i {r with ev:= .slice (some ⟨g,0,none⟩) (n+1) cap} (evN s e)) 75 (0,0)):=
  qB (Chg.keep G h.nd.blk (λe=>hbN b e rfl)) 31 _
 have hrw:(w5.setCell ⟨b,31,none⟩ (.slice (some ⟨g,0,none⟩) (n+1) cap)).ownsRow 0 44 10 (.slice (some ⟨g,0,none⟩) (n+1) cap) (ps++[(e,pv,dv)]).length ((ps++[(e,pv,dv)]).flatMap z6):=by
  have:=qY hrow gs (λk hk e=>by cases hk;exact hgb e)
  rw[List.flatMap_append,List.length_append,hlen]
  simpa using this
 have key:∀o',Ext w o o'→Z w5 o'→o' g=cl i 9→∃o' r',NAt w0 o0 c i b (evN s e) (w5.setCell ⟨b,31,none⟩ (.slice (some ⟨g,0,none⟩) (n+1) cap)) o' r':=by
  intro o' hE hZ hg
  refine⟨o',_,h.upd 9 (by omega) hE (hZ.more gs.size) G2 hbk (λa0 a=>?_)⟩
  have hob:o' b=cl i 0:=by rw[hE b hlb];exact h.nd.ob
  have hz0:∀j,o' j=0→¬j=b:=λj hj e=>by subst e;rw[hob] at hj;exact qP i 0 hj
  exact⟨p1.step hE G2 a0,p2.step hE G2 a0,p3.step hE G2 (a 1 (by omega) (by omega) (by omega)),p4.step hE G2 (a 2 (by omega) (by omega) (by omega)),p5.step hE G2 (a 3 (by omega) (by omega) (by omega)),
   p6.step hE G2 (a 4 (by omega) (by omega) (by omega)),p7.step hE G2 (a 5 (by omega) (by omega) (by omega)),p8.step hE G2 (a 6 (by omega) (by omega) (by omega)),
   p9.step hE G2 (a 7 (by omega) (by omega) (by omega)),pa.step hE G2 (a 8 (by omega) (by omega) (by omega)),
   ps++[(e,pv,dv)],hrw,λk hk=>by cases hk;exact hg,λp hp=>by
    rcases List.mem_append.1 hp with hp|hp
    ·exact⟨(e3 p hp).1.step hE G2 a0,(e3 p hp).2.step hE G2 a0⟩
    ·simp at hp;subst hp
     exact⟨hpd.1.step hE G2 a0,hpd.2.step hE G2 a0⟩,by simp[evN,e4]⟩
 rcases hat with h1|h1
 ·exact key o (Ext.refl _ _) (h.z.more G.size) (e2 g h1)
 ·exact key (cls o g (cl i 9)) (Ext.cls o g (cl i 9) h1) ((h.z.more G.size).cls _ hlt) (jX _ _ _)
theorem NAt.evrow(h:NAt w0 o0 c i b s w o r):∃A cap,r.ev= .slice A s.ev.length cap:=by
 obtain⟨p1,p2,p3,p4,p5,p6,p7,p8,p9,pa,ps,e1,e2,e3,e4⟩:=h.nd.np
 have hl:ps.length=s.ev.length:=by rw[e4,List.length_map]
 rcases qD e1 with ⟨e,h1,_⟩|⟨g,cap,e,_⟩
 ·exact⟨none,0,by rw[e,←hl,h1]⟩
 ·exact⟨_,_,by rw[e,hl]⟩
theorem zx(h:NAt w0 o0 c i b s w o r)(k q:Int)(hn:s.ev.length≤1000):Calls Tryz.prog 76 #[.pointer (some ⟨b,0,none⟩),.int .i64 k,.int .i64 q] w (PN w0 o0 c i b (evN s ⟨k,i,q,0,pk0⟩) (λv _ _=>v= .tuple #[])):=by
 have c1:w.cell? ⟨b,9,none⟩=some (.int .i64 i):=h.cell 9
 have c2:w.cell? ⟨b,31,none⟩=some r.ev:=h.cell 31
 have f2:w.frozen? ⟨b,31,none⟩=false:=h.f 31
 have H:=qQ h
 have hlb:=qX h.nd.blk
 obtain⟨A,cap,hev⟩:=h.evrow
 rw[hev] at c2
 obtain⟨F,hF⟩:=qZ (evN s ⟨k,i,q,0,pk0⟩)
 rw[←hF]
 have HF:=qQ hF
 obtain⟨n,hln⟩:=qZ s.ev.length
 rw[←hln] at c2 hn hev
 have HV:=qQ (And.intro hev hln)
 obtain⟨ps,e1,e2,e3,e4⟩:=h.nd.np.2.2.2.2.2.2.2.2.2.2
 have hpl:ps.length=n:=by rw[hln,e4,List.length_map]
 rw[hpl,hev] at e1
 have HROW:=qQ e1
 have HPL:=qQ (And.intro e3 e4)
 have hnb:∀k,(Value.slice A n cap).ownBlock=some k→k≠b:=λk hk e=>by
  rw[←hev] at hk
  have h1:=e2 k hk;rw[e,h.nd.ob] at h1;have:=(qy h1 (by omega) (by omega)).2;omega
 have HNB:=qQ hnb
 obtain⟨ei,z,i1,i2,i3,i4,i5,i6⟩:=ElV.2
 have hEI:=qQ (And.intro i1 (And.intro i2 (And.intro i3 (And.intro i4 (And.intro i5 i6)))))
 clear i1 i2 i3 i4 i5 i6
 obtain⟨ob,hob⟩:=qZ (Obj.cells #[Value.int .i64 k,.int .i64 i,.int .i64 q,.int .i64 0,.int .i64 0,.int .i64 0,.int .i64 0,.int .i64 0,.slice none 0 0,.slice none 0 0] 44)
 have HONE:=qQ (show∀u∈[Value.int .i64 k,.int .i64 i,.int .i64 q,.int .i64 0,.int .i64 0,.int .i64 0,.int .i64 0,.int .i64 0,.slice none 0 0,.slice none 0 0],u.oneCell'=true by intro u hu;simp at hu;rcases hu with rfl|rfl|rfl|rfl|rfl <;> rfl)
 have HLN:=qQ (show n+1≤maxLen∧(n+1)*112≤140737488355328 by unfold maxLen;omega)
 have c2a:=qL c2 ob
 rw[hob] at c2a
 clear h hev hln e1 e2 e3 e4 hF hpl hob ob hnb
 go_enter Tryz.func76,Tryz.ntmps76
 go_region_law
  ((
   refine step_append_lies (P:=Tryz.prog) _ (by rfl) (.tmp 10) (.tmp 18) 29 (by rfl) 0 44 ei z 10 112 Tryz.underlying29 hEI.out.1 hEI.out.2.1 hEI.out.2.2.1 hEI.out.2.2.2.1 hEI.out.2.2.2.2.1 hEI.out.2.2.2.2.2 (.slice A n cap) n (ps.flatMap z6) rfl (qY HROW.out ((Chg.alloc (λ_=>False) w (.cells #[.int .i64 k,.int .i64 i,.int .i64 q,.int .i64 0,.int .i64 0,.int .i64 0,.int .i64 0,.int .i64 0,.slice none 0 0,.slice none 0 0] 44)).trans (Chg.drew _ _)) (λ_ _ e=>e)) ⟨w.heap.size,0,none⟩ 1 1 [.int .i64 k,.int .i64 i,.int .i64 q,.int .i64 0,.int .i64 0,.int .i64 0,.int .i64 0,.int .i64 0,.slice none 0 0,.slice none 0 0] rfl rfl (World.news_of_block (w:=(w.alloc (.cells #[.int .i64 k,.int .i64 i,.int .i64 q,.int .i64 0,.int .i64 0,.int .i64 0,.int .i64 0,.int .i64 0,.slice none 0 0,.slice none 0 0] 44)).drew) (qV w (.cells #[.int .i64 k,.int .i64 i,.int .i64 q,.int .i64 0,.int .i64 0,.int .i64 0,.int .i64 0,.int .i64 0,.slice none 0 0,.slice none 0 0] 44))) HONE.out (by omega) HLN.out.1 HLN.out.2 (Nat.zero_le _) (w.heap.size+1) (by simp) ?_
   intro g5 cap5 w5 hown5 hgr5 hat5 hlt5
   have G5:Chg (λk=>(Value.slice A n cap).ownBlock=some k) w w5:=((Chg.alloc _ w (.cells #[.int .i64 k,.int .i64 i,.int .i64 q,.int .i64 0,.int .i64 0,.int .i64 0,.int .i64 0,.int .i64 0,.slice none 0 0,.slice none 0 0] 44)).trans (Chg.drew _ _)).trans (qH hgr5 (λj e=>e.symm▸rfl))
   have kb:=Chg.keep G5 H.out.nd.blk (λe=>HNB.out b e rfl)
   have k2:w5.cell? ⟨b,31,none⟩=some (.slice A n cap):=by rw[qJ kb];exact congrArg some HV.out.1
   have kf:w5.frozen? ⟨b,31,none⟩=false:=qK kb 31
   have HKB:=qQ kb
   have HG5:=qQ G5
   have HO5:=qQ (And.intro hown5 (And.intro hat5 hlt5))
   clear kb G5 hown5 hgr5 hat5 hlt5))
 all_goals
  go_wp2_with fail
  go_end0
  obtain⟨o',r',hN⟩:=H.out.told ⟨k,i,q,0,pk0⟩ (.slice none 0 0) (.slice none 0 0) g5 cap5 n w5 (by rw[HV.out.1];exact HG5.out) HV.out.2 ps HPL.out.1 HPL.out.2 HO5.out.1
   (by rw[HV.out.1];rcases HO5.out.2.1 with h|h;exact .inl h;right;omega) HO5.out.2.2 ⟨RV.nil _ _ _,BO.nil _ _⟩
  refine⟨_,o',r',rfl,?_,rfl⟩
  rw[HF.out]
  exact hN
theorem zH(h:NAt w0 o0 c i b s w o r):Calls Tryz.prog 70 #[.pointer (some ⟨b,0,none⟩)] w (PN w0 o0 c i b (noEv s) (λv w' o'=>Eo w' o' (cl i 9) v s.ev)):=by
 have c2:w.cell? ⟨b,31,none⟩=some r.ev:=h.cell 31
 have f2:w.frozen? ⟨b,31,none⟩=false:=h.f 31
 have hE:=h.nd.np.2.2.2.2.2.2.2.2.2.2
 obtain⟨A,cap,hev⟩:=h.evrow
 have h1:NAt w0 o0 c i b (noEv s) (w.setCell ⟨b,31,none⟩ (.slice none 0 0)) o {r with ev:= .slice none 0 0}:=by
  obtain⟨p1,p2,p3,p4,p5,p6,p7,p8,p9,pa,pb⟩:=h.nd.np
  exact h.set 31 _ rfl ⟨p1,p2,p3,p4,p5,p6,p7,p8,p9,pa,[],World.ownsRow_nil _ _ _ _,λk hk=>by (cases hk),λp hp=>by (cases hp),rfl⟩
 have h2:Eo (w.setCell ⟨b,31,none⟩ (.slice none 0 0)) o (cl i 9) r.ev s.ev:=hE.step (Ext.refl _ _) (chg1 w b 31 _) (λk hk e=>by
  subst e
  rw[h.nd.ob] at hk
  rcases hk with hk|hk
  ·exact qP i 0 hk
  ·have:=(qy hk (by omega) (by omega)).2;omega)
 have H1:=qQ (And.intro h1 h2)
 obtain⟨F,hF⟩:=qZ (noEv s)
 rw[←hF] at H1 ⊢
 obtain⟨E,hE2⟩:=qZ s.ev
 rw[←hE2] at H1 hev ⊢
 rw[hev] at c2 H1
 obtain⟨n,hn⟩:=qZ E.length
 rw[←hn] at c2 H1
 clear h hE h1 h2 hF hE2 hev hn
 go_enter Tryz.func70,Tryz.ntmps70
 go_wp2_with fail
 go_ret
 exact⟨_,o,_,rfl,H1.out.1,H1.out.2⟩
end
def kN(s:NSt)(x:Option Int):NSt:={s with k:=x}
def pN(s:NSt)(x:Option (Int×List Pa)):NSt:={s with p:=x}
def moveN(s:NSt)(n:Int):NSt:=clkN s (cutf (s.base+cutf n 1000000) 1000000000000) s.sum s.slots
def movesN(i:Nat)(s:NSt)(src n:Int):NSt:=evN (kN (moveN s n) (some 0)) ⟨7,i,src,0,pk0⟩
def zQ(i:Nat)(s:NSt)(was:Int):NSt:=if qR s=was∨qR s=64 then s else evN s ⟨6,i,qR s,0,pk0⟩
def jd(s:NSt)(src rank now:Int):NSt:=pN s (match s.p with|none=>none|some (R,L)=>some (jh R L src rank now))
def zY(i:Nat)(s:NSt)(src ticks:Int):NSt:=if qR s=src then movesN i s src ticks else s
def qx(i:Nat)(s:NSt)(src rank now ticks:Int):NSt:=zQ i (zY i (jd s src rank now) src ticks) (qR s)
theorem hearL_len(R:Int)(L:List Pa)(node rank now:Int)(h:L.length≤3):(jh R L node rank now).2.length≤3:=by
 unfold jh
 simp only[]
 split
 ·exact Nat.le_trans (List.length_filter_le _ _) h
 ·simp only[List.length_take];omega
theorem hearL_srt(R:Int)(L:List Pa)(node rank now:Int)(h:PSrt L):PSrt (jh R L node rank now).2:=by
 unfold jh
 simp only[]
 split
 ·exact h.filter _
 ·exact ((insP_srt _ _ (h.filter _)).filter _).take 3
theorem hearL_R(R:Int)(L:List Pa)(node rank now:Int)(h:0≤R∧R≤255)(hr:0≤rank):0≤(jh R L node rank now).1∧(jh R L node rank now).1≤255:=by
 unfold jh
 simp only[]
 split
 ·exact h
 ·simp only[];omega
section
variable {w0 w w':World}{o0 o o':Cls}{c:Cfg}{i b:Nat}{s s':NSt}{r r':NR}
theorem NAt.kset(h:NAt w0 o0 c i b s w o r){q:Nat}{x:Int}(hk:r.kv= .pointer (some ⟨q,0,none⟩))(hq:o q=cl i 7)(k:Kp w' q c.keep x)(hx:0≤x∧x≤1000000)(g0:Chg (· =q) w w'):NAt w0 o0 c i b (kN s (some x)) w' o r:=by
 have g:Chg (Of o (cl i 7)) w w':=g0.mono (λk _ e=>by subst e;exact hq)
 refine h.part 7 (by omega) (Ext.refl _ _) (h.z.more g.size) g rfl (λo0 o=>?_)
 obtain⟨p1,p2,p3,p4,p5,p6,p7,p8,p9,pa,pb⟩:=h.nd.np
 exact⟨p1.step (Ext.refl _ _) g o0,p2.step (Ext.refl _ _) g o0,p3.step (Ext.refl _ _) g (o 1 (by omega) (by omega)),p4.step (Ext.refl _ _) g (o 2 (by omega) (by omega)),p5.step (Ext.refl _ _) g (o 3 (by omega) (by omega)),
  p6.step (Ext.refl _ _) g (o 4 (by omega) (by omega)),p7.step (Ext.refl _ _) g (o 5 (by omega) (by omega)),p8.step (Ext.refl _ _) g (o 6 (by omega) (by omega)),
  ⟨q,hk,k,hq,hx⟩,pa.step (Ext.refl _ _) g (o 8 (by omega) (by omega)),pb.step (Ext.refl _ _) g (o 9 (by omega) (by omega))⟩
theorem NAt.pset(h:NAt w0 o0 c i b s w o r){q:Nat}{v v':Value}{R':Int}{L':List Pa}(hv:r.pv= .pointer (some ⟨q,0,none⟩))(hq:o q=cl i 6)(hvo:∀k,v.ownBlock=some k→o k=cl i 6)
  (g0:Chg (PsS q v) w w') (P:Ps w' q v' i R' L') (hn:∀k,v'.ownBlock=some k→v.ownBlock=some k∨w.heap.size≤k) (hR:0≤R'∧R'≤255) (hL:L'.length≤3) (hS:PSrt L'):
  ∃o',NAt w0 o0 c i b (pN s (some (R',L'))) w' o' r:=by
 have g:Chg (Of o (cl i 6)) w w':=g0.mono (λk _ e=>by
  rcases e with e|e
  ·subst e;exact hq
  ·exact hvo k e)
 have hlq:=h.nd.np.2.2.2.2.2.2.2.1
 have key:∀o',Ext w o o'→Z w' o'→(∀k,v'.ownBlock=some k→o' k=cl i 6)→o' q=cl i 6→NAt w0 o0 c i b (pN s (some (R',L'))) w' o' r:=by
  intro o' E Zz hk hq'
  refine h.part 6 (by omega) E Zz g rfl (λo0 o=>?_)
  obtain⟨p1,p2,p3,p4,p5,p6,p7,p8,p9,pa,pb⟩:=h.nd.np
  exact⟨p1.step E g o0,p2.step E g o0,p3.step E g (o 1 (by omega) (by omega)),p4.step E g (o 2 (by omega) (by omega)),p5.step E g (o 3 (by omega) (by omega)),
   p6.step E g (o 4 (by omega) (by omega)),p7.step E g (o 5 (by omega) (by omega)),⟨q,v',hv,P,hq',hk,hR.1,hR.2,hL,hS⟩,
   p9.step E g (o 7 (by omega) (by omega)),pa.step E g (o 8 (by omega) (by omega)),pb.step E g (o 9 (by omega) (by omega))⟩
 by_cases hcase:∃k,v'.ownBlock=some k∧w.heap.size≤k
 ·obtain⟨k,hk1,hk2⟩:=hcase
  have hkl:k<w'.heap.size:=(qg P.row hk1).2
  have hqk:q≠k:=λe=>P.ne hk1 e.symm
  exact⟨_,key (cls o k (cl i 6)) (Ext.cls o k _ hk2) ((h.z.more g.size).cls _ hkl) (λk' hk'=>by rw[hk1] at hk';cases hk';exact jX _ _ _) (by rw[cls_ne _ _ _ hqk];exact hq)⟩
 ·exact⟨_,key o (Ext.refl _ _) (h.z.more g.size) (λk hk=>by
   rcases hn k hk with h1|h1
   ·exact hvo k h1
   ·exact absurd ⟨k,hk,h1⟩ hcase) hq⟩
theorem nmoves_any(h:NAt w0 o0 c i b s w o r)(src n:Int)(hn:s.ev.length≤1000)(hb: -1000000000000000≤s.base∧s.base≤1000000000000000)(hk:s.k≠none):
  Calls Tryz.prog 159 #[.pointer (some ⟨b,0,none⟩),.int .i64 src,.int .i64 n] w (PN w0 o0 c i b (movesN i s src n) (λv _ _=>v= .tuple #[])):=by
 have c1:w.cell? ⟨b,10,none⟩=some (.pointer (some ⟨r.clk,0,none⟩)):=h.cell 10
 have hm:=ckmove_any w r.clk s.base s.sum s.slots n h.nd.np.2.2.1.1 hb
 have HM:=qQ hm
 have HC:=qQ (λw' k g=>h.clk (w':=w') (x:=cutf (s.base+cutf n 1000000) 1000000000000) (y:=s.sum) (z:=s.slots) k g)
 have H:=qQ h
 obtain⟨x,hx⟩:=Option.ne_none_iff_exists'.1 hk
 obtain⟨q,hq⟩:=qZ r.clk
 rw[←hq] at c1 HM HC
 have HX:=qQ hx
 obtain⟨F,hF⟩:=qZ (movesN i s src n)
 rw[←hF]
 have HF:=qQ hF
 clear h hm hk hx hq hF
 go_enter Tryz.func159,Tryz.ntmps159
 go_wp2_with fail
 with_reducible refine HM.out.mono ?_
 rintro en w1 ⟨rfl,k1,k2⟩
 have h1:=HC.out _ k1 k2
 have H1:=qQ (show NAt w0 o0 c i b (moveN s n) w1 o r from h1)
 clear h1 k1 k2 HC HM c1
 have hko:=H1.out.nd.np.2.2.2.2.2.2.2.2.1
 have e:(moveN s n).k=some x:=HX.out
 rw[e] at hko
 obtain⟨kb,hk1,hk2,hk3,hk4⟩:=hko
 have c3:w1.cell? ⟨b,20,none⟩=some r.kv:=H1.out.cell 20
 rw[hk1] at c3
 have HK:=qQ (kpheard_any w1 kb c.keep x hk2)
 have HK2:=qQ (λw' k g=>H1.out.kset (w':=w') (x:=0) hk1 hk3 k (by omega) g)
 clear e hk1 hk2 hk3 hk4
 go_wp2_with fail
 with_reducible refine HK.out.mono ?_
 rintro en w2 ⟨rfl,k1,k2⟩
 have H2:=qQ (HK2.out _ k1 k2)
 clear k1 k2 HK HK2 H1 c3
 have HV:=qQ (zx H2.out 7 src hn)
 go_wp2_with fail
 with_reducible refine HV.out.mono ?_
 rintro en w3 ⟨v,o3,r3,rfl,h3,rfl⟩
 have H3:=qQ h3
 clear h3 H2
 go_wp2_with fail
 go_end0
 refine⟨_,o3,r3,rfl,?_,rfl⟩
 rw[HF.out]
 exact H3.out
theorem vt(h:NAt w0 o0 c i b s w o r)(was:Int)(hn:s.ev.length≤1000):
  Calls Tryz.prog 75 #[.pointer (some ⟨b,0,none⟩),.int .i64 was] w (PN w0 o0 c i b (zQ i s was) (λv _ _=>v= .tuple #[])):=by
 have HN:=qQ (qt h)
 have HK:=qQ (λw' g=>h.kept (w':=w') g)
 obtain⟨F,hF⟩:=qZ (zQ i s was)
 rw[←hF]
 unfold zQ at hF
 obtain⟨f,hf⟩:=qZ (qR s)
 rw[←hf] at hF HN
 have HF:=qQ hF
 clear h hF hf
 by_cases h1:f=was
 ·subst h1
  go_enter Tryz.func75,Tryz.ntmps75
  go_wp2_with fail
  with_reducible refine HN.out.mono ?_
  rintro en w1 ⟨rfl,g⟩
  have H1:=qQ (HK.out _ g)
  clear g
  go_wp2_with fail
  go_end0
  refine⟨_,o,r,rfl,?_,rfl⟩
  rw[HF.out,if_pos (by simp)]
  exact H1.out
 ·have e1:(f != was)=true:=by simpa using h1
  by_cases h2:f=64
  ·subst h2
   go_enter Tryz.func75,Tryz.ntmps75
   go_wp2_with fail
   with_reducible refine HN.out.mono ?_
   rintro en w1 ⟨rfl,g⟩
   have H1:=qQ (HK.out _ g)
   clear g
   go_wp2_with fail
   go_end0
   refine⟨_,o,r,rfl,?_,rfl⟩
   rw[HF.out,if_pos (by simp)]
   exact H1.out
  ·have e2:(f != 64)=true:=by simpa using h2
   go_enter Tryz.func75,Tryz.ntmps75
   go_wp2_with fail
   with_reducible refine HN.out.mono ?_
   rintro en w1 ⟨rfl,g⟩
   have H1:=qQ (HK.out _ g)
   clear g
   go_wp2_with fail
   (with_reducible refine (zx H1.out 6 f hn).mono ?_)
   rintro en w3 ⟨v,o3,r3,rfl,h3,rfl⟩
   have H3:=qQ h3
   clear h3
   go_wp2_with fail
   go_end0
   refine⟨_,o3,r3,rfl,?_,rfl⟩
   rw[HF.out,if_neg (by intro h;rcases h with h|h;exact h1 h;exact h2 h)]
   exact H3.out
theorem hears1_ev(i:Nat)(s:NSt)(src ticks:Int):(zY i s src ticks).ev.length≤s.ev.length+1:=by
 unfold zY
 split
 ·show (s.ev++_).length≤_;simp
 ·omega
theorem nhears_any(h:NAt w0 o0 c i b s w o r)(src rank now ticks:Int)(hn:s.ev.length≤900)(hb: -1000000000000000≤s.base∧s.base≤1000000000000000)(hk:s.k≠none)(hp:s.p≠none)
  (hs:0≤src∧src≤15) (hm:src≠i) (hr:0≤rank∧rank≤255) (ht:0≤now):
  Calls Tryz.prog 107 #[.pointer (some ⟨b,0,none⟩),.int .i64 src,.int .i64 rank,.int .i64 now,.int .i64 ticks] w (PN w0 o0 c i b (qx i s src rank now ticks) (λv _ _=>v= .tuple #[])):=by
 have HN:=qQ (qt h)
 have HK:=qQ (λw' g=>h.kept (w':=w') g)
 obtain⟨⟨R,L⟩,hx⟩:=Option.ne_none_iff_exists'.1 hp
 obtain⟨F,hF⟩:=qZ (qx i s src rank now ticks)
 rw[←hF]
 unfold qx at hF
 obtain⟨was,hw⟩:∃f,f=qR s:=⟨_,rfl⟩
 rw[←hw] at hF HN
 have hs1:jd s src rank now=pN s (some (jh R L src rank now)):=by unfold jd;rw[hx]
 rw[hs1] at hF
 have HF:=qQ hF
 clear h hF hw hs1 hp
 go_enter Tryz.func107,Tryz.ntmps107
 go_wp2_with fail
 with_reducible refine HN.out.mono ?_
 rintro en w1 ⟨rfl,g⟩
 have H1:=qQ (HK.out _ g)
 clear g HK HN
 have hpo:=H1.out.nd.np.2.2.2.2.2.2.2.1
 rw[hx] at hpo
 obtain⟨pb,row,e1,hP,hq1,hq2,hR0,hR1,hL,hS⟩:=hpo
 have c3:w1.cell? ⟨b,19,none⟩=some r.pv:=H1.out.cell 19
 rw[e1] at c3
 have HH:=qQ (pshear_any w1 pb row i R L src rank now hP hL hS hs hm hr ht ⟨hR0,hR1⟩)
 have HS:=qQ (λw' v' g P hn=>H1.out.pset (w':=w') (v':=v') e1 hq1 hq2 g P hn (hearL_R R L src rank now ⟨hR0,hR1⟩ hr.1) (hearL_len R L src rank now hL) (hearL_srt R L src rank now hS))
 clear e1 hP hq1 hq2 hR0 hR1 hL hS
 go_wp2_with fail
 with_reducible refine HH.out.mono ?_
 rintro en w2 ⟨t,v',rfl,hP2,hg2,hv2⟩
 obtain⟨o2,h2⟩:=HS.out w2 v' hg2 hP2 hv2
 have H2:=qQ h2
 clear h2 hP2 hg2 hv2 HS HH H1 c3
 obtain⟨s1,hs1⟩:=qZ (pN s (some (jh R L src rank now)))
 have hn1:s1.ev.length≤900:=by rw[hs1];exact hn
 have hb1: -1000000000000000≤s1.base∧s1.base≤1000000000000000:=by rw[hs1];exact hb
 have hk1:s1.k≠none:=by rw[hs1];exact hk
 have HF1:=qQ HF.out
 have H2:=qQ (show NAt w0 o0 c i b (pN s (some (jh R L src rank now))) w2 o2 r from H2.out)
 rw[←hs1] at H2 HF1
 clear hs1 hn hb hk hx HF
 have HN2:=qQ (qt H2.out)
 have HK2:=qQ (λw' g=>H2.out.kept (w':=w') g)
 obtain⟨f,hf⟩:=qZ (qR s1)
 rw[←hf] at HN2
 have HFS:=qQ hf
 clear H2 hf
 have hev:=hears1_ev i s1 src ticks
 by_cases hfs:f=src
 ·subst hfs
  have e0:(f==f)=true:=by simp
  go_wp2_with fail
  with_reducible refine HN2.out.mono ?_
  rintro en w3 ⟨rfl,g⟩
  have H3:=qQ (HK2.out _ g)
  have HM:=qQ (nmoves_any H3.out f ticks (by omega) hb1 hk1)
  clear g HK2 HN2
  go_wp2_with fail
  with_reducible refine HM.out.mono ?_
  rintro en w4 ⟨v,o4,r4,rfl,h4,rfl⟩
  have hs2:zY i s1 f ticks=movesN i s1 f ticks:=by unfold zY;rw[←HFS.out];simp
  rw[←hs2] at h4
  have HW:=qQ (vt h4 was (by omega))
  clear h4 HM H3
  go_wp2_with fail
  with_reducible refine HW.out.mono ?_
  rintro en w5 ⟨v,o5,r5,rfl,h5,rfl⟩
  have H5:=qQ h5
  clear h5 HW
  go_wp2_with fail
  go_end0
  refine⟨_,o5,r5,rfl,?_,rfl⟩
  rw[HF1.out]
  exact H5.out
 ·have e0:(f==src)=false:=by simpa using hfs
  go_wp2_with fail
  with_reducible refine HN2.out.mono ?_
  rintro en w3 ⟨rfl,g⟩
  have h3:=HK2.out _ g
  have hs2:zY i s1 src ticks=s1:=by unfold zY;rw[←HFS.out,if_neg hfs]
  rw[←hs2] at h3
  have HW:=qQ (vt h3 was (by omega))
  clear h3 g HK2 HN2
  go_wp2_with fail
  with_reducible refine HW.out.mono ?_
  rintro en w5 ⟨v,o5,r5,rfl,h5,rfl⟩
  have H5:=qQ h5
  clear h5 HW
  go_wp2_with fail
  go_end0
  refine⟨_,o5,r5,rfl,?_,rfl⟩
  rw[HF1.out]
  exact H5.out
end
end Go.Proofs.YtnpihllannobgaaGreatDoor
