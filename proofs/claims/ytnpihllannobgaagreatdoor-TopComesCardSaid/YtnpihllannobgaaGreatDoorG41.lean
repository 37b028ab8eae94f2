/- Steps of the proof, part G41. No condition. -/
import Derived.Test.YtnpihllannobgaaGreatDoorG40
import Derived.Test.YtnpihllannobgaaGreatDoorG38
import Derived.Test.YtnpihllannobgaaGreatDoorG34
import Derived.Deep.RegionHeld3
namespace Go.Proofs.YtnpihllannobgaaGreatDoor
set_option linter.unusedVariables false
set_option linter.unusedSimpArgs false
set_option maxRecDepth 100000
set_option maxHeartbeats 32000000
open Go.ChangeShapes Go.WideShapes Go.ChangeAt Go.RowKit
def CoB(w:World)(o:Cls)(cb W:Nat):Prop:=w.heap[cb]? =some (.cells #[VP W] 107 (0,0))∧o cb=0
def PConNew(w:World)(e:Ending)(w':World):Prop:=∃cb W o r,e= .returned (VP cb)∧r.ij=qG∧WAt w' o c5 W (newW c5) 0 w' o r∧CoB w' o cb W∧Chg (λ_=>False) w w'∧∀k,k<w.heap.size→o k=0
section
variable {w w' w0:World}{o o0:Cls}{cb W:Nat}{x:WM}{asn:Int}{r:WR}
theorem connew_any(w:World):Calls Tryz.prog 24 #[] w (PConNew w):=by
 have HF:=qQ (cfirst_any w)
 go_enter Tryz.func24,Tryz.ntmps24
 go_wp2_with fail
 with_reducible refine HF.out.mono ?_
 rintro en w1 ⟨nb,hb,rfl,h1,h2,_,_,hg⟩
 have HW:Hid (Calls Tryz.prog 17 #[cfgV c5 (.slice (some ⟨nb,0,none⟩) 5 5) (.slice (some ⟨hb,0,none⟩) 4 4)] w1 (PWNew w1 zc c5)):=
  qQ (wnew_any c5_ok (z_zc _) _ _ (RV.blk h1 rfl [6,13,11,22,8] rfl (by decide)) (RV.blk h2 rfl [11,15,20,25] rfl (by decide)))
 have HG:=qQ hg
 clear h1 h2 hg HF
 go_wp2_with fail
 with_reducible refine HW.out.mono ?_
 rintro en w2 ⟨W,o2,r2,rfl,hWd,hz,hext,hg,hij⟩
 have HIJ:=qQ hij
 have HX:=qQ (And.intro hWd (And.intro hz (HG.out.trans hg)))
 have HE:=qQ (show∀k,k<w.heap.size→o2 k=0 from λk hk=>hext k (Nat.lt_of_lt_of_le hk HG.out.size))
 clear hWd hz hg HW HG hext hij
 unfold VP
 go_wp2_with fail
 go_ret
 have ga:=Chg.alloc (λ_=>False) w2 (.cells #[VP W] 107)
 have hA:=(WAt.start HX.out.1 HX.out.2.1).kept (show 5≤16 by decide) ga
 exact⟨_,W,o2,r2,rfl,HIJ.out,WAt.start hA.wd hA.z,⟨qV w2 _,HX.out.2.1 _ (Nat.le_refl _)⟩,HX.out.2.2.trans ga,HE.out⟩
theorem eo_none{v:Value}(h:Eo w o (cl 16 4) v x.ev)(h0:x.ev.length=0):∃A c,v= .slice A 0 c:=by
 obtain⟨ps,p1,_,_,p4⟩:=h
 have hl:ps.length=0:=by rw[p4,List.length_map] at h0;exact h0
 rw[hl] at p1
 rcases qD p1 with ⟨e,_,_⟩|⟨g,cap,e,_⟩
 ·exact⟨none,0,e⟩
 ·exact⟨_,_,e⟩
def PConDo(w0:World)(o0:Cls)(W:Nat)(e:Ending)(w':World):Prop:=e= .returned (.string ⟨#[111,107]⟩)∧∃o r,WAt w0 o0 c5 W (zX w5b) 2 w' o r
theorem do_one{b:Nat}(h:WAt w0 o0 c5 W x asn w o r)(ha:0≤asn∧asn<100)(hb:w.heap[b]? =some (.cells zs16 3 (0,0))) (hb0:o b=0) (hij:r.ij=qG) (hok:SlotOkV c5 d5 qG asn x):
  Calls Tryz.prog 7 #[.pointer (some ⟨W,0,none⟩),.agg #[.int .i64 1,.int .i64 0,.int .i64 0,.slice (some ⟨b,0,none⟩) 16 16,.slice none 0 0,.slice none 0 0,.slice none 0 0,.slice none 0 0]] w (PDo w0 o0 c5 W (qp c5 d5 5 asn qG x) (asn+1) r qG):=
 hij▸wdo_slotV c5_ok h ⟨ha.1,by omega⟩ 0 0 ⟨RV.blk hb hb0 d5.drift rfl (by decide),RV.nil _ _ _,RV.nil _ _ _,RV.nil _ _ _,⟨_,_,_,rfl⟩,(λz hz=>by cases hz),(λz hz=>by cases hz)⟩ (hij.symm▸hok)
theorem condo_any{b:Nat}(hij:r.ij=qG)(h:WAt w0 o0 c5 W (newW c5) 0 w o r)(hcb:w.heap[cb]? =some (.cells #[VP W] 107 (0,0))) (hcb0:o cb=0) (hb:w.heap[b]? =some (.cells zs16 3 (0,0))) (hb0:o b=0):
  Calls Tryz.prog 130 #[.pointer (some ⟨cb,0,none⟩),.agg #[.int .i64 1,.int .i64 0,.int .i64 0,.slice (some ⟨b,0,none⟩) 16 16,.slice none 0 0,.slice none 0 0,.slice none 0 0,.slice none 0 0],.int .i64 2] w (PConDo w0 o0 W):=by
 have ga:=Chg.alloc (λ_=>False) w (.cells #[.int .i64 1,.int .i64 0,.int .i64 0,.slice (some ⟨b,0,none⟩) 16 16,.slice none 0 0,.slice none 0 0,.slice none 0 0,.slice none 0 0] 35)
 have hsb:=qV w (.cells #[.int .i64 1,.int .i64 0,.int .i64 0,.slice (some ⟨b,0,none⟩) 16 16,.slice none 0 0,.slice none 0 0,.slice none 0 0,.slice none 0 0] 35)
 have hsb0:=h.z w.heap.size (Nat.le_refl _)
 have hA:=h.kept (show 5≤16 by decide) ga
 have hcb1:=Chg.keep ga hcb (λe=>e)
 have hb1:=Chg.keep ga hb (λe=>e)
 obtain⟨w1,hw1⟩:=qZ (w.alloc (.cells #[.int .i64 1,.int .i64 0,.int .i64 0,.slice (some ⟨b,0,none⟩) 16 16,.slice none 0 0,.slice none 0 0,.slice none 0 0,.slice none 0 0] 35))
 rw[←hw1] at hsb hA hcb1 hb1
 obtain⟨sb,hsbe⟩:=qZ w.heap.size
 rw[←hsbe] at hsb hsb0
 have hS:∀w',Chg (WdS o) w1 w'→w'.cell? ⟨cb,0,none⟩=some (.pointer (some ⟨W,0,none⟩))∧w'.cell? ⟨sb,0,none⟩=some (.int .i64 1)∧w'.cell? ⟨sb,1,none⟩=some (.int .i64 0)∧w'.cell? ⟨sb,2,none⟩=some (.int .i64 0)∧w'.cell? ⟨sb,3,none⟩=some (.slice (some ⟨b,0,none⟩) 16 16)∧
   w'.cell? ⟨sb,4,none⟩=some (.slice none 0 0)∧w'.cell? ⟨sb,5,none⟩=some (.slice none 0 0)∧w'.cell? ⟨sb,6,none⟩=some (.slice none 0 0)∧w'.cell? ⟨sb,7,none⟩=some (.slice none 0 0):=λw' g=>by
  refine⟨by rw[qJ (Chg.keep g hcb1 (λe=>e.1 hcb0))];rfl,?_⟩
  exact cell8 (Chg.keep g hsb (λe=>e.1 hsb0))
 have HS0:=qQ hS
 have HA:=qQ hA
 have HB:=qQ (And.intro hb1 hb0)
 have H1:=qQ (WAt.start hA.wd hA.z)
 have HD1:=qQ (do_one (H1.out.kept (show 5≤16 by decide) (Chg.drew _ w1)) (by decide) hb1 hb0 hij w5_slot0)
 clear ga hsb hsb0 hA hcb1 hb1 hS h hcb hb hb0 hcb0 hij
 go_enter Tryz.func130,Tryz.ntmps130
 go_wp2_with fail
 rw[←hsbe,←hw1]
 clear hsbe hw1
 with_reducible refine wp_loop_rounds 3 ?_
 rw[rounds_succ]
 go_wp2_with fail
 go_region_held3 (λw'=>w'.cell? ⟨cb,0,none⟩=some (.pointer (some ⟨W,0,none⟩))∧w'.cell? ⟨sb,0,none⟩=some (.int .i64 1)∧w'.cell? ⟨sb,1,none⟩=some (.int .i64 0)∧w'.cell? ⟨sb,2,none⟩=some (.int .i64 0)∧w'.cell? ⟨sb,3,none⟩=some (.slice (some ⟨b,0,none⟩) 16 16)∧
   w'.cell? ⟨sb,4,none⟩=some (.slice none 0 0)∧w'.cell? ⟨sb,5,none⟩=some (.slice none 0 0)∧w'.cell? ⟨sb,6,none⟩=some (.slice none 0 0)∧w'.cell? ⟨sb,7,none⟩=some (.slice none 0 0))
  (first|exact HS0.out _ (Chg.drew _ w1)|exact HS0.out _ hA2.chg)
  ((go_at_call 7;refine HD1.out.mono ?_;rintro en w2 ⟨v2,o2,r2,rfl,hA2,hE2,_,_,hij2⟩))
 all_goals
  obtain⟨A2,c2,rfl⟩:=eo_none hE2 w5_facts.1
  have H2:=qQ (show WAt w1 o c5 W (zX w5a) 1 w2 o2 r2 from hA2)
  have HIJ2:=qQ hij2
  clear hA2 hE2 HD1 hij2
  go_wp2_with fail
  with_reducible refine wp_loop_rounds 1 ?_
  rw[rounds_succ]
  go_wp2_with fail
  rw[rounds_succ]
  have HD2:=qQ (do_one (H2.out.kept (show 5≤16 by decide) (Chg.drew _ w2)) (by decide) (Chg.keep (H2.out.kept (show 5≤16 by decide) (Chg.drew _ w2)).chg HB.out.1 (λe=>e.1 HB.out.2)) ((H2.out.ext b (qX HB.out.1)).trans HB.out.2) HIJ2.out w5_slot1)
  go_wp2_with fail
  go_region_held3 (λw'=>w'.cell? ⟨cb,0,none⟩=some (.pointer (some ⟨W,0,none⟩))∧w'.cell? ⟨sb,0,none⟩=some (.int .i64 1)∧w'.cell? ⟨sb,1,none⟩=some (.int .i64 0)∧w'.cell? ⟨sb,2,none⟩=some (.int .i64 0)∧w'.cell? ⟨sb,3,none⟩=some (.slice (some ⟨b,0,none⟩) 16 16)∧
   w'.cell? ⟨sb,4,none⟩=some (.slice none 0 0)∧w'.cell? ⟨sb,5,none⟩=some (.slice none 0 0)∧w'.cell? ⟨sb,6,none⟩=some (.slice none 0 0)∧w'.cell? ⟨sb,7,none⟩=some (.slice none 0 0))
   (first|exact HS0.out _ (H2.out.kept (show 5≤16 by decide) (Chg.drew _ w2)).chg|exact HS0.out _ hA3.chg)
   ((go_at_call 7;refine HD2.out.mono ?_;rintro en w3 ⟨v3,o3,r3,rfl,hA3,hE3,_⟩))
  all_goals
   obtain⟨A3,c3,rfl⟩:=eo_none hE3 w5_facts.2.1
   have H3:=qQ (show WAt w1 o c5 W (zX w5b) 2 w3 o3 r3 from hA3)
   clear hA3 hE3 HD2
   go_wp2_with fail
   with_reducible refine wp_loop_rounds 1 ?_
   rw[rounds_succ]
   go_wp2_with fail
   rw[rounds_succ]
   go_wp2_with fail
   go_ret
   exact⟨rfl,o3,r3,⟨H3.out.wd,H3.out.z,HA.out.ext.trans H3.out.ext HA.out.chg.size,HA.out.chg.extW HA.out.ext H3.out.chg⟩⟩
end
def PTl(out:ByteArray)(P:World→Prop)(e:Ending)(w':World):Prop:=e= .returned (.tuple #[.string out,.bool true])∧P w'
theorem chg_new{w1 w w':World}{wb:Nat}(hg:Chg (λ_=>False) w1 w)(hb:w1.heap.size≤wb)(g:Chg (λq=>q=wb) w w'):Chg (λ_=>False) w1 w':=
 ((hg.none (S:=λq=>w1.heap.size≤q)).trans (g.mono (λq _ e=>by omega))).fresh
structure CoAt(w0:World)(o0:Cls)(cb W:Nat)(x:WM)(asn:Int)(w:World)(o:Cls)(r:WR):Prop where
 at':WAt w0 o0 c5 W x asn w o r
 co:CoB w o cb W
section
variable {w w1 w' w0:World}{o o0:Cls}{cb W wb g:Nat}{x:WM}{asn:Int}{r:WR}{d:ByteArray}{k:Int}
theorem CoAt.kept(h:CoAt w0 o0 cb W x asn w o r)(g:Chg (λ_=>False) w w'):CoAt w0 o0 cb W x asn w' o r:=
 ⟨h.at'.kept (show 5≤16 by decide) g,Chg.keep g h.co.1 (λe=>e),h.co.2⟩
theorem CoAt.cell(h:CoAt w0 o0 cb W x asn w o r):w.cell? ⟨cb,0,none⟩=some (.pointer (some ⟨W,0,none⟩)):=by rw[qJ h.co.1];rfl
theorem conslots_any(hij:r.ij=qG)(h:CoAt w0 o0 cb W (newW c5) 0 w1 o r)(hg:Chg (λ_=>False) w1 w)(hb:w1.heap.size≤wb)(hw:Wo1 w wb g ⟨#[50]⟩):
  Calls Tryz.prog 85 #[.pointer (some ⟨cb,0,none⟩),.pointer (some ⟨wb,0,none⟩)] w (PTl ⟨#[111,107]⟩ (λw'=>∃o r,WAt w0 o0 c5 W (zX w5b) 2 w' o r)):=by
 have HF:=qQ (wfrom_any hw (.inr (.inl ⟨rfl,rfl⟩)) 0 500 (by decide) (by decide))
 have H:=qQ (And.intro h (And.intro hg hb))
 clear h hg hb hw
 go_enter Tryz.func85,Tryz.ntmps85
 go_wp2_with fail
 with_reducible refine HF.out.mono ?_
 rintro en w2 ⟨rfl,h0,G⟩
 have HD:=qQ (wdone_any h0)
 obtain⟨A,c,hb0⟩:=h0
 obtain⟨c0,c1⟩:=cell2 hb0
 have HG2:=qQ (chg_new H.out.2.1 H.out.2.2 G)
 clear hb0 G HF
 go_wp2_with fail
 with_reducible refine HD.out.mono ?_
 rintro en w3 ⟨rfl,rfl⟩
 clear HD
 have HR:=qQ (row_any w3)
 go_wp2_with fail
 with_reducible refine HR.out.mono ?_
 rintro en w4 ⟨b,rfl,hb4,hbl,G4⟩
 have HC:=H.out.1.kept (HG2.out.trans G4)
 have HDO:=qQ (condo_any hij HC.at' HC.co.1 HC.co.2 hb4 (H.out.1.at'.z b (Nat.le_trans HG2.out.size hbl)))
 clear hb4 hbl G4 HC HR c0 c1
 go_wp2_with fail
 with_reducible refine HDO.out.mono ?_
 rintro en w5 ⟨rfl,hP⟩
 have HP:=qQ hP
 clear hP HDO
 go_wp2_with fail
 go_ret2
 exact⟨rfl,HP.out⟩
theorem wbound_any(h:WAt w0 o0 c5 W x asn w o r)(i:Nat)(hi:i<5)(b:Int)(hx:x.bound.length=5)(hb:atL x.bound i=b):
  Calls Tryz.prog 137 #[.pointer (some ⟨W,0,none⟩),.int .i64 i] w (PQ (.tuple #[.int .i64 (if b<0 then 0 else b),.bool (!decide (b<0))]) w):=by
 have HH:=qQ (whas_any h (show 0<5 by decide) i)
 rw[jG (show 0≤(i:Int) by omega) (show (i:Int)≤(c5.nodes:Int)-1 by show (i:Int)≤5-1;omega)] at HH
 have c11:w.cell? ⟨W,11,none⟩=some r.bv:=h.cell 11
 have hrow:=h.wd.bnd
 obtain⟨gb,cap,cur,e,_⟩:=kZ hrow (show 0<c5.nodes by decide)
 rw[e] at c11 hrow
 have hz:x.bound[i]? =some b:=by
  rw[List.getElem?_eq_getElem (by omega)]
  rw[←hb];unfold atL
  rw[List.getD_eq_getElem?_getD,List.getElem?_eq_getElem (by omega)];rfl
 have hcell:=qr hrow i (VI b) (by rw[List.getElem?_map,hz];rfl)
 unfold VI at hcell
 have e5:c5.nodes=5:=rfl
 rw[e5] at c11
 have i1:(i:Int)<5:=by omega
 clear h hrow e hz hb
 unfold VP at HH
 by_cases h0:b<0
 ·rw[if_pos h0]
  have b1:decide (b<0)=true:=by simpa using h0
  rw[b1]
  clear h0
  go_enter Tryz.func137,Tryz.ntmps137
  go_wp2_with fail
  with_reducible refine HH.out.mono ?_
  rintro en w1 ⟨rfl,rfl⟩
  go_wp2_with fail
  go_ret2
  exact⟨rfl,Chg.refl _ _⟩
 ·rw[if_neg h0]
  have b1:decide (b<0)=false:=by simpa using h0
  rw[b1]
  clear h0
  go_enter Tryz.func137,Tryz.ntmps137
  go_wp2_with fail
  with_reducible refine HH.out.mono ?_
  rintro en w1 ⟨rfl,rfl⟩
  go_wp2_with fail
  go_ret2
  exact⟨rfl,Chg.refl _ _⟩
end
section
variable {w w1 w' w0:World}{o o0:Cls}{cb W wb g:Nat}{x:WM}{asn:Int}{r:WR}{d:ByteArray}{k:Int}
theorem conoff_any(h:CoAt w0 o0 cb W (zX w5b) 2 w1 o r)(hg:Chg (λ_=>False) w1 w)(hb:w1.heap.size≤wb)(hw:Wo1 w wb g ⟨#[51]⟩):
  Calls Tryz.prog 88 #[.pointer (some ⟨cb,0,none⟩),.string ⟨#[111,102,102]⟩,.pointer (some ⟨wb,0,none⟩)] w (PTl ⟨#[48]⟩ (λw'=>Chg (λ_=>False) w1 w')):=by
 have HF:=qQ (vw hw (.inr (.inr ⟨rfl,rfl⟩)))
 have H:=qQ (And.intro h (And.intro hg hb))
 clear h hg hb hw
 go_enter Tryz.func88,Tryz.ntmps88
 go_wp2_with fail
 with_reducible refine HF.out.mono ?_
 rintro en w2 ⟨rfl,h0,G⟩
 have HD:=qQ (wdone_any h0)
 have hg2:=chg_new H.out.2.1 H.out.2.2 G
 have hC:=H.out.1.kept hg2
 have c0:=hC.cell
 obtain⟨b,q,hbs,hN⟩:=hC.at'.get 3 (show 3<5 by decide)
 have HN8:Hid (Calls Tryz.prog 8 #[.pointer (some ⟨W,0,none⟩),.int .i64 3] w2 (PV0 (VP b) w2)):=qQ (wnode_any hC.at' 3 b (show 3<5 by decide) hbs)
 have HO:=qQ (noff_any hN (by have:=(n5_of w5_nb.1).1.1;omega) (by have:=(n5_of w5_nb.1).1.2.1;omega))
 rw[show offN ((zX w5b).nd 3)=0 from w5_facts.2.2.2.2] at HO
 have HFM:=qQ (λw=>format_any (.inl ⟨rfl,rfl⟩:Dg 0 ⟨#[48]⟩) w)
 have HG2:=qQ hg2
 unfold VP at HN8
 clear HF G h0 hC hN hbs hg2
 go_wp2_with fail
 with_reducible refine HN8.out.mono ?_
 rintro en w3 ⟨rfl,rfl⟩
 go_wp2_with fail
 with_reducible refine HD.out.mono ?_
 rintro en w4 ⟨rfl,rfl⟩
 go_wp2_with fail
 with_reducible refine HO.out.mono ?_
 rintro en w5 ⟨rfl,G5⟩
 go_wp2_with fail
 (with_reducible refine (HFM.out _).mono ?_)
 rintro en w6 ⟨rfl,rfl⟩
 go_wp2_with fail
 go_ret2
 exact⟨rfl,HG2.out.trans G5⟩
theorem conbound3_any(h:CoAt w0 o0 cb W (zX w5b) 2 w1 o r)(hg:Chg (λ_=>False) w1 w)(hb:w1.heap.size≤wb)(hw:Wo1 w wb g ⟨#[51]⟩):
  Calls Tryz.prog 88 #[.pointer (some ⟨cb,0,none⟩),.string ⟨#[98,111,117,110,100]⟩,.pointer (some ⟨wb,0,none⟩)] w (PTl ⟨#[45]⟩ (λw'=>Chg (λ_=>False) w1 w')):=by
 have HF:=qQ (vw hw (.inr (.inr ⟨rfl,rfl⟩)))
 have H:=qQ (And.intro h (And.intro hg hb))
 clear h hg hb hw
 go_enter Tryz.func88,Tryz.ntmps88
 go_wp2_with fail
 with_reducible refine HF.out.mono ?_
 rintro en w2 ⟨rfl,h0,G⟩
 have HD:=qQ (wdone_any h0)
 have hg2:=chg_new H.out.2.1 H.out.2.2 G
 have hC:=H.out.1.kept hg2
 have c0:=hC.cell
 obtain⟨b,q,hbs,hN⟩:=hC.at'.get 3 (show 3<5 by decide)
 have HN8:Hid (Calls Tryz.prog 8 #[.pointer (some ⟨W,0,none⟩),.int .i64 3] w2 (PV0 (VP b) w2)):=qQ (wnode_any hC.at' 3 b (show 3<5 by decide) hbs)
 have HB:Hid (Calls Tryz.prog 137 #[.pointer (some ⟨W,0,none⟩),.int .i64 3] w2 (PQ (.tuple #[.int .i64 0,.bool false]) w2)):=qQ (wbound_any hC.at' 3 (by decide) (-1) w5_nb.2 w5_facts.2.2.1)
 have HG2:=qQ hg2
 unfold VP at HN8
 clear HF G h0 hC hN hbs hg2
 go_wp2_with fail
 with_reducible refine HN8.out.mono ?_
 rintro en w3 ⟨rfl,rfl⟩
 go_wp2_with fail
 with_reducible refine HD.out.mono ?_
 rintro en w4 ⟨rfl,rfl⟩
 go_wp2_with fail
 with_reducible refine HB.out.mono ?_
 rintro en w5 ⟨rfl,G5⟩
 go_wp2_with fail
 go_ret2
 exact⟨rfl,HG2.out.trans G5⟩
theorem conbound0_any(h:CoAt w0 o0 cb W (zX w5b) 2 w1 o r)(hg:Chg (λ_=>False) w1 w)(hb:w1.heap.size≤wb)(hw:Wo1 w wb g ⟨#[48]⟩):
  Calls Tryz.prog 88 #[.pointer (some ⟨cb,0,none⟩),.string ⟨#[98,111,117,110,100]⟩,.pointer (some ⟨wb,0,none⟩)] w (PTl ⟨#[48]⟩ (λw'=>Chg (λ_=>False) w1 w')):=by
 have HF:=qQ (vw hw (.inl ⟨rfl,rfl⟩))
 have H:=qQ (And.intro h (And.intro hg hb))
 clear h hg hb hw
 go_enter Tryz.func88,Tryz.ntmps88
 go_wp2_with fail
 with_reducible refine HF.out.mono ?_
 rintro en w2 ⟨rfl,h0,G⟩
 have HD:=qQ (wdone_any h0)
 have hg2:=chg_new H.out.2.1 H.out.2.2 G
 have hC:=H.out.1.kept hg2
 have c0:=hC.cell
 obtain⟨b,q,hbs,hN⟩:=hC.at'.get 0 (show 0<5 by decide)
 have HN8:Hid (Calls Tryz.prog 8 #[.pointer (some ⟨W,0,none⟩),.int .i64 0] w2 (PV0 (VP b) w2)):=qQ (wnode_any hC.at' 0 b (show 0<5 by decide) hbs)
 have HB:Hid (Calls Tryz.prog 137 #[.pointer (some ⟨W,0,none⟩),.int .i64 0] w2 (PQ (.tuple #[.int .i64 0,.bool true]) w2)):=qQ (wbound_any hC.at' 0 (by decide) 0 w5_nb.2 w5_facts.2.2.2.1)
 have HFM:=qQ (λw=>format_any (.inl ⟨rfl,rfl⟩:Dg 0 ⟨#[48]⟩) w)
 have HG2:=qQ hg2
 unfold VP at HN8
 clear HF G h0 hC hN hbs hg2
 go_wp2_with fail
 with_reducible refine HN8.out.mono ?_
 rintro en w3 ⟨rfl,rfl⟩
 go_wp2_with fail
 with_reducible refine HD.out.mono ?_
 rintro en w4 ⟨rfl,rfl⟩
 go_wp2_with fail
 with_reducible refine HB.out.mono ?_
 rintro en w5 ⟨rfl,G5⟩
 go_wp2_with fail
 (with_reducible refine (HFM.out _).mono ?_)
 rintro en w6 ⟨rfl,rfl⟩
 go_wp2_with fail
 go_ret2
 exact⟨rfl,HG2.out.trans G5⟩
end
section
variable {w w1 w' w0:World}{o o0:Cls}{cb W wb g:Nat}{x:WM}{asn:Int}{r:WR}{s a d out:ByteArray}{p:Nat}{P:World→Prop}
theorem tells_slots(hij:r.ij=qG)(h:CoAt w0 o0 cb W (newW c5) 0 w1 o r)(hg:Chg (λ_=>False) w1 w)(hb:w1.heap.size≤wb)(hw:Wo1 w wb g ⟨#[50]⟩):
  Calls Tryz.prog 47 #[.pointer (some ⟨cb,0,none⟩),.string ⟨#[115,108,111,116,115]⟩,.pointer (some ⟨wb,0,none⟩)] w (PTl ⟨#[111,107]⟩ (λw'=>∃o r,WAt w0 o0 c5 W (zX w5b) 2 w' o r)):=by
 have HT:=qQ (conslots_any hij h hg hb hw)
 clear h hg hb hw
 go_enter Tryz.func47,Tryz.ntmps47
 go_wp2_with fail
 with_reducible refine HT.out.mono ?_
 rintro en w2 ⟨rfl,hP⟩
 have HP:=qQ hP
 clear hP HT
 go_wp2_with fail
 go_ret2
 exact⟨rfl,HP.out⟩
theorem tells_off(h:CoAt w0 o0 cb W (zX w5b) 2 w1 o r)(hg:Chg (λ_=>False) w1 w)(hb:w1.heap.size≤wb)(hw:Wo1 w wb g ⟨#[51]⟩):
  Calls Tryz.prog 47 #[.pointer (some ⟨cb,0,none⟩),.string ⟨#[111,102,102]⟩,.pointer (some ⟨wb,0,none⟩)] w (PTl ⟨#[48]⟩ (λw'=>Chg (λ_=>False) w1 w')):=by
 have HT:=qQ (conoff_any h hg hb hw)
 clear h hg hb hw
 go_enter Tryz.func47,Tryz.ntmps47
 go_wp2_with fail
 with_reducible refine HT.out.mono ?_
 rintro en w2 ⟨rfl,hP⟩
 have HP:=qQ hP
 clear hP HT
 go_wp2_with fail
 go_ret2
 exact⟨rfl,HP.out⟩
theorem tells_bound3(h:CoAt w0 o0 cb W (zX w5b) 2 w1 o r)(hg:Chg (λ_=>False) w1 w)(hb:w1.heap.size≤wb)(hw:Wo1 w wb g ⟨#[51]⟩):
  Calls Tryz.prog 47 #[.pointer (some ⟨cb,0,none⟩),.string ⟨#[98,111,117,110,100]⟩,.pointer (some ⟨wb,0,none⟩)] w (PTl ⟨#[45]⟩ (λw'=>Chg (λ_=>False) w1 w')):=by
 have HT:=qQ (conbound3_any h hg hb hw)
 clear h hg hb hw
 go_enter Tryz.func47,Tryz.ntmps47
 go_wp2_with fail
 with_reducible refine HT.out.mono ?_
 rintro en w2 ⟨rfl,hP⟩
 have HP:=qQ hP
 clear hP HT
 go_wp2_with fail
 go_ret2
 exact⟨rfl,HP.out⟩
theorem tells_bound0(h:CoAt w0 o0 cb W (zX w5b) 2 w1 o r)(hg:Chg (λ_=>False) w1 w)(hb:w1.heap.size≤wb)(hw:Wo1 w wb g ⟨#[48]⟩):
  Calls Tryz.prog 47 #[.pointer (some ⟨cb,0,none⟩),.string ⟨#[98,111,117,110,100]⟩,.pointer (some ⟨wb,0,none⟩)] w (PTl ⟨#[48]⟩ (λw'=>Chg (λ_=>False) w1 w')):=by
 have HT:=qQ (conbound0_any h hg hb hw)
 clear h hg hb hw
 go_enter Tryz.func47,Tryz.ntmps47
 go_wp2_with fail
 with_reducible refine HT.out.mono ?_
 rintro en w2 ⟨rfl,hP⟩
 have HP:=qQ hP
 clear hP HT
 go_wp2_with fail
 go_ret2
 exact⟨rfl,HP.out⟩
theorem line_any(h:Ln2 s p a d)(hT:∀w' wb g,Chg (λ_=>False) w w'→w.heap.size≤wb→Wo1 w' wb g d→Calls Tryz.prog 47 #[.pointer (some ⟨cb,0,none⟩),.string a,.pointer (some ⟨wb,0,none⟩)] w' (PTl out P)):
  Calls Tryz.prog 25 #[.pointer (some ⟨cb,0,none⟩),.string s] w (λe w'=>e= .returned (.string out)∧P w'):=by
 have HS:=qQ (split_any h w)
 have ga:=Chg.alloc (λ_=>False) w (twoB a d)
 have hb:=qV w (twoB a d)
 have HD:=qQ (delstr_any h.a0 h.d0 hb)
 obtain⟨k0,k1⟩:=two_cells hb
 have hs:s.size≤1000:=h.sz
 have HK:=qQ (And.intro ga (And.intro k0 k1))
 have HT:=qQ hT
 have HL:=qQ (show w.heap.size<(w.alloc (twoB a d)).heap.size by simp)
 have b1:decide (2000<(s.size:Int))=false:=by simp;omega
 obtain⟨g,hg⟩:=qZ w.heap.size
 rw[←hg] at HK HD HL
 have HG:=qQ hg
 clear h hb ga hT k0 k1 hs
 go_enter Tryz.func25,Tryz.ntmps25
 go_wp2_with fail
 with_reducible refine HS.out.mono ?_
 rintro en w1 ⟨rfl,rfl⟩
 rw[←hg]
 clear hg
 go_wp2_with fail
 with_reducible refine HD.out.mono ?_
 rintro en w1 ⟨rfl,hw1⟩
 rw[←hw1] at HK HL
 clear hw1 HD HS
 go_wp2_with fail
 have gd:=(HK.out.1.trans (Chg.drew _ w1)).trans (Chg.alloc (λ_=>False) w1.drew (.cells #[.slice (some ⟨g,1,none⟩) 1 1,.bool false] 117))
 have q0:w1.drew.cell? ⟨g,0,none⟩=some (.string a):=HK.out.2.1
 have q1:w1.drew.cell? ⟨g,1,none⟩=some (.string d):=HK.out.2.2
 have p0:=qN q0 (.cells #[.slice (some ⟨g,1,none⟩) 1 1,.bool false] 117)
 have p1:=qN q1 (.cells #[.slice (some ⟨g,1,none⟩) 1 1,.bool false] 117)
 have HT2:=qQ (HT.out (w1.drew.alloc (.cells #[.slice (some ⟨g,1,none⟩) 1 1,.bool false] 117)) w1.heap.size g gd HK.out.1.size ⟨qV w1.drew _,p1⟩)
 have k0:w1.cell? ⟨g,0,none⟩=some (.string a):=HK.out.2.1
 have ka:=qN k0 (.cells #[.slice (some ⟨g,1,none⟩) 1 1,.bool false] 117)
 have kb:(w1.alloc (.cells #[.slice (some ⟨g,1,none⟩) 1 1,.bool false] 117)).drew.cell? ⟨g,0,none⟩=some (.string a):=ka
 clear gd q1 p1
 go_region_with ((go_at_call 47;refine HT2.out.mono ?_;rintro en w2 ⟨rfl,hP⟩))
 all_goals
  have HP:=qQ hP
  clear hP HT2 q0 p0 k0 ka kb
  go_wp2_with fail
  go_ret
  exact⟨rfl,HP.out⟩
end
def sSlots:ByteArray:=⟨#[115,108,111,116,115,32,50]⟩
def sOff:ByteArray:=⟨#[111,102,102,32,51]⟩
def sBound3:ByteArray:=⟨#[98,111,117,110,100,32,51]⟩
def sBound0:ByteArray:=⟨#[98,111,117,110,100,32,48]⟩
theorem ln_slots:Ln2 sSlots 5 ⟨#[115,108,111,116,115]⟩ ⟨#[50]⟩:=⟨by decide+kernel,by decide+kernel,by decide,by decide,by decide+kernel,by decide+kernel,by decide+kernel,by decide+kernel⟩
theorem ln_off:Ln2 sOff 3 ⟨#[111,102,102]⟩ ⟨#[51]⟩:=⟨by decide+kernel,by decide+kernel,by decide,by decide,by decide+kernel,by decide+kernel,by decide+kernel,by decide+kernel⟩
theorem ln_bound3:Ln2 sBound3 5 ⟨#[98,111,117,110,100]⟩ ⟨#[51]⟩:=⟨by decide+kernel,by decide+kernel,by decide,by decide,by decide+kernel,by decide+kernel,by decide+kernel,by decide+kernel⟩
theorem ln_bound0:Ln2 sBound0 5 ⟨#[98,111,117,110,100]⟩ ⟨#[48]⟩:=⟨by decide+kernel,by decide+kernel,by decide,by decide,by decide+kernel,by decide+kernel,by decide+kernel,by decide+kernel⟩
theorem awake_any(w:World):Calls Tryz.prog 12 #[] w (PV (.bool true) w):=by
 have HN:=qQ (connew_any w)
 go_enter Tryz.func12,Tryz.ntmps12
 go_wp2_with fail
 with_reducible refine HN.out.mono ?_
 rintro en w1 ⟨cb,W,o,r,rfl,hij,hA,hC,hG,hz⟩
 have HIJ:=qQ hij
 have H1:=qQ (And.intro (CoAt.mk hA hC) (And.intro hG hz))
 have HL1:Hid (Calls Tryz.prog 25 #[.pointer (some ⟨cb,0,none⟩),.string ⟨#[115,108,111,116,115,32,50]⟩] w1 _):=qQ (line_any ln_slots (λw' wb g h1 h2 h3=>tells_slots HIJ.out H1.out.1 h1 h2 h3))
 clear hA hC hG hz HN hij
 unfold VP
 go_wp2_with fail
 with_reducible refine HL1.out.mono ?_
 rintro en w2 ⟨rfl,o2,r2,hA2⟩
 have hC2:CoAt w1 o cb W (zX w5b) 2 w2 o2 r2:=⟨hA2,Chg.keep hA2.chg H1.out.1.co.1 (λe=>e.1 H1.out.1.co.2),(hA2.ext cb (qX H1.out.1.co.1)).trans H1.out.1.co.2⟩
 have hG2:Chg (λ_=>False) w w2:=by
  have g1:=H1.out.2.1
  have g2:=hA2.chg
  exact⟨g2.os.trans g1.os,g2.tape.trans g1.tape,g2.output.trans g1.output,Nat.le_trans g1.size g2.size,λq hq _=>(g2.block q (Nat.lt_of_lt_of_le hq g1.size) (λe=>e.1 (H1.out.2.2 q hq))).trans (g1.block q hq (λe=>e))⟩
 have H2:=qQ (And.intro hC2 hG2)
 clear hA2 hC2 hG2 HL1
 have HL2:Hid (Calls Tryz.prog 25 #[.pointer (some ⟨cb,0,none⟩),.string ⟨#[111,102,102,32,51]⟩] w2 _):=qQ (line_any ln_off (λw' wb g h1 h2 h3=>tells_off H2.out.1 h1 h2 h3))
 go_wp2_with fail
 with_reducible refine HL2.out.mono ?_
 rintro en w3 ⟨rfl,g3⟩
 have H3:=qQ (And.intro (H2.out.1.kept g3) (H2.out.2.trans g3))
 clear g3 HL2
 have HL3:Hid (Calls Tryz.prog 25 #[.pointer (some ⟨cb,0,none⟩),.string ⟨#[98,111,117,110,100,32,51]⟩] w3 _):=qQ (line_any ln_bound3 (λw' wb g h1 h2 h3=>tells_bound3 H3.out.1 h1 h2 h3))
 go_wp2_with fail
 with_reducible refine HL3.out.mono ?_
 rintro en w4 ⟨rfl,g4⟩
 have H4:=qQ (And.intro (H3.out.1.kept g4) (H3.out.2.trans g4))
 clear g4 HL3
 have HL4:Hid (Calls Tryz.prog 25 #[.pointer (some ⟨cb,0,none⟩),.string ⟨#[98,111,117,110,100,32,48]⟩] w4 _):=qQ (line_any ln_bound0 (λw' wb g h1 h2 h3=>tells_bound0 H4.out.1 h1 h2 h3))
 go_wp2_with fail
 with_reducible refine HL4.out.mono ?_
 rintro en w5 ⟨rfl,g5⟩
 have H5:=qQ (H4.out.2.trans g5)
 clear g5 HL4
 go_wp2_with fail
 go_ret
 exact⟨rfl,H5.out⟩
end Go.Proofs.YtnpihllannobgaaGreatDoor
