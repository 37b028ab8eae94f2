/- Steps of the proof, part H49. No condition. -/
import Derived.Test.YtnpihllannobgaaGreatDoorH45
namespace Go.Proofs.YtnpihllannobgaaGreatDoor
set_option linter.unusedVariables false
set_option linter.unusedSimpArgs false
set_option maxRecDepth 100000
set_option maxHeartbeats 32000000
open Go.ChangeShapes Go.WideShapes Go.ChangeAt Go.RowKit
section
variable {w w1 w' w0:World}{o o0:Cls}{cb W wb g:Nat}{x:WM}{asn:Int}{r:WR}{s a d out:ByteArray}{p:Nat}{P:World→Prop}
theorem tells_slots(hij:r.ij=qh)(h:CoAt w0 o0 cb W (newW c5) 0 w1 o r)(hg:Chg (λ_=>False) w1 w)(hb:w1.heap.size≤wb)(hw:Wo1 w wb g ⟨#[50]⟩):
  Calls Tryz.prog 47 #[.pointer (some ⟨cb,0,none⟩),.string ⟨#[115,108,111,116,115]⟩,.pointer (some ⟨wb,0,none⟩)] w (PTl ⟨#[111,107]⟩ (λw'=>∃o r,WAt w0 o0 c5 W (zh w5b) 2 w' o r)):=by
 have HT:=qQ (conslots_any hij h hg hb hw)
 clear h hg hb hw
 go_enter Tryz.func47,Tryz.ntmps47
 go_wp2_with fail
 with_reducible refine HT.out.mono ?_
 rintro en w2 ⟨rfl,hP⟩
 have HP:=qQ hP
 clear hP HT
 go_wp2_with fail
 go_ret2
 exact⟨rfl,HP.out⟩
theorem tells_off(h:CoAt w0 o0 cb W (zh w5b) 2 w1 o r)(hg:Chg (λ_=>False) w1 w)(hb:w1.heap.size≤wb)(hw:Wo1 w wb g ⟨#[51]⟩):
  Calls Tryz.prog 47 #[.pointer (some ⟨cb,0,none⟩),.string ⟨#[111,102,102]⟩,.pointer (some ⟨wb,0,none⟩)] w (PTl ⟨#[48]⟩ (λw'=>Chg (λ_=>False) w1 w')):=by
 have HT:=qQ (conoff_any h hg hb hw)
 clear h hg hb hw
 go_enter Tryz.func47,Tryz.ntmps47
 go_wp2_with fail
 with_reducible refine HT.out.mono ?_
 rintro en w2 ⟨rfl,hP⟩
 have HP:=qQ hP
 clear hP HT
 go_wp2_with fail
 go_ret2
 exact⟨rfl,HP.out⟩
theorem tells_bound3(h:CoAt w0 o0 cb W (zh w5b) 2 w1 o r)(hg:Chg (λ_=>False) w1 w)(hb:w1.heap.size≤wb)(hw:Wo1 w wb g ⟨#[51]⟩):
  Calls Tryz.prog 47 #[.pointer (some ⟨cb,0,none⟩),.string ⟨#[98,111,117,110,100]⟩,.pointer (some ⟨wb,0,none⟩)] w (PTl ⟨#[45]⟩ (λw'=>Chg (λ_=>False) w1 w')):=by
 have HT:=qQ (conbound3_any h hg hb hw)
 clear h hg hb hw
 go_enter Tryz.func47,Tryz.ntmps47
 go_wp2_with fail
 with_reducible refine HT.out.mono ?_
 rintro en w2 ⟨rfl,hP⟩
 have HP:=qQ hP
 clear hP HT
 go_wp2_with fail
 go_ret2
 exact⟨rfl,HP.out⟩
theorem tells_bound0(h:CoAt w0 o0 cb W (zh w5b) 2 w1 o r)(hg:Chg (λ_=>False) w1 w)(hb:w1.heap.size≤wb)(hw:Wo1 w wb g ⟨#[48]⟩):
  Calls Tryz.prog 47 #[.pointer (some ⟨cb,0,none⟩),.string ⟨#[98,111,117,110,100]⟩,.pointer (some ⟨wb,0,none⟩)] w (PTl ⟨#[48]⟩ (λw'=>Chg (λ_=>False) w1 w')):=by
 have HT:=qQ (conbound0_any h hg hb hw)
 clear h hg hb hw
 go_enter Tryz.func47,Tryz.ntmps47
 go_wp2_with fail
 with_reducible refine HT.out.mono ?_
 rintro en w2 ⟨rfl,hP⟩
 have HP:=qQ hP
 clear hP HT
 go_wp2_with fail
 go_ret2
 exact⟨rfl,HP.out⟩
theorem line_any(h:Ln2 s p a d)(hT:∀w' wb g,Chg (λ_=>False) w w'→w.heap.size≤wb→Wo1 w' wb g d→Calls Tryz.prog 47 #[.pointer (some ⟨cb,0,none⟩),.string a,.pointer (some ⟨wb,0,none⟩)] w' (PTl out P)):
  Calls Tryz.prog 25 #[.pointer (some ⟨cb,0,none⟩),.string s] w (λe w'=>e= .returned (.string out)∧P w'):=by
 have HS:=qQ (split_any h w)
 have ga:=Chg.alloc (λ_=>False) w (twoB a d)
 have hb:=qV w (twoB a d)
 have HD:=qQ (delstr_any h.a0 h.d0 hb)
 obtain⟨k0,k1⟩:=two_cells hb
 have hs:s.size≤1000:=h.sz
 have HK:=qQ (And.intro ga (And.intro k0 k1))
 have HT:=qQ hT
 have HL:=qQ (show w.heap.size<(w.alloc (twoB a d)).heap.size by simp)
 have b1:decide (2000<(s.size:Int))=false:=by simp;omega
 obtain⟨g,hg⟩:=qZ w.heap.size
 rw[←hg] at HK HD HL
 have HG:=qQ hg
 clear h hb ga hT k0 k1 hs
 go_enter Tryz.func25,Tryz.ntmps25
 go_wp2_with fail
 with_reducible refine HS.out.mono ?_
 rintro en w1 ⟨rfl,rfl⟩
 rw[←hg]
 clear hg
 go_wp2_with fail
 with_reducible refine HD.out.mono ?_
 rintro en w1 ⟨rfl,hw1⟩
 rw[←hw1] at HK HL
 clear hw1 HD HS
 go_wp2_with fail
 have gd:=(HK.out.1.trans (Chg.drew _ w1)).trans (Chg.alloc (λ_=>False) w1.drew (.cells #[.slice (some ⟨g,1,none⟩) 1 1,.bool false] 117))
 have q0:w1.drew.cell? ⟨g,0,none⟩=some (.string a):=HK.out.2.1
 have q1:w1.drew.cell? ⟨g,1,none⟩=some (.string d):=HK.out.2.2
 have p0:=qL q0 (.cells #[.slice (some ⟨g,1,none⟩) 1 1,.bool false] 117)
 have p1:=qL q1 (.cells #[.slice (some ⟨g,1,none⟩) 1 1,.bool false] 117)
 have HT2:=qQ (HT.out (w1.drew.alloc (.cells #[.slice (some ⟨g,1,none⟩) 1 1,.bool false] 117)) w1.heap.size g gd HK.out.1.size ⟨qV w1.drew _,p1⟩)
 have k0:w1.cell? ⟨g,0,none⟩=some (.string a):=HK.out.2.1
 have ka:=qL k0 (.cells #[.slice (some ⟨g,1,none⟩) 1 1,.bool false] 117)
 have kb:(w1.alloc (.cells #[.slice (some ⟨g,1,none⟩) 1 1,.bool false] 117)).drew.cell? ⟨g,0,none⟩=some (.string a):=ka
 clear gd q1 p1
 go_region_with ((go_at_call 47;refine HT2.out.mono ?_;rintro en w2 ⟨rfl,hP⟩))
 all_goals
  have HP:=qQ hP
  clear hP HT2 q0 p0 k0 ka kb
  go_wp2_with fail
  go_ret
  exact⟨rfl,HP.out⟩
end
def sSlots:ByteArray:=⟨#[115,108,111,116,115,32,50]⟩
def sOff:ByteArray:=⟨#[111,102,102,32,51]⟩
def sBound3:ByteArray:=⟨#[98,111,117,110,100,32,51]⟩
def sBound0:ByteArray:=⟨#[98,111,117,110,100,32,48]⟩
theorem ln_slots:Ln2 sSlots 5 ⟨#[115,108,111,116,115]⟩ ⟨#[50]⟩:=⟨by decide+kernel,by decide+kernel,by decide,by decide,by decide+kernel,by decide+kernel,by decide+kernel,by decide+kernel⟩
theorem ln_off:Ln2 sOff 3 ⟨#[111,102,102]⟩ ⟨#[51]⟩:=⟨by decide+kernel,by decide+kernel,by decide,by decide,by decide+kernel,by decide+kernel,by decide+kernel,by decide+kernel⟩
theorem ln_bound3:Ln2 sBound3 5 ⟨#[98,111,117,110,100]⟩ ⟨#[51]⟩:=⟨by decide+kernel,by decide+kernel,by decide,by decide,by decide+kernel,by decide+kernel,by decide+kernel,by decide+kernel⟩
theorem ln_bound0:Ln2 sBound0 5 ⟨#[98,111,117,110,100]⟩ ⟨#[48]⟩:=⟨by decide+kernel,by decide+kernel,by decide,by decide,by decide+kernel,by decide+kernel,by decide+kernel,by decide+kernel⟩
theorem awake_any(w:World):Calls Tryz.prog 12 #[] w (PV (.bool true) w):=by
 have HN:=qQ (connew_any w)
 go_enter Tryz.func12,Tryz.ntmps12
 go_wp2_with fail
 with_reducible refine HN.out.mono ?_
 rintro en w1 ⟨cb,W,o,r,rfl,hij,hA,hC,hG,hz⟩
 have HIJ:=qQ hij
 have H1:=qQ (And.intro (CoAt.mk hA hC) (And.intro hG hz))
 have HL1:Hid (Calls Tryz.prog 25 #[.pointer (some ⟨cb,0,none⟩),.string ⟨#[115,108,111,116,115,32,50]⟩] w1 _):=qQ (line_any ln_slots (λw' wb g h1 h2 h3=>tells_slots HIJ.out H1.out.1 h1 h2 h3))
 clear hA hC hG hz HN hij
 unfold VP
 go_wp2_with fail
 with_reducible refine HL1.out.mono ?_
 rintro en w2 ⟨rfl,o2,r2,hA2⟩
 have hC2:CoAt w1 o cb W (zh w5b) 2 w2 o2 r2:=⟨hA2,Chg.keep hA2.chg H1.out.1.co.1 (λe=>e.1 H1.out.1.co.2),(hA2.ext cb (qX H1.out.1.co.1)).trans H1.out.1.co.2⟩
 have hG2:Chg (λ_=>False) w w2:=by
  have g1:=H1.out.2.1
  have g2:=hA2.chg
  exact⟨g2.os.trans g1.os,g2.tape.trans g1.tape,g2.output.trans g1.output,Nat.le_trans g1.size g2.size,λq hq _=>(g2.block q (Nat.lt_of_lt_of_le hq g1.size) (λe=>e.1 (H1.out.2.2 q hq))).trans (g1.block q hq (λe=>e))⟩
 have H2:=qQ (And.intro hC2 hG2)
 clear hA2 hC2 hG2 HL1
 have HL2:Hid (Calls Tryz.prog 25 #[.pointer (some ⟨cb,0,none⟩),.string ⟨#[111,102,102,32,51]⟩] w2 _):=qQ (line_any ln_off (λw' wb g h1 h2 h3=>tells_off H2.out.1 h1 h2 h3))
 go_wp2_with fail
 with_reducible refine HL2.out.mono ?_
 rintro en w3 ⟨rfl,g3⟩
 have H3:=qQ (And.intro (H2.out.1.kept g3) (H2.out.2.trans g3))
 clear g3 HL2
 have HL3:Hid (Calls Tryz.prog 25 #[.pointer (some ⟨cb,0,none⟩),.string ⟨#[98,111,117,110,100,32,51]⟩] w3 _):=qQ (line_any ln_bound3 (λw' wb g h1 h2 h3=>tells_bound3 H3.out.1 h1 h2 h3))
 go_wp2_with fail
 with_reducible refine HL3.out.mono ?_
 rintro en w4 ⟨rfl,g4⟩
 have H4:=qQ (And.intro (H3.out.1.kept g4) (H3.out.2.trans g4))
 clear g4 HL3
 have HL4:Hid (Calls Tryz.prog 25 #[.pointer (some ⟨cb,0,none⟩),.string ⟨#[98,111,117,110,100,32,48]⟩] w4 _):=qQ (line_any ln_bound0 (λw' wb g h1 h2 h3=>tells_bound0 H4.out.1 h1 h2 h3))
 go_wp2_with fail
 with_reducible refine HL4.out.mono ?_
 rintro en w5 ⟨rfl,g5⟩
 have H5:=qQ (H4.out.2.trans g5)
 clear g5 HL4
 go_wp2_with fail
 go_ret
 exact⟨rfl,H5.out⟩
end Go.Proofs.YtnpihllannobgaaGreatDoor
