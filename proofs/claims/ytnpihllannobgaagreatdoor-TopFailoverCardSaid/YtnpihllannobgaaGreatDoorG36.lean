/- TopFailover, walked. Strings: how often a byte is there, where it is. A line's two words. A digit is read, and written. Words, taken one by one. No condition. -/
import Derived.Test.YtnpihllannobgaaGreatDoorG35
import Derived.Test.YtnpihllannobgaaGreatDoorG31
import Derived.Test.YtnpihllannobgaaGreatDoorG01
import Derived.Lib.Strings
import Derived.Lib.Slices
import Derived.Lib.Walk
import Derived.Lib.Bytealg
import Derived.LoopN
import Derived.Lib.ConvBytes
namespace Go.Proofs.YtnpihllannobgaaGreatDoor
set_option linter.unusedVariables false
set_option linter.unusedSimpArgs false
open Go.ChangeShapes Go.WideShapes Go.ChangeAt Go.RowKit

def zc : Cls := fun _ => 0
theorem z_zc (w : World) : Z w zc := fun _ _ => rfl
theorem RV.blk {w : World} {o : Cls} {b : Nat} {cs : Array Value} {e : TypeId} {V : Int → Value} (hb : w.heap[b]? = some (.cells cs e (0, 0))) (ho : o b = 0) (L : List Int) (hl : cs = (L.map V).toArray) (hc : L.length ≤ maxLen) :
    RV V w o (.slice (some ⟨b, 0, none⟩) L.length L.length) L := by
  refine ⟨some ⟨b, 0, none⟩, L.length, rfl, ⟨rfl, fun i hi => ⟨_, rfl, ho, ?_⟩⟩, (fun e => by cases e), Nat.le_refl _, hc⟩
  rw [add_mk, cell_of_block hb, hl]
  simp [List.getElem?_eq_getElem hi]
theorem alloc3 (w : World) (o0 o1 o2 : Obj) : ((((w.alloc o0).alloc o1).alloc o2).heap[w.heap.size]? = some o0 ∧ (((w.alloc o0).alloc o1).alloc o2).heap[w.heap.size + 1]? = some o1 ∧ (((w.alloc o0).alloc o1).alloc o2).heap[w.heap.size + 1 + 1]? = some o2 ∧ Chg (fun _ => False) w (((w.alloc o0).alloc o1).alloc o2)) := by
  have s0 : (w.alloc o0).heap.size = w.heap.size + 1 := by simp
  have s1 : ((w.alloc o0).alloc o1).heap.size = w.heap.size + 1 + 1 := by simp
  have g0 := Chg.alloc (fun _ => False) w o0
  have g1 := Chg.alloc (fun _ => False) (w.alloc o0) o1
  have g2 := Chg.alloc (fun _ => False) ((w.alloc o0).alloc o1) o2
  have b0 := block_alloc w o0
  have b1 := block_alloc (w.alloc o0) o1
  have b2 := block_alloc ((w.alloc o0).alloc o1) o2
  rw [s0] at b1
  rw [s1] at b2
  have k1 := g1.trans g2
  exact ⟨Chg.keep k1 b0 (fun e => e), Chg.keep g2 b1 (fun e => e), b2, g0.trans k1⟩
theorem WAt.get2 {w0 w : World} {o0 o : Cls} {c : Cfg} {W i b : Nat} {x : WM} {asn : Int} {r : WR} (h : WAt w0 o0 c W x asn w o r) (hi : i < c.nodes) (hb : r.bs[i]? = some b) : ∃ q, NAt w o c i b (x.nd i) w o q := by
  obtain ⟨b2, q, h1, h2⟩ := h.get i hi
  rw [hb] at h1; cases h1
  exact ⟨q, h2⟩
theorem WAt.asnTo {w0 w : World} {o0 o : Cls} {c : Cfg} {W : Nat} {x : WM} {asn asn' : Int} {r : WR} (h : WAt w0 o0 c W x asn w o r) (e : asn = asn') : WAt w0 o0 c W x asn' w o r := e ▸ h
theorem take_next {α : Type} (L : List α) (k : Nat) (z : α) (h : L[k]? = some z) : L.take (k + 1) = L.take k ++ [z] := by rw [List.take_add_one, h]; rfl
set_option maxRecDepth 100000 in
set_option maxHeartbeats 16000000 in
theorem failover_walk (hAw : ∀ w, Calls Tryz.prog 12 #[] w (PV (.bool true) w)) (loss keep when : Int) (A : Option Addr) (n cap : Nat) (L : List Int) (w : World) (h : Sl VI w A n L) :
    Calls Tryz.prog 3 #[.int .i64 loss, .int .i64 keep, .int .i64 when, .slice A n cap] w (PTrue w) := by
  obtain ⟨km, hk1, hk2⟩ := umod keep 40 (by decide) (by decide)
  obtain ⟨lm, hl1, hl2⟩ := umod loss 60 (by decide) (by decide)
  obtain ⟨wm, hw1, hw2⟩ := umod when 50 (by decide) (by decide)
  obtain ⟨K, hK⟩ : ∃ K : Int, K = 5 + km := ⟨_, rfl⟩
  obtain ⟨G, hG⟩ : ∃ G : Int, G = 12 + lm := ⟨_, rfl⟩
  obtain ⟨N, hN⟩ : ∃ N : Nat, N = lm + 72 := ⟨_, rfl⟩
  obtain ⟨M, hM⟩ : ∃ M : Nat, M = wm + (lm + 12) := ⟨_, rfl⟩
  have e1 : IntKind.i64.wrap (5 + (km : Int)) = K := by rw [hK]; exact IntWalk.i64_in _ (by omega)
  have e2 : IntKind.i64.wrap (12 + (lm : Int)) = G := by rw [hG]; exact IntWalk.i64_in _ (by omega)
  have e3 : IntKind.i64.wrap (G + 60) = (N : Int) := (IntWalk.i64_in _ (by omega)).trans (by omega)
  have e4 : IntKind.i64.wrap ((wm : Int) + G) = (M : Int) := (IntWalk.i64_in _ (by omega)).trans (by omega)
  have HB := Lib.hid (show ((N : Int) = G + 60 ∧ G ≤ (M : Int) ∧ (M : Int) ≤ 49 + G) from ⟨by omega, by omega, by omega⟩)
  have hNb : N ≤ 200 := by omega
  have hMb : M ≤ 200 := by omega
  have HKG := Lib.hid (show (5 ≤ K ∧ K ≤ 44) ∧ (12 ≤ G ∧ G ≤ 71) from by omega)
  have HL := Lib.hid h
  have HC := Lib.hid (cF_ok HKG.out.1 HKG.out.2)
  obtain ⟨b0, b1, b2, ga⟩ := alloc3 w (.cells #[.int .u64 6, .int .u64 9, .int .u64 9, .int .u64 6] 23) (.cells #[.int .i64 3, .int .i64 7] 3)
    (.cells #[.int .i64 4, .slice (some ⟨w.heap.size, 0, none⟩) 4 4, .slice (some ⟨w.heap.size + 1, 0, none⟩) 2 2, .int .i64 1000, .int .i64 2, .int .i64 K, .int .i64 G, .int .i64 4, .int .i64 5] 26)
  have HM : Hid (Calls Tryz.prog 6 #[.agg #[.int .i64 4, .slice (some ⟨w.heap.size, 0, none⟩) 4 4, .slice (some ⟨w.heap.size + 1, 0, none⟩) 2 2, .int .i64 1000, .int .i64 2, .int .i64 K, .int .i64 G, .int .i64 4, .int .i64 5]] _ (PMade _ zc (cF K G))) :=
    Lib.hid (made_any HC.out (z_zc _) _ _ (RV.blk b0 rfl [6, 9, 9, 6] rfl (by decide)) (RV.blk b1 rfl [3, 7] rfl (by decide)))
  have HA := Lib.hid (And.intro b2 ga)
  clear hK hG hN hM hk1 hl1 hw1 b0 b1 b2 ga h
  go_enter Tryz.func3, Tryz.ntmps3
  go_wp2_with fail
  (with_reducible refine HM.out.mono ?_)
  rintro en w1 ⟨W, o1, r1, rfl, hWd, hz1, hx1, hg1⟩
  obtain ⟨cb, hcb⟩ : ∃ cb, cb = w.heap.size + 1 + 1 := ⟨_, rfl⟩
  rw [← hcb] at HA ⊢
  have hb1 := Chg.keep hg1 HA.out.1 (fun e => e)
  have hcb1 : o1 cb = 0 := hx1 cb (lt_of_block HA.out.1)
  have HW1 := Lib.hid (WAt.start hWd hz1)
  have hzz : ∀ q, q < w.heap.size → o1 q = 0 := fun q hq => hx1 q (Nat.lt_of_lt_of_le hq HA.out.2.size)
  have HX1 := Lib.hid (And.intro (HA.out.2.trans hg1) (And.intro hb1 (And.intro hcb1 hzz)))
  clear hWd hz1 hx1 hg1 hcb hb1 hcb1 hzz HM HA
  unfold VP
  go_wp2_with fail
  go_loopw [11, 37] (fun u11 i wr => ∃ (k : Nat), k ≤ 4 ∧ i = .int .i64 k ∧ wr.ownsRow w1.heap.size 3 1 u11 (L.take k).length ((L.take k).map VI) ∧ Chg (fun j => w1.heap.size ≤ j) w1 wr) (fun _ i _ => 4 - (intOf i).toNat)
  case atStart => exact ⟨0, by omega, rfl, World.ownsRow_nil _ _ _ _, Chg.refl _ _⟩
  case round =>
    obtain ⟨k, hk, rfl, hO, hG⟩ := hrel
    have HO := Lib.hid hO
    have HG := Lib.hid hG
    have HK := Lib.hid hk
    clear hO hG
    by_cases hlt : k < 4
    · have i1 : (k : Int) < 4 := by omega
      by_cases hkn : k < n
      · have i2 : (k : Int) < (n : Int) := by omega
        have h0 := HL.out.1
        obtain ⟨x, z, rfl, hz, hc⟩ := HL.out.at ((HX1.out.1.none (S := fun j => w.heap.size ≤ j)).trans (HG.out.down HX1.out.1.size)) hkn
        have HNX := Lib.hid (take_next L k z hz)
        have HLN := Lib.hid (show (L.take k).length = k from by rw [List.length_take]; omega)
        have HNL := Lib.hid (show (L.take (k + 1)).length = k + 1 from by rw [List.length_take]; omega)
        unfold VI at hc
        rw [HLN.out] at HO
        clear hz h0
        go_wp2_with (at_builtin; go_loud (refine app1 (V := VI) elI rfl (.tmp 44) (.tmp 49) rfl w1.heap.size u11 k ((L.take k).map VI) rfl (HO.out.alloc _) wr.heap.size z rfl ?c1 rfl (by omega) (by omega) ?hb ?grow))
        case c1 => simp [VI]
        case hb => have := HG.out.size; simp; omega
        case grow =>
          intro v4 w4 hown hgr hat
          have ga := Chg.alloc (fun j => w1.heap.size ≤ j) wr (.cells #[.int .i64 z] 3)
          have gg := chg_grown (S := fun j => w1.heap.size ≤ j) hgr (fun j e => (own_in HO.out e).1)
          have hX : w4.ownsRow w1.heap.size 3 1 v4 (L.take (k + 1)).length ((L.take (k + 1)).map VI) := by rw [HNL.out, HNX.out, List.map_append, List.map_take]; exact hown
          have HX := Lib.hid (And.intro hX ((HG.out.trans ga).trans gg))
          clear hown hgr hat ga gg hX HO hc
          go_wp2_with fail
          go_roundw
          case measure => simp [intOf]; omega
          case rel => exact ⟨k + 1, by omega, by go_num, HX.out.1, HX.out.2⟩
      · have b2 : decide ((k : Int) < (n : Int)) = false := by simp; omega
        have h0 := HL.out.1
        have HNX := Lib.hid (show L.take (k + 1) = L.take k from by rw [List.take_of_length_le (by omega), List.take_of_length_le (by omega)])
        clear h0
        go_wp2_with fail
        go_roundw
        case measure => simp [intOf]; omega
        case rel => exact ⟨k + 1, by omega, by go_num, by rw [HNX.out]; exact HO.out, HG.out⟩
    · obtain rfl : k = 4 := by omega
      have hO := HO.out
      have hdv : ∃ dA dn dc, u11 = .slice dA dn dc := by
        rcases own_val hO with ⟨e, _, _⟩ | ⟨g, cap, e, _⟩
        · exact ⟨none, 0, 0, e⟩
        · exact ⟨_, _, _, e⟩
      have hRV : RV VI wr o1 u11 (L.take 4) := RV.of_own hO (fun k hk => HW1.out.z k hk)
      have hg := HG.out.fresh
      obtain ⟨D, hD⟩ : ∃ D, D = L.take 4 := ⟨_, rfl⟩
      rw [← hD] at hRV
      obtain ⟨dA, dn, dc, rfl⟩ := hdv
      have HW2 := Lib.hid (HW1.out.kept (show 4 ≤ 16 by decide) hg)
      have hcb := Chg.keep hg HX1.out.2.1 (fun e => e)
      have HZ1 := Lib.hid (show ∀ q, q < w.heap.size → o1 q = 0 from fun q hq => HX1.out.2.2.2 q hq)
      have HX2 := Lib.hid (And.intro (HX1.out.1.trans hg) (And.intro hcb (And.intro HX1.out.2.2.1 hRV)))
      have c6 : wr.cell? ⟨cb, 6, none⟩ = some (.int .i64 G) := by rw [cell_of_block hcb]; rfl
      clear hO hRV hg hD HO HG HK HL HX1 HW1 hcb hk hlt
      clear hk2 hl2
      go_wp2_with fail
      clear c6
      generalize wr = w2 at *
      go_loopw [55] (fun i wr => ∃ (k : Nat), k ≤ N ∧ i = .int .i64 k ∧ ∃ x o r, WAt w2 o1 (cF K G) W x k wr o r ∧ Good (cF K G) k (3 * (k : Int)) x ∧ Inv9 G k x) (fun i _ => N - (intOf i).toNat)
      case atStart => exact ⟨0, by omega, rfl, _, _, _, WAt.start HW2.out.wd HW2.out.z, inv9_new HKG.out.1 HKG.out.2⟩
      case round =>
        obtain ⟨k, hk, rfl, x, o, r, hA, hG, hI⟩ := hrel
        by_cases hlt : k < N
        · have hB := HB.out
          have hkg := HKG.out
          have i1 : (k : Int) < (N : Int) := by omega
          have E : Env K G 9 ⟨D, [], [], []⟩ k (3 * (k : Int)) x := ⟨hkg.1, hkg.2, dok0 D, by omega, by omega, hG⟩
          obtain ⟨hadv, hinv⟩ := inv9_step E hI
          have hs : So wr o ⟨D, [], [], []⟩ (.slice dA dn dc) (.slice none 0 0) (.slice none 0 0) (.slice none 0 0) (.slice none 0 0) :=
            ⟨HX2.out.2.2.2.step hA.ext hA.chg (fun j hj e => e.1 hj), RV.nil _ _ _, RV.nil _ _ _, RV.nil _ _ _, ⟨_, _, _, rfl⟩, (fun z hz => by cases hz), (fun z hz => by cases hz)⟩
          have HS : Hid (Calls Tryz.prog 7 #[.pointer (some ⟨W, 0, none⟩), .agg #[.int .i64 1, .int .i64 0, .int .i64 0, .slice dA dn dc, .slice none 0 0, .slice none 0 0, .slice none 0 0, .slice none 0 0]] wr (PDo w2 o1 (cF K G) W (slot5W (cF K G) ⟨D, [], [], []⟩ (cF K G).nodes k x) (k + 1) r)) :=
            Lib.hid (wdo_slot HC.out hA ⟨by omega, by omega⟩ 0 0 hs hadv.ok)
          have HI := Lib.hid (And.intro hadv.good hinv)
          clear hA hG hI hB hkg E hadv hinv hs
          go_wp2_with fail
          (with_reducible refine HS.out.mono ?_)
          rintro en w5 ⟨v, o5, r5, rfl, hA5, _⟩
          have HA5 := Lib.hid hA5
          clear hA5 HS
          go_wp2_with fail
          go_roundw
          case measure => simp [intOf]; omega
          case rel =>
            refine ⟨_, _, _, _, _, _, _, ⟨k + 1, by omega, by go_num, _, o5, r5, HA5.out, ?_, HI.out.2⟩, rfl⟩
            have := HI.out.1
            have e : 3 * (k : Int) + 3 = 3 * ((k : Int) + 1) := by omega
            rw [e] at this
            exact this
        · obtain rfl : N = k := by omega
          obtain ⟨hsy, R, h1, h2, hp⟩ := inv9_end HKG.out.2 (by have := HB.out; rw [show G + 60 = (N : Int) by omega]; exact hI)
          obtain ⟨b, q, hbs, hN⟩ := hA.get 3 (show 3 < 4 by decide)
          have HN8 : Hid (Calls Tryz.prog 8 #[.pointer (some ⟨W, 0, none⟩), .int .i64 3] wr (PV0 (VP b) wr)) := Lib.hid (wnode_any hA 3 b (show 3 < 4 by decide) hbs)
          have HP9 := Lib.hid (nparents_any hN (by rw [hp]; simp))
          have hpn : parentsN (x.nd 3) = [1, 2] := by unfold parentsN; rw [hp]; rfl
          rw [hpn] at HP9
          have HA := Lib.hid (And.intro hA (And.intro hG (And.intro hI (And.intro hsy hbs))))
          clear hA hG hI hsy hp hpn hN hbs hk hlt
          unfold VP at HN8
          go_wp2_with fail
          (with_reducible refine HN8.out.mono ?_)
          rintro en w5 ⟨rfl, rfl⟩
          go_wp2_with fail
          (with_reducible refine HP9.out.mono ?_)
          rintro en w6 ⟨pv, rfl, hO, hg6⟩
          have hA6 := HA.out.1.kept (show 4 ≤ 16 by decide) hg6
          have HN9 : Hid (Calls Tryz.prog 8 #[.pointer (some ⟨W, 0, none⟩), .int .i64 3] w6 (PV0 (VP b) w6)) := Lib.hid (wnode_any hA6 3 b (show 3 < 4 by decide) HA.out.2.2.2.2)
          obtain ⟨q6, hN6⟩ := hA6.get2 (show 3 < 4 by decide) HA.out.2.2.2.2
          have HS10 := Lib.hid (nsynced_any hN6)
          rw [HA.out.2.2.2.1] at HS10
          obtain ⟨pA, pc, rfl, hR, _⟩ := Rs.of_own hO
          have hga := Chg.alloc (fun _ => False) w6 (.cells #[.int .i64 1, .int .i64 2] 3)
          have hlit := RV.blk (block_alloc w6 (.cells #[.int .i64 1, .int .i64 2] 3)) (z_zc w6 _ (Nat.le_refl _)) [1, 2] rfl (by decide)
          obtain ⟨lA, lc, hle, hlR, _⟩ := hlit.rs
          cases hle
          have HQ : Hid (Calls Tryz.prog 11 #[.slice pA 2 pc, .slice (some ⟨w6.heap.size, 0, none⟩) 2 2] (w6.alloc (.cells #[.int .i64 1, .int .i64 2] 3)) (PV (.bool true) (w6.alloc (.cells #[.int .i64 1, .int .i64 2] 3)))) :=
            Lib.hid (sameints_any _ pA (some ⟨w6.heap.size, 0, none⟩) 2 pc 2 2 _ _ [1, 2] [1, 2] (hR.keep hga (fun _ _ e => e)) hlR (by decide))
          have HA6 := Lib.hid (hA6.kept (show 4 ≤ 16 by decide) hga)
          clear hA6 hN6 hO hg6 hR hga hlit hlR HP9 HN8
          unfold VP at HN9
          rw [show ([1, 2] : List Int).length = 2 from rfl]
          go_wp2_with fail
          (with_reducible refine HN9.out.mono ?_)
          rintro en w5 ⟨rfl, rfl⟩
          go_wp2_with fail
          (with_reducible refine HS10.out.mono ?_)
          rintro en w5 ⟨rfl, rfl⟩
          go_wp2_with fail
          (with_reducible refine HQ.out.mono ?_)
          rintro en w7 ⟨rfl, hg7⟩
          have hA7 := HA6.out.kept (show 4 ≤ 16 by decide) hg7
          have hG := HA.out.2.1
          have hB := HB.out
          have hkg := HKG.out
          have hnb := hG.nb 1 (show 1 < 4 by decide)
          have HR7 : Hid (Calls Tryz.prog 7 #[.pointer (some ⟨W, 0, none⟩), .agg #[.int .i64 3, .int .i64 1, .int .i64 0, .slice none 0 0, .slice none 0 0, .slice none 0 0, .slice none 0 0, .slice none 0 0]] w7 (PDo w2 o1 (cF K G) W (rebootW (cF K G) 1 x) N r)) :=
            Lib.hid (wdo_reboot HC.out hA7 1 (show 1 < 4 by decide) (by decide) (by have := hnb.base; omega) (by have := hnb.sum; omega) (by rw [hG.ev]; simp) 0 (d := ⟨[], [], [], []⟩)
              ⟨RV.nil _ _ _, RV.nil _ _ _, RV.nil _ _ _, RV.nil _ _ _, ⟨_, _, _, rfl⟩, (fun z hz => by cases hz), (fun z hz => by cases hz)⟩)
          have HI := Lib.hid (inv_reboot hkg.1 hkg.2 (by omega) (by omega) hG HA.out.2.2.1 (by omega))
          clear hA7 hG hB hkg hnb HQ HS10 HN9 HA HA6 hg7
          go_wp2_with fail
          (with_reducible refine HR7.out.mono ?_)
          rintro en w8 ⟨v, o8, r8, rfl, hA8, _⟩
          have hcb8 := Chg.keep hA8.chg HX2.out.2.1 (fun e => e.1 HX2.out.2.2.1)
          have hD8 := HX2.out.2.2.2.step hA8.ext hA8.chg (fun j hj e => e.1 hj)
          have hg8 : Chg (fun _ => False) w w8 := by
            have g1 := HX2.out.1
            have g2 := hA8.chg
            refine ⟨g2.os.trans g1.os, g2.tape.trans g1.tape, g2.output.trans g1.output, Nat.le_trans g1.size g2.size, fun q hq _ => (g2.block q (Nat.lt_of_lt_of_le hq g1.size) (fun e => ?_)).trans (g1.block q hq (fun e => e))⟩
            exact e.1 (HZ1.out q hq)
          have ga := (Chg.alloc (fun _ => False) w8 (.cells #[.int .u64 0, .int .u64 18446744073709551615, .int .u64 0, .int .u64 0] 23)).trans (Chg.alloc (fun _ => False) _ (.cells #[.int .i64 1, .int .i64 0, .int .i64 0, .slice dA dn dc, .slice (some ⟨w8.heap.size, 0, none⟩) 4 4, .slice none 0 0, .slice none 0 0, .slice none 0 0] 35))
          have hlb := Chg.keep (Chg.alloc (fun _ => False) _ (.cells #[.int .i64 1, .int .i64 0, .int .i64 0, .slice dA dn dc, .slice (some ⟨w8.heap.size, 0, none⟩) 4 4, .slice none 0 0, .slice none 0 0, .slice none 0 0] 35)) (block_alloc w8 (.cells #[.int .u64 0, .int .u64 18446744073709551615, .int .u64 0, .int .u64 0] 23)) (fun e => e)
          have hsb := block_alloc (w8.alloc (.cells #[.int .u64 0, .int .u64 18446744073709551615, .int .u64 0, .int .u64 0] 23)) (.cells #[.int .i64 1, .int .i64 0, .int .i64 0, .slice dA dn dc, .slice (some ⟨w8.heap.size, 0, none⟩) 4 4, .slice none 0 0, .slice none 0 0, .slice none 0 0] 35)
          rw [show (w8.alloc (.cells #[.int .u64 0, .int .u64 18446744073709551615, .int .u64 0, .int .u64 0] 23)).heap.size = w8.heap.size + 1 by simp] at hsb
          have hcb9 := Chg.keep ga hcb8 (fun e => e)
          have c6 := cell_of_block hcb9 6
          have HLR := Lib.hid (RV.blk (V := VU) hlb (hA8.z _ (Nat.le_refl _)) [0, 18446744073709551615, 0, 0] rfl (by decide))
          have HSB := Lib.hid (And.intro hsb (hA8.z (w8.heap.size + 1) (by omega)))
          have HA9 := Lib.hid (hA8.kept (show 4 ≤ 16 by decide) ga)
          have HD9 := Lib.hid (hD8.keep ga (fun _ _ e => e))
          have HG9 := Lib.hid (hg8.trans ga)
          have HZ8 := Lib.hid (show ∀ q, q < w.heap.size → o8 q = 0 from fun q hq => (hA8.ext q (Nat.lt_of_lt_of_le hq HX2.out.1.size)).trans (HZ1.out q hq))
          clear hA8 HR7 hcb8 hD8 ga hlb hsb hcb9 hg8
          go_wp2_with fail
          clear c6 hw2
          generalize (w8.alloc (.cells #[.int .u64 0, .int .u64 18446744073709551615, .int .u64 0, .int .u64 0] 23)).alloc (.cells #[.int .i64 1, .int .i64 0, .int .i64 0, .slice dA dn dc, .slice (some ⟨w8.heap.size, 0, none⟩) 4 4, .slice none 0 0, .slice none 0 0, .slice none 0 0] 35) = w9 at *
          generalize w8.heap.size + 1 = sb at *
          go_loopw [88] (fun i wr => ∃ (k : Nat), k ≤ M ∧ i = .int .i64 k ∧ ∃ x o r, WAt w9 o8 (cF K G) W x ((N : Int) + k) wr o r ∧ Good (cF K G) ((N : Int) + k) (3 * ((N : Int) + k)) x ∧ Inv1 G N ((N : Int) + k) x) (fun i _ => M - (intOf i).toNat)
          case atStart =>
            refine ⟨0, by omega, rfl, noEvW (rebootW (cF K G) 1 x), o8, r8, ?_, ?_⟩
            · have := WAt.start HA9.out.wd HA9.out.z
              rw [show (N : Int) + ((0 : Nat) : Int) = N by omega]; exact this
            · rw [show (N : Int) + ((0 : Nat) : Int) = N by omega]; exact HI.out
          case round =>
            obtain ⟨k, hk, rfl, x2, o, r2, hA, hG, hI⟩ := hrel
            by_cases hlt : k < M
            · have hB := HB.out
              have hkg := HKG.out
              have i1 : (k : Int) < (M : Int) := by omega
              have E : Env K G 1 ⟨D, [0, 18446744073709551615, 0, 0], [], []⟩ ((N : Int) + k) (3 * ((N : Int) + k)) x2 := ⟨hkg.1, hkg.2, dok1 D, by omega, by omega, hG⟩
              obtain ⟨hadv, hinv⟩ := inv1_step E hI
              have hs : So wr o ⟨D, [0, 18446744073709551615, 0, 0], [], []⟩ (.slice dA dn dc) (.slice (some ⟨w8.heap.size, 0, none⟩) 4 4) (.slice none 0 0) (.slice none 0 0) (.slice none 0 0) :=
                ⟨HD9.out.step hA.ext hA.chg (fun j hj e => e.1 hj), HLR.out.step hA.ext hA.chg (fun j hj e => e.1 hj), RV.nil _ _ _, RV.nil _ _ _, ⟨_, _, _, rfl⟩, (fun z hz => by simp at hz; omega), (fun z hz => by cases hz)⟩
              have HS : Hid (Calls Tryz.prog 7 #[.pointer (some ⟨W, 0, none⟩), .agg #[.int .i64 1, .int .i64 0, .int .i64 0, .slice dA dn dc, .slice (some ⟨w8.heap.size, 0, none⟩) 4 4, .slice none 0 0, .slice none 0 0, .slice none 0 0]] wr (PDo w9 o8 (cF K G) W (slot5W (cF K G) ⟨D, [0, 18446744073709551615, 0, 0], [], []⟩ (cF K G).nodes ((N : Int) + k) x2) ((N : Int) + k + 1) r2)) :=
                Lib.hid (wdo_slot HC.out hA ⟨by omega, by omega⟩ 0 0 hs hadv.ok)
              obtain ⟨d0, d1, d2, d3, d4, d5, d6, d7⟩ := cell8 (Chg.keep hA.chg HSB.out.1 (fun e => e.1 HSB.out.2))
              have HI2 := Lib.hid (And.intro hadv.good (And.intro hinv hadv.nl))
              clear hA hG hI hB hkg E hadv hinv hs
              go_wp2_with fail
              (with_reducible refine HS.out.mono ?_)
              rintro en w5 ⟨v, o5, r5, rfl, hA5, hE5, _⟩
              have HA5 := Lib.hid hA5
              clear hA5 HS d0 d1 d2 d3 d4 d5 d6 d7
              obtain ⟨ps, p1, p2, p3, p4⟩ := hE5
              obtain ⟨m, hm⟩ : ∃ m, m = ps.length := ⟨_, rfl⟩
              rw [← hm] at p1
              have hvv : ∃ vA vc, v = .slice vA m vc ∧ m ≤ 9223372036854775807 := by
                rcases own_val p1 with ⟨e, h0, _⟩ | ⟨g, cap, e, _, _, h1, h2⟩
                · exact ⟨none, 0, by rw [e, h0], by omega⟩
                · exact ⟨_, _, e, by unfold maxLen at h2; omega⟩
              obtain ⟨vA, vc, rfl, hmb⟩ := hvv
              have hnl : ∀ p ∈ ps, p.1.kind ≠ 3 := fun p hp => HI2.out.2.2 p.1 (by rw [p4]; exact List.mem_map_of_mem hp)
              have HP := Lib.hid (And.intro p1 (And.intro p3 (And.intro hm hnl)))
              clear p1 p2 p3 p4 hm hnl
              go_wp2_with fail
              go_loopw [98] (fun i wr => ∃ (q : Nat), q ≤ m ∧ i = .int .i64 q ∧ Chg (fun _ => False) w5 wr) (fun i _ => m - (intOf i).toNat)
              case atStart => exact ⟨0, by omega, rfl, Chg.refl _ _⟩
              case round =>
                obtain ⟨q, hq, rfl, hG4⟩ := hrel
                by_cases hlq : q < m
                · obtain ⟨⟨e, pv, dv⟩, hz⟩ : ∃ z, ps[q]? = some z := ⟨_, List.getElem?_eq_getElem (by have := HP.out.2.2.1; omega)⟩
                  have i2 : (q : Int) < (m : Int) := by omega
                  obtain ⟨g, cap2, hvv⟩ : ∃ g cap2, vA = some ⟨g, 0, none⟩ ∧ vc = cap2 := by
                    rcases own_val HP.out.1 with ⟨e, h1, _⟩ | ⟨g, cap2, e, _⟩
                    · omega
                    · cases e; exact ⟨_, _, rfl, rfl⟩
                  obtain ⟨rfl, rfl⟩ := hvv
                  have hrow := own_chg HP.out.1 hG4 (fun _ _ e => e)
                  obtain ⟨d0, d1, d2, d3, d4, d5, d6, d7, d8, d9⟩ := evAt hrow hz
                  have hk3 := HP.out.2.2.2 _ (List.mem_of_getElem? hz)
                  dsimp only at hk3
                  have b3 : (e.kind == 3) = false := by simp [hk3]
                  have hpv : ∃ A n c, pv = .slice A n c := by
                    obtain ⟨⟨A, c, e, _⟩, _⟩ := HP.out.2.1 _ (List.mem_of_getElem? hz)
                    exact ⟨_, _, _, e⟩
                  have hdv : ∃ A n c, dv = .slice A n c := by
                    obtain ⟨_, ⟨A, c, e, _⟩, _⟩ := HP.out.2.1 _ (List.mem_of_getElem? hz)
                    exact ⟨_, _, _, e⟩
                  obtain ⟨pA2, pn2, pc2, rfl⟩ := hpv
                  obtain ⟨dA2, dn2, dc2, rfl⟩ := hdv
                  dsimp only at d0 d1 d2 d3 d4 d5 d6 d7 d8 d9
                  have HG4 := Lib.hid hG4
                  clear hz hrow hk3 hG4
                  go_wp2_with fail
                  exact ⟨⟨q + 1, by omega, by go_num, HG4.out.trans (Chg.alloc _ _ _)⟩, by simp [intOf]; omega⟩
                · obtain rfl : m = q := by omega
                  have hA6 := HA5.out.kept (show 4 ≤ 16 by decide) hG4
                  have HA6 := Lib.hid hA6
                  clear hA6 hG4
                  go_wp2_with fail
                  refine ⟨⟨k + 1, by omega, by go_num, _, o5, r5, HA6.out.asnTo (by omega), ?_, ?_⟩, by simp [intOf]; omega⟩
                  · have h1 := HI2.out.1
                    have e : (N : Int) + k + 1 = (N : Int) + ((k + 1 : Nat) : Int) := by omega
                    have e' : 3 * ((N : Int) + k) + 3 = 3 * ((N : Int) + ((k + 1 : Nat) : Int)) := by omega
                    rw [e, e'] at h1
                    exact h1
                  · have h1 := HI2.out.2.1
                    have e : (N : Int) + k + 1 = (N : Int) + ((k + 1 : Nat) : Int) := by omega
                    rw [e] at h1
                    exact h1
            · obtain rfl : M = k := by omega
              obtain ⟨hsy, R, h2, hp⟩ := inv1_end hI (by have := HB.out; omega)
              obtain ⟨b, q, hbs, hN⟩ := hA.get 3 (show 3 < 4 by decide)
              have HN8 : Hid (Calls Tryz.prog 8 #[.pointer (some ⟨W, 0, none⟩), .int .i64 3] wr (PV0 (VP b) wr)) := Lib.hid (wnode_any hA 3 b (show 3 < 4 by decide) hbs)
              have HP9 := Lib.hid (nparents_any hN (by rw [hp]; simp))
              have hpn : parentsN (x2.nd 3) = [2] := by unfold parentsN; rw [hp]; rfl
              rw [hpn] at HP9
              have hgw : Chg (fun _ => False) w wr := by
                have g1 := HG9.out
                have g2 := hA.chg
                refine ⟨g2.os.trans g1.os, g2.tape.trans g1.tape, g2.output.trans g1.output, Nat.le_trans g1.size g2.size, fun q hq _ => (g2.block q (Nat.lt_of_lt_of_le hq g1.size) (fun e => ?_)).trans (g1.block q hq (fun e => e))⟩
                exact e.1 (HZ8.out q hq)
              have HA := Lib.hid (And.intro hA (And.intro hsy (And.intro hbs hgw)))
              clear hA hG hI hsy hp hpn hN hbs hk hlt hgw
              unfold VP at HN8
              go_wp2_with fail
              (with_reducible refine HN8.out.mono ?_)
              rintro en w5 ⟨rfl, rfl⟩
              go_wp2_with fail
              (with_reducible refine HP9.out.mono ?_)
              rintro en w6 ⟨pv, rfl, hO, hg6⟩
              have hA6 := HA.out.1.kept (show 4 ≤ 16 by decide) hg6
              have HN9 : Hid (Calls Tryz.prog 8 #[.pointer (some ⟨W, 0, none⟩), .int .i64 3] w6 (PV0 (VP b) w6)) := Lib.hid (wnode_any hA6 3 b (show 3 < 4 by decide) HA.out.2.2.1)
              obtain ⟨q6, hN6⟩ := hA6.get2 (show 3 < 4 by decide) HA.out.2.2.1
              have HS10 := Lib.hid (nsynced_any hN6)
              rw [HA.out.2.1] at HS10
              obtain ⟨pA3, pc3, rfl, hR, _⟩ := Rs.of_own hO
              have hga := Chg.alloc (fun _ => False) w6 (.cells #[.int .i64 2] 3)
              have hlit := RV.blk (block_alloc w6 (.cells #[.int .i64 2] 3)) (z_zc w6 _ (Nat.le_refl _)) [2] rfl (by decide)
              obtain ⟨lA, lc, hle, hlR, _⟩ := hlit.rs
              cases hle
              have HQ : Hid (Calls Tryz.prog 11 #[.slice pA3 1 pc3, .slice (some ⟨w6.heap.size, 0, none⟩) 1 1] (w6.alloc (.cells #[.int .i64 2] 3)) (PV (.bool true) (w6.alloc (.cells #[.int .i64 2] 3)))) :=
                Lib.hid (sameints_any _ pA3 (some ⟨w6.heap.size, 0, none⟩) 1 pc3 1 1 _ _ [2] [2] (hR.keep hga (fun _ _ e => e)) hlR (by decide))
              have HG6 := Lib.hid ((HA.out.2.2.2.trans hg6).trans hga)
              clear hA6 hN6 hO hg6 hR hga hlit hlR HP9 HN8
              unfold VP at HN9
              rw [show ([2] : List Int).length = 1 from rfl]
              go_wp2_with fail
              (with_reducible refine HN9.out.mono ?_)
              rintro en w5 ⟨rfl, rfl⟩
              go_wp2_with fail
              (with_reducible refine HS10.out.mono ?_)
              rintro en w5 ⟨rfl, rfl⟩
              go_wp2_with fail
              (with_reducible refine HQ.out.mono ?_)
              rintro en w7 ⟨rfl, hg7⟩
              have HG7 := Lib.hid (HG6.out.trans hg7)
              clear hg7 HQ HS10 HN9 HA
              go_wp2_with fail
              (with_reducible refine (hAw w7).mono ?_)
              rintro en w8 ⟨rfl, hg8⟩
              have HG8 := Lib.hid (HG7.out.trans hg8)
              clear hg8
              go_wp2_with fail
              go_ret
              exact ⟨rfl, HG8.out⟩
end Go.Proofs.YtnpihllannobgaaGreatDoor
namespace Go.Proofs.YtnpihllannobgaaGreatDoor
set_option linter.unusedVariables false
set_option linter.unusedSimpArgs false

set_option maxHeartbeats 1000000 in
set_option maxRecDepth 100000 in
theorem ixbyte_any (s : ByteArray) (c : Int) (w : World) :
    Calls Tryz.prog 230 #[.string s, .int .u8 c] w fun e w' => e = .returned (.int .i64 (Lib.indexByte s.data.toList c.toNat.toUInt8)) ∧ w' = w := by
  go_enter Tryz.func230, Tryz.ntmps230
  go_wp2
  rw [run_callFunc_extern Tryz.func262 (by kernel_rfl) (by kernel_rfl) (by kernel_rfl) (e := Extern.BytealgIndexByte.indexByte) (by kernel_rfl), Lib.run_indexByteString]
  simp only [Result.andThen]
  rw [Oper.upon_value]
  go_wp2
  go_ret
  exact ⟨rfl, rfl⟩
set_option maxHeartbeats 2000000 in
set_option maxRecDepth 100000 in
theorem sindex_any (s : ByteArray) (c : UInt8) (w : World) :
    Calls Tryz.prog 179 #[.string s, .string ⟨#[c]⟩] w fun e w' => e = .returned (.int .i64 (Lib.indexByte s.data.toList c)) ∧ w' = w := by
  go_enter Tryz.func179, Tryz.ntmps179
  go_wp2_with (go_at_call 230; refine (ixbyte_any _ _ _).mono ?_; rintro e w' ⟨rfl, rfl⟩)
  · have h : ([c] == s.toList) = true := by assumption
    go_ret
    refine ⟨?_, rfl⟩
    have e : s.data.toList = [c] := by rw [← Lib.toList_data]; exact (beq_iff_eq.1 h).symm
    rw [e]
    simp [Lib.indexByte]
  · go_ret
    exact ⟨rfl, rfl⟩
set_option maxHeartbeats 1000000 in
theorem index_any (s : ByteArray) (c : UInt8) (w : World) :
    Calls Tryz.prog 128 #[.string s, .string ⟨#[c]⟩] w fun e w' => e = .returned (.int .i64 (Lib.indexByte s.data.toList c)) ∧ w' = w := by
  go_enter Tryz.func128, Tryz.ntmps128
  go_wp2_with (go_at_call 179; refine (sindex_any _ _ _).mono ?_; rintro e w' ⟨rfl, rfl⟩)
  go_ret
  exact ⟨rfl, rfl⟩
set_option maxHeartbeats 1000000 in
set_option maxRecDepth 100000 in
theorem count_any (s : ByteArray) (c : UInt8) (w : World) :
    Calls Tryz.prog 127 #[.string s, .string ⟨#[c]⟩] w fun e w' => e = .returned (.int .i64 (Lib.countByte s.data.toList c)) ∧ w' = w := by
  go_enter Tryz.func127, Tryz.ntmps127
  go_wp2
  rw [run_callFunc_extern Tryz.func178 (by kernel_rfl) (by kernel_rfl) (by kernel_rfl) (e := Extern.BytealgCount.count) (by kernel_rfl), Lib.run_countString]
  simp only [Result.andThen]
  rw [Oper.upon_value]
  go_wp2
  go_ret
  exact ⟨rfl, rfl⟩
end Go.Proofs.YtnpihllannobgaaGreatDoor
namespace Go.Proofs.YtnpihllannobgaaGreatDoor
set_option linter.unusedVariables false
set_option linter.unusedSimpArgs false
open Go.ChangeShapes Go.WideShapes Go.ChangeAt Go.RowKit

/-- a line of two words, with one blank between them. -/
structure Ln2 (s : ByteArray) (p : Nat) (a d : ByteArray) : Prop where
  cnt : Lib.countByte s.data.toList 32 = 1
  ix : Lib.indexByte s.data.toList 32 = (p : Int)
  lt : p + 1 < s.size
  sz : s.size ≤ 1000
  ea : s.extract 0 p = a
  ed : s.extract (p + 1) s.size = d
  a0 : (a.toList == ([] : List UInt8)) = false
  d0 : (d.toList == ([] : List UInt8)) = false
def twoB (a d : ByteArray) : Obj := .cells #[.string a, .string d] 9
section
variable {s a d : ByteArray} {p : Nat} {w : World}
set_option maxHeartbeats 4000000 in
set_option maxRecDepth 100000 in
theorem gensplit_any (h : Ln2 s p a d) (w : World) :
    Calls Tryz.prog 84 #[.string s, .string ⟨#[32]⟩, .int .i64 0, .int .i64 (-1)] w (fun e w' => e = .returned (.slice (some ⟨w.heap.size, 0, none⟩) 2 2) ∧ w' = w.alloc (twoB a d)) := by
  obtain ⟨hc, hi, hp, hs, ha, hd, _, _⟩ := h
  have HC := Lib.hid (count_any s 32 w)
  rw [hc] at HC
  have hm : min (2 : Int) ((s.size : Int) + 1) = 2 := by omega
  have hk : ∀ wx : World, (Instr.makeSlice 109 (.int .i64 2) (.int .i64 2)).run Tryz.prog wx = .ok (.slice (some ⟨wx.heap.size, 0, none⟩) 2 2) (wx.alloc (.cells #[.string ⟨#[]⟩, .string ⟨#[]⟩] 9)) := fun wx => by kernel_rfl
  have HA := Lib.hid (And.intro ha hd)
  clear ha hd
  unfold twoB
  go_enter Tryz.func84, Tryz.ntmps84
  go_wp2_with fail
  (with_reducible refine HC.out.mono ?_)
  rintro en w1 ⟨rfl, rfl⟩
  go_wp2_with fail
  with_reducible refine wp_loop_rounds 2 ?_
  rw [rounds_succ]
  go_wp2_with fail
  (with_reducible refine (index_any _ _ _).mono ?_)
  rintro en w2 ⟨rfl, rfl⟩
  rw [hi]
  have b1 : decide ((p : Int) < 0) = false := by simp
  go_wp2_with fail
  rw [rounds_succ]
  go_wp2_with fail
  go_ret
  rw [HA.out.1, HA.out.2]
  exact ⟨rfl, rfl⟩
set_option maxRecDepth 100000 in
theorem split_any (h : Ln2 s p a d) (w : World) :
    Calls Tryz.prog 45 #[.string s, .string ⟨#[32]⟩] w (fun e w' => e = .returned (.slice (some ⟨w.heap.size, 0, none⟩) 2 2) ∧ w' = w.alloc (twoB a d)) := by
  have HC := Lib.hid (gensplit_any h w)
  clear h
  go_enter Tryz.func45, Tryz.ntmps45
  go_wp2_with fail
  (with_reducible refine HC.out.mono ?_)
  rintro en w1 ⟨rfl, rfl⟩
  go_wp2_with fail
  go_ret
  exact ⟨rfl, rfl⟩
theorem cf46 (args : Array Value) (w' : World) : (callFunc 46 args).run Tryz.prog w' = .ok (.enter 46 args) w' := by kernel_rfl
theorem line1_any (a : ByteArray) (ha : (a.toList == ([] : List UInt8)) = false) (w : World) : Calls Tryz.prog 46 #[.string a] w (fun e w' => e = .returned (.bool false) ∧ w' = w) := by
  go_enter Tryz.func46, Tryz.ntmps46
  go_wp2_with fail
  go_ret
  exact ⟨rfl, rfl⟩
theorem two_cells {g : Nat} (hb : w.heap[g]? = some (twoB a d)) : w.cell? ⟨g, 0, none⟩ = some (.string a) ∧ w.cell? ⟨g, 1, none⟩ = some (.string d) :=
  ⟨by rw [cell_of_block hb]; rfl, by rw [cell_of_block hb]; rfl⟩
set_option maxRecDepth 100000 in
theorem ixstr_any {g : Nat} (ha : (a.toList == ([] : List UInt8)) = false) (hd : (d.toList == ([] : List UInt8)) = false) (hb : w.heap[g]? = some (twoB a d)) :
    Calls Tryz.prog 83 #[.slice (some ⟨g, 0, none⟩) 2 2, .func (.func 46) #[] #[]] w (fun e w' => e = .returned (.int .i64 (-1)) ∧ w' = w) := by
  obtain ⟨c0, c1⟩ := two_cells hb
  have H1 := Lib.hid (line1_any a ha w)
  have H2 := Lib.hid (line1_any d hd w)
  have hcf := cf46
  clear ha hd hb
  go_enter Tryz.func83, Tryz.ntmps83
  go_wp2_with fail
  with_reducible refine wp_loop_rounds 3 ?_
  rw [rounds_succ]
  go_wp2_with fail
  (with_reducible refine H1.out.mono ?_)
  rintro en w1 ⟨rfl, rfl⟩
  go_wp2_with fail
  rw [rounds_succ]
  go_wp2_with fail
  (with_reducible refine H2.out.mono ?_)
  rintro en w1 ⟨rfl, rfl⟩
  go_wp2_with fail
  rw [rounds_succ]
  go_wp2_with fail
  go_ret
  exact ⟨rfl, rfl⟩
set_option maxRecDepth 100000 in
theorem delstr_any {g : Nat} (ha : (a.toList == ([] : List UInt8)) = false) (hd : (d.toList == ([] : List UInt8)) = false) (hb : w.heap[g]? = some (twoB a d)) :
    Calls Tryz.prog 44 #[.slice (some ⟨g, 0, none⟩) 2 2, .func (.func 46) #[] #[]] w (fun e w' => e = .returned (.slice (some ⟨g, 0, none⟩) 2 2) ∧ w' = w) := by
  have H1 := Lib.hid (ixstr_any ha hd hb)
  clear ha hd hb
  go_enter Tryz.func44, Tryz.ntmps44
  go_wp2_with fail
  (with_reducible refine H1.out.mono ?_)
  rintro en w1 ⟨rfl, rfl⟩
  go_wp2_with fail
  go_ret
  exact ⟨rfl, rfl⟩
end
end Go.Proofs.YtnpihllannobgaaGreatDoor
namespace Go.Proofs.YtnpihllannobgaaGreatDoor
set_option linter.unusedVariables false
set_option linter.unusedSimpArgs false
open Go.ChangeShapes Go.WideShapes Go.ChangeAt Go.RowKit

def PQ (v : Value) (w : World) (e : Ending) (w' : World) : Prop := e = .returned v ∧ Chg (fun _ => False) w w'
/-- the digits that are read here. -/
def Dg (k : Int) (d : ByteArray) : Prop := (k = 0 ∧ d = ⟨#[48]⟩) ∨ (k = 2 ∧ d = ⟨#[50]⟩) ∨ (k = 3 ∧ d = ⟨#[51]⟩)
theorem Chg.bytes (w : World) (e : TypeId) (s : ByteArray) : Chg (fun _ => False) w (Lib.bytesWorld w e s) :=
  ⟨rfl, rfl, rfl, by rw [Lib.bytesWorld_size]; omega, fun k hk _ => Lib.bytesWorld_at_old w e s k hk⟩
theorem bytes1 (w : World) (b : UInt8) (n : Int) (hn : (b.toNat : Int) = n) : ∃ W q, (convert 9 33 (.string ⟨#[b]⟩)).run Tryz.prog w = .ok (.slice (some ⟨w.heap.size, 0, none⟩) 1 q) W ∧ W.cell? ⟨w.heap.size, 0, none⟩ = some (.int .u8 n) ∧ Chg (fun _ => False) w W := by
  refine ⟨_, _, Lib.run_convert_string_bytes (P := Tryz.prog) w 9 33 5 ⟨#[b]⟩ Tryz.underlying9 Tryz.underlying33 Tryz.underlying5, ?_, Chg.bytes w 5 _⟩
  have := Lib.bytesWorld_cell w 5 ⟨#[b]⟩ 0 (show 0 < 1 by decide)
  rw [this, ← hn]; rfl
section
variable {d : ByteArray} {k : Int} {w : World}
set_option maxHeartbeats 4000000 in
set_option maxRecDepth 100000 in
theorem puint_any (h : Dg k d) (w : World) : Calls Tryz.prog 266 #[.string d, .int .i64 10, .int .i64 64] w (PQ (.tuple #[.int .u64 k, .nilIface]) w) := by
  have e1 : IntKind.u64.wrap (IntKind.u64.wrap 18446744073709551616 - 1) = 18446744073709551615 := by decide
  obtain ⟨b, hd, W, q, hcv, hc, G⟩ : ∃ (b : UInt8), d = ⟨#[b]⟩ ∧ ∃ W q, (convert 9 33 (.string ⟨#[b]⟩)).run Tryz.prog w = .ok (.slice (some ⟨w.heap.size, 0, none⟩) 1 q) W ∧ W.cell? ⟨w.heap.size, 0, none⟩ = some (.int .u8 (48 + k)) ∧ Chg (fun _ => False) w W := by
    rcases h with ⟨rfl, rfl⟩ | ⟨rfl, rfl⟩ | ⟨rfl, rfl⟩
    · exact ⟨48, rfl, bytes1 w 48 48 rfl⟩
    · exact ⟨50, rfl, bytes1 w 50 50 rfl⟩
    · exact ⟨51, rfl, bytes1 w 51 51 rfl⟩
  have HG := Lib.hid G
  clear G
  rcases h with ⟨rfl, rfl⟩ | ⟨rfl, rfl⟩ | ⟨rfl, rfl⟩ <;> cases hd
  all_goals
    go_enter Tryz.func266, Tryz.ntmps266
    go_wp2_with fail
    with_reducible refine wp_loop_rounds 2 ?_
    rw [rounds_succ]
    go_wp2_with fail
    rw [rounds_succ]
    go_wp2_with fail
    go_ret2
    exact ⟨rfl, HG.out⟩
set_option maxHeartbeats 4000000 in
set_option maxRecDepth 100000 in
theorem pint_any (h : Dg k d) (w : World) : Calls Tryz.prog 236 #[.string d, .int .i64 10, .int .i64 64] w (PQ (.tuple #[.int .i64 k, .nilIface]) w) := by
  have HP := Lib.hid (puint_any h w)
  rcases h with ⟨rfl, rfl⟩ | ⟨rfl, rfl⟩ | ⟨rfl, rfl⟩
  all_goals
    go_enter Tryz.func236, Tryz.ntmps236
    go_wp2_with fail
    (with_reducible refine HP.out.mono ?_)
    rintro en w1 ⟨rfl, G⟩
    have HG := Lib.hid G
    clear G HP
    go_wp2_with fail
    go_ret2
    exact ⟨rfl, HG.out⟩
set_option maxHeartbeats 4000000 in
set_option maxRecDepth 100000 in
theorem parse_any (h : Dg k d) (w : World) : Calls Tryz.prog 182 #[.string d, .int .i64 10, .int .i64 64] w (PQ (.tuple #[.int .i64 k, .nilIface]) w) := by
  have HP := Lib.hid (pint_any h w)
  clear h
  go_enter Tryz.func182, Tryz.ntmps182
  go_wp2_with fail
  (with_reducible refine HP.out.mono ?_)
  rintro en w1 ⟨rfl, G⟩
  have HG := Lib.hid G
  clear G HP
  go_wp2_with fail
  go_ret2
  exact ⟨rfl, HG.out⟩
set_option maxHeartbeats 4000000 in
set_option maxRecDepth 100000 in
theorem fint_any (h : Dg k d) (w : World) : Calls Tryz.prog 141 #[.int .i64 k, .int .i64 10] w (fun e w' => e = .returned (.string d) ∧ w' = w) := by
  rcases h with ⟨rfl, rfl⟩ | ⟨rfl, rfl⟩ | ⟨rfl, rfl⟩
  all_goals
    go_enter Tryz.func141, Tryz.ntmps141
    go_wp2
    go_ret
    exact ⟨rfl, rfl⟩
set_option maxHeartbeats 4000000 in
set_option maxRecDepth 100000 in
theorem format_any (h : Dg k d) (w : World) : Calls Tryz.prog 90 #[.int .i64 k, .int .i64 10] w (fun e w' => e = .returned (.string d) ∧ w' = w) := by
  have HP := Lib.hid (fint_any h w)
  clear h
  go_enter Tryz.func90, Tryz.ntmps90
  go_wp2_with fail
  (with_reducible refine HP.out.mono ?_)
  rintro en w1 ⟨rfl, rfl⟩
  go_wp2_with fail
  go_ret
  exact ⟨rfl, rfl⟩
end
end Go.Proofs.YtnpihllannobgaaGreatDoor
namespace Go.Proofs.YtnpihllannobgaaGreatDoor
set_option linter.unusedVariables false
set_option linter.unusedSimpArgs false
open Go.ChangeShapes Go.WideShapes Go.ChangeAt Go.RowKit

/-- one word is left. -/
structure Wo1 (w : World) (wb g : Nat) (d : ByteArray) : Prop where
  blk : w.heap[wb]? = some (.cells #[.slice (some ⟨g, 1, none⟩) 1 1, .bool false] 117 (0, 0))
  cell : w.cell? ⟨g, 1, none⟩ = some (.string d)
/-- none is left. -/
def Wo0 (w : World) (wb : Nat) : Prop := ∃ A c, w.heap[wb]? = some (.cells #[.slice A 0 c, .bool false] 117 (0, 0))
def PWo (v : Value) (wb : Nat) (w : World) (e : Ending) (w' : World) : Prop := e = .returned v ∧ Wo0 w' wb ∧ Chg (fun q => q = wb) w w'
section
variable {d : ByteArray} {k : Int} {w : World} {wb g : Nat}
theorem cell2 {b : Nat} {t : TypeId} {v0 v1 : Value} (h : w.heap[b]? = some (.cells #[v0, v1] t (0, 0))) : w.cell? ⟨b, 0, none⟩ = some v0 ∧ w.cell? ⟨b, 1, none⟩ = some v1 := by
  refine ⟨?_, ?_⟩ <;> rw [cell_of_block h] <;> rfl
set_option maxRecDepth 100000 in
theorem wnext_any (h : Wo1 w wb g d) : Calls Tryz.prog 139 #[.pointer (some ⟨wb, 0, none⟩)] w (PWo (.string d) wb w) := by
  obtain ⟨c0, c1⟩ := cell2 h.blk
  have f0 := frozen_of_block h.blk 0
  have cg := h.cell
  have HB := Lib.hid h.blk
  clear h
  go_enter Tryz.func139, Tryz.ntmps139
  go_wp2_with fail
  go_ret
  exact ⟨rfl, ⟨_, _, block_set HB.out 0 _⟩, Chg.set _ _ _ rfl⟩
theorem Wo0.step {S : Nat → Prop} {w' : World} (h : Wo0 w wb) (g : Chg S w w') (hS : ¬ S wb) : Wo0 w' wb := by
  obtain ⟨A, c, h⟩ := h
  exact ⟨A, c, Chg.keep g h hS⟩
set_option maxHeartbeats 1000000 in
set_option maxRecDepth 100000 in
theorem wnumber_any (h : Wo1 w wb g d) (hd : Dg k d) : Calls Tryz.prog 132 #[.pointer (some ⟨wb, 0, none⟩)] w (PWo (.int .i64 k) wb w) := by
  have HN := Lib.hid (wnext_any h)
  have HP := Lib.hid (fun w => parse_any hd w)
  have HF := Lib.hid (fun w => format_any hd w)
  have bq : (d.toList == d.toList) = true := by simp
  clear h hd
  go_enter Tryz.func132, Tryz.ntmps132
  go_wp2_with fail
  (with_reducible refine HN.out.mono ?_)
  rintro en w1 ⟨rfl, h0, G⟩
  have H1 := Lib.hid (And.intro h0 G)
  clear HN h0 G
  go_wp2_with fail
  (with_reducible refine (HP.out _).mono ?_)
  rintro en w2 ⟨rfl, G⟩
  obtain ⟨A, c, hb⟩ := H1.out.1.step G (fun e => e)
  obtain ⟨c0, c1⟩ := cell2 hb
  have f1 := frozen_of_block hb 1
  have H2 := Lib.hid (And.intro hb (H1.out.2.trans G.none))
  clear HP G hb
  go_wp2_with fail
  (with_reducible refine (HF.out _).mono ?_)
  rintro en w3 ⟨rfl, rfl⟩
  clear HF
  go_wp2_with fail
  go_ret
  refine ⟨rfl, ⟨_, _, block_set H2.out.1 1 _⟩, H2.out.2.trans (Chg.set _ _ _ rfl)⟩
set_option maxHeartbeats 1000000 in
set_option maxRecDepth 100000 in
theorem wfrom_any (h : Wo1 w wb g d) (hd : Dg k d) (lo hi : Int) (h1 : lo ≤ k) (h2 : k ≤ hi) : Calls Tryz.prog 129 #[.pointer (some ⟨wb, 0, none⟩), .int .i64 lo, .int .i64 hi] w (PWo (.int .i64 k) wb w) := by
  have HN := Lib.hid (wnumber_any h hd)
  have b1 : decide (k < lo) = false := by simp; omega
  have b2 : decide (hi < k) = false := by simp; omega
  clear h hd h1 h2
  go_enter Tryz.func129, Tryz.ntmps129
  go_wp2_with fail
  (with_reducible refine HN.out.mono ?_)
  rintro en w1 ⟨rfl, h0, G⟩
  obtain ⟨A, c, hb⟩ := h0
  obtain ⟨c0, c1⟩ := cell2 hb
  have f1 := frozen_of_block hb 1
  have H1 := Lib.hid (And.intro hb G)
  clear HN hb G
  go_wp2_with fail
  go_ret
  refine ⟨rfl, ⟨_, _, block_set H1.out.1 1 _⟩, H1.out.2.trans (Chg.set _ _ _ rfl)⟩
set_option maxRecDepth 100000 in
theorem wdone_any (h : Wo0 w wb) : Calls Tryz.prog 91 #[.pointer (some ⟨wb, 0, none⟩)] w (fun e w' => e = .returned (.bool true) ∧ w' = w) := by
  obtain ⟨A, c, hb⟩ := h
  obtain ⟨c0, c1⟩ := cell2 hb
  clear hb
  go_enter Tryz.func91, Tryz.ntmps91
  go_wp2_with fail
  go_ret
  exact ⟨rfl, rfl⟩
end
end Go.Proofs.YtnpihllannobgaaGreatDoor
