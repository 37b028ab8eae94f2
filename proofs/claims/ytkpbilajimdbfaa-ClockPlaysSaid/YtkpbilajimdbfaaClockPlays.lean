/- What the Go text of 'ClockPlays' does, walked: it returns true, and nothing that was there has turned. No condition but what a row says of its arguments. -/
import Derived.Test.YtkpbilajimdbfaaR
namespace Go.Proofs.Ytkpbilajimdbfaa
set_option linter.unusedVariables false
open Go.ChangeShapes Go.WideShapes Go.ChangeAt Go.RowKit
def Vk (w : World) (b : Nat) (do_ n : Int) : Prop := w.heap[b]? = some (.cells #[.int .i64 do_, .int .i64 n] 38 (0, 0))
theorem Vk.keep {w w' : World} {b : Nat} {x y : Int} {S : Nat → Prop} (h : Vk w b x y) (g : Chg S w w') (hs : ¬ S b) : Vk w' b x y := Chg.keep g h hs
theorem Vk.c1 {w : World} {b : Nat} {x y : Int} (h : Vk w b x y) : w.cell? ⟨b, 1, none⟩ = some (.int .i64 y) := by rw [cell_of_block h]; rfl
def VCall (c : Int × Int) : List Value := [.int .i64 c.1, .int .i64 c.2]
theorem call_of_trod {H : Type} {enc : TypeId × Value → H} {w : World} {base : Nat} {spare : Nat → Bool} {held : Bool} (n : Nat) (cs : List Value) (y : DataW H × List MemPlace) (hl : cs.length = 2)
    (h : DataW.trod enc Try.prog w base spare held n 38 cs = some y) : ∃ z, cs = VCall z ∧ True := by
  match cs, hl with
  | [c0, c1], _ =>
    have F := fields_of_trod Try.underlying38 (by kernel_rfl) h
    obtain ⟨_, _, h0⟩ := F 0 _ c0 rfl rfl
    obtain ⟨_, _, h1⟩ := F 1 _ c1 rfl rfl
    obtain ⟨a, e0, _⟩ := DataW.trod_int Try.underlying3 h0
    obtain ⟨b, e1, _⟩ := DataW.trod_int Try.underlying2 h1
    exact ⟨(a, b), by rw [(List.cons.inj e0).1, (List.cons.inj e1).1]; rfl, trivial⟩
set_option maxRecDepth 100000 in
set_option maxHeartbeats 2000000 in
theorem clockPlays_walk (a : Option Addr) (len cap : Nat) (zs : List (Int × Int)) (w : World) (hs : Sls 2 VCall w a len zs) :
    Calls Try.prog 6 #[.slice a len cap] w (PTrue w) := by
  have hl := hs.len
  go_enter Try.func6, Try.ntmps6
  go_wp2_with fail
  refine (new_any _).mono ?_
  rintro e w1 ⟨b, rfl, hb, k1, g1⟩
  go_wp2_with fail
  have r2 : Rk (w1.alloc (.cells #[.int .i64 0, .int .i64 0, .int .i64 0] 36 (0, 0))) w1.heap.size 0 0 0 := block_alloc _ _
  have g2 := Chg.alloc (fun _ => False) w1 (.cells #[.int .i64 0, .int .i64 0, .int .i64 0] 36 (0, 0))
  have hc := g1.size
  have hbc : b ≠ w1.heap.size := by have := lt_of_block k1; omega
  have k2 := k1.kept g2
  have G0 : Chg (fun k => w.heap.size ≤ k) w _ := g1.none.trans g2.none
  clear k1 g1 g2
  generalize w1.alloc (.cells #[.int .i64 0, .int .i64 0, .int .i64 0] 36 (0, 0)) = w2 at *
  generalize w1.heap.size = c at *
  go_loopw [12] (fun i wr => ∃ (k : Nat) (x y z : Int), k ≤ len ∧ k ≤ 300 ∧ i = .int .i64 k ∧ -1000000000000 ≤ x ∧ x ≤ 1000000000000 ∧ -1000000 * k ≤ y ∧ y ≤ 1000000 * k ∧ 0 ≤ z ∧ z ≤ k ∧ Ck wr b x y z ∧ Rk wr c x y z ∧ Chg (fun k => w.heap.size ≤ k) w wr) (fun i _ => len - (intOf i).toNat)
  case atStart => exact ⟨0, 0, 0, 0, by omega, by omega, rfl, by omega, by omega, by omega, by omega, by omega, by omega, k2, r2, G0⟩
  case round =>
    obtain ⟨k, x, y, z, hk, hk4, rfl, hx0, hx1, hy0, hy1, hz0, hz1, kk, rr, hg⟩ := hrel
    clear k2 r2 G0
    by_cases hgo : k < len ∧ k < 300
    · obtain ⟨hlt, h4⟩ := hgo
      obtain ⟨p, ⟨do_, n⟩, rfl, hz, hcell⟩ := hs.at hg hlt
      have hcell0 : wr.cell? (p.add (k * 2)) = some (.int .i64 do_) := hcell 0 (by omega)
      have hcell1 : wr.cell? { block := (p.add (k * 2)).block, off := (p.add (k * 2)).off + 1 } = some (.int .i64 n) := hcell 1 (by omega)
      clear hz hs hcell
      by_cases h0 : do_ = 0
      · have b0 : (do_ == 0) = true := beq_iff_eq.2 h0
        have b1 : (do_ == 1) = false := by rw [beq_eq_false_iff_ne]; omega
        clear h0
        go_wp2_with fail
        have ga := Chg.alloc (fun _ => False) wr (.cells #[.int .i64 do_, .int .i64 n] 38)
        have vA : Vk (wr.alloc (.cells #[.int .i64 do_, .int .i64 n] 38)) wr.heap.size do_ n := block_alloc _ _
        have kA := kk.kept ga
        have rA := rr.kept ga
        have hsb : wr.heap.size ≠ b := by have := lt_of_block kk; omega
        have hsc : wr.heap.size ≠ c := by have := lt_of_block rr; omega
        have gA := hg.trans ga.none
        clear kk rr hg ga hcell0 hcell1
        generalize wr.alloc (.cells #[.int .i64 do_, .int .i64 n] 38) = wa at *
        generalize wr.heap.size = s at *
        refine (put_any _ _ _ _ _ _ kA).mono ?_
        rintro e w3 ⟨rfl, k3, g3⟩
        have r3 := rA.keep g3 (fun h => hbc h.symm)
        have v3 := vA.keep g3 hsb
        have G3 := gA.trans (g3.one hb)
        have hcell1 := v3.c1
        clear kA rA vA g3 gA
        go_wp2_with fail
        refine (rput_any _ _ _ _ _ _ r3).mono ?_
        rintro e w4 ⟨rfl, r4, g4⟩
        have k4 := k3.keep g4 hbc
        have G4 := G3.trans (g4.one hc)
        clear k3 r3 v3 g4 G3 hcell1
        obtain ⟨x', y', z', k5, r5, hx0', hx1', hy0', hy1', hz0', hz1'⟩ : ∃ x' y' z' : Int, Ck w4 b x' y' z' ∧ Rk w4 c x' y' z' ∧ -1000000000000 ≤ x' ∧ x' ≤ 1000000000000 ∧ -1000000 * (k + 1) ≤ y' ∧ y' ≤ 1000000 * (k + 1) ∧ 0 ≤ z' ∧ z' ≤ k + 1 :=
          ⟨_, _, _, k4, r4, (cutf_bd n 1000000000000 (by omega)).1, (cutf_bd n 1000000000000 (by omega)).2, by omega, by omega, by omega, by omega⟩
        obtain ⟨d0, d1⟩ := downf_bd y' (by omega) (by omega)
        have hc2 := r5.c2
        have HK := Lib.hid k5
        have HR := Lib.hid r5
        clear k4 r4 k5 r5
        go_wp2_with fail
        go_quiet (first | (go_at_call 12; exact Calls.quiet_of (off_quiet _ _ _ _ _ HK.out (by omega) (by omega))) | (go_at_call 19; exact Calls.quiet_of_same (roff_any _ _ _ _ _ HR.out (by omega) (by omega))) | (go_at_call 13; exact Calls.quiet_of_same (slots_any _ _ _ _ _ HK.out)))
        go_wp2_with fail
        go_roundw
        case rel => exact ⟨k + 1, x', y', z', by omega, by omega, by go_num, by omega, by omega, by omega, by omega, by omega, by omega, HK.out, HR.out, G4.trans (Chg.drewN _ _ _)⟩
        case measure => simp [intOf]; omega
      · have b0 : (do_ == 0) = false := by rw [beq_eq_false_iff_ne]; omega
        by_cases h1 : do_ = 1
        · have b1 : (do_ == 1) = true := beq_iff_eq.2 h1
          clear h1 h0
          go_wp2_with fail
          have ga := Chg.alloc (fun _ => False) wr (.cells #[.int .i64 do_, .int .i64 n] 38)
          have vA : Vk (wr.alloc (.cells #[.int .i64 do_, .int .i64 n] 38)) wr.heap.size do_ n := block_alloc _ _
          have kA := kk.kept ga
          have rA := rr.kept ga
          have hsb : wr.heap.size ≠ b := by have := lt_of_block kk; omega
          have hsc : wr.heap.size ≠ c := by have := lt_of_block rr; omega
          have gA := hg.trans ga.none
          clear kk rr hg ga hcell0 hcell1
          generalize wr.alloc (.cells #[.int .i64 do_, .int .i64 n] 38) = wa at *
          generalize wr.heap.size = s at *
          refine (move_any _ _ _ _ _ _ kA (by omega)).mono ?_
          rintro e w3 ⟨rfl, k3, g3⟩
          have r3 := rA.keep g3 (fun h => hbc h.symm)
          have v3 := vA.keep g3 hsb
          have G3 := gA.trans (g3.one hb)
          have hcell1 := v3.c1
          clear kA rA vA g3 gA
          go_wp2_with fail
          refine (rmove_any _ _ _ _ _ _ r3 (by omega)).mono ?_
          rintro e w4 ⟨rfl, r4, g4⟩
          have k4 := k3.keep g4 hbc
          have G4 := G3.trans (g4.one hc)
          clear k3 r3 v3 g4 G3 hcell1
          obtain ⟨x', y', z', k5, r5, hx0', hx1', hy0', hy1', hz0', hz1'⟩ : ∃ x' y' z' : Int, Ck w4 b x' y' z' ∧ Rk w4 c x' y' z' ∧ -1000000000000 ≤ x' ∧ x' ≤ 1000000000000 ∧ -1000000 * (k + 1) ≤ y' ∧ y' ≤ 1000000 * (k + 1) ∧ 0 ≤ z' ∧ z' ≤ k + 1 :=
            ⟨_, _, _, k4, r4, (cutf_bd _ 1000000000000 (by omega)).1, (cutf_bd _ 1000000000000 (by omega)).2, by omega, by omega, by omega, by omega⟩
          obtain ⟨d0, d1⟩ := downf_bd y' (by omega) (by omega)
          have hc2 := r5.c2
          have HK := Lib.hid k5
          have HR := Lib.hid r5
          clear k4 r4 k5 r5
          go_wp2_with fail
          go_quiet (first | (go_at_call 12; exact Calls.quiet_of (off_quiet _ _ _ _ _ HK.out (by omega) (by omega))) | (go_at_call 19; exact Calls.quiet_of_same (roff_any _ _ _ _ _ HR.out (by omega) (by omega))) | (go_at_call 13; exact Calls.quiet_of_same (slots_any _ _ _ _ _ HK.out)))
          go_wp2_with fail
          go_roundw
          case rel => exact ⟨k + 1, x', y', z', by omega, by omega, by go_num, by omega, by omega, by omega, by omega, by omega, by omega, HK.out, HR.out, G4.trans (Chg.drewN _ _ _)⟩
          case measure => simp [intOf]; omega
        · have b1 : (do_ == 1) = false := by rw [beq_eq_false_iff_ne]; omega
          clear h1 h0
          go_wp2_with fail
          have ga := Chg.alloc (fun _ => False) wr (.cells #[.int .i64 do_, .int .i64 n] 38)
          have vA : Vk (wr.alloc (.cells #[.int .i64 do_, .int .i64 n] 38)) wr.heap.size do_ n := block_alloc _ _
          have kA := kk.kept ga
          have rA := rr.kept ga
          have hsb : wr.heap.size ≠ b := by have := lt_of_block kk; omega
          have hsc : wr.heap.size ≠ c := by have := lt_of_block rr; omega
          have gA := hg.trans ga.none
          clear kk rr hg ga hcell0 hcell1
          generalize wr.alloc (.cells #[.int .i64 do_, .int .i64 n] 38) = wa at *
          generalize wr.heap.size = s at *
          refine (slot_any _ _ _ _ _ _ kA (by omega) (by omega)).mono ?_
          rintro e w3 ⟨rfl, k3, g3⟩
          have r3 := rA.keep g3 (fun h => hbc h.symm)
          have v3 := vA.keep g3 hsb
          have G3 := gA.trans (g3.one hb)
          have hcell1 := v3.c1
          clear kA rA vA g3 gA
          go_wp2_with fail
          refine (rslot_any _ _ _ _ _ _ r3 (by omega) (by omega)).mono ?_
          rintro e w4 ⟨rfl, r4, g4⟩
          have k4 := k3.keep g4 hbc
          have G4 := G3.trans (g4.one hc)
          clear k3 r3 v3 g4 G3 hcell1
          obtain ⟨x', y', z', k5, r5, hx0', hx1', hy0', hy1', hz0', hz1'⟩ : ∃ x' y' z' : Int, Ck w4 b x' y' z' ∧ Rk w4 c x' y' z' ∧ -1000000000000 ≤ x' ∧ x' ≤ 1000000000000 ∧ -1000000 * (k + 1) ≤ y' ∧ y' ≤ 1000000 * (k + 1) ∧ 0 ≤ z' ∧ z' ≤ k + 1 :=
            ⟨_, _, _, k4, r4, by omega, by omega, by have := cutf_bd n 100 (by omega); omega, by have := cutf_bd n 100 (by omega); omega, by omega, by omega⟩
          obtain ⟨d0, d1⟩ := downf_bd y' (by omega) (by omega)
          have hc2 := r5.c2
          have HK := Lib.hid k5
          have HR := Lib.hid r5
          clear k4 r4 k5 r5
          go_wp2_with fail
          go_quiet (first | (go_at_call 12; exact Calls.quiet_of (off_quiet _ _ _ _ _ HK.out (by omega) (by omega))) | (go_at_call 19; exact Calls.quiet_of_same (roff_any _ _ _ _ _ HR.out (by omega) (by omega))) | (go_at_call 13; exact Calls.quiet_of_same (slots_any _ _ _ _ _ HK.out)))
          go_wp2_with fail
          go_roundw
          case rel => exact ⟨k + 1, x', y', z', by omega, by omega, by go_num, by omega, by omega, by omega, by omega, by omega, by omega, HK.out, HR.out, G4.trans (Chg.drewN _ _ _)⟩
          case measure => simp [intOf]; omega
    · by_cases hlt : k < len
      · obtain ⟨p, ⟨do_, n⟩, rfl, hz, hcell⟩ := hs.at hg hlt
        have h4 : ¬ k < 300 := by omega
        have hcell0 : wr.cell? (p.add (k * 2)) = some (.int .i64 do_) := hcell 0 (by omega)
        have hcell1 : wr.cell? { block := (p.add (k * 2)).block, off := (p.add (k * 2)).off + 1 } = some (.int .i64 n) := hcell 1 (by omega)
        clear hz hs hgo hcell
        go_wp2_with fail
        have hg := hg.trans (Chg.alloc _ wr (.cells #[.int .i64 do_, .int .i64 n] 38))
        refine (awake_true _).mono ?_
        rintro e w5 ⟨rfl, g5⟩
        go_wp2_with fail
        go_ret
        exact ⟨rfl, (hg.trans g5.none).fresh⟩
      · clear hgo
        go_wp2_with fail
        refine (awake_true _).mono ?_
        rintro e w5 ⟨rfl, g5⟩
        go_wp2_with fail
        go_ret
        exact ⟨rfl, (hg.trans g5.none).fresh⟩
end Go.Proofs.Ytkpbilajimdbfaa
