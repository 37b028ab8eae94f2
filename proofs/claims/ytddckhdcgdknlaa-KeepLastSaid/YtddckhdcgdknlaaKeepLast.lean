/- What the Go text of 'KeepLast' does, walked: it returns true, and nothing that was there has turned. No condition but what a row says of its arguments. -/
import Derived.Test.YtddckhdcgdknlaaKeepJust
namespace Go.Proofs.Ytddckhdcgdknlaa
set_option linter.unusedVariables false
open Go.ChangeShapes Go.WideShapes Go.ChangeAt Go.RowKit
set_option maxRecDepth 100000 in
/-- behind the first loop. -/
theorem keepLast_walk (n m : Int) (a : Option Addr) (len cap : Nat) (zs : List Bool) (w : World) (hs : Sl Value.bool w a len zs) :
    Calls Try.prog 6 #[.int .i64 n, .slice a len cap, .int .i64 m] w (PTrue w) := by
  have hl : len ≤ 9223372036854775807 := by have := hs.2.1; unfold maxLen at this; omega
  obtain ⟨p, hp, he⟩ := umod n 100 (by omega) (by omega)
  obtain ⟨q, hq, hf⟩ := umod m 200 (by omega) (by omega)
  have hev := every_id p (by omega)
  go_enter Try.func6, Try.ntmps6
  go_wp2_with fail
  (try rw [he]); (try rw [hf]); clear he hf
  refine (new_any _ _).mono ?_
  rintro e w1 ⟨b, rfl, hb, k1, g1⟩
  go_wp2_with fail
  refine (new_any _ _).mono ?_
  rintro e w2 ⟨c, rfl, hc, r2, g2⟩
  have k2 := k1.kept g2
  rw [hev] at k2 r2
  clear hev
  have hbc : b ≠ c := by have := lt_of_block k1; omega
  have G0 : Chg (fun k => w.heap.size ≤ k) w w2 := g1.none.trans g2.none
  have hc' : w.heap.size ≤ c := by have := g1.size; omega
  clear k1 g1 g2 hc
  go_wp2_with fail
  go_loopw [26] (fun i wr => ∃ (k : Nat) (s : Int), k ≤ len ∧ k ≤ 200 ∧ i = .int .i64 k ∧ 0 ≤ s ∧ s ≤ k ∧ Kp wr b (1 + (p : Int)) s ∧ Kp wr c (1 + (p : Int)) 0 ∧ Chg (fun k => w.heap.size ≤ k) w wr) (fun i _ => len - (intOf i).toNat)
  case atStart => exact ⟨0, 0, by omega, by omega, rfl, by omega, by omega, k2, r2, G0⟩
  case round =>
    obtain ⟨k, s, hk, hk4, rfl, hs0, hsk, kk, rr, hg⟩ := hrel
    clear k2 r2 G0
    by_cases hlt : k < len
    · obtain ⟨x, z, rfl, hz, hcell⟩ := hs.at hg hlt
      clear hz hs
      by_cases h4 : k < 200
      · cases z
        case true =>
          go_wp2_with fail
          refine (heard_any _ _ _ _ kk).mono ?_
          rintro e w3 ⟨rfl, k3, g3⟩
          have r3 := rr.keep g3 (fun h => hbc h.symm)
          go_wp2_with fail
          go_roundw
          case rel => exact ⟨k + 1, 0, by omega, by omega, by go_num, by omega, by omega, k3, r3, hg.trans (g3.one hb)⟩
          case measure => simp [intOf]; omega
        case false =>
          go_wp2_with fail
          refine (slot_any _ _ _ _ (s+1) kk (by omega) (by omega) (by omega)).mono ?_
          rintro e w3 ⟨rfl, k3, g3⟩
          have r3 := rr.keep g3 (fun h => hbc h.symm)
          go_wp2_with fail
          go_roundw
          case rel => exact ⟨k + 1, s + 1, by omega, by omega, by go_num, by omega, by omega, k3, r3, hg.trans (g3.one hb)⟩
          case measure => simp [intOf]; omega
      · go_wp2_with fail
        refine (heard_any _ _ _ _ kk).mono ?_
        rintro e w3 ⟨rfl, k3, g3⟩
        have r3 := rr.keep g3 (fun h => hbc h.symm)
        have G3 := hg.trans (g3.one hb)
        clear kk rr hg g3
        go_wp2_with fail
        go_loopw [42] (fun i wr => ∃ (k : Nat), k ≤ q ∧ i = .int .i64 k ∧ Kp wr b (1 + (p : Int)) k ∧ Kp wr c (1 + (p : Int)) k ∧ Chg (fun k => w.heap.size ≤ k) w wr) (fun i _ => q - (intOf i).toNat)
        case atStart => exact ⟨0, by omega, rfl, k3, r3, G3⟩
        case round =>
          obtain ⟨j, hj, rfl, kk, rr, hg⟩ := hrel
          clear k3 r3 G3
          by_cases hjq : j < q
          · go_wp2_with fail
            refine (slot_any _ _ _ _ (j+1) kk (by omega) (by omega) (by omega)).mono ?_
            rintro e w4 ⟨rfl, k4, g4⟩
            have r4 := rr.keep g4 (fun h => hbc h.symm)
            go_wp2_with fail
            refine (slot_any _ _ _ _ (j+1) r4 (by omega) (by omega) (by omega)).mono ?_
            rintro e w5 ⟨rfl, r5, g5⟩
            have k5 := k4.keep g5 hbc
            go_wp2_with fail
            go_roundw
            case rel => exact ⟨j + 1, by omega, by go_num, k5, r5, (hg.trans (g4.one hb)).trans (g5.one hc')⟩
            case measure => simp [intOf]; omega
          · obtain rfl : j = q := by omega
            go_wp2_with fail
            refine (since_any _ _ _ _ kk).mono ?_
            rintro e w5 ⟨rfl, rfl⟩
            go_wp2_with fail
            refine (since_any _ _ _ _ rr).mono ?_
            rintro e w5 ⟨rfl, rfl⟩
            go_wp2_with fail
            obtain ⟨v, hv⟩ : ∃ v, decide (1 + (p : Int) ≤ j) = v := ⟨_, rfl⟩
            have HV := Lib.hid hv
            clear hv
            refine (due_any _ _ _ _ _ kk HV.out).mono ?_
            rintro e w5 ⟨rfl, g5⟩
            have r5 := rr.kept g5
            have k5 := kk.kept g5
            go_wp2_with fail
            refine (due_any _ _ _ _ _ r5 HV.out).mono ?_
            rintro e w6 ⟨rfl, g6⟩
            have k6 := k5.kept g6
            go_wp2_with fail
            refine (since_any _ _ _ _ k6).mono ?_
            rintro e w7 ⟨rfl, rfl⟩
            go_wp2_with fail
            refine (awake_true _).mono ?_
            rintro e w8 ⟨rfl, g8⟩
            go_wp2_with fail
            go_ret
            exact ⟨rfl, (((hg.trans g5.none).trans g6.none).trans g8.none).fresh⟩
    · go_wp2_with fail
      refine (heard_any _ _ _ _ kk).mono ?_
      rintro e w3 ⟨rfl, k3, g3⟩
      have r3 := rr.keep g3 (fun h => hbc h.symm)
      have G3 := hg.trans (g3.one hb)
      clear kk rr hg g3
      go_wp2_with fail
      go_loopw [42] (fun i wr => ∃ (k : Nat), k ≤ q ∧ i = .int .i64 k ∧ Kp wr b (1 + (p : Int)) k ∧ Kp wr c (1 + (p : Int)) k ∧ Chg (fun k => w.heap.size ≤ k) w wr) (fun i _ => q - (intOf i).toNat)
      case atStart => exact ⟨0, by omega, rfl, k3, r3, G3⟩
      case round =>
        obtain ⟨j, hj, rfl, kk, rr, hg⟩ := hrel
        clear k3 r3 G3
        by_cases hjq : j < q
        · go_wp2_with fail
          refine (slot_any _ _ _ _ (j+1) kk (by omega) (by omega) (by omega)).mono ?_
          rintro e w4 ⟨rfl, k4, g4⟩
          have r4 := rr.keep g4 (fun h => hbc h.symm)
          go_wp2_with fail
          refine (slot_any _ _ _ _ (j+1) r4 (by omega) (by omega) (by omega)).mono ?_
          rintro e w5 ⟨rfl, r5, g5⟩
          have k5 := k4.keep g5 hbc
          go_wp2_with fail
          go_roundw
          case rel => exact ⟨j + 1, by omega, by go_num, k5, r5, (hg.trans (g4.one hb)).trans (g5.one hc')⟩
          case measure => simp [intOf]; omega
        · obtain rfl : j = q := by omega
          go_wp2_with fail
          refine (since_any _ _ _ _ kk).mono ?_
          rintro e w5 ⟨rfl, rfl⟩
          go_wp2_with fail
          refine (since_any _ _ _ _ rr).mono ?_
          rintro e w5 ⟨rfl, rfl⟩
          go_wp2_with fail
          obtain ⟨v, hv⟩ : ∃ v, decide (1 + (p : Int) ≤ j) = v := ⟨_, rfl⟩
          have HV := Lib.hid hv
          clear hv
          refine (due_any _ _ _ _ _ kk HV.out).mono ?_
          rintro e w5 ⟨rfl, g5⟩
          have r5 := rr.kept g5
          have k5 := kk.kept g5
          go_wp2_with fail
          refine (due_any _ _ _ _ _ r5 HV.out).mono ?_
          rintro e w6 ⟨rfl, g6⟩
          have k6 := k5.kept g6
          go_wp2_with fail
          refine (since_any _ _ _ _ k6).mono ?_
          rintro e w7 ⟨rfl, rfl⟩
          go_wp2_with fail
          refine (awake_true _).mono ?_
          rintro e w8 ⟨rfl, g8⟩
          go_wp2_with fail
          go_ret
          exact ⟨rfl, (((hg.trans g5.none).trans g6.none).trans g8.none).fresh⟩
end Go.Proofs.Ytddckhdcgdknlaa
