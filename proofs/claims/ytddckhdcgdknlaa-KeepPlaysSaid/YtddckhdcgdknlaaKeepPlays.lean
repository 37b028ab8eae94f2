/- What the Go text of 'KeepPlays' does, walked: it returns true, and nothing that was there has turned. No condition but what a row says of its arguments. -/
import Derived.Test.YtddckhdcgdknlaaN
namespace Go.Proofs.Ytddckhdcgdknlaa
set_option linter.unusedVariables false
open Go.ChangeShapes Go.WideShapes Go.ChangeAt Go.RowKit
theorem since_quiet (w : World) (b : Nat) (ev s : Int) (h : Kp w b ev s) :
    Calls Try.prog 14 #[.pointer (some ⟨b, 0, none⟩)] w fun e w' => e = .returned (.int .i64 s) ∧ w' = w := since_any w b ev s h
set_option maxRecDepth 100000 in
theorem keepPlays_walk (n : Int) (a : Option Addr) (len cap : Nat) (zs : List Bool) (w : World) (hs : Sl Value.bool w a len zs) :
    Calls Try.prog 3 #[.int .i64 n, .slice a len cap] w (PTrue w) := by
  have hl : len ≤ 9223372036854775807 := by have := hs.2.1; unfold maxLen at this; omega
  go_enter Try.func3, Try.ntmps3
  go_wp2_with fail
  refine (new_any _ _).mono ?_
  rintro e w1 ⟨b, rfl, hb, k1, g1⟩
  go_wp2_with fail
  refine (rnew_any _ _).mono ?_
  rintro e w2 ⟨c, rfl, hc, r2, g2⟩
  have k2 := k1.kept g2
  have hbc : b ≠ c := by have := lt_of_block k1; omega
  have G0 : Chg (fun k => w.heap.size ≤ k) w w2 := g1.none.trans g2.none
  have hc' : w.heap.size ≤ c := by have := g1.size; omega
  clear k1 g1 g2 hc
  go_wp2_with fail
  go_loopw [17] (fun i wr => ∃ (k : Nat) (s : Int), k ≤ len ∧ k ≤ 400 ∧ i = .int .i64 k ∧ 0 ≤ s ∧ s ≤ k ∧ Kp wr b (every n) s ∧ Rk wr c (every n) s ∧ Chg (fun k => w.heap.size ≤ k) w wr) (fun i _ => len - (intOf i).toNat)
  case atStart => exact ⟨0, 0, by omega, by omega, rfl, by omega, by omega, k2, r2, G0⟩
  case round =>
    obtain ⟨k, s, hk, hk4, rfl, hs0, hsk, kk, rr, hg⟩ := hrel
    clear k2 r2 G0
    by_cases hlt : k < len
    · obtain ⟨x, z, rfl, hz, hcell⟩ := hs.at hg hlt
      clear hz hs
      by_cases h4 : k < 400
      · cases z
        case true =>
          go_wp2_with fail
          refine (heard_any _ _ _ _ kk).mono ?_
          rintro e w3 ⟨rfl, k3, g3⟩
          have r3 := rr.keep g3 (fun h => hbc h.symm)
          have c1 := r3.c1
          have f1 := r3.f1
          have G3 := hg.trans (g3.one hb)
          clear hcell
          go_wp2_with fail
          have k4 := k3.keep (Chg.set (S := (· = c)) w3 ⟨c, 1, none⟩ (.int .i64 0) rfl) hbc
          have r4 := r3.set 0
          have G4 := G3.trans ((Chg.set (S := (· = c)) w3 ⟨c, 1, none⟩ (.int .i64 0) rfl).one hc')
          clear c1 f1 r3 k3
          generalize w3.setCell ⟨c, 1, none⟩ (.int .i64 0) = w4 at *
          have hc := r4.c1
          obtain ⟨v, hv⟩ : ∃ v, decide (every n ≤ 0) = v := ⟨_, rfl⟩
          have HV := Lib.hid hv
          clear hv
          cases v
          all_goals
            go_quiet (first | (go_at_call 12; exact Calls.quiet_of (due_quiet _ _ _ _ _ k4 HV.out)) | (go_at_call 13; exact Calls.quiet_of (rdue_quiet _ _ _ _ _ r4 HV.out)) | (go_at_call 14; exact Calls.quiet_of_same (since_quiet _ _ _ _ k4)))
            go_wp2_with fail
            go_roundw
            case rel => exact ⟨k + 1, 0, by omega, by omega, by go_num, by omega, by omega, k4, r4, G4.trans (Chg.drewN _ _ _)⟩
            case measure => simp [intOf]; omega
        case false =>
          go_wp2_with fail
          refine (slot_any _ _ _ _ (s+1) kk (by omega) (by omega) (by omega)).mono ?_
          rintro e w3 ⟨rfl, k3, g3⟩
          have r3 := rr.keep g3 (fun h => hbc h.symm)
          have G3 := hg.trans (g3.one hb)
          clear hcell
          go_wp2_with fail
          refine (rslot_any _ _ _ _ (s+1) r3 (by omega) (by omega) (by omega)).mono ?_
          rintro e w4 ⟨rfl, r4, g4⟩
          have k4 := k3.keep g4 hbc
          have G4 := G3.trans (g4.one hc')
          clear r3 k3
          have hc := r4.c1
          obtain ⟨v, hv⟩ : ∃ v, decide (every n ≤ s+1) = v := ⟨_, rfl⟩
          have HV := Lib.hid hv
          clear hv
          go_wp2_with fail
          cases v
          all_goals
            go_quiet (first | (go_at_call 12; exact Calls.quiet_of (due_quiet _ _ _ _ _ k4 HV.out)) | (go_at_call 13; exact Calls.quiet_of (rdue_quiet _ _ _ _ _ r4 HV.out)) | (go_at_call 14; exact Calls.quiet_of_same (since_quiet _ _ _ _ k4)))
            go_wp2_with fail
            go_roundw
            case rel => exact ⟨k + 1, s + 1, by omega, by omega, by go_num, by omega, by omega, k4, r4, G4.trans (Chg.drewN _ _ _)⟩
            case measure => simp [intOf]; omega
      · go_wp2_with fail
        refine (awake_true _).mono ?_
        rintro e w2 ⟨rfl, g2⟩
        go_wp2_with fail
        go_ret
        exact ⟨rfl, (hg.trans g2.none).fresh⟩
    · go_wp2_with fail
      refine (awake_true _).mono ?_
      rintro e w2 ⟨rfl, g2⟩
      go_wp2_with fail
      go_ret
      exact ⟨rfl, (hg.trans g2.none).fresh⟩
end Go.Proofs.Ytddckhdcgdknlaa
