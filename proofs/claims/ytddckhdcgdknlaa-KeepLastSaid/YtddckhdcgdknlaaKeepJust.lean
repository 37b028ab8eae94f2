/- What the Go text of 'KeepJust' does, walked: it returns true, and nothing that was there has turned. No condition but what a row says of its arguments. -/
import Derived.Test.YtddckhdcgdknlaaN
namespace Go.Proofs.Ytddckhdcgdknlaa
set_option linter.unusedVariables false
open Go.ChangeShapes Go.WideShapes Go.ChangeAt Go.RowKit
theorem every_id (m : Nat) (h : (m : Int) < 100) : every (1 + (m : Int)) = 1 + m := by unfold every; omega
set_option maxRecDepth 100000 in
theorem keepJust_walk (n m : Int) (w : World) : Calls Try.prog 5 #[.int .i64 n, .int .i64 m] w (PTrue w) := by
  obtain ⟨p, hp, he⟩ := umod n 100 (by omega) (by omega)
  obtain ⟨q, hq, hf⟩ := umod m 250 (by omega) (by omega)
  have hev := every_id p (by omega)
  go_enter Try.func5, Try.ntmps5
  go_wp2_with fail
  (try rw [he]); (try rw [hf]); clear he hf
  refine (new_any _ _).mono ?_
  rintro e w1 ⟨b, rfl, hb, k1, g1⟩
  rw [hev] at k1
  clear hev
  go_wp2_with fail
  go_loopw [19] (fun i wr => ∃ (k : Nat), k ≤ q ∧ i = .int .i64 k ∧ Kp wr b (1 + (p : Int)) k ∧ Chg (fun k => w.heap.size ≤ k) w wr) (fun i _ => q - (intOf i).toNat)
  case atStart => exact ⟨0, by omega, rfl, k1, g1.none⟩
  case round =>
    obtain ⟨k, hk, rfl, kk, hg⟩ := hrel
    clear k1 g1
    by_cases hlt : k < q
    · go_wp2_with fail
      refine (slot_any _ _ _ _ (k+1) kk (by omega) (by omega) (by omega)).mono ?_
      rintro e w3 ⟨rfl, k3, g3⟩
      have G3 := hg.trans (g3.one hb)
      by_cases hd : 1 + (p : Int) ≤ k + 1
      · go_wp2_with fail
        refine (due_any _ _ _ _ true k3 (by simpa using hd)).mono ?_
        rintro e w4 ⟨rfl, g4⟩
        have k4 := k3.kept g4
        go_wp2_with fail
        go_roundw
        case rel => exact ⟨k + 1, by omega, by go_num, k4, G3.trans g4.none⟩
        case measure => simp [intOf]; omega
      · go_wp2_with fail
        refine (due_any _ _ _ _ false k3 (by simpa using hd)).mono ?_
        rintro e w4 ⟨rfl, g4⟩
        have k4 := k3.kept g4
        go_wp2_with fail
        go_roundw
        case rel => exact ⟨k + 1, by omega, by go_num, k4, G3.trans g4.none⟩
        case measure => simp [intOf]; omega
    · go_wp2_with fail
      refine (heard_any _ _ _ _ kk).mono ?_
      rintro e w3 ⟨rfl, k3, g3⟩
      have G3 := hg.trans (g3.one hb)
      go_wp2_with fail
      refine (due_any _ _ _ _ false k3 (by simp; omega)).mono ?_
      rintro e w4 ⟨rfl, g4⟩
      have k4 := k3.kept g4
      have G4 := G3.trans g4.none
      go_wp2_with fail
      refine (since_any _ _ _ _ k4).mono ?_
      rintro e w5 ⟨rfl, rfl⟩
      go_wp2_with fail
      refine (awake_true _).mono ?_
      rintro e w2 ⟨rfl, g2⟩
      go_wp2_with fail
      go_ret
      exact ⟨rfl, (G4.trans g2.none).fresh⟩
end Go.Proofs.Ytddckhdcgdknlaa
