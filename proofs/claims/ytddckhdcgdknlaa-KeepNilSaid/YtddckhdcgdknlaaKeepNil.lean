/- What the Go text of 'KeepNil' does, walked: it returns true, and nothing that was there has turned. No condition but what a row says of its arguments. -/
import Derived.Test.YtddckhdcgdknlaaN
namespace Go.Proofs.Ytddckhdcgdknlaa
set_option linter.unusedVariables false
open Go.ChangeShapes Go.WideShapes Go.ChangeAt Go.RowKit
theorem keepNil_walk (n : Int) (w : World) : Calls Try.prog 4 #[.int .i64 n] w (PTrue w) := by
  obtain ⟨m, hm, he⟩ := umod n 9 (by omega) (by omega)
  go_enter Try.func4, Try.ntmps4
  go_wp2_with fail
  rw [he]
  clear he

  go_loopw [8] (fun i wr => ∃ k : Nat, k ≤ m ∧ i = .int .i64 k ∧ Chg (fun k => w.heap.size ≤ k) w wr) (fun i _ => m - (intOf i).toNat)
  case atStart => exact ⟨0, by omega, rfl, Chg.refl _ _⟩
  case round =>
    obtain ⟨k, hk, rfl, hg⟩ := hrel

    by_cases hlt : k < m
    · go_wp2_with fail
      refine (slot_nil _).mono ?_
      rintro e w1 ⟨rfl, rfl⟩
      go_wp2_with fail
      go_roundw
      case rel => exact ⟨k + 1, by omega, by go_num, hg⟩
      case measure => simp [intOf]; omega
    · go_wp2_with fail
      refine (heard_nil _).mono ?_
      rintro e w1 ⟨rfl, rfl⟩
      go_wp2_with fail
      refine (due_nil _).mono ?_
      rintro e w1 ⟨rfl, g1⟩
      go_wp2_with fail
      refine (since_nil _).mono ?_
      rintro e w2 ⟨rfl, rfl⟩
      go_wp2_with fail
      refine (awake_true _).mono ?_
      rintro e w2 ⟨rfl, g2⟩
      go_wp2_with fail
      go_ret
      exact ⟨rfl, ((hg.trans g1.none).trans g2.none).fresh⟩
end Go.Proofs.Ytddckhdcgdknlaa
