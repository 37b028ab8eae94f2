/- What the Go text of 'DupNil' does, walked: it returns true, and nothing that was there has turned. No condition. -/
import Derived.Test.YtciekkenheiedaaF
namespace Go.Proofs.Ytciekkenheiedaa
set_option linter.unusedVariables false
open Go.ChangeShapes Go.WideShapes Go.ChangeAt Go.RowKit
theorem dupNil_walk (g : Bool) (k n : Int) (w : World) : Calls Try.prog 7 #[.agg #[.bool g, .int .i64 k, .int .i64 n]] w (PTrue w) := by
  go_enter Try.func7, Try.ntmps7
  go_wp2_with fail
  refine (forget_nil _ _).mono ?_
  rintro e w1 ⟨rfl, rfl⟩
  go_wp2_with fail
  refine (last_nil _ _).mono ?_
  rintro e w1 ⟨rfl, rfl⟩
  go_wp2_with fail
  refine (put_nil _ _ _).mono ?_
  rintro e w1 ⟨rfl, rfl⟩
  go_wp2_with fail
  refine (awake_true _).mono ?_
  rintro e w2 ⟨rfl, g2⟩
  go_wp2_with fail
  go_ret
  exact ⟨rfl, (Chg.alloc _ _ _).trans g2⟩
end Go.Proofs.Ytciekkenheiedaa
