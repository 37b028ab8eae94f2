/- What the Go text of 'OffsetNil' does, walked: it returns true, and nothing that was there has turned. No condition but what a row says of its arguments. -/
import Derived.Test.YtcdfoofkcgoapaaN
namespace Go.Proofs.Ytcdfoofkcgoapaa
set_option linter.unusedVariables false
open Go.ChangeShapes Go.WideShapes Go.ChangeAt Go.RowKit
theorem offsetNil_walk (c0 c1 c2 c3 : Int) (w : World) :
    Calls Try.prog 6 #[.agg #[.int .i64 c0, .int .i64 c1, .int .i64 c2, .int .i64 c3]] w (PTrue w) := by
  go_enter Try.func6, Try.ntmps6
  go_wp2_with fail
  refine (slot_nil _).mono ?_
  rintro e w9 ⟨rfl, rfl⟩
  go_wp2_with fail
  refine (heard_nil _ _ _ _).mono ?_
  rintro e w9 ⟨rfl, rfl⟩
  go_wp2_with fail
  refine (lose_nil _ _).mono ?_
  rintro e w9 ⟨rfl, rfl⟩
  go_wp2_with fail
  refine (bound_nil _ _).mono ?_
  rintro e w9 ⟨rfl, rfl⟩
  go_wp2_with fail
  refine (awake_true _).mono ?_
  rintro e w5 ⟨rfl, g5⟩
  go_wp2_with fail
  go_ret
  exact ⟨rfl, (Chg.alloc _ _ _).trans g5⟩
end Go.Proofs.Ytcdfoofkcgoapaa
