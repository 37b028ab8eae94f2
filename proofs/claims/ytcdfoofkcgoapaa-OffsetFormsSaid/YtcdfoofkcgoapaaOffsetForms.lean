/- What the Go text of 'OffsetForms' does, walked: it returns true, and nothing that was there has turned. No condition but what a row says of its arguments. -/
import Derived.Test.YtcdfoofkcgoapaaN
namespace Go.Proofs.Ytcdfoofkcgoapaa
set_option linter.unusedVariables false
open Go.ChangeShapes Go.WideShapes Go.ChangeAt Go.RowKit
theorem offsetForms_walk (a b e m g : Int) (w : World) (ha : (Lit.int .i64 a).wf = true) (hb : (Lit.int .i64 b).wf = true) (hg : (Lit.int .i64 g).wf = true) :
    Calls Try.prog 3 #[.int .i64 a, .int .i64 b, .int .i64 e, .int .i64 m, .int .i64 g] w (PTrue w) := by
  have HA := Lib.hid ha
  have HB := Lib.hid hb
  have HG := Lib.hid hg
  clear ha hb hg
  go_enter Try.func3, Try.ntmps3
  go_wp2_with fail
  refine (measure_any _ _ _ _ _).mono ?_
  rintro e w9 ⟨rfl, rfl⟩
  go_wp2_with fail
  refine (rmeasure_any _ _ _ _ _).mono ?_
  rintro e w9 ⟨rfl, rfl⟩
  go_wp2_with fail
  refine (within_any _ _ _ _ HA.out HB.out HG.out).mono ?_
  rintro e w9 ⟨rfl, rfl⟩
  go_wp2_with fail
  refine (rwithin_any _ _ _ _ HA.out HB.out HG.out).mono ?_
  rintro e w9 ⟨rfl, rfl⟩
  go_wp2_with fail
  refine (awake_true _).mono ?_
  rintro e w5 ⟨rfl, g5⟩
  go_wp2_with fail
  go_ret
  exact ⟨rfl, g5⟩
end Go.Proofs.Ytcdfoofkcgoapaa
