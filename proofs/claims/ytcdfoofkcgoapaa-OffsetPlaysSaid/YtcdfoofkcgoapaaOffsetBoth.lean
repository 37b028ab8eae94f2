/- What the Go text of 'OffsetBoth' does, walked: it returns true, and nothing that was there has turned. No condition but what a row says of its arguments. -/
import Derived.Test.YtcdfoofkcgoapaaN
namespace Go.Proofs.Ytcdfoofkcgoapaa
set_option linter.unusedVariables false
open Go.ChangeShapes Go.WideShapes Go.ChangeAt Go.RowKit
theorem meas_turn (a b : Int) : meas a b 0 0 = - meas b a 0 0 := by unfold meas cutf lim; omega
theorem within_turn (a b g : Int) : withinB a b g = withinB b a g := by unfold withinB; rw [decide_eq_decide]; omega
theorem within_more {a b g : Int} (h : withinB a b g = true) : withinB a b (g + 1) = true := by unfold withinB at *; rw [decide_eq_true_eq] at *; omega
theorem within_self (a : Int) : withinB a a 0 = true := by unfold withinB; rw [decide_eq_true_eq]; omega
theorem meas_bd (a b e m : Int) : -30000 ≤ meas a b e m ∧ meas a b e m ≤ 30000 := by unfold meas; exact cutf_bd _ _ (by omega)
theorem wf_i64 {x : Int} (h0 : -9223372036854775808 ≤ x) (h1 : x ≤ 9223372036854775807) : (Lit.int .i64 x).wf = true := by
  simp only [Lit.wf, IntKind.min, IntKind.max, IntKind.signed, IntKind.bits, Bool.and_eq_true]
  simp; omega
theorem offsetBoth_walk (a b g : Int) (w : World) (ha : (Lit.int .i64 a).wf = true) (hb : (Lit.int .i64 b).wf = true) :
    Calls Try.prog 4 #[.int .i64 a, .int .i64 b, .int .i64 g] w (PTrue w) := by
  obtain ⟨q, hq, he⟩ := umod g 5000 (by omega) (by omega)
  have HA := Lib.hid ha
  have HB := Lib.hid hb
  have hG : (Lit.int .i64 (q : Int)).wf = true := wf_i64 (by omega) (by omega)
  have hG1 : (Lit.int .i64 ((q : Int) + 1)).wf = true := wf_i64 (by omega) (by omega)
  have HG := Lib.hid hG
  have HG1 := Lib.hid hG1
  clear ha hb hG hG1
  have HW := Lib.hid (within_turn a b q)
  have HM := Lib.hid (within_more (a := a) (b := b) (g := (q : Int)))
  obtain ⟨m0, m1⟩ := meas_bd b a 0 0
  go_enter Try.func4, Try.ntmps4
  go_wp2_with fail
  (try rw [he])
  clear he
  refine (measure_any _ _ _ _ _).mono ?_
  rintro e w9 ⟨rfl, rfl⟩
  rw [meas_turn a b]
  go_wp2_with fail
  refine (measure_any _ _ _ _ _).mono ?_
  rintro e w9 ⟨rfl, rfl⟩
  go_wp2_with fail
  generalize hv : withinB a b (q : Int) = v at *
  have HV := Lib.hid hv
  clear hv
  cases v
  · refine (within_any _ _ _ _ HA.out HB.out HG.out).mono ?_
    rintro e w9 ⟨rfl, rfl⟩
    rw [HV.out]
    go_wp2_with fail
    refine (within_any _ _ _ _ HB.out HA.out HG.out).mono ?_
    rintro e w9 ⟨rfl, rfl⟩
    rw [← HW.out]
    go_wp2_with fail
    refine (within_any _ _ _ _ HA.out HB.out HG.out).mono ?_
    rintro e w9 ⟨rfl, rfl⟩
    rw [HV.out]
    go_wp2_with fail
    refine (within_any _ _ _ _ HA.out HA.out (by decide)).mono ?_
    rintro e w9 ⟨rfl, rfl⟩
    rw [within_self]
    go_wp2_with fail
    refine (awake_true _).mono ?_
    rintro e w5 ⟨rfl, g5⟩
    go_wp2_with fail
    go_ret
    exact ⟨rfl, g5⟩
  · refine (within_any _ _ _ _ HA.out HB.out HG.out).mono ?_
    rintro e w9 ⟨rfl, rfl⟩
    rw [HV.out]
    go_wp2_with fail
    refine (within_any _ _ _ _ HB.out HA.out HG.out).mono ?_
    rintro e w9 ⟨rfl, rfl⟩
    rw [← HW.out]
    go_wp2_with fail
    refine (within_any _ _ _ _ HA.out HB.out HG.out).mono ?_
    rintro e w9 ⟨rfl, rfl⟩
    rw [HV.out]
    go_wp2_with fail
    refine (within_any _ _ _ _ HA.out HB.out HG1.out).mono ?_
    rintro e w9 ⟨rfl, rfl⟩
    rw [HM.out trivial]
    go_wp2_with fail
    refine (within_any _ _ _ _ HA.out HA.out (by decide)).mono ?_
    rintro e w9 ⟨rfl, rfl⟩
    rw [within_self]
    go_wp2_with fail
    refine (awake_true _).mono ?_
    rintro e w5 ⟨rfl, g5⟩
    go_wp2_with fail
    go_ret
    exact ⟨rfl, g5⟩
end Go.Proofs.Ytcdfoofkcgoapaa
