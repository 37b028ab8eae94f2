/- What 'Measure' and 'Within' give, here and in the document. No condition. -/
import Derived.Test.YtcdfoofkcgoapaaBase
namespace Go.Proofs.Ytcdfoofkcgoapaa
set_option linter.unusedVariables false
open Go.ChangeShapes Go.WideShapes Go.ChangeAt Go.RowKit

def cutf (n m : Int) : Int := max (-m) (min n m)
theorem cutf_bd (n m : Int) (h : 0 ≤ m) : -m ≤ cutf n m ∧ cutf n m ≤ m := by unfold cutf; omega
theorem ret_int {k : IntKind} {a b : Int} (h : a = b) : Ending.returned (.int k a) = .returned (.int k b) := by rw [h]
theorem ret_bool {a b : Bool} (h : a = b) : Ending.returned (.bool a) = .returned (.bool b) := by rw [h]
def lim (m : Int) : Int := max 0 (min m 1000)
def meas (a b e m : Int) : Int := cutf (cutf b 1000000000000 - cutf a 1000000000000 + cutf e (lim m)) 30000
def withinB (a b g : Int) : Bool := decide (0 ≤ g ∧ max a b - min a b ≤ g)

theorem cut_any (n m : Int) (w : World) (h0 : 0 ≤ m) (h1 : m ≤ 1000000000000) :
   Calls Try.prog 24 #[.int .i64 n, .int .i64 m] w fun e w' => e = .returned (.int .i64 (cutf n m)) ∧ w' = w := by
  go_enter Try.func24, Try.ntmps24
  go_wp2
  all_goals
    go_ret
    refine ⟨ret_int ?_, rfl⟩
    unfold cutf
    split at * <;> omega
theorem clamp_any (n l m : Int) (w : World) :
   Calls Try.prog 25 #[.int .i64 n, .int .i64 l, .int .i64 m] w fun e w' => e = .returned (.int .i64 (max l (min n m))) ∧ w' = w := by
  go_enter Try.func25, Try.ntmps25
  go_wp2
  all_goals
    go_ret
    refine ⟨ret_int ?_, rfl⟩
    split at * <;> omega

theorem lim_bd (m : Int) : 0 ≤ lim m ∧ lim m ≤ 1000 := by unfold lim; omega

theorem measure_any (a b e m : Int) (w : World) :
   Calls Try.prog 9 #[.int .i64 a, .int .i64 b, .int .i64 e, .int .i64 m] w fun r w' => r = .returned (.int .i64 (meas a b e m)) ∧ w' = w := by
  obtain ⟨a0, a1⟩ := cutf_bd a 1000000000000 (by omega)
  obtain ⟨b0, b1⟩ := cutf_bd b 1000000000000 (by omega)
  obtain ⟨l0, l1⟩ := lim_bd m
  obtain ⟨c0, c1⟩ := cutf_bd e (lim m) (by omega)
  obtain ⟨L, hL⟩ : ∃ L, L = lim m := ⟨_, rfl⟩
  unfold meas
  rw [← hL] at l0 l1 c0 c1 ⊢
  have hL' : L = max 0 (min m 1000) := hL
  clear hL
  go_enter Try.func9, Try.ntmps9
  rcases (by omega : (m ≤ 0 ∧ L = 0) ∨ (1000 < m ∧ L = 1000) ∨ (0 < m ∧ m ≤ 1000 ∧ L = m)) with ⟨h1, rfl⟩ | ⟨h1, rfl⟩ | ⟨h1, h2, rfl⟩
  all_goals
    clear hL'
    go_wp2_with (go_at_call 24; refine (cut_any _ _ _ (by omega) (by omega)).mono ?_; rintro r w' ⟨rfl, rfl⟩)
    go_ret
    exact ⟨rfl, rfl⟩
theorem rmeasure_any (a b e m : Int) (w : World) :
   Calls Try.prog 10 #[.int .i64 a, .int .i64 b, .int .i64 e, .int .i64 m] w fun r w' => r = .returned (.int .i64 (meas a b e m)) ∧ w' = w := by
  obtain ⟨a0, a1⟩ := cutf_bd a 1000000000000 (by omega)
  obtain ⟨b0, b1⟩ := cutf_bd b 1000000000000 (by omega)
  obtain ⟨l0, l1⟩ := lim_bd m
  obtain ⟨c0, c1⟩ := cutf_bd e (lim m) (by omega)
  unfold meas
  go_enter Try.func10, Try.ntmps10
  go_wp2_with fail
  refine (clamp_any _ _ _ _).mono ?_
  rintro r w' ⟨rfl, rfl⟩
  rw [show max 0 (min m 1000) = lim m from rfl]
  go_wp2_with fail
  refine (clamp_any _ _ _ _).mono ?_
  rintro r w' ⟨rfl, rfl⟩
  rw [show max (-1000000000000) (min b 1000000000000) = cutf b 1000000000000 from rfl]
  go_wp2_with fail
  refine (clamp_any _ _ _ _).mono ?_
  rintro r w' ⟨rfl, rfl⟩
  rw [show max (-1000000000000) (min a 1000000000000) = cutf a 1000000000000 from rfl]
  go_wp2_with fail
  refine (clamp_any _ _ _ _).mono ?_
  rintro r w' ⟨rfl, rfl⟩
  rw [show max (-lim m) (min e (lim m)) = cutf e (lim m) from rfl]
  go_wp2_with fail
  refine (clamp_any _ _ _ _).mono ?_
  rintro r w' ⟨rfl, rfl⟩
  go_wp2_with fail
  go_ret
  exact ⟨rfl, rfl⟩

theorem i64_bd {x : Int} (h : (Lit.int .i64 x).wf = true) : -9223372036854775808 ≤ x ∧ x ≤ 9223372036854775807 := by
  simp only [Lit.wf, IntKind.min, IntKind.max, IntKind.signed, IntKind.bits, Bool.and_eq_true] at h
  simp at h; omega
theorem u64w (n : Int) : IntKind.u64.wrap n = n % 18446744073709551616 := by
  simp [IntKind.wrap, IntKind.bits, IntKind.signed]
theorem within_yes {x y g : Int} (hx : (Lit.int .i64 x).wf = true) (hy : (Lit.int .i64 y).wf = true) (hg : (Lit.int .i64 g).wf = true) (h : x ≤ y) (h0 : 0 ≤ g) :
    decide (IntKind.u64.wrap (IntKind.u64.wrap y - IntKind.u64.wrap x) ≤ IntKind.u64.wrap g) = decide (y - x ≤ g) := by
  obtain ⟨x0, x1⟩ := i64_bd hx
  obtain ⟨y0, y1⟩ := i64_bd hy
  obtain ⟨g0, g1⟩ := i64_bd hg
  rw [decide_eq_decide, u64w, u64w, u64w, u64w]
  omega
theorem wb_lt {a b g : Int} (h : a ≤ b) (h0 : 0 ≤ g) : withinB a b g = decide (b - a ≤ g) := by
  unfold withinB; rw [decide_eq_decide]; omega
theorem wb_gt {a b g : Int} (h : b ≤ a) (h0 : 0 ≤ g) : withinB a b g = decide (a - b ≤ g) := by
  unfold withinB; rw [decide_eq_decide]; omega
theorem wb_self {a g : Int} (h0 : 0 ≤ g) : withinB a a g = true := by unfold withinB; rw [decide_eq_true_iff]; omega
theorem wb_no {a b g : Int} (h0 : g < 0) : withinB a b g = false := by
  unfold withinB; rw [decide_eq_false_iff_not]; omega
theorem within_any (a b g : Int) (w : World) (ha : (Lit.int .i64 a).wf = true) (hb : (Lit.int .i64 b).wf = true) (hg : (Lit.int .i64 g).wf = true) :
   Calls Try.prog 11 #[.int .i64 a, .int .i64 b, .int .i64 g] w fun r w' => r = .returned (.bool (withinB a b g)) ∧ w' = w := by
  have HA := Lib.hid ha
  have HB := Lib.hid hb
  have HG := Lib.hid hg
  clear ha hb hg
  by_cases h0 : 0 ≤ g
  · rcases (by omega : a < b ∨ b < a ∨ a = b) with h | h | rfl
    · go_enter Try.func11, Try.ntmps11
      go_wp2
      go_ret
      exact ⟨ret_bool ((within_yes HA.out HB.out HG.out (by omega) h0).trans (wb_lt (by omega) h0).symm), rfl⟩
    · go_enter Try.func11, Try.ntmps11
      go_wp2
      go_ret
      exact ⟨ret_bool ((within_yes HB.out HA.out HG.out (by omega) h0).trans (wb_gt (by omega) h0).symm), rfl⟩
    · go_enter Try.func11, Try.ntmps11
      go_wp2
      go_ret
      exact ⟨ret_bool (wb_self h0).symm, rfl⟩
  · have HF := Lib.hid (wb_no (a := a) (b := b) (by omega : g < 0))
    rcases (by omega : a < b ∨ b < a ∨ a = b) with h | h | rfl
    all_goals
      go_enter Try.func11, Try.ntmps11
      go_wp2
      go_ret
      exact ⟨ret_bool HF.out.symm, rfl⟩
theorem rwithin_any (a b g : Int) (w : World) (ha : (Lit.int .i64 a).wf = true) (hb : (Lit.int .i64 b).wf = true) (hg : (Lit.int .i64 g).wf = true) :
   Calls Try.prog 12 #[.int .i64 a, .int .i64 b, .int .i64 g] w fun r w' => r = .returned (.bool (withinB a b g)) ∧ w' = w := by
  have HA := Lib.hid ha
  have HB := Lib.hid hb
  have HG := Lib.hid hg
  clear ha hb hg
  by_cases h0 : 0 ≤ g
  · rcases (by omega : a < b ∨ b < a ∨ a = b) with h | h | rfl
    · go_enter Try.func12, Try.ntmps12
      go_wp2
      go_ret
      exact ⟨ret_bool ((within_yes HA.out HB.out HG.out (by omega) h0).trans (wb_lt (by omega) h0).symm), rfl⟩
    · go_enter Try.func12, Try.ntmps12
      go_wp2
      go_ret
      exact ⟨ret_bool ((within_yes HB.out HA.out HG.out (by omega) h0).trans (wb_gt (by omega) h0).symm), rfl⟩
    · go_enter Try.func12, Try.ntmps12
      go_wp2
      go_ret
      exact ⟨ret_bool (wb_self h0).symm, rfl⟩
  · have HF := Lib.hid (wb_no (a := a) (b := b) (by omega : g < 0))
    rcases (by omega : a < b ∨ b < a ∨ a = b) with h | h | rfl
    all_goals
      go_enter Try.func12, Try.ntmps12
      go_wp2
      go_ret
      exact ⟨ret_bool HF.out.symm, rfl⟩
end Go.Proofs.Ytcdfoofkcgoapaa
