/- What a keeper at first is, what the methods do of one that there isn't, and that 'awake' is true. No condition. -/
import Derived.Test.YtddckhdcgdknlaaK
namespace Go.Proofs.Ytddckhdcgdknlaa
set_option linter.unusedVariables false
open Go.ChangeShapes Go.WideShapes Go.ChangeAt Go.RowKit

def every (n : Int) : Int := max 1 (min n 10000)
def PNew (w : World) (n : Int) (e : Ending) (w' : World) : Prop :=
  ∃ b, e = .returned (.pointer (some ⟨b, 0, none⟩)) ∧ w.heap.size ≤ b ∧ Kp w' b (every n) 0 ∧ Chg (fun _ => False) w w'
def PUnit (w : World) (e : Ending) (w' : World) : Prop := e = .returned (.tuple #[]) ∧ w' = w

theorem pnew {w : World} {n t : Int} (h : t = every n) :
    PNew w n (.returned (.pointer (some ⟨w.heap.size, 0, none⟩))) (w.alloc (.cells #[.int .i64 t, .int .i64 0] 37 (0, 0))) :=
  ⟨_, rfl, Nat.le_refl _, by rw [h]; exact block_alloc _ _, Chg.alloc _ _ _⟩

theorem new_any (w : World) (n : Int) : Calls Try.prog 7 #[.int .i64 n] w (PNew w n) := by
  go_enter Try.func7, Try.ntmps7
  go_wp2
  all_goals
    go_ret
    exact pnew (by unfold every; omega)

def RNew (w : World) (n : Int) (e : Ending) (w' : World) : Prop :=
  ∃ b, e = .returned (.pointer (some ⟨b, 0, none⟩)) ∧ w.heap.size ≤ b ∧ Rk w' b (every n) 0 ∧ Chg (fun _ => False) w w'
theorem rnew {w : World} {n t : Int} (h : t = every n) :
    RNew w n (.returned (.pointer (some ⟨w.heap.size, 0, none⟩))) (w.alloc (.cells #[.int .i64 t, .int .i64 0] 28 (0, 0))) :=
  ⟨_, rfl, Nat.le_refl _, by rw [h]; exact block_alloc _ _, Chg.alloc _ _ _⟩

theorem rnew_any (w : World) (n : Int) : Calls Try.prog 8 #[.int .i64 n] w (RNew w n) := by
  go_enter Try.func8, Try.ntmps8
  go_wp2
  all_goals
    go_ret
    exact rnew (by unfold every; omega)

theorem slot_nil (w : World) : Calls Try.prog 10 #[.pointer none] w (PUnit w) := by
  go_enter Try.func10, Try.ntmps10
  go_wp2
  go_end0
  exact ⟨rfl, rfl⟩
theorem heard_nil (w : World) : Calls Try.prog 9 #[.pointer none] w (PUnit w) := by
  go_enter Try.func9, Try.ntmps9
  go_wp2
  go_end0
  exact ⟨rfl, rfl⟩
theorem since_nil (w : World) : Calls Try.prog 14 #[.pointer none] w (PInt w 0) := by
  go_enter Try.func14, Try.ntmps14
  go_wp2
  go_ret
  exact ⟨rfl, rfl⟩
theorem due_nil (w : World) : Calls Try.prog 12 #[.pointer none] w (PBool w false) := by
  go_enter Try.func12, Try.ntmps12
  go_wp2
  go_quiet (fail)
  go_wp2
  go_ret
  exact ⟨rfl, Chg.drewN _ _ _⟩

theorem awake_true (w : World) : Calls Try.prog 15 #[] w (PTrue w) := by
  go_enter Try.func15, Try.ntmps15
  go_wp2_with fail
  refine (new_any _ _).mono ?_
  rintro e w1 ⟨b, rfl, hb, k1, g1⟩
  go_wp2_with fail
  refine (slot_any _ _ _ _ 1 k1 (by omega) (by omega) (by omega)).mono ?_
  rintro e w2 ⟨rfl, k2, g2⟩
  go_wp2_with fail
  refine (due_any _ _ _ _ false k2 (by decide)).mono ?_
  rintro e w3 ⟨rfl, g3⟩
  have k3 := k2.kept g3
  go_wp2_with fail
  refine (slot_any _ _ _ _ 2 k3 (by omega) (by omega) (by omega)).mono ?_
  rintro e w4 ⟨rfl, k4, g4⟩
  go_wp2_with fail
  refine (due_any _ _ _ _ true k4 (by decide)).mono ?_
  rintro e w5 ⟨rfl, g5⟩
  have k5 := k4.kept g5
  go_wp2_with fail
  refine (since_any _ _ _ _ k5).mono ?_
  rintro e w6 ⟨rfl, rfl⟩
  go_wp2_with fail
  go_ret
  exact ⟨rfl, (((((g1.none.trans (g2.one hb)).trans g3.none).trans (g4.one hb)).trans g5.none)).fresh⟩
end Go.Proofs.Ytddckhdcgdknlaa
