/- What a clock at first is, what the methods do of one that there isn't, and that 'awake' is true. No condition. -/
import Derived.Test.YtkpbilajimdbfaaK
namespace Go.Proofs.Ytkpbilajimdbfaa
set_option linter.unusedVariables false
open Go.ChangeShapes Go.WideShapes Go.ChangeAt Go.RowKit

def PNew (w : World) (e : Ending) (w' : World) : Prop :=
  ∃ b, e = .returned (.pointer (some ⟨b, 0, none⟩)) ∧ w.heap.size ≤ b ∧ Ck w' b 0 0 0 ∧ Chg (fun _ => False) w w'
def PUnit (w : World) (e : Ending) (w' : World) : Prop := e = .returned (.tuple #[]) ∧ w' = w

theorem pnew {w : World} : PNew w (.returned (.pointer (some ⟨w.heap.size, 0, none⟩))) (w.alloc (.cells #[.int .i64 0, .int .i64 0, .int .i64 0] 43 (0, 0))) :=
  ⟨_, rfl, Nat.le_refl _, block_alloc _ _, Chg.alloc _ _ _⟩

theorem new_any (w : World) : Calls Try.prog 10 #[] w (PNew w) := by
  go_enter Try.func10, Try.ntmps10
  go_wp2
  go_ret
  exact pnew

theorem slot_nil (w : World) (n : Int) : Calls Try.prog 11 #[.pointer none, .int .i64 n] w (PUnit w) := by
  go_enter Try.func11, Try.ntmps11
  go_wp2

  go_end0
  exact ⟨rfl, rfl⟩
theorem put_nil (w : World) (n : Int) : Calls Try.prog 14 #[.pointer none, .int .i64 n] w (PUnit w) := by
  go_enter Try.func14, Try.ntmps14
  go_wp2
  go_end0
  exact ⟨rfl, rfl⟩
theorem move_nil (w : World) (n : Int) : Calls Try.prog 16 #[.pointer none, .int .i64 n] w (PUnit w) := by
  go_enter Try.func16, Try.ntmps16
  go_wp2
  go_end0
  exact ⟨rfl, rfl⟩
theorem off_nil (w : World) : Calls Try.prog 12 #[.pointer none] w fun e w' => e = .returned (.int .i64 0) ∧ w' = w := by
  go_enter Try.func12, Try.ntmps12
  go_wp2
  go_ret
  exact ⟨rfl, rfl⟩
theorem slots_nil (w : World) : Calls Try.prog 13 #[.pointer none] w fun e w' => e = .returned (.int .i64 0) ∧ w' = w := by
  go_enter Try.func13, Try.ntmps13
  go_wp2
  go_ret
  exact ⟨rfl, rfl⟩

theorem off_any (w : World) (b : Nat) (x y z v : Int) (h : Ck w b x y z) (hx : -1000000000000000 ≤ x ∧ x ≤ 1000000000000000) (hy : -1000000000000000 ≤ y ∧ y ≤ 1000000000000000) (hv : x + downf y = v) :
   Calls Try.prog 12 #[.pointer (some ⟨b, 0, none⟩)] w fun e w' => e = .returned (.int .i64 v) ∧ Chg (fun _ => False) w w' :=
  (off_quiet w b x y z h hx hy).mono fun e w' ⟨he, m, hm⟩ => ⟨by rw [he, hv], hm ▸ Chg.drewN _ _ _⟩

theorem awake_true (w : World) : Calls Try.prog 9 #[] w (PTrue w) := by
  go_enter Try.func9, Try.ntmps9
  go_wp2_with fail
  refine (new_any _).mono ?_
  rintro e w1 ⟨b, rfl, hb, k1, g1⟩
  go_wp2_with fail
  refine (slot_any _ _ _ _ _ _ k1 (by omega) (by omega)).mono ?_
  rintro e w2 ⟨rfl, k2, g2⟩
  go_wp2_with fail
  refine (slot_any _ _ _ _ _ _ k2 (by decide) (by omega)).mono ?_
  rintro e w3 ⟨rfl, k3, g3⟩
  go_wp2_with fail
  refine (off_any _ _ _ _ _ 1 k3 (by decide) (by decide) (by decide)).mono ?_
  rintro e w4 ⟨rfl, g4⟩
  have k4 := k3.kept g4
  go_wp2_with fail
  refine (slot_any _ _ _ _ _ _ k4 (by decide) (by omega)).mono ?_
  rintro e w5 ⟨rfl, k5, g5⟩
  go_wp2_with fail
  refine (off_any _ _ _ _ _ 0 k5 (by decide) (by decide) (by decide)).mono ?_
  rintro e w6 ⟨rfl, g6⟩
  have k6 := k5.kept g6
  go_wp2_with fail
  refine (slots_any _ _ _ _ _ k6).mono ?_
  rintro e w7 ⟨rfl, rfl⟩
  go_wp2_with fail
  go_ret
  exact ⟨rfl, (((((g1.none.trans (g2.one hb)).trans (g3.one hb)).trans g4.none).trans (g5.one hb)).trans g6.none).fresh⟩
end Go.Proofs.Ytkpbilajimdbfaa
