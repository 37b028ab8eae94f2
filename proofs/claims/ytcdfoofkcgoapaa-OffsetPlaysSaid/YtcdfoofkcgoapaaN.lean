/- What the methods do of a proof that there isn't, and that 'awake' is true. No condition. -/
import Derived.Test.YtcdfoofkcgoapaaL
namespace Go.Proofs.Ytcdfoofkcgoapaa
set_option linter.unusedVariables false
open Go.ChangeShapes Go.WideShapes Go.ChangeAt Go.RowKit
def PUnit (w : World) (e : Ending) (w' : World) : Prop := e = .returned (.tuple #[]) ∧ w' = w
theorem slot_nil (w : World) : Calls Try.prog 16 #[.pointer none] w (PUnit w) := by
  go_enter Try.func16, Try.ntmps16
  go_wp2
  go_end0
  exact ⟨rfl, rfl⟩
theorem heard_nil (w : World) (i j e : Int) : Calls Try.prog 20 #[.pointer none, .int .i64 i, .int .i64 j, .int .i64 e] w (PUnit w) := by
  go_enter Try.func20, Try.ntmps20
  go_wp2_with fail
  refine (has_nil _ _).mono ?_
  rintro r w' ⟨rfl, rfl⟩
  go_wp2_with fail
  go_end0
  exact ⟨rfl, rfl⟩
theorem lose_nil (w : World) (i : Int) : Calls Try.prog 18 #[.pointer none, .int .i64 i] w (PUnit w) := by
  go_enter Try.func18, Try.ntmps18
  go_wp2_with fail
  refine (has_nil _ _).mono ?_
  rintro r w' ⟨rfl, rfl⟩
  go_wp2_with fail
  go_end0
  exact ⟨rfl, rfl⟩
theorem bound_nil (w : World) (i : Int) : Calls Try.prog 22 #[.pointer none, .int .i64 i] w fun r w' => r = .returned (.tuple #[.int .i64 0, .bool false]) ∧ w' = w := by
  go_enter Try.func22, Try.ntmps22
  go_wp2_with fail
  refine (has_nil _ _).mono ?_
  rintro r w' ⟨rfl, rfl⟩
  go_wp2_with fail
  go_ret2
  exact ⟨rfl, rfl⟩
theorem bound_ex (w : World) (b d : Nat) (l : List Int) (i x : Int) (v : Bool) (h : Pk w b d l) (hl : l.length ≤ 16) (e : bnd l i = (x, v)) :
   Calls Try.prog 22 #[.pointer (some ⟨b, 0, none⟩), .int .i64 i] w fun r w' => r = .returned (.tuple #[.int .i64 x, .bool v]) ∧ w' = w := by
  have := bound_any w b d l i h hl
  rw [e] at this; exact this
theorem slot_ex (w : World) (b d : Nat) (l l' : List Int) (h : Pk w b d l) (hl : l.length ≤ 16) (hb : ∀ i, l.getD i 0 ≤ 1000000000000) (e : slotf l = l') :
   Calls Try.prog 16 #[.pointer (some ⟨b, 0, none⟩)] w (PSet b d w l') := e ▸ slot_any w b d l h hl hb
theorem heard_ex (w : World) (b d : Nat) (l l' : List Int) (i j e : Int) (h : Pk w b d l) (hl : l.length ≤ 16) (hb : ∀ i, l.getD i 0 ≤ 1000000000000) (eq : heardf l i j e = l') :
   Calls Try.prog 20 #[.pointer (some ⟨b, 0, none⟩), .int .i64 i, .int .i64 j, .int .i64 e] w (PSet b d w l') := eq ▸ heard_any w b d l i j e h hl hb
theorem lose_ex (w : World) (b d : Nat) (l l' : List Int) (i : Int) (h : Pk w b d l) (hl : l.length ≤ 16) (eq : losef l i = l') :
   Calls Try.prog 18 #[.pointer (some ⟨b, 0, none⟩), .int .i64 i] w (PSet b d w l') := eq ▸ lose_any w b d l i h hl
theorem le_all {l : List Int} {m : Int} (h0 : 0 ≤ m) (h : ∀ z ∈ l, z ≤ m) (i : Nat) : l.getD i 0 ≤ m := by
  rw [List.getD]
  cases hz : l[i]? with
  | none => exact h0
  | some z => exact h z (List.mem_of_getElem? hz)
set_option maxRecDepth 100000 in
theorem awake_true (w : World) : Calls Try.prog 13 #[] w (PTrue w) := by
  go_enter Try.func13, Try.ntmps13
  go_wp2_with fail
  refine (new_any _ _).mono ?_
  rintro e w1 ⟨b, d, rfl, hb, hd, k1, g1⟩
  rw [show newf 3 = [0, -1, -1] from rfl] at k1
  go_wp2_with fail
  refine (heard_ex _ _ _ _ [0, 3, -1] _ _ _ k1 (by decide) (le_all (by decide) (by decide)) (by decide)).mono ?_
  rintro e w2 ⟨rfl, k2, g2⟩
  go_wp2_with fail
  refine (slot_ex _ _ _ _ [0, 4, -1] k2 (by decide) (le_all (by decide) (by decide)) (by decide)).mono ?_
  rintro e w3 ⟨rfl, k3, g3⟩
  go_wp2_with fail
  refine (bound_ex _ _ _ _ _ 4 true k3 (by decide) (by decide)).mono ?_
  rintro e w4 ⟨rfl, rfl⟩
  go_wp2_with fail
  refine (bound_ex _ _ _ _ _ 0 false k3 (by decide) (by decide)).mono ?_
  rintro e w4 ⟨rfl, rfl⟩
  go_wp2_with fail
  refine (measure_any _ _ _ _ _).mono ?_
  rintro e w4 ⟨rfl, rfl⟩
  rw [show meas 10 25 2 5 = 17 from rfl]
  go_wp2_with fail
  refine (within_any _ _ _ _ (by decide) (by decide) (by decide)).mono ?_
  rintro e w4 ⟨rfl, rfl⟩
  rw [show withinB 10 15 5 = true from by decide]
  go_wp2_with fail
  go_ret
  exact ⟨rfl, ((g1.none.trans (g2.one hd)).trans (g3.one hd)).fresh⟩
end Go.Proofs.Ytcdfoofkcgoapaa
