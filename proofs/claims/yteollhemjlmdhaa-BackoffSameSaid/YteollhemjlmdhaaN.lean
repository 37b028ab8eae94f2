/- What a backoff at first is, what the methods do of one that there isn't, and that 'awake' is true. No condition. -/
import Derived.Test.YteollhemjlmdhaaK
namespace Go.Proofs.Yteollhemjlmdhaa
set_option linter.unusedVariables false
open Go.ChangeShapes Go.WideShapes Go.ChangeAt Go.RowKit

def st0 (l m x : Int) : St := { l := max 0 (min l 8), m := max (max 0 (min l 8)) (min m 8), e := max 0 (min l 8), t := 0, x := x }
theorem ok0 (l m x : Int) (h0 : 0 ≤ x) (h1 : x ≤ 4294967295) : Ok (st0 l m x) := by
  constructor <;> simp only [st0] <;> omega
theorem waitOf_bd (x e : Int) : 0 ≤ waitOf x e ∧ (waitOf x e < 2 ^ e.toNat) := by
  have h : (0 : Int) < 2 ^ e.toNat := Int.pow_pos (by omega)
  exact ⟨Int.emod_nonneg _ (Int.ne_of_gt h), Int.emod_lt_of_pos _ h⟩
theorem pow_le (e : Int) (h1 : e ≤ 8) : (2 : Int) ^ e.toNat ≤ 256 := by
  have h : e.toNat ≤ 8 := by omega
  have h2 : 2 ^ e.toNat ≤ 2 ^ 8 := Nat.pow_le_pow_right (by omega) h
  have h3 : (2 : Int) ^ e.toNat = ((2 ^ e.toNat : Nat) : Int) := by simp
  rw [h3]; omega
theorem ok_no {s : St} (h : Ok s) : Ok (sentNo s) := by
  obtain ⟨a0, a1, a2, a3, a4, a5, a6, a7, a8⟩ := h
  obtain ⟨h0, h1⟩ := waitOf_bd (lcg s.x) (min (s.e + 1) s.m)
  have h2 := pow_le (min (s.e + 1) s.m) (by omega)
  have h3 : 0 ≤ lcg s.x ∧ lcg s.x ≤ 4294967295 := by unfold lcg; omega
  constructor <;> simp only [sentNo] <;> omega
theorem ok_yes {s : St} (h : Ok s) : Ok (sentYes s) := by
  obtain ⟨a0, a1, a2, a3, a4, a5, a6, a7, a8⟩ := h
  constructor <;> simp only [sentYes] <;> omega
theorem ok_slot {s : St} (h : Ok s) : Ok { s with t := max 0 (s.t - 1) } := by
  obtain ⟨a0, a1, a2, a3, a4, a5, a6, a7, a8⟩ := h
  constructor <;> simp only <;> omega

def PNew (w : World) (s : St) (e : Ending) (w' : World) : Prop :=
  ∃ b, e = .returned (.pointer (some ⟨b, 0, none⟩)) ∧ w.heap.size ≤ b ∧ Bk w' b s ∧ Chg (fun _ => False) w w'
def PUnit (w : World) (e : Ending) (w' : World) : Prop := e = .returned (.tuple #[]) ∧ w' = w
theorem pnew {w : World} {s : St} {l m e x : Int} (h1 : l = s.l) (h2 : m = s.m) (h3 : e = s.e) (h4 : 0 = s.t) (h5 : x = s.x) :
    PNew w s (.returned (.pointer (some ⟨w.heap.size, 0, none⟩))) (w.alloc (.cells #[.int .i64 l, .int .i64 m, .int .i64 e, .int .i64 0, .int .u32 x] 41 (0, 0))) :=
  ⟨_, rfl, Nat.le_refl _, by unfold Bk; rw [← h1, ← h2, ← h3, ← h4, ← h5]; exact block_alloc _ _, Chg.alloc _ _ _⟩

theorem new_any (w : World) (l m x : Int) : Calls Try.prog 7 #[.int .i64 l, .int .i64 m, .int .u32 x] w (PNew w (st0 l m x)) := by
  go_enter Try.func7, Try.ntmps7
  go_wp2
  all_goals
    go_ret
    exact pnew (by simp only [st0]; omega) (by simp only [st0]; omega) (by simp only [st0]; omega) rfl rfl

theorem slot_nil (w : World) : Calls Try.prog 14 #[.pointer none] w (PUnit w) := by
  go_enter Try.func14, Try.ntmps14
  go_wp2
  go_end0
  exact ⟨rfl, rfl⟩
theorem sent_nil (w : World) (v : Bool) : Calls Try.prog 9 #[.pointer none, .bool v] w (PUnit w) := by
  go_enter Try.func9, Try.ntmps9
  go_wp2
  go_end0
  exact ⟨rfl, rfl⟩
theorem exponent_nil (w : World) : Calls Try.prog 8 #[.pointer none] w fun e w' => e = .returned (.int .i64 0) ∧ w' = w := by
  go_enter Try.func8, Try.ntmps8
  go_wp2
  go_ret
  exact ⟨rfl, rfl⟩
theorem wait_nil (w : World) : Calls Try.prog 10 #[.pointer none] w fun e w' => e = .returned (.int .i64 0) ∧ w' = w := by
  go_enter Try.func10, Try.ntmps10
  go_wp2
  go_ret
  exact ⟨rfl, rfl⟩
theorem free_nil (w : World) : Calls Try.prog 11 #[.pointer none] w fun e w' => e = .returned (.bool false) ∧ w' = w := by
  go_enter Try.func11, Try.ntmps11
  go_wp2
  go_ret
  exact ⟨rfl, rfl⟩

theorem awake_true (w : World) : Calls Try.prog 12 #[] w (PTrue w) := by
  go_enter Try.func12, Try.ntmps12
  go_wp2_with fail
  refine (new_any _ _ _ _).mono ?_
  rintro e w1 ⟨b, rfl, hb, k1, g1⟩
  go_wp2_with fail
  refine (sent_no _ _ _ k1 (ok0 _ _ _ (by omega) (by omega))).mono ?_
  rintro e w2 ⟨rfl, k2, g2⟩
  have E : sentNo (st0 1 5 0) = { l := 1, m := 5, e := 2, t := 2, x := 1013904223 } := rfl
  rw [E] at k2
  clear E
  go_wp2_with fail
  refine (exponent_any _ _ _ k2).mono ?_
  rintro e w3 ⟨rfl, rfl⟩
  go_wp2_with fail
  refine (wait_any _ _ _ k2).mono ?_
  rintro e w3 ⟨rfl, rfl⟩
  go_wp2_with fail
  refine (free_any _ _ _ false k2 (by decide)).mono ?_
  rintro e w3 ⟨rfl, rfl⟩
  go_wp2_with fail
  refine (wait_any _ _ _ k2).mono ?_
  rintro e w3 ⟨rfl, rfl⟩
  go_wp2_with fail
  go_ret
  exact ⟨rfl, ((g1.none.trans (g2.one hb))).fresh⟩
end Go.Proofs.Yteollhemjlmdhaa
