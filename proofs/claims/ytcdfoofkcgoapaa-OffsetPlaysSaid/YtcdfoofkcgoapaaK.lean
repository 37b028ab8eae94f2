/- What each method of a proof of offsets does. No condition but that its numbers are within bounds. -/
import Derived.Test.YtcdfoofkcgoapaaF
import Derived.StillTailTactics
namespace Go.Proofs.Ytcdfoofkcgoapaa
set_option linter.unusedVariables false
open Go.ChangeShapes Go.WideShapes Go.ChangeAt Go.RowKit
theorem chg1 (w : World) (b o : Nat) (v : Value) : Chg (· = b) w (w.setCell ⟨b, o, none⟩ v) := Chg.set w ⟨b, o, none⟩ v rfl
def V (z : Int) : Value := .int .i64 z
/-- a proof lies in block b, its bounds in block d -/
structure Pk (w : World) (b d : Nat) (l : List Int) : Prop where
  head : w.heap[b]? = some (.cells #[.slice (some ⟨d, 0, none⟩) l.length l.length] 46 (0, 0))
  data : w.heap[d]? = some (.cells (l.map V).toArray 2 (0, 0))
  ne : b ≠ d
theorem Pk.c {w : World} {b d : Nat} {l : List Int} (h : Pk w b d l) : w.cell? ⟨b, 0, none⟩ = some (.slice (some ⟨d, 0, none⟩) l.length l.length) := by
  rw [cell_of_block h.head]; rfl
theorem Pk.at {w : World} {b d : Nat} {l : List Int} (h : Pk w b d l) {i : Nat} {z : Int} (hi : l[i]? = some z) : w.cell? ⟨d, i, none⟩ = some (.int .i64 z) := by
  rw [cell_of_block h.data]; simp [hi, V]
theorem Pk.f {w : World} {b d : Nat} {l : List Int} (h : Pk w b d l) (o : Nat) : w.frozen? ⟨d, o, none⟩ = false := frozen_of_block h.data o
theorem Pk.keep {w w' : World} {b d : Nat} {l : List Int} {S : Nat → Prop} (h : Pk w b d l) (g : Chg S w w') (hb : ¬ S b) (hd : ¬ S d) : Pk w' b d l :=
  ⟨Chg.keep g h.head hb, Chg.keep g h.data hd, h.ne⟩
theorem Pk.set {w : World} {b d : Nat} {l : List Int} (h : Pk w b d l) (i : Nat) (z : Int) : Pk (w.setCell ⟨d, i, none⟩ (.int .i64 z)) b d (l.set i z) := by
  refine ⟨?_, ?_, h.ne⟩
  · have := Chg.keep (chg1 w d i (.int .i64 z)) h.head h.ne
    simpa using this
  · have := block_set h.data i (.int .i64 z)
    rw [this]
    simp [List.map_set, V]
theorem has_any (w : World) (b d : Nat) (l : List Int) (i : Int) (h : Pk w b d l) (hl : l.length ≤ 16) (v : Bool) (hv : decide (0 ≤ i ∧ i < l.length) = v) :
   Calls Try.prog 26 #[.pointer (some ⟨b, 0, none⟩), .int .i64 i] w fun r w' => r = .returned (.bool v) ∧ w' = w := by
  have c := h.c
  clear h
  by_cases h0 : 0 ≤ i
  · by_cases h1 : i < l.length
    all_goals
      go_enter Try.func26, Try.ntmps26
      go_wp2
      go_ret
      exact ⟨ret_bool (by rw [← hv]; simp; omega), rfl⟩
  · go_enter Try.func26, Try.ntmps26
    go_wp2
    go_ret
    exact ⟨ret_bool (by rw [← hv]; simp; omega), rfl⟩
theorem has_nil (w : World) (i : Int)  :
   Calls Try.prog 26 #[.pointer none, .int .i64 i] w fun r w' => r = .returned (.bool false) ∧ w' = w := by
  go_enter Try.func26, Try.ntmps26
  go_wp2
  go_ret
  exact ⟨rfl, rfl⟩
def bnd (l : List Int) (i : Int) : Int × Bool := if 0 ≤ i ∧ i < l.length ∧ 0 ≤ l.getD i.toNat 0 then (l.getD i.toNat 0, true) else (0, false)
theorem ret2 {x y : Int} {u v : Bool} (h : (x, u) = (y, v)) : Ending.returned (.tuple #[.int .i64 x, .bool u]) = .returned (.tuple #[.int .i64 y, .bool v]) := by cases h; rfl
theorem bound_any (w : World) (b d : Nat) (l : List Int) (i : Int) (h : Pk w b d l) (hl : l.length ≤ 16) :
   Calls Try.prog 22 #[.pointer (some ⟨b, 0, none⟩), .int .i64 i] w fun r w' => r = .returned (.tuple #[.int .i64 (bnd l i).1, .bool (bnd l i).2]) ∧ w' = w := by
  by_cases h0 : 0 ≤ i ∧ i < l.length
  · obtain ⟨h0, h1⟩ := h0
    obtain ⟨n, rfl⟩ := Int.eq_ofNat_of_zero_le h0
    have hn : n < l.length := by omega
    obtain ⟨z, hz⟩ : ∃ z, l[n]? = some z := ⟨_, List.getElem?_eq_getElem hn⟩
    have c := h.c
    have cz := h.at hz
    have e : bnd l (n : Int) = if 0 ≤ z then (z, true) else (0, false) := by
      have : l.getD n 0 = z := by rw [List.getD, hz]; rfl
      unfold bnd
      simp only [Int.toNat_natCast, this]
      by_cases hz0 : 0 ≤ z
      · rw [if_pos ⟨h0, h1, hz0⟩, if_pos hz0]
      · rw [if_neg (fun h => hz0 h.2.2), if_neg hz0]
    have E := Lib.hid e
    have H := Lib.hid h
    clear e h
    by_cases hz0 : z < 0
    · have e2 : bnd l (n : Int) = (0, false) := by rw [E.out, if_neg (by omega)]
      have E2 := Lib.hid e2
      clear e2 hz
      go_enter Try.func22, Try.ntmps22
      go_wp2_with fail
      refine (has_any _ _ _ _ _ H.out hl true (by simp; omega)).mono ?_
      rintro r w' ⟨rfl, rfl⟩
      go_wp2_with fail
      go_ret2
      exact ⟨ret2 E2.out.symm, rfl⟩
    · have e2 : bnd l (n : Int) = (z, true) := by rw [E.out, if_pos (by omega)]
      have E2 := Lib.hid e2
      clear e2 hz
      go_enter Try.func22, Try.ntmps22
      go_wp2_with fail
      refine (has_any _ _ _ _ _ H.out hl true (by simp; omega)).mono ?_
      rintro r w' ⟨rfl, rfl⟩
      go_wp2_with fail
      go_ret2
      exact ⟨ret2 E2.out.symm, rfl⟩
  · have e2 : bnd l i = (0, false) := by unfold bnd; rw [if_neg (fun h => h0 ⟨h.1, h.2.1⟩)]
    have E2 := Lib.hid e2
    have H := Lib.hid h
    clear e2 h
    go_enter Try.func22, Try.ntmps22
    go_wp2_with fail
    refine (has_any _ _ _ _ _ H.out hl false (by simpa using h0)).mono ?_
    rintro r w' ⟨rfl, rfl⟩
    go_wp2_with fail
    go_ret2
    exact ⟨ret2 E2.out.symm, rfl⟩
end Go.Proofs.Ytcdfoofkcgoapaa
