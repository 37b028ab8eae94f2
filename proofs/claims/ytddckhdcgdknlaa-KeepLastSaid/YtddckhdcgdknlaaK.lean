/- What each method of a keeper does. No condition but that its numbers are within bounds. -/
import Derived.Test.YtddckhdcgdknlaaBase
namespace Go.Proofs.Ytddckhdcgdknlaa
set_option linter.unusedVariables false
open Go.ChangeShapes Go.WideShapes Go.ChangeAt Go.RowKit

/-- a keeper lies in block b -/
def Kp (w : World) (b : Nat) (ev s : Int) : Prop := w.heap[b]? = some (.cells #[.int .i64 ev, .int .i64 s] 37 (0, 0))

def PSet (b : Nat) (w : World) (ev s : Int) (e : Ending) (w' : World) : Prop := e = .returned (.tuple #[]) ∧ Kp w' b ev s ∧ Chg (· = b) w w'
def PBool (w : World) (v : Bool) (e : Ending) (w' : World) : Prop := e = .returned (.bool v) ∧ Chg (fun _ => False) w w'
def PInt (w : World) (v : Int) (e : Ending) (w' : World) : Prop := e = .returned (.int .i64 v) ∧ w' = w

theorem Kp.set {w : World} {b : Nat} {ev s : Int} (h : Kp w b ev s) (t : Int) : Kp (w.setCell ⟨b, 1, none⟩ (.int .i64 t)) b ev t := by
  have := block_set h 1 (.int .i64 t)
  simpa [Kp] using this

theorem Kp.c0 {w : World} {b : Nat} {ev s : Int} (h : Kp w b ev s) : w.cell? ⟨b, 0, none⟩ = some (.int .i64 ev) := by
  rw [cell_of_block h]; rfl
theorem Kp.c1 {w : World} {b : Nat} {ev s : Int} (h : Kp w b ev s) : w.cell? ⟨b, 1, none⟩ = some (.int .i64 s) := by
  rw [cell_of_block h]; rfl
theorem Kp.f1 {w : World} {b : Nat} {ev s : Int} (h : Kp w b ev s) : w.frozen? ⟨b, 1, none⟩ = false := frozen_of_block h 1

theorem pset {w : World} {b : Nat} {ev s : Int} (h : Kp w b ev s) {t u : Int} (e : t = u) :
    PSet b w ev u (.returned (.tuple #[])) (w.setCell ⟨b, 1, none⟩ (.int .i64 t)) :=
  ⟨rfl, e ▸ h.set t, Chg.set _ _ _ rfl⟩

theorem Kp.keep {w w' : World} {b : Nat} {ev s : Int} {S : Nat → Prop} (h : Kp w b ev s) (g : Chg S w w') (hs : ¬ S b) : Kp w' b ev s := Chg.keep g h hs
theorem Kp.kept {w w' : World} {b : Nat} {ev s : Int} (h : Kp w b ev s) (g : Chg (fun _ => False) w w') : Kp w' b ev s := Chg.keep g h (fun f => f)

theorem slot_any (w : World) (b : Nat) (ev s t : Int) (h : Kp w b ev s) (h0 : 0 ≤ s) (h1 : s ≤ 1000000) (ht : t = min (s+1) 1000000) :
   Calls Try.prog 10 #[.pointer (some ⟨b, 0, none⟩)] w (PSet b w ev t) := by
  have c1 := h.c1
  have f1 := h.f1
  have H := Lib.hid h
  have HT := Lib.hid ht
  clear h ht
  go_enter Try.func10, Try.ntmps10
  go_wp2
  all_goals
    go_end0
    exact pset H.out (by have := HT.out; omega)

theorem heard_any (w : World) (b : Nat) (ev s : Int) (h : Kp w b ev s) :
   Calls Try.prog 9 #[.pointer (some ⟨b, 0, none⟩)] w (PSet b w ev 0) := by
  have c1 := h.c1
  have f1 := h.f1
  have H := Lib.hid h
  clear h
  go_enter Try.func9, Try.ntmps9
  go_wp2
  go_end0
  exact pset H.out rfl

theorem since_any (w : World) (b : Nat) (ev s : Int) (h : Kp w b ev s) :
   Calls Try.prog 14 #[.pointer (some ⟨b, 0, none⟩)] w (PInt w s) := by
  have c1 := h.c1
  clear h
  go_enter Try.func14, Try.ntmps14
  go_wp2
  go_ret
  exact ⟨rfl, rfl⟩

theorem due_quiet (w : World) (b : Nat) (ev s : Int) (v : Bool) (h : Kp w b ev s) (hv : decide (ev ≤ s) = v) :
   Calls Try.prog 12 #[.pointer (some ⟨b, 0, none⟩)] w fun e w' => e = .returned (.bool v) ∧ ∃ m, w' = w.drewN m := by
  subst hv
  have c0 := h.c0
  have c1 := h.c1
  clear h
  go_enter Try.func12, Try.ntmps12
  go_wp2
  go_quiet (fail)
  go_wp2
  go_ret
  exact ⟨rfl, _, rfl⟩
theorem due_any (w : World) (b : Nat) (ev s : Int) (v : Bool) (h : Kp w b ev s) (hv : decide (ev ≤ s) = v) :
   Calls Try.prog 12 #[.pointer (some ⟨b, 0, none⟩)] w (PBool w v) :=
  (due_quiet w b ev s v h hv).mono fun e w' ⟨he, m, hm⟩ => ⟨he, hm ▸ Chg.drewN _ _ _⟩

/-- the document's keeper in block b -/
def Rk (w : World) (b : Nat) (ev s : Int) : Prop := w.heap[b]? = some (.cells #[.int .i64 ev, .int .i64 s] 28 (0, 0))
def RSet (b : Nat) (w : World) (ev s : Int) (e : Ending) (w' : World) : Prop := e = .returned (.tuple #[]) ∧ Rk w' b ev s ∧ Chg (· = b) w w'
theorem Rk.set {w : World} {b : Nat} {ev s : Int} (h : Rk w b ev s) (t : Int) : Rk (w.setCell ⟨b, 1, none⟩ (.int .i64 t)) b ev t := by
  have := block_set h 1 (.int .i64 t)
  simpa [Rk] using this
theorem Rk.c0 {w : World} {b : Nat} {ev s : Int} (h : Rk w b ev s) : w.cell? ⟨b, 0, none⟩ = some (.int .i64 ev) := by
  rw [cell_of_block h]; rfl
theorem Rk.c1 {w : World} {b : Nat} {ev s : Int} (h : Rk w b ev s) : w.cell? ⟨b, 1, none⟩ = some (.int .i64 s) := by
  rw [cell_of_block h]; rfl
theorem Rk.f1 {w : World} {b : Nat} {ev s : Int} (h : Rk w b ev s) : w.frozen? ⟨b, 1, none⟩ = false := frozen_of_block h 1
theorem Rk.keep {w w' : World} {b : Nat} {ev s : Int} {S : Nat → Prop} (h : Rk w b ev s) (g : Chg S w w') (hs : ¬ S b) : Rk w' b ev s := Chg.keep g h hs
theorem rset {w : World} {b : Nat} {ev s : Int} (h : Rk w b ev s) {t u : Int} (e : t = u) :
    RSet b w ev u (.returned (.tuple #[])) (w.setCell ⟨b, 1, none⟩ (.int .i64 t)) :=
  ⟨rfl, e ▸ h.set t, Chg.set _ _ _ rfl⟩

theorem rslot_any (w : World) (b : Nat) (ev s t : Int) (h : Rk w b ev s) (h0 : 0 ≤ s) (h1 : s ≤ 1000000) (ht : t = min (s+1) 1000000) :
   Calls Try.prog 11 #[.pointer (some ⟨b, 0, none⟩)] w (RSet b w ev t) := by
  have c1 := h.c1
  have f1 := h.f1
  have H := Lib.hid h
  have HT := Lib.hid ht
  clear h ht
  go_enter Try.func11, Try.ntmps11
  go_wp2
  all_goals
    go_end0
    exact rset H.out (by have := HT.out; omega)
theorem rdue_quiet (w : World) (b : Nat) (ev s : Int) (v : Bool) (h : Rk w b ev s) (hv : decide (ev ≤ s) = v) :
   Calls Try.prog 13 #[.pointer (some ⟨b, 0, none⟩)] w fun e w' => e = .returned (.bool v) ∧ ∃ m, w' = w.drewN m := by
  subst hv
  have c0 := h.c0
  have c1 := h.c1
  clear h
  go_enter Try.func13, Try.ntmps13
  go_wp2
  go_quiet (fail)
  go_wp2
  go_ret
  exact ⟨rfl, _, rfl⟩
end Go.Proofs.Ytddckhdcgdknlaa
