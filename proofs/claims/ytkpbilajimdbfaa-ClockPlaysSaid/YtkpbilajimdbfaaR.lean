/- What each method of the document's clock does. No condition but that its numbers are within bounds. -/
import Derived.Test.YtkpbilajimdbfaaN
namespace Go.Proofs.Ytkpbilajimdbfaa
set_option linter.unusedVariables false
open Go.ChangeShapes Go.WideShapes Go.ChangeAt Go.RowKit

/-- the document's clock lies in block b -/
def Rk (w : World) (b : Nat) (base sum slots : Int) : Prop := w.heap[b]? = some (.cells #[.int .i64 base, .int .i64 sum, .int .i64 slots] 36 (0, 0))
def RSet (b : Nat) (w : World) (base sum slots : Int) (e : Ending) (w' : World) : Prop := e = .returned (.tuple #[]) ∧ Rk w' b base sum slots ∧ Chg (· = b) w w'
theorem Rk.c0 {w : World} {b : Nat} {x y z : Int} (h : Rk w b x y z) : w.cell? ⟨b, 0, none⟩ = some (.int .i64 x) := by rw [cell_of_block h]; rfl
theorem Rk.c1 {w : World} {b : Nat} {x y z : Int} (h : Rk w b x y z) : w.cell? ⟨b, 1, none⟩ = some (.int .i64 y) := by rw [cell_of_block h]; rfl
theorem Rk.c2 {w : World} {b : Nat} {x y z : Int} (h : Rk w b x y z) : w.cell? ⟨b, 2, none⟩ = some (.int .i64 z) := by rw [cell_of_block h]; rfl
theorem Rk.f {w : World} {b : Nat} {x y z : Int} (h : Rk w b x y z) (o : Nat) : w.frozen? ⟨b, o, none⟩ = false := frozen_of_block h o
theorem Rk.keep {w w' : World} {b : Nat} {x y z : Int} {S : Nat → Prop} (h : Rk w b x y z) (g : Chg S w w') (hs : ¬ S b) : Rk w' b x y z := Chg.keep g h hs
theorem Rk.kept {w w' : World} {b : Nat} {x y z : Int} (h : Rk w b x y z) (g : Chg (fun _ => False) w w') : Rk w' b x y z := Chg.keep g h (fun f => f)
theorem Rk.set0 {w : World} {b : Nat} {x y z : Int} (h : Rk w b x y z) (t : Int) : Rk (w.setCell ⟨b, 0, none⟩ (.int .i64 t)) b t y z := by
  have := block_set h 0 (.int .i64 t); simpa [Rk] using this
theorem Rk.set1 {w : World} {b : Nat} {x y z : Int} (h : Rk w b x y z) (t : Int) : Rk (w.setCell ⟨b, 1, none⟩ (.int .i64 t)) b x t z := by
  have := block_set h 1 (.int .i64 t); simpa [Rk] using this
theorem Rk.set2 {w : World} {b : Nat} {x y z : Int} (h : Rk w b x y z) (t : Int) : Rk (w.setCell ⟨b, 2, none⟩ (.int .i64 t)) b x y t := by
  have := block_set h 2 (.int .i64 t); simpa [Rk] using this
theorem rset {w w' : World} {b : Nat} {x y z : Int} (h : Rk w' b x y z) (g : Chg (· = b) w w') : RSet b w x y z (.returned (.tuple #[])) w' := ⟨rfl, h, g⟩

theorem clamp_any (n l m : Int) (w : World) (e : l = -m) :
   Calls Try.prog 22 #[.int .i64 n, .int .i64 l, .int .i64 m] w fun e w' => e = .returned (.int .i64 (cutf n m)) ∧ w' = w := by
  have E := Lib.hid e
  clear e
  go_enter Try.func22, Try.ntmps22
  go_wp2
  all_goals
    go_ret
    refine ⟨ret_int ?_, rfl⟩
    have := E.out
    unfold cutf
    split at * <;> omega

theorem rput_any (w : World) (b : Nat) (x y z n : Int) (h : Rk w b x y z) :
   Calls Try.prog 15 #[.pointer (some ⟨b, 0, none⟩), .int .i64 n] w (RSet b w (cutf n 1000000000000) 0 z) := by
  have c0 := h.c0
  have c1 := h.c1
  have f0 := h.f 0
  have f1 := h.f 1
  have H := Lib.hid h
  clear h
  go_enter Try.func15, Try.ntmps15
  go_wp2_with ((go_at_call 22; refine (clamp_any _ _ _ _ (by decide)).mono ?_; rintro e w' ⟨rfl, rfl⟩))
  go_end0
  exact rset ((H.out.set0 _).set1 _) ((chg1 _ _ _ _).trans (chg1 _ _ _ _))

theorem rslot_any (w : World) (b : Nat) (x y z p : Int) (h : Rk w b x y z) (hy : -1000000000000 ≤ y ∧ y ≤ 1000000000000) (hz : 0 ≤ z ∧ z ≤ 1000000) :
   Calls Try.prog 18 #[.pointer (some ⟨b, 0, none⟩), .int .i64 p] w (RSet b w x (y + cutf p 100 * 10000) (z + 1)) := by
  obtain ⟨hy0, hy1⟩ := hy
  obtain ⟨hz0, hz1⟩ := hz
  obtain ⟨hc0, hc1⟩ := cutf_bd p 100 (by omega)
  have c1 := h.c1
  have c2 := h.c2
  have f1 := h.f 1
  have f2 := h.f 2
  have H := Lib.hid h
  clear h
  go_enter Try.func18, Try.ntmps18
  go_wp2_with fail
  have K := (H.out.set2 (z+1))
  have G := chg1 w b 2 (.int .i64 (z+1))
  clear c1 c2 f1 f2
  have c1 := K.c1
  have f1 := K.f 1
  have HK := Lib.hid K
  clear K
  generalize w.setCell ⟨b, 2, none⟩ (.int .i64 (z+1)) = w1 at *
  have e1 : IntKind.i64.wrap (cutf p 100 * 10000) = cutf p 100 * 10000 := IntWalk.i64_in _ (by omega)
  have e2 : IntKind.i64.wrap (y + cutf p 100 * 10000) = y + cutf p 100 * 10000 := IntWalk.i64_in _ (by omega)
  go_still_tail 8, (by kernel_rfl)
  still_call (clamp_any _ _ _ _ (by decide))
  repeat still_step
  refine wpStill_nil ?_
  change wpList _ _ _ _ _ w1.drew
  clear e1 e2
  have K2 : Rk w1.drew b x y (z+1) := HK.out
  have HK2 := Lib.hid K2
  have f2 := K2.f 1
  have c2 := K2.c1
  have G2 := G.trans (Chg.drew _ w1)
  clear K2
  generalize w1.drew = w2 at *
  go_wp2
  go_end0
  exact rset (HK2.out.set1 _) (G2.trans (chg1 _ _ _ _))

theorem rmove_any (w : World) (b : Nat) (x y z n : Int) (h : Rk w b x y z) (hx : -1000000000000000 ≤ x ∧ x ≤ 1000000000000000) :
   Calls Try.prog 17 #[.pointer (some ⟨b, 0, none⟩), .int .i64 n] w (RSet b w (cutf (x + cutf n 1000000) 1000000000000) y z) := by
  obtain ⟨hx0, hx1⟩ := hx
  obtain ⟨hc0, hc1⟩ := cutf_bd n 1000000 (by omega)
  have c0 := h.c0
  have f0 := h.f 0
  have H := Lib.hid h
  clear h
  go_enter Try.func17, Try.ntmps17
  have e1 : IntKind.i64.wrap (x + cutf n 1000000) = x + cutf n 1000000 := IntWalk.i64_in _ (by omega)
  go_still_tail 9, (by kernel_rfl)
  still_call (clamp_any _ _ _ _ (by decide))
  repeat still_step
  still_call (clamp_any _ _ _ _ (by decide))
  repeat still_step
  refine wpStill_nil ?_
  change wpList _ _ _ _ _ w.drew
  clear e1
  have K2 : Rk w.drew b x y z := H.out
  have HK2 := Lib.hid K2
  have c2 := K2.c0
  have f2 := K2.f 0
  have G2 := Chg.drew (· = b) w
  clear K2
  generalize w.drew = w2 at *
  go_wp2
  go_end0
  exact rset (HK2.out.set0 _) (G2.trans (chg1 _ _ _ _))

theorem roff_any (w : World) (b : Nat) (x y z : Int) (h : Rk w b x y z) (hx : -1000000000000000 ≤ x ∧ x ≤ 1000000000000000) (hy : -1000000000000000 ≤ y ∧ y ≤ 1000000000000000) :
   Calls Try.prog 19 #[.pointer (some ⟨b, 0, none⟩)] w fun e w' => e = .returned (.int .i64 (x + downf y)) ∧ w' = w := by
  obtain ⟨hx0, hx1⟩ := hx
  obtain ⟨hy0, hy1⟩ := hy
  have c0 := h.c0
  have c1 := h.c1
  clear h
  by_cases h : y.tmod 1000000 < 0
  · have e := down1 hy0 hy1 h
    obtain ⟨d0, d1⟩ := downf_bd y hy0 hy1
    go_enter Try.func19, Try.ntmps19
    go_wp2
    go_ret

    exact ⟨ret_int (by omega), rfl⟩
  · have h' : 0 ≤ y.tmod 1000000 := by omega
    have e := down2 h'
    obtain ⟨d0, d1⟩ := downf_bd y hy0 hy1
    go_enter Try.func19, Try.ntmps19
    go_wp2
    go_ret

    exact ⟨ret_int (by omega), rfl⟩
end Go.Proofs.Ytkpbilajimdbfaa
