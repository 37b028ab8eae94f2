/- What each method of a clock does. No condition but that its numbers are within bounds. -/
import Derived.Test.YtkpbilajimdbfaaBase
import Derived.StillTailTactics
namespace Go.Proofs.Ytkpbilajimdbfaa
set_option linter.unusedVariables false
open Go.ChangeShapes Go.WideShapes Go.ChangeAt Go.RowKit

def cutf (n m : Int) : Int := max (-m) (min n m)
def downf (n : Int) : Int := n / 1000000

/-- a clock lies in block b -/
def Ck (w : World) (b : Nat) (base sum slots : Int) : Prop := w.heap[b]? = some (.cells #[.int .i64 base, .int .i64 sum, .int .i64 slots] 43 (0, 0))
def PSet (b : Nat) (w : World) (base sum slots : Int) (e : Ending) (w' : World) : Prop := e = .returned (.tuple #[]) ∧ Ck w' b base sum slots ∧ Chg (· = b) w w'

theorem Ck.c0 {w : World} {b : Nat} {x y z : Int} (h : Ck w b x y z) : w.cell? ⟨b, 0, none⟩ = some (.int .i64 x) := by rw [cell_of_block h]; rfl
theorem Ck.c1 {w : World} {b : Nat} {x y z : Int} (h : Ck w b x y z) : w.cell? ⟨b, 1, none⟩ = some (.int .i64 y) := by rw [cell_of_block h]; rfl
theorem Ck.c2 {w : World} {b : Nat} {x y z : Int} (h : Ck w b x y z) : w.cell? ⟨b, 2, none⟩ = some (.int .i64 z) := by rw [cell_of_block h]; rfl
theorem Ck.f {w : World} {b : Nat} {x y z : Int} (h : Ck w b x y z) (o : Nat) : w.frozen? ⟨b, o, none⟩ = false := frozen_of_block h o
theorem Ck.keep {w w' : World} {b : Nat} {x y z : Int} {S : Nat → Prop} (h : Ck w b x y z) (g : Chg S w w') (hs : ¬ S b) : Ck w' b x y z := Chg.keep g h hs
theorem Ck.kept {w w' : World} {b : Nat} {x y z : Int} (h : Ck w b x y z) (g : Chg (fun _ => False) w w') : Ck w' b x y z := Chg.keep g h (fun f => f)
theorem Ck.set0 {w : World} {b : Nat} {x y z : Int} (h : Ck w b x y z) (t : Int) : Ck (w.setCell ⟨b, 0, none⟩ (.int .i64 t)) b t y z := by
  have := block_set h 0 (.int .i64 t); simpa [Ck] using this
theorem Ck.set1 {w : World} {b : Nat} {x y z : Int} (h : Ck w b x y z) (t : Int) : Ck (w.setCell ⟨b, 1, none⟩ (.int .i64 t)) b x t z := by
  have := block_set h 1 (.int .i64 t); simpa [Ck] using this
theorem Ck.set2 {w : World} {b : Nat} {x y z : Int} (h : Ck w b x y z) (t : Int) : Ck (w.setCell ⟨b, 2, none⟩ (.int .i64 t)) b x y t := by
  have := block_set h 2 (.int .i64 t); simpa [Ck] using this

theorem chg1 (w : World) (b o : Nat) (v : Value) : Chg (· = b) w (w.setCell ⟨b, o, none⟩ v) := Chg.set w ⟨b, o, none⟩ v rfl

theorem ret_int {k : IntKind} {a b : Int} (h : a = b) : Ending.returned (.int k a) = .returned (.int k b) := by rw [h]

theorem cut_any (n m : Int) (w : World) (h0 : 0 ≤ m) (h1 : m ≤ 1000000000000) :
   Calls Try.prog 20 #[.int .i64 n, .int .i64 m] w fun e w' => e = .returned (.int .i64 (cutf n m)) ∧ w' = w := by
  go_enter Try.func20, Try.ntmps20
  go_wp2
  all_goals
    go_ret
    refine ⟨ret_int ?_, rfl⟩
    unfold cutf
    split at * <;> omega

theorem tdm (n m : Int) (h : 0 < m) : n.tdiv m * m + n.tmod m = n ∧ (0 ≤ n → 0 ≤ n.tmod m) ∧ (n ≤ 0 → n.tmod m ≤ 0) ∧ n.tmod m < m ∧ -m < n.tmod m := by
  refine ⟨by rw [Int.mul_comm]; exact Int.mul_tdiv_add_tmod n m, fun h0 => Int.tmod_nonneg _ h0, fun h0 => ?_, Int.tmod_lt_of_pos _ h, ?_⟩
  · have := Int.tmod_nonneg (a := -n) m (by omega)
    rw [Int.neg_tmod] at this; omega
  · have := Int.tmod_lt_of_pos (-n) h
    rw [Int.neg_tmod] at this; omega

theorem down1 {n : Int} (h0 : -1000000000000000 ≤ n) (h1 : n ≤ 1000000000000000) (h : n.tmod 1000000 < 0) : wrap64 (n.tdiv 1000000 - 1) = downf n := by
  obtain ⟨a, b, c, d, e⟩ := tdm n 1000000 (by omega)
  generalize n.tdiv 1000000 = q at *
  generalize n.tmod 1000000 = r at *
  unfold downf wrap64; omega
theorem down2 {n : Int} (h : 0 ≤ n.tmod 1000000) : n.tdiv 1000000 = downf n := by
  obtain ⟨a, b, c, d, e⟩ := tdm n 1000000 (by omega)
  generalize n.tdiv 1000000 = q at *
  generalize n.tmod 1000000 = r at *
  unfold downf; omega

theorem down_any (n : Int) (w : World) (h0 : -1000000000000000 ≤ n) (h1 : n ≤ 1000000000000000) :
   Calls Try.prog 21 #[.int .i64 n, .int .i64 1000000] w fun e w' => e = .returned (.int .i64 (downf n)) ∧ w' = w := by
  by_cases h : n.tmod 1000000 < 0
  · go_enter Try.func21, Try.ntmps21
    go_wp2
    go_ret
    exact ⟨ret_int (down1 h0 h1 h), rfl⟩
  · go_enter Try.func21, Try.ntmps21
    go_wp2
    go_ret
    exact ⟨ret_int (down2 (by omega)), rfl⟩

theorem cutf_bd (n m : Int) (h : 0 ≤ m) : -m ≤ cutf n m ∧ cutf n m ≤ m := by unfold cutf; omega
theorem downf_bd (n : Int) (h0 : -1000000000000000 ≤ n) (h1 : n ≤ 1000000000000000) : -1000000000 ≤ downf n ∧ downf n ≤ 1000000000 := by unfold downf; omega

theorem pset {w w' : World} {b : Nat} {x y z : Int} (h : Ck w' b x y z) (g : Chg (· = b) w w') : PSet b w x y z (.returned (.tuple #[])) w' := ⟨rfl, h, g⟩

theorem off_quiet (w : World) (b : Nat) (x y z : Int) (h : Ck w b x y z) (hx : -1000000000000000 ≤ x ∧ x ≤ 1000000000000000) (hy : -1000000000000000 ≤ y ∧ y ≤ 1000000000000000) :
   Calls Try.prog 12 #[.pointer (some ⟨b, 0, none⟩)] w fun e w' => e = .returned (.int .i64 (x + downf y)) ∧ ∃ m, w' = w.drewN m := by
  obtain ⟨hx0, hx1⟩ := hx
  obtain ⟨hy0, hy1⟩ := hy
  obtain ⟨hd0, hd1⟩ := downf_bd y hy0 hy1
  have c0 := h.c0
  have c1 := h.c1
  clear h
  go_enter Try.func12, Try.ntmps12
  go_wp2
  go_quiet ((go_at_call 21; exact Calls.quiet_of_same (down_any _ _ hy0 hy1)))
  go_wp2
  go_ret
  exact ⟨rfl, _, rfl⟩

theorem slots_any (w : World) (b : Nat) (x y z : Int) (h : Ck w b x y z) :
   Calls Try.prog 13 #[.pointer (some ⟨b, 0, none⟩)] w fun e w' => e = .returned (.int .i64 z) ∧ w' = w := by
  have c2 := h.c2
  clear h
  go_enter Try.func13, Try.ntmps13
  go_wp2
  go_ret
  exact ⟨rfl, rfl⟩

theorem put_any (w : World) (b : Nat) (x y z n : Int) (h : Ck w b x y z) :
   Calls Try.prog 14 #[.pointer (some ⟨b, 0, none⟩), .int .i64 n] w (PSet b w (cutf n 1000000000000) 0 z) := by
  have c0 := h.c0
  have c1 := h.c1
  have f0 := h.f 0
  have f1 := h.f 1
  have H := Lib.hid h
  clear h
  go_enter Try.func14, Try.ntmps14
  go_wp2_with ((go_at_call 20; refine (cut_any _ _ _ (by omega) (by omega)).mono ?_; rintro e w' ⟨rfl, rfl⟩))
  go_end0
  exact pset ((H.out.set0 _).set1 _) ((chg1 _ _ _ _).trans (chg1 _ _ _ _))

theorem slot_any (w : World) (b : Nat) (x y z p : Int) (h : Ck w b x y z) (hy : -1000000000000 ≤ y ∧ y ≤ 1000000000000) (hz : 0 ≤ z ∧ z ≤ 1000000) :
   Calls Try.prog 11 #[.pointer (some ⟨b, 0, none⟩), .int .i64 p] w (PSet b w x (y + cutf p 100 * 10000) (z + 1)) := by
  obtain ⟨hy0, hy1⟩ := hy
  obtain ⟨hz0, hz1⟩ := hz
  obtain ⟨hc0, hc1⟩ := cutf_bd p 100 (by omega)
  have c1 := h.c1
  have c2 := h.c2
  have f1 := h.f 1
  have f2 := h.f 2
  have H := Lib.hid h
  clear h
  go_enter Try.func11, Try.ntmps11
  go_wp2_with fail
  have K := (H.out.set2 (z+1))
  have G := chg1 w b 2 (.int .i64 (z+1))
  clear c1 c2 f1 f2
  have c1 := K.c1
  have f1 := K.f 1
  have HK := Lib.hid K
  clear K
  generalize w.setCell ⟨b, 2, none⟩ (.int .i64 (z+1)) = w1 at *
  have e1 : IntKind.i64.wrap (cutf p 100 * 10000) = cutf p 100 * 10000 := IntWalk.i64_in _ (by omega)
  have e2 : IntKind.i64.wrap (y + cutf p 100 * 10000) = y + cutf p 100 * 10000 := IntWalk.i64_in _ (by omega)
  go_still_tail 8, (by kernel_rfl)
  still_call (cut_any _ _ _ (by omega) (by omega))
  repeat still_step
  refine wpStill_nil ?_
  change wpList _ _ _ _ _ w1.drew
  clear e1 e2
  have K2 : Ck w1.drew b x y (z+1) := HK.out
  have HK2 := Lib.hid K2
  have f2 := K2.f 1
  have c2 := K2.c1
  have G2 := G.trans (Chg.drew _ w1)
  clear K2
  generalize w1.drew = w2 at *
  go_wp2
  go_end0
  exact pset (HK2.out.set1 _) (G2.trans (chg1 _ _ _ _))

theorem move_any (w : World) (b : Nat) (x y z n : Int) (h : Ck w b x y z) (hx : -1000000000000000 ≤ x ∧ x ≤ 1000000000000000) :
   Calls Try.prog 16 #[.pointer (some ⟨b, 0, none⟩), .int .i64 n] w (PSet b w (cutf (x + cutf n 1000000) 1000000000000) y z) := by
  obtain ⟨hx0, hx1⟩ := hx
  obtain ⟨hc0, hc1⟩ := cutf_bd n 1000000 (by omega)
  have c0 := h.c0
  have f0 := h.f 0
  have H := Lib.hid h
  clear h
  go_enter Try.func16, Try.ntmps16
  go_wp2_with fail
  have e1 : IntKind.i64.wrap (x + cutf n 1000000) = x + cutf n 1000000 := IntWalk.i64_in _ (by omega)
  go_still_tail 9, (by kernel_rfl)
  still_call (cut_any _ _ _ (by omega) (by omega))
  repeat still_step
  still_call (cut_any _ _ _ (by omega) (by omega))
  repeat still_step
  refine wpStill_nil ?_
  change wpList _ _ _ _ _ w.drew
  clear e1
  have K2 : Ck w.drew b x y z := H.out
  have HK2 := Lib.hid K2
  have c2 := K2.c0
  have f2 := K2.f 0
  have G2 := Chg.drew (· = b) w
  clear K2
  generalize w.drew = w2 at *
  go_wp2
  go_end0
  exact pset (HK2.out.set0 _) (G2.trans (chg1 _ _ _ _))

end Go.Proofs.Ytkpbilajimdbfaa
