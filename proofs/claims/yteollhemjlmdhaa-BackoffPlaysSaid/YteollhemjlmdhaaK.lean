/- What each method of a backoff does. No condition but that its numbers are within bounds. -/
import Derived.Test.YteollhemjlmdhaaBase
import Derived.StillTailTactics
namespace Go.Proofs.Yteollhemjlmdhaa
set_option linter.unusedVariables false
open Go.ChangeShapes Go.WideShapes Go.ChangeAt Go.RowKit

theorem chg1 (w : World) (b o : Nat) (v : Value) : Chg (· = b) w (w.setCell ⟨b, o, none⟩ v) := Chg.set w ⟨b, o, none⟩ v rfl

/-- a backoff: least, most, exponent, wait, x -/
structure St where
  l : Int
  m : Int
  e : Int
  t : Int
  x : Int
def Bk (w : World) (b : Nat) (s : St) : Prop := w.heap[b]? = some (.cells #[.int .i64 s.l, .int .i64 s.m, .int .i64 s.e, .int .i64 s.t, .int .u32 s.x] 41 (0, 0))
/-- its numbers are within bounds -/
structure Ok (s : St) : Prop where
  l0 : 0 ≤ s.l
  lm : s.l ≤ s.m
  m8 : s.m ≤ 8
  le : s.l ≤ s.e
  em : s.e ≤ s.m
  t0 : 0 ≤ s.t
  t1 : s.t ≤ 65535
  x0 : 0 ≤ s.x
  x1 : s.x ≤ 4294967295
def PSet (b : Nat) (w : World) (s : St) (e : Ending) (w' : World) : Prop := e = .returned (.tuple #[]) ∧ Bk w' b s ∧ Chg (· = b) w w'
theorem Bk.c0 {w : World} {b : Nat} {s : St} (h : Bk w b s) : w.cell? ⟨b, 0, none⟩ = some (.int .i64 s.l) := by rw [cell_of_block h]; rfl
theorem Bk.c1 {w : World} {b : Nat} {s : St} (h : Bk w b s) : w.cell? ⟨b, 1, none⟩ = some (.int .i64 s.m) := by rw [cell_of_block h]; rfl
theorem Bk.c2 {w : World} {b : Nat} {s : St} (h : Bk w b s) : w.cell? ⟨b, 2, none⟩ = some (.int .i64 s.e) := by rw [cell_of_block h]; rfl
theorem Bk.c3 {w : World} {b : Nat} {s : St} (h : Bk w b s) : w.cell? ⟨b, 3, none⟩ = some (.int .i64 s.t) := by rw [cell_of_block h]; rfl
theorem Bk.c4 {w : World} {b : Nat} {s : St} (h : Bk w b s) : w.cell? ⟨b, 4, none⟩ = some (.int .u32 s.x) := by rw [cell_of_block h]; rfl
theorem Bk.f {w : World} {b : Nat} {s : St} (h : Bk w b s) (o : Nat) : w.frozen? ⟨b, o, none⟩ = false := frozen_of_block h o
theorem Bk.keep {w w' : World} {b : Nat} {s : St} {S : Nat → Prop} (h : Bk w b s) (g : Chg S w w') (hs : ¬ S b) : Bk w' b s := Chg.keep g h hs
theorem Bk.kept {w w' : World} {b : Nat} {s : St} (h : Bk w b s) (g : Chg (fun _ => False) w w') : Bk w' b s := Chg.keep g h (fun f => f)
theorem Bk.set2 {w : World} {b : Nat} {s : St} (h : Bk w b s) (t : Int) : Bk (w.setCell ⟨b, 2, none⟩ (.int .i64 t)) b { s with e := t } := by
  have := block_set h 2 (.int .i64 t); simpa [Bk] using this
theorem Bk.set3 {w : World} {b : Nat} {s : St} (h : Bk w b s) (t : Int) : Bk (w.setCell ⟨b, 3, none⟩ (.int .i64 t)) b { s with t := t } := by
  have := block_set h 3 (.int .i64 t); simpa [Bk] using this
theorem Bk.set4 {w : World} {b : Nat} {s : St} (h : Bk w b s) (t : Int) : Bk (w.setCell ⟨b, 4, none⟩ (.int .u32 t)) b { s with x := t } := by
  have := block_set h 4 (.int .u32 t); simpa [Bk] using this

theorem ret_int {k : IntKind} {a b : Int} (h : a = b) : Ending.returned (.int k a) = .returned (.int k b) := by rw [h]

theorem exponent_any (w : World) (b : Nat) (s : St) (h : Bk w b s) :
   Calls Try.prog 8 #[.pointer (some ⟨b, 0, none⟩)] w fun e w' => e = .returned (.int .i64 s.e) ∧ w' = w := by
  have c := h.c2
  clear h
  go_enter Try.func8, Try.ntmps8
  go_wp2
  go_ret
  exact ⟨rfl, rfl⟩
theorem wait_any (w : World) (b : Nat) (s : St) (h : Bk w b s) :
   Calls Try.prog 10 #[.pointer (some ⟨b, 0, none⟩)] w fun e w' => e = .returned (.int .i64 s.t) ∧ w' = w := by
  have c := h.c3
  clear h
  go_enter Try.func10, Try.ntmps10
  go_wp2
  go_ret
  exact ⟨rfl, rfl⟩
theorem free_any (w : World) (b : Nat) (s : St) (v : Bool) (h : Bk w b s) (hv : (s.t == 0) = v) :
   Calls Try.prog 11 #[.pointer (some ⟨b, 0, none⟩)] w fun e w' => e = .returned (.bool v) ∧ w' = w := by
  have c := h.c3
  clear h
  go_enter Try.func11, Try.ntmps11
  go_wp2
  go_ret
  exact ⟨rfl, rfl⟩
theorem slot_any (w : World) (b : Nat) (s : St) (h : Bk w b s) (ok : Ok s) :
   Calls Try.prog 14 #[.pointer (some ⟨b, 0, none⟩)] w (PSet b w { s with t := max 0 (s.t - 1) }) := by
  have c := h.c3
  have f := h.f 3
  have h0 := ok.t0
  have h1 := ok.t1
  have H := Lib.hid h
  clear h ok
  by_cases ht : 0 < s.t
  · go_enter Try.func14, Try.ntmps14
    go_wp2
    go_end0
    have e : max 0 (s.t - 1) = s.t - 1 := by omega
    rw [e]
    exact ⟨rfl, H.out.set3 _, chg1 _ _ _ _⟩
  · go_enter Try.func14, Try.ntmps14
    go_wp2
    go_end0
    have e : max 0 (s.t - 1) = s.t := by omega
    rw [e]
    exact ⟨rfl, H.out, Chg.refl _ _⟩

def lcg (x : Int) : Int := (x * 1664525 + 1013904223) % 4294967296
def waitOf (x e : Int) : Int := (x / 65536) % (2 ^ e.toNat)
def sentNo (s : St) : St := { s with e := min (s.e + 1) s.m, x := lcg s.x, t := waitOf (lcg s.x) (min (s.e + 1) s.m) }
def sentYes (s : St) : St := { s with e := s.l, t := 0 }

theorem cases9 (E : Int) (h0 : 0 ≤ E) (h1 : E ≤ 8) : E = 0 ∨ E = 1 ∨ E = 2 ∨ E = 3 ∨ E = 4 ∨ E = 5 ∨ E = 6 ∨ E = 7 ∨ E = 8 := by omega
theorem pset3 {w w4 : World} {b : Nat} {s : St} {v t : Int} (h : Bk w4 b s) (g : Chg (· = b) w (w4.setCell ⟨b, 3, none⟩ (.int .i64 v))) (e : v = t) :
    PSet b w { s with t := t } (.returned (.tuple #[])) (w4.setCell ⟨b, 3, none⟩ (.int .i64 v)) := by
  subst e; exact ⟨rfl, h.set3 _, g⟩
theorem sent_yes (w : World) (b : Nat) (s : St) (h : Bk w b s) :
   Calls Try.prog 9 #[.pointer (some ⟨b, 0, none⟩), .bool true] w (PSet b w (sentYes s)) := by
  have c0 := h.c0
  have c2 := h.c2
  have c3 := h.c3
  have f2 := h.f 2
  have f3 := h.f 3
  have H := Lib.hid h
  clear h
  go_enter Try.func9, Try.ntmps9
  go_wp2
  go_end0
  exact ⟨rfl, (H.out.set2 _).set3 _, (chg1 _ _ _ _).trans (chg1 _ _ _ _)⟩

set_option maxHeartbeats 2000000 in
theorem sent_no (w : World) (b : Nat) (s : St) (h : Bk w b s) (ok : Ok s) :
   Calls Try.prog 9 #[.pointer (some ⟨b, 0, none⟩), .bool false] w (PSet b w (sentNo s)) := by
  have c1 := h.c1
  have c2 := h.c2
  have c3 := h.c3
  have c4 := h.c4
  have f2 := h.f 2
  have f3 := h.f 3
  have f4 := h.f 4
  have H := Lib.hid h
  obtain ⟨a0, a1, a2, a3, a4, a5, a6, a7, a8⟩ := ok
  clear h
  obtain ⟨E, hE⟩ : ∃ E : Int, min (s.e + 1) s.m = E := ⟨_, rfl⟩
  have hE0 : 0 ≤ E ∧ E ≤ 8 := by omega
  obtain ⟨hE0, hE1⟩ := hE0
  have HE := Lib.hid hE
  have e1 : IntKind.i64.wrap (s.e + 1) = s.e + 1 := IntWalk.i64_in _ (by omega)
  clear hE
  by_cases hc : s.m < s.e + 1
  · skip
    go_enter Try.func9, Try.ntmps9
    go_wp2_with fail
    go_still_tail 11, (by kernel_rfl)
    change wpList _ _ _ _ _ w.drew
    clear e1
    have K2 : Bk w.drew b s := H.out
    have G2 := Chg.drew (· = b) w
    have f2' := K2.f 2
    have c2' := K2.c2
    have HK2 := Lib.hid K2
    clear K2 H
    generalize w.drew = w2 at *
    have c4' := HK2.out.c4
    have f4' := HK2.out.f 4
    clear c1 c2 c3 c4 f2 f3 f4
    go_wp2
    have K3 : Bk ((w2.setCell ⟨b, 2, none⟩ (.int .i64 (s.m))).setCell ⟨b, 4, none⟩ (.int .u32 ((s.x * 1664525 + 1013904223) % 4294967296))) b { s with e := E, x := lcg s.x } := by
      have h2 := HE.out
      have h3 : s.m = E := by omega
      rw [show Value.int .i64 s.m = Value.int .i64 E from by rw [h3]]
      exact (HK2.out.set2 _).set4 _
    have G3 := (G2.trans (chg1 w2 b 2 (.int .i64 (s.m)))).trans (chg1 _ b 4 (.int .u32 ((s.x * 1664525 + 1013904223) % 4294967296)))
    clear c2' f2' c4' f4' HK2 G2
    generalize (w2.setCell ⟨b, 2, none⟩ (.int .i64 (s.m))).setCell ⟨b, 4, none⟩ (.int .u32 ((s.x * 1664525 + 1013904223) % 4294967296)) = w3 at *
    have c2 := K3.c2
    have c4 := K3.c4
    have f3 := K3.f 3
    have hx0 : 0 ≤ lcg s.x := by unfold lcg; omega
    have hx1 : lcg s.x ≤ 4294967295 := by unfold lcg; omega
    unfold sentNo
    rw [HE.out]
    have HK3 := Lib.hid K3
    clear K3 HE
    simp only at c2 c4
    generalize lcg s.x = X at *
    have wx : IntKind.i64.wrap (X / 65536) = X / 65536 := IntWalk.i64_in _ (by omega)
    have v0 : IntKind.i64.wrap 1 = 1 := IntWalk.i64_in _ (by omega)
    have v1 : IntKind.i64.wrap 2 = 2 := IntWalk.i64_in _ (by omega)
    have v2 : IntKind.i64.wrap 4 = 4 := IntWalk.i64_in _ (by omega)
    have v3 : IntKind.i64.wrap 8 = 8 := IntWalk.i64_in _ (by omega)
    have v4 : IntKind.i64.wrap 16 = 16 := IntWalk.i64_in _ (by omega)
    have v5 : IntKind.i64.wrap 32 = 32 := IntWalk.i64_in _ (by omega)
    have v6 : IntKind.i64.wrap 64 = 64 := IntWalk.i64_in _ (by omega)
    have v7 : IntKind.i64.wrap 128 = 128 := IntWalk.i64_in _ (by omega)
    have v8 : IntKind.i64.wrap 256 = 256 := IntWalk.i64_in _ (by omega)
    rcases cases9 E hE0 hE1 with rfl | rfl | rfl | rfl | rfl | rfl | rfl | rfl | rfl
    all_goals
      go_still_tail 13, (by kernel_rfl)
      change wpList _ _ _ _ _ w3.drew
      clear v0 v1 v2 v3 v4 v5 v6 v7 v8 wx c2 c4 f3
      have K4 : Bk w3.drew b _ := HK3.out
      have f4 := K4.f 3
      have c4 := K4.c3
      have G4 := G3.trans (Chg.drew _ w3)
      have HK4 := Lib.hid K4
      clear K4 HK3 G3
      generalize w3.drew = w4 at *
      go_wp2
      go_end0
      refine pset3 HK4.out (G4.trans (chg1 _ _ _ _)) ?_
      simp [waitOf]
  · skip
    go_enter Try.func9, Try.ntmps9
    go_wp2_with fail
    go_still_tail 11, (by kernel_rfl)
    change wpList _ _ _ _ _ w.drew
    clear e1
    have K2 : Bk w.drew b s := H.out
    have G2 := Chg.drew (· = b) w
    have f2' := K2.f 2
    have c2' := K2.c2
    have HK2 := Lib.hid K2
    clear K2 H
    generalize w.drew = w2 at *
    have c4' := HK2.out.c4
    have f4' := HK2.out.f 4
    clear c1 c2 c3 c4 f2 f3 f4
    go_wp2
    have K3 : Bk ((w2.setCell ⟨b, 2, none⟩ (.int .i64 (s.e + 1))).setCell ⟨b, 4, none⟩ (.int .u32 ((s.x * 1664525 + 1013904223) % 4294967296))) b { s with e := E, x := lcg s.x } := by
      have h2 := HE.out
      have h3 : s.e + 1 = E := by omega
      rw [show Value.int .i64 (s.e + 1) = Value.int .i64 E from by rw [h3]]
      exact (HK2.out.set2 _).set4 _
    have G3 := (G2.trans (chg1 w2 b 2 (.int .i64 (s.e + 1)))).trans (chg1 _ b 4 (.int .u32 ((s.x * 1664525 + 1013904223) % 4294967296)))
    clear c2' f2' c4' f4' HK2 G2
    generalize (w2.setCell ⟨b, 2, none⟩ (.int .i64 (s.e + 1))).setCell ⟨b, 4, none⟩ (.int .u32 ((s.x * 1664525 + 1013904223) % 4294967296)) = w3 at *
    have c2 := K3.c2
    have c4 := K3.c4
    have f3 := K3.f 3
    have hx0 : 0 ≤ lcg s.x := by unfold lcg; omega
    have hx1 : lcg s.x ≤ 4294967295 := by unfold lcg; omega
    unfold sentNo
    rw [HE.out]
    have HK3 := Lib.hid K3
    clear K3 HE
    simp only at c2 c4
    generalize lcg s.x = X at *
    have wx : IntKind.i64.wrap (X / 65536) = X / 65536 := IntWalk.i64_in _ (by omega)
    have v0 : IntKind.i64.wrap 1 = 1 := IntWalk.i64_in _ (by omega)
    have v1 : IntKind.i64.wrap 2 = 2 := IntWalk.i64_in _ (by omega)
    have v2 : IntKind.i64.wrap 4 = 4 := IntWalk.i64_in _ (by omega)
    have v3 : IntKind.i64.wrap 8 = 8 := IntWalk.i64_in _ (by omega)
    have v4 : IntKind.i64.wrap 16 = 16 := IntWalk.i64_in _ (by omega)
    have v5 : IntKind.i64.wrap 32 = 32 := IntWalk.i64_in _ (by omega)
    have v6 : IntKind.i64.wrap 64 = 64 := IntWalk.i64_in _ (by omega)
    have v7 : IntKind.i64.wrap 128 = 128 := IntWalk.i64_in _ (by omega)
    have v8 : IntKind.i64.wrap 256 = 256 := IntWalk.i64_in _ (by omega)
    rcases cases9 E hE0 hE1 with rfl | rfl | rfl | rfl | rfl | rfl | rfl | rfl | rfl
    all_goals
      go_still_tail 13, (by kernel_rfl)
      change wpList _ _ _ _ _ w3.drew
      clear v0 v1 v2 v3 v4 v5 v6 v7 v8 wx c2 c4 f3
      have K4 : Bk w3.drew b _ := HK3.out
      have f4 := K4.f 3
      have c4 := K4.c3
      have G4 := G3.trans (Chg.drew _ w3)
      have HK4 := Lib.hid K4
      clear K4 HK3 G3
      generalize w3.drew = w4 at *
      go_wp2
      go_end0
      refine pset3 HK4.out (G4.trans (chg1 _ _ _ _)) ?_
      simp [waitOf]
end Go.Proofs.Yteollhemjlmdhaa
