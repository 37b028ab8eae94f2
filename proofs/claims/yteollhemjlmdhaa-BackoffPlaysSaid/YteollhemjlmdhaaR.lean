/- What each method of the document's backoff does. No condition but that its numbers are within bounds. -/
import Derived.Test.YteollhemjlmdhaaK
namespace Go.Proofs.Yteollhemjlmdhaa
set_option linter.unusedVariables false
open Go.ChangeShapes Go.WideShapes Go.ChangeAt Go.RowKit
def Rk (w : World) (b : Nat) (s : St) : Prop := w.heap[b]? = some (.cells #[.int .i64 s.l, .int .i64 s.m, .int .i64 s.e, .int .i64 s.t, .int .u32 s.x] 34 (0, 0))
def RSet (b : Nat) (w : World) (s : St) (e : Ending) (w' : World) : Prop := e = .returned (.tuple #[]) ∧ Rk w' b s ∧ Chg (· = b) w w'
theorem Rk.c0 {w : World} {b : Nat} {s : St} (h : Rk w b s) : w.cell? ⟨b, 0, none⟩ = some (.int .i64 s.l) := by rw [cell_of_block h]; rfl
theorem Rk.c1 {w : World} {b : Nat} {s : St} (h : Rk w b s) : w.cell? ⟨b, 1, none⟩ = some (.int .i64 s.m) := by rw [cell_of_block h]; rfl
theorem Rk.c2 {w : World} {b : Nat} {s : St} (h : Rk w b s) : w.cell? ⟨b, 2, none⟩ = some (.int .i64 s.e) := by rw [cell_of_block h]; rfl
theorem Rk.c3 {w : World} {b : Nat} {s : St} (h : Rk w b s) : w.cell? ⟨b, 3, none⟩ = some (.int .i64 s.t) := by rw [cell_of_block h]; rfl
theorem Rk.c4 {w : World} {b : Nat} {s : St} (h : Rk w b s) : w.cell? ⟨b, 4, none⟩ = some (.int .u32 s.x) := by rw [cell_of_block h]; rfl
theorem Rk.f {w : World} {b : Nat} {s : St} (h : Rk w b s) (o : Nat) : w.frozen? ⟨b, o, none⟩ = false := frozen_of_block h o
theorem Rk.keep {w w' : World} {b : Nat} {s : St} {S : Nat → Prop} (h : Rk w b s) (g : Chg S w w') (hs : ¬ S b) : Rk w' b s := Chg.keep g h hs
theorem Rk.kept {w w' : World} {b : Nat} {s : St} (h : Rk w b s) (g : Chg (fun _ => False) w w') : Rk w' b s := Chg.keep g h (fun f => f)
theorem Rk.set2 {w : World} {b : Nat} {s : St} (h : Rk w b s) (t : Int) : Rk (w.setCell ⟨b, 2, none⟩ (.int .i64 t)) b { s with e := t } := by
  have := block_set h 2 (.int .i64 t); simpa [Rk] using this
theorem Rk.set3 {w : World} {b : Nat} {s : St} (h : Rk w b s) (t : Int) : Rk (w.setCell ⟨b, 3, none⟩ (.int .i64 t)) b { s with t := t } := by
  have := block_set h 3 (.int .i64 t); simpa [Rk] using this
theorem Rk.set4 {w : World} {b : Nat} {s : St} (h : Rk w b s) (t : Int) : Rk (w.setCell ⟨b, 4, none⟩ (.int .u32 t)) b { s with x := t } := by
  have := block_set h 4 (.int .u32 t); simpa [Rk] using this

theorem rset3 {w w4 : World} {b : Nat} {s : St} {v t : Int} (h : Rk w4 b s) (g : Chg (· = b) w (w4.setCell ⟨b, 3, none⟩ (.int .i64 v))) (e : v = t) :
    RSet b w { s with t := t } (.returned (.tuple #[])) (w4.setCell ⟨b, 3, none⟩ (.int .i64 v)) := by
  subst e; exact ⟨rfl, h.set3 _, g⟩
theorem rsent_yes (w : World) (b : Nat) (s : St) (h : Rk w b s) :
   Calls Try.prog 16 #[.pointer (some ⟨b, 0, none⟩), .bool true] w (RSet b w (sentYes s)) := by
  have c0 := h.c0
  have c2 := h.c2
  have c3 := h.c3
  have f2 := h.f 2
  have f3 := h.f 3
  have H := Lib.hid h
  clear h
  go_enter Try.func16, Try.ntmps16
  go_wp2
  go_end0
  exact ⟨rfl, (H.out.set2 _).set3 _, (chg1 _ _ _ _).trans (chg1 _ _ _ _)⟩

theorem rslot_any (w : World) (b : Nat) (s : St) (h : Rk w b s) (ok : Ok s) :
   Calls Try.prog 15 #[.pointer (some ⟨b, 0, none⟩)] w (RSet b w { s with t := max 0 (s.t - 1) }) := by
  have c := h.c3
  have f := h.f 3
  have h0 := ok.t0
  have h1 := ok.t1
  have H := Lib.hid h
  clear h ok
  go_enter Try.func15, Try.ntmps15
  go_wp2
  all_goals
    go_end0
    exact rset3 H.out (chg1 _ _ _ _) (by omega)
set_option maxHeartbeats 2000000 in
theorem rsent_no (w : World) (b : Nat) (s : St) (h : Rk w b s) (ok : Ok s) :
   Calls Try.prog 16 #[.pointer (some ⟨b, 0, none⟩), .bool false] w (RSet b w (sentNo s)) := by
  have c1 := h.c1
  have c2 := h.c2
  have c3 := h.c3
  have c4 := h.c4
  have f2 := h.f 2
  have f3 := h.f 3
  have f4 := h.f 4
  have H := Lib.hid h
  obtain ⟨a0, a1, a2, a3, a4, a5, a6, a7, a8⟩ := ok
  clear h
  obtain ⟨E, hE⟩ : ∃ E : Int, min (s.e + 1) s.m = E := ⟨_, rfl⟩
  have hE0 : 0 ≤ E ∧ E ≤ 8 := by omega
  obtain ⟨hE0, hE1⟩ := hE0
  have HE := Lib.hid hE
  have e1 : IntKind.i64.wrap (s.e + 1) = s.e + 1 := IntWalk.i64_in _ (by omega)
  clear hE
  by_cases hc : ¬ s.e + 1 < s.m
  · skip
    go_enter Try.func16, Try.ntmps16
    go_wp2_with fail
    go_still_tail 11, (by kernel_rfl)
    change wpList _ _ _ _ _ w.drew
    clear e1
    have K2 : Rk w.drew b s := H.out
    have G2 := Chg.drew (· = b) w
    have f2' := K2.f 2
    have c2' := K2.c2
    have HK2 := Lib.hid K2
    clear K2 H
    generalize w.drew = w2 at *
    have c4' := HK2.out.c4
    have f4' := HK2.out.f 4
    clear c1 c2 c3 c4 f2 f3 f4
    go_wp2
    have K3 : Rk ((w2.setCell ⟨b, 2, none⟩ (.int .i64 (s.m))).setCell ⟨b, 4, none⟩ (.int .u32 ((s.x * 1664525 + 1013904223) % 4294967296))) b { s with e := E, x := lcg s.x } := by
      have h2 := HE.out
      have h3 : s.m = E := by omega
      rw [show Value.int .i64 s.m = Value.int .i64 E from by rw [h3]]
      exact (HK2.out.set2 _).set4 _
    have G3 := (G2.trans (chg1 w2 b 2 (.int .i64 (s.m)))).trans (chg1 _ b 4 (.int .u32 ((s.x * 1664525 + 1013904223) % 4294967296)))
    clear c2' f2' c4' f4' HK2 G2
    generalize (w2.setCell ⟨b, 2, none⟩ (.int .i64 (s.m))).setCell ⟨b, 4, none⟩ (.int .u32 ((s.x * 1664525 + 1013904223) % 4294967296)) = w3 at *
    have c2 := K3.c2
    have c4 := K3.c4
    have f3 := K3.f 3
    have hx0 : 0 ≤ lcg s.x := by unfold lcg; omega
    have hx1 : lcg s.x ≤ 4294967295 := by unfold lcg; omega
    unfold sentNo
    rw [HE.out]
    have HK3 := Lib.hid K3
    clear K3 HE
    simp only at c2 c4
    generalize lcg s.x = X at *
    have wx : IntKind.i64.wrap (X / 65536) = X / 65536 := IntWalk.i64_in _ (by omega)
    have v0 : IntKind.i64.wrap 1 = 1 := IntWalk.i64_in _ (by omega)
    have v1 : IntKind.i64.wrap 2 = 2 := IntWalk.i64_in _ (by omega)
    have v2 : IntKind.i64.wrap 4 = 4 := IntWalk.i64_in _ (by omega)
    have v3 : IntKind.i64.wrap 8 = 8 := IntWalk.i64_in _ (by omega)
    have v4 : IntKind.i64.wrap 16 = 16 := IntWalk.i64_in _ (by omega)
    have v5 : IntKind.i64.wrap 32 = 32 := IntWalk.i64_in _ (by omega)
    have v6 : IntKind.i64.wrap 64 = 64 := IntWalk.i64_in _ (by omega)
    have v7 : IntKind.i64.wrap 128 = 128 := IntWalk.i64_in _ (by omega)
    have v8 : IntKind.i64.wrap 256 = 256 := IntWalk.i64_in _ (by omega)
    have z0 : IntKind.u64.wrap 0 = 0 := by decide
    have z1 : IntKind.u64.wrap 1 = 1 := by decide
    have z2 : IntKind.u64.wrap 2 = 2 := by decide
    have z3 : IntKind.u64.wrap 3 = 3 := by decide
    have z4 : IntKind.u64.wrap 4 = 4 := by decide
    have z5 : IntKind.u64.wrap 5 = 5 := by decide
    have z6 : IntKind.u64.wrap 6 = 6 := by decide
    have z7 : IntKind.u64.wrap 7 = 7 := by decide
    have z8 : IntKind.u64.wrap 8 = 8 := by decide
    rcases cases9 E hE0 hE1 with rfl | rfl | rfl | rfl | rfl | rfl | rfl | rfl | rfl
    all_goals
      go_still_tail 14, (by kernel_rfl)
      change wpList _ _ _ _ _ w3.drew
      clear z0 z1 z2 z3 z4 z5 z6 z7 z8 v0 v1 v2 v3 v4 v5 v6 v7 v8 wx c2 c4 f3
      have K4 : Rk w3.drew b _ := HK3.out
      have f4 := K4.f 3
      have c4 := K4.c3
      have G4 := G3.trans (Chg.drew _ w3)
      have HK4 := Lib.hid K4
      clear K4 HK3 G3
      generalize w3.drew = w4 at *
      go_wp2
      go_end0
      refine rset3 HK4.out (G4.trans (chg1 _ _ _ _)) ?_
      simp [waitOf]
  · skip
    go_enter Try.func16, Try.ntmps16
    go_wp2_with fail
    go_still_tail 11, (by kernel_rfl)
    change wpList _ _ _ _ _ w.drew
    clear e1
    have K2 : Rk w.drew b s := H.out
    have G2 := Chg.drew (· = b) w
    have f2' := K2.f 2
    have c2' := K2.c2
    have HK2 := Lib.hid K2
    clear K2 H
    generalize w.drew = w2 at *
    have c4' := HK2.out.c4
    have f4' := HK2.out.f 4
    clear c1 c2 c3 c4 f2 f3 f4
    go_wp2
    have K3 : Rk ((w2.setCell ⟨b, 2, none⟩ (.int .i64 (s.e + 1))).setCell ⟨b, 4, none⟩ (.int .u32 ((s.x * 1664525 + 1013904223) % 4294967296))) b { s with e := E, x := lcg s.x } := by
      have h2 := HE.out
      have h3 : s.e + 1 = E := by omega
      rw [show Value.int .i64 (s.e + 1) = Value.int .i64 E from by rw [h3]]
      exact (HK2.out.set2 _).set4 _
    have G3 := (G2.trans (chg1 w2 b 2 (.int .i64 (s.e + 1)))).trans (chg1 _ b 4 (.int .u32 ((s.x * 1664525 + 1013904223) % 4294967296)))
    clear c2' f2' c4' f4' HK2 G2
    generalize (w2.setCell ⟨b, 2, none⟩ (.int .i64 (s.e + 1))).setCell ⟨b, 4, none⟩ (.int .u32 ((s.x * 1664525 + 1013904223) % 4294967296)) = w3 at *
    have c2 := K3.c2
    have c4 := K3.c4
    have f3 := K3.f 3
    have hx0 : 0 ≤ lcg s.x := by unfold lcg; omega
    have hx1 : lcg s.x ≤ 4294967295 := by unfold lcg; omega
    unfold sentNo
    rw [HE.out]
    have HK3 := Lib.hid K3
    clear K3 HE
    simp only at c2 c4
    generalize lcg s.x = X at *
    have wx : IntKind.i64.wrap (X / 65536) = X / 65536 := IntWalk.i64_in _ (by omega)
    have v0 : IntKind.i64.wrap 1 = 1 := IntWalk.i64_in _ (by omega)
    have v1 : IntKind.i64.wrap 2 = 2 := IntWalk.i64_in _ (by omega)
    have v2 : IntKind.i64.wrap 4 = 4 := IntWalk.i64_in _ (by omega)
    have v3 : IntKind.i64.wrap 8 = 8 := IntWalk.i64_in _ (by omega)
    have v4 : IntKind.i64.wrap 16 = 16 := IntWalk.i64_in _ (by omega)
    have v5 : IntKind.i64.wrap 32 = 32 := IntWalk.i64_in _ (by omega)
    have v6 : IntKind.i64.wrap 64 = 64 := IntWalk.i64_in _ (by omega)
    have v7 : IntKind.i64.wrap 128 = 128 := IntWalk.i64_in _ (by omega)
    have v8 : IntKind.i64.wrap 256 = 256 := IntWalk.i64_in _ (by omega)
    have z0 : IntKind.u64.wrap 0 = 0 := by decide
    have z1 : IntKind.u64.wrap 1 = 1 := by decide
    have z2 : IntKind.u64.wrap 2 = 2 := by decide
    have z3 : IntKind.u64.wrap 3 = 3 := by decide
    have z4 : IntKind.u64.wrap 4 = 4 := by decide
    have z5 : IntKind.u64.wrap 5 = 5 := by decide
    have z6 : IntKind.u64.wrap 6 = 6 := by decide
    have z7 : IntKind.u64.wrap 7 = 7 := by decide
    have z8 : IntKind.u64.wrap 8 = 8 := by decide
    rcases cases9 E hE0 hE1 with rfl | rfl | rfl | rfl | rfl | rfl | rfl | rfl | rfl
    all_goals
      go_still_tail 14, (by kernel_rfl)
      change wpList _ _ _ _ _ w3.drew
      clear z0 z1 z2 z3 z4 z5 z6 z7 z8 v0 v1 v2 v3 v4 v5 v6 v7 v8 wx c2 c4 f3
      have K4 : Rk w3.drew b _ := HK3.out
      have f4 := K4.f 3
      have c4 := K4.c3
      have G4 := G3.trans (Chg.drew _ w3)
      have HK4 := Lib.hid K4
      clear K4 HK3 G3
      generalize w3.drew = w4 at *
      go_wp2
      go_end0
      refine rset3 HK4.out (G4.trans (chg1 _ _ _ _)) ?_
      simp [waitOf]
end Go.Proofs.Yteollhemjlmdhaa
