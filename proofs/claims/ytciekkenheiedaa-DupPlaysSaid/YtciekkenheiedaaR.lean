/- What each method of the document's own window does. No condition but that its numbers are a window's. -/
import Derived.Test.YtciekkenheiedaaL
namespace Go.Proofs.Ytciekkenheiedaa
set_option linter.unusedVariables false
set_option linter.unusedSimpArgs false
open Go.ChangeShapes Go.WideShapes Go.ChangeAt Go.RowKit
open Go.MapKept

abbrev Hd := Nat → Int × Option Nat
abbrev Fm := Nat → Int → Option Value
/-- 16 nodes' windows lie in block c: the last one, and the map of what was heard. -/
structure Rw (w : World) (c : Nat) (L : Hd) (F : Fm) : Prop where
  blk : ∃ cs, w.heap[c]? = some (.cells cs 44 (0, 0)) ∧ cs.size = 32 ∧ ∀ k, k < 16 → cs[k * 2]? = some (.int .i64 (L k).1) ∧ cs[k * 2 + 1]? = some (.map (L k).2)
  mp : ∀ k q, k < 16 → (L k).2 = some q → Mp w q (F k) ∧ c < q
  ap : ∀ k j q, k < 16 → j < 16 → (L k).2 = some q → (L j).2 = some q → k = j
def own (c : Nat) (L : Hd) (j : Nat) : Prop := j = c ∨ ∃ k, k < 16 ∧ (L k).2 = some j

theorem Rw.at {w : World} {c : Nat} {L : Hd} {F : Fm} (h : Rw w c L F) {k : Nat} (hk : k < 16) : w.cell? ⟨c, k * 2, none⟩ = some (.int .i64 (L k).1) ∧ w.cell? ⟨c, k * 2 + 1, none⟩ = some (.map (L k).2) := by
  obtain ⟨cs, hb, _, hc⟩ := h.blk
  exact ⟨by rw [cell_of_block hb]; exact (hc k hk).1, by rw [cell_of_block hb]; exact (hc k hk).2⟩
theorem Rw.f {w : World} {c : Nat} {L : Hd} {F : Fm} (h : Rw w c L F) (o : Nat) : w.frozen? ⟨c, o, none⟩ = false := by
  obtain ⟨cs, hb, _⟩ := h.blk; exact frozen_of_block hb o
theorem Rw.keep {w w' : World} {c : Nat} {L : Hd} {F : Fm} (h : Rw w c L F) {T : Nat → Prop} (g : Chg T w w') (hT : ∀ j, own c L j → ¬ T j) : Rw w' c L F := by
  obtain ⟨cs, hb, r⟩ := h.blk
  refine ⟨⟨cs, Chg.keep g hb (hT c (.inl rfl)), r⟩, fun k q hk hq => ?_, h.ap⟩
  obtain ⟨m1, m2⟩ := h.mp k q hk hq
  exact ⟨m1.keep g (hT q (.inr ⟨k, hk, hq⟩)), m2⟩
theorem Rw.lt {w : World} {c : Nat} {L : Hd} {F : Fm} (h : Rw w c L F) {j : Nat} (hj : own c L j) : j < w.heap.size ∧ c ≤ j := by
  rcases hj with rfl | ⟨k, hk, hq⟩
  · obtain ⟨cs, hb, _⟩ := h.blk; exact ⟨lt_of_block hb, Nat.le_refl _⟩
  · obtain ⟨m1, m2⟩ := h.mp k j hk hq; exact ⟨m1.lt, by omega⟩

theorem node_any (k : Int) (w : World) : Calls Try.prog 16 #[.int .i64 k] w fun e w' => e = .returned (.bool (decide (0 ≤ k ∧ k < 16))) ∧ w' = w := by
  rcases (by omega : k < 0 ∨ (0 ≤ k ∧ k < 16) ∨ 16 ≤ k) with h | ⟨h, h2⟩ | h
  · rw [decide_eq_false (by omega)]
    go_enter Try.func16, Try.ntmps16
    go_wp2
    go_ret
    exact ⟨rfl, rfl⟩
  · rw [decide_eq_true (by omega)]
    go_enter Try.func16, Try.ntmps16
    go_wp2
    go_ret
    exact ⟨rfl, rfl⟩
  · rw [decide_eq_false (by omega)]
    go_enter Try.func16, Try.ntmps16
    go_wp2
    go_ret
    refine ⟨?_, rfl⟩
    show Ending.returned (.bool (decide (k < 16))) = _
    rw [decide_eq_false (by omega)]

theorem nil_is (w : World) : (binOp BinOp.eql 39 (.map none) (.map none)).run Try.prog w = .ok (.bool true) w := by kernel_rfl
theorem nil_isn (q : Nat) (w : World) : (binOp BinOp.eql 39 (.map (some q)) (.map none)).run Try.prog w = .ok (.bool false) w := by kernel_rfl
/-- the greatest one. -/
def PGr (w : World) (a : Int) (b : Bool) (e : Ending) (w' : World) : Prop := e = .returned (.tuple #[.int .i64 a, .bool b]) ∧ w' = w
theorem great_out (w : World) (c : Nat) (k : Int) (hk : k < 0 ∨ 16 ≤ k) : Calls Try.prog 15 #[.pointer (some ⟨c, 0, none⟩), .int .i64 k] w (PGr w 0 false) := by
  have hn := node_any k
  rw [decide_eq_false (by omega)] at hn
  go_enter Try.func15, Try.ntmps15
  go_wp2_with fail
  refine (hn _).mono ?_
  rintro e w1 ⟨rfl, rfl⟩
  go_wp2_with fail
  go_ret2
  exact ⟨rfl, rfl⟩
theorem great_in (w : World) (c : Nat) (L : Hd) (F : Fm) (k : Nat) (h : Rw w c L F) (hk : k < 16) :
    Calls Try.prog 15 #[.pointer (some ⟨c, 0, none⟩), .int .i64 k] w (PGr w (if (L k).2 = none then 0 else (L k).1) (L k).2.isSome) := by
  have hn := node_any k
  rw [decide_eq_true (by omega)] at hn
  obtain ⟨c0, c1⟩ := h.at hk
  have hk2 : (k : Int) < 16 := by omega
  cases hq : (L k).2 with
  | none =>
    rw [hq] at c1
    rw [if_pos rfl]
    have hni := nil_is
    go_enter Try.func15, Try.ntmps15
    go_wp2_with fail
    refine (hn _).mono ?_
    rintro e w1 ⟨rfl, rfl⟩
    go_wp2_with fail
    go_ret2
    exact ⟨rfl, rfl⟩
  | some q =>
    rw [hq] at c1
    rw [if_neg (by simp)]
    have hni := nil_isn q
    go_enter Try.func15, Try.ntmps15
    go_wp2_with fail
    refine (hn _).mono ?_
    rintro e w1 ⟨rfl, rfl⟩
    go_wp2_with fail
    go_ret2
    exact ⟨rfl, rfl⟩

def setL (L : Hd) (k : Nat) (p : Int × Option Nat) : Hd := fun j => if j = k then p else L j
theorem setL_self (L : Hd) (k : Nat) (p : Int × Option Nat) : setL L k p k = p := by unfold setL; rw [if_pos rfl]
def Blk (w : World) (c : Nat) (L : Hd) : Prop := ∃ cs, w.heap[c]? = some (.cells cs 44 (0, 0)) ∧ cs.size = 32 ∧ ∀ k, k < 16 → cs[k * 2]? = some (.int .i64 (L k).1) ∧ cs[k * 2 + 1]? = some (.map (L k).2)
theorem Blk.set0 {w : World} {c : Nat} {L : Hd} (h : Blk w c L) (k : Nat) (hk : k < 16) (l : Int) : Blk (w.setCell ⟨c, k * 2, none⟩ (.int .i64 l)) c (setL L k (l, (L k).2)) := by
  obtain ⟨cs, hb, hs, hc⟩ := h
  refine ⟨_, block_set hb (k * 2) (.int .i64 l), by simp [hs], fun j hj => ?_⟩
  obtain ⟨h1, h2⟩ := hc j hj
  rw [Array.getElem?_setIfInBounds, Array.getElem?_setIfInBounds, if_neg (by omega : ¬ k * 2 = j * 2 + 1)]
  by_cases e : j = k
  · subst e
    rw [setL_self, if_pos rfl, if_pos (by omega)]
    exact ⟨rfl, h2⟩
  · rw [if_neg (by omega)]
    unfold setL; rw [if_neg e]
    exact ⟨h1, h2⟩
theorem Blk.set1 {w : World} {c : Nat} {L : Hd} (h : Blk w c L) (k : Nat) (hk : k < 16) (m : Option Nat) : Blk (w.setCell ⟨c, k * 2 + 1, none⟩ (.map m)) c (setL L k ((L k).1, m)) := by
  obtain ⟨cs, hb, hs, hc⟩ := h
  refine ⟨_, block_set hb (k * 2 + 1) (.map m), by simp [hs], fun j hj => ?_⟩
  obtain ⟨h1, h2⟩ := hc j hj
  rw [Array.getElem?_setIfInBounds, Array.getElem?_setIfInBounds, if_neg (by omega : ¬ k * 2 + 1 = j * 2)]
  by_cases e : j = k
  · subst e
    rw [setL_self, if_pos rfl, if_pos (by omega)]
    exact ⟨h1, rfl⟩
  · rw [if_neg (by omega)]
    unfold setL; rw [if_neg e]
    exact ⟨h1, h2⟩
theorem setL_two (L : Hd) (k : Nat) (p q : Int × Option Nat) : setL (setL L k p) k q = setL L k q := by
  funext j; unfold setL; split <;> rfl

/-- what a call leaves of the document's window: only it and its maps turned. -/
def PRs (w : World) (c : Nat) (L L' : Hd) (F' : Fm) (v : Value) (e : Ending) (w' : World) : Prop := e = .returned v ∧ Rw w' c L' F' ∧ Chg (own c L) w w'

theorem rforget_out (w : World) (c : Nat) (L : Hd) (F : Fm) (k : Int) (h : Rw w c L F) (hk : k < 0 ∨ 16 ≤ k) : Calls Try.prog 13 #[.pointer (some ⟨c, 0, none⟩), .int .i64 k] w (PRs w c L L F (.tuple #[])) := by
  have hn := node_any k
  rw [decide_eq_false (by omega)] at hn
  go_enter Try.func13, Try.ntmps13
  go_wp2_with fail
  refine (hn _).mono ?_
  rintro e w1 ⟨rfl, rfl⟩
  go_wp2_with fail
  go_end0
  exact ⟨rfl, h, Chg.refl _ _⟩
theorem rforget_in (w : World) (c : Nat) (L : Hd) (F : Fm) (k : Nat) (h : Rw w c L F) (hk : k < 16) : Calls Try.prog 13 #[.pointer (some ⟨c, 0, none⟩), .int .i64 k] w (PRs w c L (setL L k (0, none)) F (.tuple #[])) := by
  have hn := node_any k
  rw [decide_eq_true (by omega)] at hn
  obtain ⟨c0, c1⟩ := h.at hk
  have f0 := h.f (k * 2)
  have f1 := h.f (k * 2 + 1)
  have hk2 : (k : Int) < 16 := by omega
  have H := Lib.hid h
  clear h
  go_enter Try.func13, Try.ntmps13
  go_wp2_with fail
  refine (hn _).mono ?_
  rintro e w1 ⟨rfl, rfl⟩
  go_wp2_with fail
  go_end0
  have g0 : Chg (own c L) w1 (w1.setCell ⟨c, k * 2, none⟩ (.int .i64 0)) := Chg.set w1 ⟨c, k * 2, none⟩ _ (.inl rfl)
  have g1 : Chg (own c L) (w1.setCell ⟨c, k * 2, none⟩ (.int .i64 0)) ((w1.setCell ⟨c, k * 2, none⟩ (.int .i64 0)).setCell ⟨c, k * 2 + 1, none⟩ (.map none)) := Chg.set _ ⟨c, k * 2 + 1, none⟩ _ (.inl rfl)
  have B : Blk ((w1.setCell ⟨c, k * 2, none⟩ (.int .i64 0)).setCell ⟨c, k * 2 + 1, none⟩ (.map none)) c (setL L k (0, none)) := by
    have := (Blk.set0 H.out.blk k hk 0).set1 k hk none
    rw [setL_self, setL_two] at this
    exact this
  have gc : Chg (· = c) w1 ((w1.setCell ⟨c, k * 2, none⟩ (.int .i64 0)).setCell ⟨c, k * 2 + 1, none⟩ (.map none)) := (Chg.set (S := fun j => j = c) w1 ⟨c, k * 2, none⟩ _ rfl).trans (Chg.set (S := fun j => j = c) _ ⟨c, k * 2 + 1, none⟩ _ rfl)
  refine ⟨rfl, ⟨B, fun j q hj hq => ?_, fun i j q hi hj h1 h2 => ?_⟩, g0.trans g1⟩
  · unfold setL at hq
    split at hq
    · cases hq
    · obtain ⟨m1, m2⟩ := H.out.mp j q hj hq
      exact ⟨m1.keep gc (by omega), m2⟩
  · unfold setL at h1 h2
    split at h1
    · cases h1
    · split at h2
      · cases h2
      · exact H.out.ap i j q hi hj h1 h2

theorem ty39 : Try.prog.underlying 39 = some (.map 3 3) := by kernel_rfl
theorem zero3 (w : World) : (zeroValue 3).run Try.prog w = .ok (.int .i64 0) w := by kernel_rfl
theorem rnew_out (w : World) (c : Nat) (L : Hd) (F : Fm) (k n : Int) (h : Rw w c L F) (hk : k < 0 ∨ 16 ≤ k ∨ n < 0) : Calls Try.prog 14 #[.pointer (some ⟨c, 0, none⟩), .int .i64 k, .int .i64 n] w (PRs w c L L F (.bool false)) := by
  have hn := node_any k
  by_cases hk2 : 0 ≤ k ∧ k < 16
  · rw [decide_eq_true hk2] at hn
    have hn2 : n < 0 := by omega
    go_enter Try.func14, Try.ntmps14
    go_wp2_with fail
    refine (hn _).mono ?_
    rintro e w1 ⟨rfl, rfl⟩
    go_wp2_with fail
    go_ret
    exact ⟨rfl, h, Chg.refl _ _⟩
  · rw [decide_eq_false hk2] at hn
    clear hk2
    go_enter Try.func14, Try.ntmps14
    go_wp2_with fail
    refine (hn _).mono ?_
    rintro e w1 ⟨rfl, rfl⟩
    go_wp2_with fail
    go_ret
    exact ⟨rfl, h, Chg.refl _ _⟩
theorem rnew_old (w : World) (c : Nat) (L : Hd) (F : Fm) (k q : Nat) (n l : Int) (h : Rw w c L F) (hk : k < 16) (hn : 0 ≤ n) (hL : L k = (l, some q)) (hl : 0 ≤ l ∧ l ≤ 9223372036854775807) (ho : n ≤ l - 64) : Calls Try.prog 14 #[.pointer (some ⟨c, 0, none⟩), .int .i64 k, .int .i64 n] w (PRs w c L L F (.bool false)) := by
  have hna := node_any k
  rw [decide_eq_true (by omega)] at hna
  obtain ⟨c0, c1⟩ := h.at hk
  rw [hL] at c0 c1
  have hk2 : (k : Int) < 16 := by omega
  have hni := nil_isn q
  obtain ⟨hl0, hl1⟩ := hl
  have H := Lib.hid h
  clear h
  go_enter Try.func14, Try.ntmps14
  go_wp2_with fail
  refine (hna _).mono ?_
  rintro e w1 ⟨rfl, rfl⟩
  go_wp2_with fail
  go_ret
  exact ⟨rfl, H.out, Chg.refl _ _⟩
theorem rnew_had (w : World) (c : Nat) (L : Hd) (F : Fm) (k q : Nat) (n l : Int) (h : Rw w c L F) (hk : k < 16) (hn : 0 ≤ n) (hL : L k = (l, some q)) (hl : 0 ≤ l ∧ l ≤ 9223372036854775807) (ho : l - 64 < n) (hF : F k n = some (.int .i64 1)) : Calls Try.prog 14 #[.pointer (some ⟨c, 0, none⟩), .int .i64 k, .int .i64 n] w (PRs w c L L F (.bool false)) := by
  have hna := node_any k
  rw [decide_eq_true (by omega)] at hna
  obtain ⟨c0, c1⟩ := h.at hk
  rw [hL] at c0 c1
  have hk2 : (k : Int) < 16 := by omega
  have hni := nil_isn q
  obtain ⟨hl0, hl1⟩ := hl
  have hlk := (h.mp k q hk (by rw [hL])).1.lookup1 ty39 ty3 (zero3 w) n
  rw [hF] at hlk
  change (Instr.lookup 39 (.map (some q)) (.int .i64 n) false).run Try.prog w = .ok (.int .i64 1) w at hlk
  have H := Lib.hid h
  clear h
  go_enter Try.func14, Try.ntmps14
  go_wp2_with fail
  refine (hna _).mono ?_
  rintro e w1 ⟨rfl, rfl⟩
  go_wp2_with fail
  go_ret
  exact ⟨rfl, H.out, Chg.refl _ _⟩
theorem rnew_add (w : World) (c : Nat) (L : Hd) (F : Fm) (k q : Nat) (n l : Int) (h : Rw w c L F) (hk : k < 16) (hn : 0 ≤ n) (hn2 : n ≤ 9223372036854775807) (hL : L k = (l, some q)) (hl : 0 ≤ l ∧ l ≤ 9223372036854775807) (ho : l - 64 < n) (hF : F k n = none) :
    Calls Try.prog 14 #[.pointer (some ⟨c, 0, none⟩), .int .i64 k, .int .i64 n] w (PRs w c L (setL L k (max l n, some q)) (fun j => if j = k then (fun m => if m = n then some (.int .i64 1) else F k m) else F j) (.bool true)) := by
  have hna := node_any k
  rw [decide_eq_true (by omega)] at hna
  obtain ⟨c0, c1⟩ := h.at hk
  rw [hL] at c0 c1
  have hk2 : (k : Int) < 16 := by omega
  have hni := nil_isn q
  obtain ⟨hl0, hl1⟩ := hl
  have hM := (h.mp k q hk (by rw [hL]))
  have hlk := hM.1.lookup1 ty39 ty3 (zero3 w) n
  rw [hF] at hlk
  change (Instr.lookup 39 (.map (some q)) (.int .i64 n) false).run Try.prog w = .ok (.int .i64 0) w at hlk
  obtain ⟨w2, hu, M2, G2⟩ := hM.1.update ty39 ty3 n (.int .i64 1)
  change (Instr.mapUpdate 39 (.map (some q)) (.int .i64 n) (.int .i64 1)).run Try.prog w = _ at hu
  obtain ⟨cs, hb, hs, hcs⟩ := h.blk
  have hcq := hM.2
  have hb2 := Chg.keep G2 hb (by omega)
  have B2 : Blk w2 c L := ⟨cs, hb2, hs, hcs⟩
  have d0 : w2.cell? ⟨c, k * 2, none⟩ = some (.int .i64 l) := by rw [cell_of_block hb2]; have := (hcs k hk).1; rw [hL] at this; exact this
  have d1 : w2.cell? ⟨c, k * 2 + 1, none⟩ = some (.map (some q)) := by rw [cell_of_block hb2]; have := (hcs k hk).2; rw [hL] at this; exact this
  have f2 : w2.frozen? ⟨c, k * 2, none⟩ = false := frozen_of_block hb2 _
  have fin : ∀ z, z = max l n → Rw (w2.setCell ⟨c, k * 2, none⟩ (.int .i64 z)) c (setL L k (max l n, some q)) (fun j => if j = k then (fun m => if m = n then some (.int .i64 1) else F k m) else F j) ∧ Chg (own c L) w (w2.setCell ⟨c, k * 2, none⟩ (.int .i64 z)) := by
    intro z hz
    subst hz
    have gc : Chg (fun j => j = c) w2 (w2.setCell ⟨c, k * 2, none⟩ (.int .i64 (max l n))) := Chg.set w2 ⟨c, k * 2, none⟩ _ rfl
    have hLk : (L k).2 = some q := by rw [hL]
    refine ⟨⟨?_, fun j p hj hp => ?_, fun i j p hi hj h1 h2 => ?_⟩, (G2.mono (fun j _ e => .inr ⟨k, hk, by rw [hLk]; have : j = q := e; rw [this]⟩)).trans (gc.mono (fun j _ e => .inl e))⟩
    · have := B2.set0 k hk (max l n)
      rw [hLk] at this
      exact this
    · unfold setL at hp
      by_cases e : j = k
      · subst e
        rw [if_pos rfl] at hp
        cases hp
        rw [if_pos rfl]
        exact ⟨M2.keep gc (by omega), hcq⟩
      · rw [if_neg e] at hp
        rw [if_neg e]
        obtain ⟨m1, m2⟩ := h.mp j p hj hp
        exact ⟨(m1.keep G2 (fun e2 => e (h.ap j k q hj hk (by have : p = q := e2; rw [← this]; exact hp) hLk))).keep gc (by omega), m2⟩
    · have t : ∀ i, (setL L k (max l n, some q) i).2 = (L i).2 := fun i => by unfold setL; split <;> simp_all
      rw [t] at h1 h2
      exact h.ap i j p hi hj h1 h2
  have FIN := Lib.hid fin
  clear fin M2 G2 hb hs hcs hcq hb2 B2 hM h
  rcases (by omega : l < n ∨ n ≤ l) with hmx | hmx
  all_goals
    go_enter Try.func14, Try.ntmps14
    go_wp2_with fail
    refine (hna _).mono ?_
    rintro e w1 ⟨rfl, rfl⟩
    go_wp2_with fail
    go_ret
    exact ⟨rfl, FIN.out _ (by omega)⟩

theorem rnew_first (w : World) (c : Nat) (L : Hd) (F : Fm) (k : Nat) (n : Int) (h : Rw w c L F) (hk : k < 16) (hn : 0 ≤ n) (hL : (L k).2 = none) :
    Calls Try.prog 14 #[.pointer (some ⟨c, 0, none⟩), .int .i64 k, .int .i64 n] w (PRs w c L (setL L k (n, some w.heap.size)) (fun j => if j = k then (fun m => if m = n then some (.int .i64 1) else none) else F j) (.bool true)) := by
  have hna := node_any k
  rw [decide_eq_true (by omega)] at hna
  obtain ⟨c0, c1⟩ := h.at hk
  rw [hL] at c1
  have hk2 : (k : Int) < 16 := by omega
  have hni := nil_is
  have hmm := @run_makeMap Try.prog
  have g1 := Chg.alloc (fun _ => False) w (.map #[] 0)
  obtain ⟨w2, hu, M2, G2⟩ := (Mp.made w).update ty39 ty3 n (.int .i64 1)
  change (Instr.mapUpdate 39 (.map (some w.heap.size)) (.int .i64 n) (.int .i64 1)).run Try.prog (w.alloc (.map #[] 0)) = _ at hu
  obtain ⟨cs, hb, hs, hcs⟩ := h.blk
  have hcl : c < w.heap.size := lt_of_block hb
  have hb2 := Chg.keep G2 (Chg.keep g1 hb (fun e => e)) (by omega)
  have B2 : Blk w2 c L := ⟨cs, hb2, hs, hcs⟩
  have d0 : w2.cell? ⟨c, k * 2, none⟩ = some (.int .i64 (L k).1) := by rw [cell_of_block hb2]; exact (hcs k hk).1
  have d1 : w2.cell? ⟨c, k * 2 + 1, none⟩ = some (.map none) := by rw [cell_of_block hb2]; have := (hcs k hk).2; rw [hL] at this; exact this
  have f0 : w2.frozen? ⟨c, k * 2, none⟩ = false := frozen_of_block hb2 _
  have f1 : w2.frozen? ⟨c, k * 2 + 1, none⟩ = false := frozen_of_block hb2 _
  have fin : Rw ((w2.setCell ⟨c, k * 2 + 1, none⟩ (.map (some w.heap.size))).setCell ⟨c, k * 2, none⟩ (.int .i64 n)) c (setL L k (n, some w.heap.size)) (fun j => if j = k then (fun m => if m = n then some (.int .i64 1) else none) else F j) ∧
      Chg (own c L) w ((w2.setCell ⟨c, k * 2 + 1, none⟩ (.map (some w.heap.size))).setCell ⟨c, k * 2, none⟩ (.int .i64 n)) := by
    have gc : Chg (fun j => j = c) w2 ((w2.setCell ⟨c, k * 2 + 1, none⟩ (.map (some w.heap.size))).setCell ⟨c, k * 2, none⟩ (.int .i64 n)) := (Chg.set (S := fun j => j = c) w2 ⟨c, k * 2 + 1, none⟩ _ rfl).trans (Chg.set (S := fun j => j = c) _ ⟨c, k * 2, none⟩ _ rfl)
    have g2 : Chg (fun _ => False) w w2 := (g1.none.trans (G2.mono (fun j _ e => by have : j = w.heap.size := e; show w.heap.size ≤ j; omega))).fresh
    refine ⟨⟨?_, fun j p hj hp => ?_, fun i j p hi hj h1 h2 => ?_⟩, g2.none.trans (gc.mono (fun j _ e => .inl e))⟩
    · have := (B2.set1 k hk (some w.heap.size)).set0 k hk n
      rw [setL_self, setL_two] at this
      exact this
    · unfold setL at hp
      by_cases e : j = k
      · subst e
        rw [if_pos rfl] at hp
        cases hp
        rw [if_pos rfl]
        exact ⟨M2.keep gc (by omega), hcl⟩
      · rw [if_neg e] at hp
        rw [if_neg e]
        obtain ⟨m1, m2⟩ := h.mp j p hj hp
        exact ⟨(m1.keep g2 (fun e => e)).keep gc (by omega), m2⟩
    · have t : ∀ i q, i < 16 → (L i).2 = some q → q ≠ w.heap.size := fun i q hi hq => by have := (h.mp i q hi hq).1.lt; omega
      unfold setL at h1 h2
      by_cases e1 : i = k
      · by_cases e2 : j = k
        · omega
        · rw [if_pos e1] at h1
          rw [if_neg e2] at h2
          cases h1
          exact absurd rfl (t j _ hj h2)
      · by_cases e2 : j = k
        · rw [if_neg e1] at h1
          rw [if_pos e2] at h2
          cases h2
          exact absurd rfl (t i _ hi h1)
        · rw [if_neg e1] at h1
          rw [if_neg e2] at h2
          exact h.ap i j p hi hj h1 h2
  have FIN := Lib.hid fin
  clear fin M2 G2 hb hs hcs hb2 B2 g1 h hcl
  go_enter Try.func14, Try.ntmps14
  go_wp2_with fail
  refine (hna _).mono ?_
  rintro e w1 ⟨rfl, rfl⟩
  go_wp2_with fail
  go_ret
  exact ⟨rfl, FIN.out⟩
end Go.Proofs.Ytciekkenheiedaa
