/- What the Go text of 'DupLate' does, walked: it returns true, and nothing that was there has turned. No condition. -/
import Derived.Test.YtciekkenheiedaaF
namespace Go.Proofs.Ytciekkenheiedaa
set_option linter.unusedVariables false
open Go.ChangeShapes Go.WideShapes Go.ChangeAt Go.RowKit

theorem nextf_at {f : Seen} {k n : Int} {p : Int × Nat} (hm : may k n = true) (h : nw (f k) n = some p) : nextf f k n = upd f k p ∧ isnew f k n = true := by
  unfold nextf isnew; rw [hm, h]; exact ⟨rfl, rfl⟩
theorem nextf_no {f : Seen} {k n : Int} (h : nw (f k) n = none) : nextf f k n = f ∧ isnew f k n = false := by
  unfold nextf isnew; rw [h]; simp
theorem upd_self (f : Seen) (k : Int) (p : Int × Nat) : upd f k p k = some p := by unfold upd; rw [if_pos rfl]

/-- what is new of 't', 't - d', 't - d' again, 't + 1'. -/
theorem late_law (t : Int) (d : Nat) (ht : 100 ≤ t) (hd : d < 100) :
    let f1 := upd (fun _ => none) 5 (t, 1)
    let n := t - d
    nextf (fun _ => none) 5 t = f1 ∧ isnew (fun _ => none) 5 t = true ∧ isnew f1 5 n = decide (0 < d ∧ d < 64) ∧ isnew (nextf f1 5 n) 5 n = false ∧
      ∃ B, nextf (nextf f1 5 n) 5 n 5 = some (t, B) := by
  intro f1 n
  have h1 := nextf_at (f := fun _ => none) (k := 5) (n := t) (p := (t, 1)) (may_is.2 ⟨by omega, by omega, by omega⟩) rfl
  have e5 : f1 5 = some (t, 1) := upd_self _ _ _
  have hm : may 5 n = true := may_is.2 ⟨by omega, by omega, by omega⟩
  have hlt : ¬ t < n := by omega
  have hdn : t - n = d := by omega
  refine ⟨h1.1, h1.2, ?_⟩
  by_cases h64 : 64 ≤ d
  · have h2 : nw (f1 5) n = none := by rw [e5]; unfold nw; simp only []; rw [if_neg hlt, hdn, if_pos (by omega)]
    obtain ⟨h3, h4⟩ := nextf_no h2
    rw [h3, h4, h3]
    exact ⟨(decide_eq_false (by omega)).symm, rfl, 1, e5⟩
  · by_cases h0 : d = 0
    · subst h0
      have h2 : nw (f1 5) n = none := by rw [e5]; unfold nw; simp only []; rw [if_neg hlt, hdn]; rfl
      obtain ⟨h3, h4⟩ := nextf_no h2
      rw [h3, h4, h3]
      exact ⟨rfl, rfl, 1, e5⟩
    · have hb : Nat.testBit 1 d = false := by
        rw [Nat.testBit_eq_decide_div_mod_eq]
        have : 1 / 2 ^ d = 0 := Nat.div_eq_of_lt (Nat.one_lt_two_pow h0)
        rw [this]; rfl
      have h2 : nw (f1 5) n = some (t, 1 ||| 2 ^ d) := by
        rw [e5]; unfold nw; simp only []; rw [if_neg hlt, hdn, if_neg (by omega), Int.toNat_natCast, hb]; rfl
      obtain ⟨h3, h4⟩ := nextf_at hm h2
      rw [h3, h4]
      have e6 : upd f1 5 (t, 1 ||| 2 ^ d) 5 = some (t, 1 ||| 2 ^ d) := upd_self _ _ _
      have h5 : nw (upd f1 5 (t, 1 ||| 2 ^ d) 5) n = none := by
        rw [e6]; unfold nw; simp only []; rw [if_neg hlt, hdn, if_neg (by omega), Int.toNat_natCast, Nat.testBit_or, Nat.testBit_two_pow_self]; simp
      obtain ⟨h6, h7⟩ := nextf_no h5
      rw [h6, h7]
      exact ⟨(decide_eq_true (by omega)).symm, rfl, _, e6⟩

theorem late_law2 (t : Int) (d : Nat) (ht : 100 ≤ t) (hd : d < 100) : ∃ f1 f2 f3 B,
    nextf (fun _ => none) 5 t = f1 ∧ isnew (fun _ => none) 5 t = true ∧ nextf f1 5 (t - d) = f2 ∧ isnew f2 5 (t - d) = false ∧ nextf f2 5 (t - d) = f3 ∧ f3 5 = some (t, B) ∧ isnew f3 5 (t + 1) = true ∧
      ((0 < (d : Int) ∧ (d : Int) < 64 ∧ isnew f1 5 (t - d) = true) ∨ (¬ 0 < (d : Int) ∧ isnew f1 5 (t - d) = false) ∨ (64 ≤ (d : Int) ∧ isnew f1 5 (t - d) = false)) := by
  obtain ⟨L1, L2, L3, L4, B, L5⟩ := late_law t d ht hd
  refine ⟨_, _, _, B, L1, L2, rfl, L4, rfl, L5, ?_, ?_⟩
  · exact (nextf_at (p := (t + 1, shl1 B (min (t + 1 - t) 64).toNat)) (may_is.2 ⟨by omega, by omega, by omega⟩) (by rw [L5]; unfold nw; simp only []; rw [if_pos (by omega)])).2
  · by_cases q : 64 ≤ (d : Int)
    · exact .inr (.inr ⟨q, L3.trans (decide_eq_false (by omega))⟩)
    · by_cases q0 : d = 0
      · exact .inr (.inl ⟨by omega, L3.trans (decide_eq_false (by omega))⟩)
      · exact .inl ⟨by omega, by omega, L3.trans (decide_eq_true (by omega))⟩

set_option maxHeartbeats 400000 in
set_option maxRecDepth 100000 in
theorem dupLate_walk (x y : Int) (w : World) : Calls Try.prog 5 #[.int .i64 x, .int .i64 y] w (PTrue w) := by
  obtain ⟨t, ht1, ht2⟩ := umod x 1099511627776 (by omega) (by omega)
  obtain ⟨d, hd1, hd2⟩ := umod y 100 (by omega) (by omega)
  obtain ⟨T, hT⟩ : ∃ T : Int, T = 100 + t := ⟨_, rfl⟩
  obtain ⟨f1, f2, f3, B, L1, L2, LA, L4, LB, L5, L6, h3⟩ := late_law2 T d (by omega) (by omega)
  have e1 : wrap64 (100 + (t : Int)) = T := by unfold wrap64; omega
  have hT1 : 100 ≤ T := by omega
  have hT2 : T ≤ 2199023255552 := by omega
  clear hT ht1
  have hT1 : 100 ≤ T := by omega
  have hT2 : T ≤ 2199023255552 := by omega
  have H1 := Lib.hid L1
  have H2 := Lib.hid L2
  have H4 := Lib.hid L4
  have H5 := Lib.hid L5
  have H6 := Lib.hid L6
  have HA := Lib.hid LA
  have HB := Lib.hid LB
  clear L1 L2 LA LB L4 L5 L6
  go_enter Try.func5, Try.ntmps5
  go_wp2_with fail
  refine (new_any _).mono ?_
  rintro e w1 ⟨b, m, rfl, k1, hb, hm, _, _, g1⟩
  have G := g1.none (S := fun j => w.heap.size ≤ j)
  clear g1
  have up : ∀ (a c : World), Chg (· = m) a c → Chg (fun j => w.heap.size ≤ j) a c := fun _ _ g => g.mono (fun j _ e => (show j = m from e) ▸ hm)
  have UP := Lib.hid up
  have F1 := Lib.hid Fine.none
  clear up
  go_wp2_with fail
  refine (put_any _ b m _ 5 T k1 F1.out (by omega)).mono ?_
  rw [H2.out]
  have f2 := F1.out.next 5 T (by omega)
  rw [H1.out] at f2 ⊢
  have F2 := Lib.hid f2
  clear f2
  rintro e w2 ⟨rfl, k2, g2⟩
  replace G := G.trans (UP.out _ _ g2)
  clear g2
  rcases h3 with ⟨q1, q2, L3⟩ | ⟨q1, L3⟩ | ⟨q1, L3⟩
  all_goals
    have H3 := Lib.hid L3
    clear L3
    go_wp2_with fail
    refine (put_any _ b m _ 5 (T - d) k2 F2.out (by omega)).mono ?_
    rw [H3.out, HA.out]
    have g3 := F2.out.next 5 (T - d) (by omega)
    rw [HA.out] at g3
    have F3 := Lib.hid g3
    clear g3
    rintro e w3 ⟨rfl, k3, g3⟩
    replace G := G.trans (UP.out _ _ g3)
    clear g3
    go_wp2_with fail
    refine (put_any _ b m _ 5 (T - d) k3 F3.out (by omega)).mono ?_
    rw [H4.out, HB.out]
    have g4 := F3.out.next 5 (T - d) (by omega)
    rw [HB.out] at g4
    have F4 := Lib.hid g4
    clear g4
    rintro e w4 ⟨rfl, k4, g4⟩
    replace G := G.trans (UP.out _ _ g4)
    clear g4
    go_wp2_with fail
    refine (last_any _ b m _ 5 k4).mono ?_
    rw [H5.out]
    rintro e w5 ⟨rfl, g5⟩
    have k5 := k4.kept g5
    replace G := G.trans g5.none
    clear g5
    simp only [lastn, Option.isSome_some]
    go_wp2_with fail
    refine (put_any _ b m _ 5 (T + 1) k5 F4.out (by omega)).mono ?_
    rw [H6.out]
    rintro e w6 ⟨rfl, k6, g6⟩
    replace G := G.trans (UP.out _ _ g6)
    clear g6
    go_wp2_with fail
    refine (awake_true _).mono ?_
    rintro e w7 ⟨rfl, g7⟩
    go_wp2_with fail
    go_ret
    refine ⟨?_, (G.trans g7.none).fresh⟩
    first
      | rfl
      | (show Ending.returned (.bool (!decide ((d : Int) < 64))) = _; rw [decide_eq_false (by omega)]; rfl)
end Go.Proofs.Ytciekkenheiedaa
