/- Windows of numbers: what was heard stays known; what is above all is new. No program. -/
import Derived.Test.YtciekkenheiedaaF
namespace Go.Proofs.Ytciekkenheiedaa
set_option linter.unusedVariables false

/-- a number that is not new any more. -/
def Known (s : Option (Int × Nat)) (x : Int) : Prop := ∃ l B, s = some (l, B) ∧ x ≤ l ∧ (64 ≤ l - x ∨ B.testBit (l - x).toNat = true)

theorem shl1_bit (B d i : Nat) (hi : i < 64) : (shl1 B d).testBit i = (decide (d ≤ i) && B.testBit (i - d) || decide (i = 0)) := by
  unfold shl1
  rw [Nat.testBit_or, show (18446744073709551616 : Nat) = 2 ^ 64 from rfl, Nat.testBit_mod_two_pow, Nat.testBit_mul_two_pow, decide_eq_true hi, show Nat.testBit 1 i = decide (i = 0) from by rw [Bool.eq_iff_iff]; simp [Nat.testBit_one_eq_true_iff_self_eq_zero]]
  simp

theorem known_no {s : Option (Int × Nat)} {x : Int} (h : Known s x) : nw s x = none := by
  obtain ⟨l, B, rfl, hx, hb⟩ := h
  unfold nw
  simp only []
  rw [if_neg (by omega)]
  by_cases h64 : 64 ≤ l - x
  · rw [if_pos h64]
  · rw [if_neg h64]
    rcases hb with hb | hb
    · omega
    · rw [if_pos hb]

theorem nw_cases {s : Option (Int × Nat)} {n : Int} {p : Int × Nat} (h : nw s n = some p) :
    (s = none ∧ p = (n, 1)) ∨ (∃ l B, s = some (l, B) ∧ l < n ∧ p = (n, shl1 B (min (n - l) 64).toNat)) ∨ (∃ l B, s = some (l, B) ∧ n ≤ l ∧ l - n < 64 ∧ B.testBit (l - n).toNat = false ∧ p = (l, B ||| 2 ^ (l - n).toNat)) := by
  unfold nw at h
  split at h
  · cases h; exact .inl ⟨rfl, rfl⟩
  · rename_i l B
    split at h
    · cases h; exact .inr (.inl ⟨l, B, rfl, by assumption, rfl⟩)
    · split at h
      · cases h
      · split at h
        · cases h
        · rename_i hb
          cases h; exact .inr (.inr ⟨l, B, rfl, by omega, by omega, by simpa using hb, rfl⟩)

theorem known_new {s : Option (Int × Nat)} {n : Int} {p : Int × Nat} (h : nw s n = some p) : Known (some p) n := by
  rcases nw_cases h with ⟨rfl, rfl⟩ | ⟨l, B, rfl, hl, rfl⟩ | ⟨l, B, rfl, hl, h64, hb, rfl⟩
  · exact ⟨n, 1, rfl, by omega, .inr (by rw [Int.sub_self]; rfl)⟩
  · refine ⟨n, _, rfl, by omega, .inr ?_⟩
    rw [Int.sub_self, show (0 : Int).toNat = 0 from rfl, shl1_bit _ _ _ (by omega)]; simp
  · refine ⟨l, _, rfl, hl, .inr ?_⟩
    rw [Nat.testBit_or, Nat.testBit_two_pow_self]; simp

theorem known_keep {s : Option (Int × Nat)} {n x : Int} {p : Int × Nat} (h : nw s n = some p) (hx : Known s x) : Known (some p) x := by
  obtain ⟨l, B, rfl, hx, hb⟩ := hx
  rcases nw_cases h with ⟨e, rfl⟩ | ⟨l', B', e, hl, rfl⟩ | ⟨l', B', e, hl, h64, hb', rfl⟩
  · cases e
  · cases e
    refine ⟨n, _, rfl, by omega, ?_⟩
    by_cases h64 : 64 ≤ n - x
    · exact .inl h64
    · right
      rcases hb with hb | hb
      · omega
      · rw [shl1_bit _ _ _ (by omega), show (n - x).toNat - (min (n - l) 64).toNat = (l - x).toNat from by omega, hb, decide_eq_true (by omega)]; rfl
  · cases e
    refine ⟨l, _, rfl, hx, ?_⟩
    rcases hb with hb | hb
    · exact .inl hb
    · right
      rw [Nat.testBit_or, hb]; rfl

/-- the last one. -/
theorem nw_top {s : Option (Int × Nat)} {n : Int} {p : Int × Nat} (h : nw s n = some p) : n ≤ p.1 ∧ (∀ q, s = some q → p.1 = max q.1 n ∧ n - 0 > q.1 - 64) ∧ (s = none → p.1 = n) := by
  rcases nw_cases h with ⟨rfl, rfl⟩ | ⟨l, B, rfl, hl, rfl⟩ | ⟨l, B, rfl, hl, h64, hb, rfl⟩
  · exact ⟨Int.le_refl _, fun q e => (by cases e), fun _ => rfl⟩
  · exact ⟨Int.le_refl _, fun q e => (by cases e; simp only []; omega), fun e => (by cases e)⟩
  · exact ⟨hl, fun q e => (by cases e; simp only []; omega), fun e => (by cases e)⟩
theorem nw_above {s : Option (Int × Nat)} {n : Int} (h : ∀ q, s = some q → q.1 < n) : ∃ p, nw s n = some p := by
  cases s with
  | none => exact ⟨_, rfl⟩
  | some q =>
    obtain ⟨l, B⟩ := q
    have := h _ rfl
    unfold nw
    simp only []
    rw [if_pos this]
    exact ⟨_, rfl⟩
end Go.Proofs.Ytciekkenheiedaa
