/- The window and the document's own: what one knows the other knows. No condition but that its numbers are a window's. -/
import Derived.Test.YtciekkenheiedaaR
import Derived.Test.YtciekkenheiedaaDupRow
namespace Go.Proofs.Ytciekkenheiedaa
set_option linter.unusedVariables false
open Go.ChangeShapes Go.WideShapes Go.ChangeAt Go.RowKit

def one : Value := .int .i64 1
structure Rel (f : Seen) (L : Hd) (F : Fm) : Prop where
  no : ∀ k : Nat, k < 16 → f k = none → (L k).2 = none
  yes : ∀ (k : Nat) (l : Int) (B : Nat), k < 16 → f k = some (l, B) → (L k).1 = l ∧ (∃ q, (L k).2 = some q) ∧
    ∀ x, l - 64 < x → (F k x = some one ∧ x ≤ l ∧ B.testBit (l - x).toNat = true) ∨ (F k x = none ∧ (l < x ∨ B.testBit (l - x).toNat = false))

theorem Rel.first (F : Fm) : Rel (fun _ => none) (fun _ => (0, none)) F := ⟨fun _ _ _ => rfl, fun _ _ _ _ h => by cases h⟩

theorem Rel.forget {f : Seen} {L : Hd} {F : Fm} (h : Rel f L F) (k : Nat) : Rel (fgt f k) (setL L k (0, none)) F := by
  refine ⟨fun j hj hf => ?_, fun j l B hj hf => ?_⟩
  · unfold setL
    by_cases e : j = k
    · rw [if_pos e]
    · rw [if_neg e]
      unfold fgt at hf; rw [if_neg (by omega)] at hf
      exact h.no j hj hf
  · unfold fgt at hf
    by_cases e : (j : Int) = k
    · rw [if_pos e] at hf; cases hf
    · rw [if_neg e] at hf
      unfold setL; rw [if_neg (by omega)]
      exact h.yes j l B hj hf
theorem Rel.forget_out {f : Seen} {L : Hd} {F : Fm} (h : Rel f L F) {k : Int} (hk : k < 0 ∨ 16 ≤ k) : Rel (fgt f k) L F := by
  refine ⟨fun j hj hf => h.no j hj ?_, fun j l B hj hf => h.yes j l B hj ?_⟩
  · unfold fgt at hf; rw [if_neg (by omega)] at hf; exact hf
  · unfold fgt at hf; rw [if_neg (by omega)] at hf; exact hf

/-- the first number of a node. -/
theorem Rel.begin {f : Seen} {L : Hd} {F : Fm} (h : Rel f L F) (k : Nat) (n : Int) (q : Nat) : Rel (upd f k (n, 1)) (setL L k (n, some q)) (fun j => if j = k then (fun m => if m = n then some one else none) else F j) := by
  refine ⟨fun j hj hf => ?_, fun j l B hj hf => ?_⟩
  · unfold upd at hf
    by_cases e : j = k
    · subst e; rw [if_pos rfl] at hf; cases hf
    · rw [if_neg (by omega)] at hf
      unfold setL; rw [if_neg e]
      exact h.no j hj hf
  · unfold upd at hf
    by_cases e : j = k
    · subst e; rw [if_pos rfl] at hf; cases hf
      rw [setL_self]
      refine ⟨rfl, ⟨q, rfl⟩, fun x hx => ?_⟩
      simp only [↓reduceIte]
      by_cases hxn : x = n
      · subst hxn
        left
        rw [if_pos rfl, Int.sub_self]
        exact ⟨rfl, Int.le_refl _, rfl⟩
      · right
        rw [if_neg hxn]
        refine ⟨rfl, ?_⟩
        by_cases hlt : n < x
        · exact .inl hlt
        · right
          have : (n - x).toNat ≠ 0 := by omega
          generalize (n - x).toNat = d at *
          rw [Nat.testBit_eq_decide_div_mod_eq, Nat.div_eq_of_lt (Nat.one_lt_two_pow this)]; rfl
    · rw [if_neg (by omega)] at hf
      unfold setL; rw [if_neg e]
      simp only [if_neg e]
      exact h.yes j l B hj hf

/-- a number more. -/
theorem Rel.more {f : Seen} {L : Hd} {F : Fm} (h : Rel f L F) (k : Nat) (hk : k < 16) (n l : Int) (B q : Nat) (p : Int × Nat) (hf : f k = some (l, B)) (hp : nw (f k) n = some p) :
    Rel (upd f k p) (setL L k (max l n, some q)) (fun j => if j = k then (fun m => if m = n then some one else F k m) else F j) := by
  refine ⟨fun j hj hf => ?_, fun j l' B' hj hf' => ?_⟩
  · unfold upd at hf
    by_cases e : j = k
    · subst e; rw [if_pos rfl] at hf; cases hf
    · rw [if_neg (by omega)] at hf
      unfold setL; rw [if_neg e]
      exact h.no j hj hf
  · unfold upd at hf'
    by_cases e : j = k
    · subst e; rw [if_pos rfl] at hf'; cases hf'
      rw [setL_self]
      obtain ⟨h1, h2, h3⟩ := h.yes j l B hj hf
      simp only [↓reduceIte]
      rcases nw_cases hp with ⟨e1, _⟩ | ⟨l0, B0, e1, hl, e2⟩ | ⟨l0, B0, e1, hl, h64, hb, e2⟩
      · rw [hf] at e1; cases e1
      · rw [hf] at e1; cases e1; cases e2
        refine ⟨by omega, ⟨q, rfl⟩, fun x hx => ?_⟩
        by_cases hxn : x = n
        · subst hxn
          left
          rw [if_pos rfl, Int.sub_self]
          refine ⟨rfl, Int.le_refl _, ?_⟩
          rw [show (0 : Int).toNat = 0 from rfl, shl1_bit _ _ _ (by omega)]; simp
        · rw [if_neg hxn]
          by_cases hlt : n < x
          · right
            rcases h3 x (by omega) with ⟨_, a, _⟩ | ⟨a, _⟩
            · omega
            · exact ⟨a, .inl hlt⟩
          · have hb0 := shl1_bit B (min (n - l) 64).toNat (n - x).toNat (by omega)
            rw [decide_eq_false (show ¬ (n - x).toNat = 0 by omega), Bool.or_false] at hb0
            by_cases hxl : l < x
            · right
              rcases h3 x (by omega) with ⟨_, a, _⟩ | ⟨a, _⟩
              · omega
              · refine ⟨a, .inr ?_⟩
                rw [hb0, decide_eq_false (by omega)]; rfl
            · have e5 : (n - x).toNat - (min (n - l) 64).toNat = (l - x).toNat := by omega
              rw [e5, decide_eq_true (by omega), Bool.true_and] at hb0
              rcases h3 x (by omega) with ⟨a, b, c⟩ | ⟨a, b | c⟩
              · left; exact ⟨a, by omega, by rw [hb0]; exact c⟩
              · omega
              · right; exact ⟨a, .inr (by rw [hb0]; exact c)⟩
      · rw [hf] at e1; cases e1; cases e2
        refine ⟨by omega, ⟨q, rfl⟩, fun x hx => ?_⟩
        by_cases hxn : x = n
        · subst hxn
          left
          rw [if_pos rfl]
          refine ⟨rfl, hl, ?_⟩
          rw [Nat.testBit_or, Nat.testBit_two_pow_self]; simp
        · rw [if_neg hxn]
          by_cases hlt : l < x
          · right
            rcases h3 x hx with ⟨_, a, _⟩ | ⟨a, _⟩
            · omega
            · exact ⟨a, .inl hlt⟩
          · have hb0 : (B ||| 2 ^ (l - n).toNat).testBit (l - x).toNat = B.testBit (l - x).toNat := by
              rw [Nat.testBit_or, Nat.testBit_two_pow_of_ne (by omega), Bool.or_false]
            rw [hb0]
            exact h3 x hx
    · rw [if_neg (by omega)] at hf'
      unfold setL; rw [if_neg e]
      simp only [if_neg e]
      exact h.yes j l' B' hj hf'
end Go.Proofs.Ytciekkenheiedaa
