/- What each method of the document's own window does, told by what the window knows. No condition but that its numbers are a window's. -/
import Derived.Test.YtciekkenheiedaaRL
namespace Go.Proofs.Ytciekkenheiedaa
set_option linter.unusedVariables false
open Go.ChangeShapes Go.WideShapes Go.ChangeAt Go.RowKit

def Dom (f : Seen) : Prop := ∀ k : Int, k < 0 ∨ 16 ≤ k → f k = none
theorem Dom.fgt {f : Seen} (h : Dom f) (n : Int) : Dom (fgt f n) := fun k hk => by unfold Go.Proofs.Ytciekkenheiedaa.fgt; split; rfl; exact h k hk
theorem Dom.next {f : Seen} (h : Dom f) (n x : Int) : Dom (nextf f n x) := fun k hk => by
  unfold nextf
  split
  · rename_i hm
    have := may_is.1 hm
    cases nw (f n) x with
    | none => exact h k hk
    | some p => show upd f n p k = none; unfold upd; rw [if_neg (by omega)]; exact h k hk
  · exact h k hk

theorem great_any (w : World) (c : Nat) (L : Hd) (F : Fm) (f : Seen) (n : Int) (h : Rw w c L F) (r : Rel f L F) (d : Dom f) :
    Calls Try.prog 15 #[.pointer (some ⟨c, 0, none⟩), .int .i64 n] w (PGr w (lastn (f n)) (f n).isSome) := by
  by_cases hn : 0 ≤ n ∧ n < 16
  · obtain ⟨k, rfl⟩ : ∃ k : Nat, n = k := ⟨n.toNat, by omega⟩
    have hk : k < 16 := by omega
    have := great_in w c L F k h hk
    cases hf : f k with
    | none =>
      have h0 := r.no k hk hf
      rw [h0, if_pos rfl] at this
      exact this
    | some p =>
      obtain ⟨l, B⟩ := p
      obtain ⟨h1, ⟨q, h2⟩, _⟩ := r.yes k l B hk hf
      rw [h2, if_neg (by simp), h1] at this
      exact this
  · rw [d n (by omega)]
    exact great_out w c n (by omega)

def PRn (w : World) (c : Nat) (L : Hd) (f' : Seen) (v : Value) (e : Ending) (w' : World) : Prop := ∃ L' F', e = .returned v ∧ Rw w' c L' F' ∧ Rel f' L' F' ∧ Chg (own c L) w w'

theorem rforget_any (w : World) (c : Nat) (L : Hd) (F : Fm) (f : Seen) (n : Int) (h : Rw w c L F) (r : Rel f L F) :
    Calls Try.prog 13 #[.pointer (some ⟨c, 0, none⟩), .int .i64 n] w (PRn w c L (fgt f n) (.tuple #[])) := by
  by_cases hn : 0 ≤ n ∧ n < 16
  · obtain ⟨k, rfl⟩ : ∃ k : Nat, n = k := ⟨n.toNat, by omega⟩
    exact (rforget_in w c L F k h (by omega)).mono (fun e w' p => ⟨_, _, p.1, p.2.1, r.forget k, p.2.2⟩)
  · exact (rforget_out w c L F n h (by omega)).mono (fun e w' p => ⟨_, _, p.1, p.2.1, r.forget_out (by omega), p.2.2⟩)

theorem rnew_any (w : World) (c : Nat) (L : Hd) (F : Fm) (f : Seen) (n x : Int) (h : Rw w c L F) (r : Rel f L F) (hf : Fine f) (hx : x ≤ 9223372036854775807) :
    Calls Try.prog 14 #[.pointer (some ⟨c, 0, none⟩), .int .i64 n, .int .i64 x] w (PRn w c L (nextf f n x) (.bool (isnew f n x))) := by
  by_cases hm : 0 ≤ n ∧ n < 16 ∧ 0 ≤ x
  · have hm' := may_is.2 hm
    obtain ⟨k, rfl⟩ : ∃ k : Nat, n = k := ⟨n.toNat, by omega⟩
    have hk : k < 16 := by omega
    cases hfk : f k with
    | none =>
      obtain ⟨h1, h2⟩ := put_new (f := f) (p := (x, 1)) hm' (by rw [hfk]; rfl)
      rw [h1, h2]
      exact (rnew_first w c L F k x h hk hm.2.2 (r.no k hk hfk)).mono (fun e w' p => ⟨_, _, p.1, p.2.1, r.begin k x _, p.2.2⟩)
    | some p =>
      obtain ⟨l, B⟩ := p
      obtain ⟨l0, l1, lB⟩ := hf k l B hfk
      obtain ⟨r1, ⟨q, r2⟩, r3⟩ := r.yes k l B hk hfk
      have hL : L k = (l, some q) := by rw [← r1, ← r2]
      by_cases ho : x ≤ l - 64
      · have hno : nw (f k) x = none := by rw [hfk]; unfold nw; simp only []; rw [if_neg (by omega), if_pos (by omega)]
        obtain ⟨h1, h2⟩ := put_no (f := f) (k := k) hno
        rw [h1, h2]
        exact (rnew_old w c L F k q x l h hk hm.2.2 hL ⟨l0, l1⟩ ho).mono (fun e w' p => ⟨_, _, p.1, p.2.1, r, p.2.2⟩)
      · rcases r3 x (by omega) with ⟨a1, a2, a3⟩ | ⟨a1, a2⟩
        · have hno : nw (f k) x = none := by rw [hfk]; unfold nw; simp only []; rw [if_neg (by omega), if_neg (by omega), if_pos a3]
          obtain ⟨h1, h2⟩ := put_no (f := f) (k := k) hno
          rw [h1, h2]
          exact (rnew_had w c L F k q x l h hk hm.2.2 hL ⟨l0, l1⟩ (by omega) a1).mono (fun e w' p => ⟨_, _, p.1, p.2.1, r, p.2.2⟩)
        · obtain ⟨p, hp⟩ : ∃ p, nw (f k) x = some p := by
            rw [hfk]; unfold nw; simp only []
            by_cases hlt : l < x
            · rw [if_pos hlt]; exact ⟨_, rfl⟩
            · rw [if_neg hlt, if_neg (by omega)]
              rcases a2 with a2 | a2
              · omega
              · rw [a2]; exact ⟨_, rfl⟩
          obtain ⟨h1, h2⟩ := put_new hm' hp
          rw [h1, h2]
          exact (rnew_add w c L F k q x l h hk hm.2.2 hx hL ⟨l0, l1⟩ (by omega) a1).mono (fun e w' p' => ⟨_, _, p'.1, p'.2.1, r.more k hk x l B q p hfk hp, p'.2.2⟩)
  · have hm' : may n x = false := by unfold may; exact decide_eq_false hm
    have h1 : nextf f n x = f := by unfold nextf; rw [hm']; rfl
    have h2 : isnew f n x = false := by unfold isnew; rw [hm']; rfl
    rw [h1, h2]
    exact (rnew_out w c L F n x h (by omega)).mono (fun e w' p => ⟨_, _, p.1, p.2.1, r, p.2.2⟩)
end Go.Proofs.Ytciekkenheiedaa
