/- Maps from ints to values of whatever kind: what a look-up, a store, a delete do. No condition. -/
import Derived.Test.YtciekkenheiedaaBase
import Derived.Carry
import Derived.MapKept
import Derived.Maps.OwnOps
namespace Go.Proofs.Ytciekkenheiedaa
set_option linter.unusedVariables false
open Go.ChangeShapes Go.WideShapes Go.ChangeAt Go.RowKit
open Go.MapKept

def ik (n : Int) : Value := .int .i64 n
theorem ik_key (n : Int) : IsKey (.int .i64) (ik n) := rfl
theorem ik_inj {a b : Int} (h : ik a = ik b) : a = b := by unfold ik at h; cases h; rfl

/-- block b is a map from ints that holds f. -/
def Mp (w : World) (b : Nat) (f : Int → Option Value) : Prop :=
  ∃ es clock, w.heap[b]? = some (.map es clock) ∧ Stamped es clock ∧ (∀ x ∈ es.toList, IsKey (.int .i64) x.key) ∧ ∀ n v, f n = some v ↔ ∃ x ∈ es.toList, x.key = ik n ∧ x.val = v

theorem Mp.lt {w : World} {b : Nat} {f : Int → Option Value} (h : Mp w b f) : b < w.heap.size := by
  obtain ⟨es, c, hb, _⟩ := h; exact lt_of_block hb
theorem Mp.keep {w w' : World} {b : Nat} {f : Int → Option Value} {S : Nat → Prop} (h : Mp w b f) (g : Chg S w w') (hs : ¬ S b) : Mp w' b f := by
  obtain ⟨es, c, hb, r⟩ := h; exact ⟨es, c, Chg.keep g hb hs, r⟩
theorem Mp.made (w : World) : Mp (w.alloc (.map #[] 0)) w.heap.size (fun _ => none) :=
  ⟨#[], 0, block_alloc _ _, stamped_empty 0, by simp, by simp⟩
theorem Mp.congr {w : World} {b : Nat} {f g : Int → Option Value} (h : Mp w b f) (e : ∀ n, f n = g n) : Mp w b g := by
  have : f = g := funext e
  exact this ▸ h

section
variable {P : Program} {w : World} {b : Nat} {f : Int → Option Value} {t k e : TypeId}

/-- the entry of a key, or none. -/
theorem Mp.find (h : Mp w b f) (n : Int) : ∃ es clock, w.heap[b]? = some (.map es clock) ∧ Stamped es clock ∧ (∀ x ∈ es.toList, IsKey (.int .i64) x.key) ∧ (∀ n v, f n = some v ↔ ∃ x ∈ es.toList, x.key = ik n ∧ x.val = v) ∧
    ((Instr.findNow (.int .i64) (ik n) es.toList 0 = some none ∧ f n = none ∧ ∀ x ∈ es.toList, x.key ≠ ik n) ∨
     ∃ j x, Instr.findNow (.int .i64) (ik n) es.toList 0 = some (some (j, x.val)) ∧ es[j]? = some x ∧ x.key = ik n ∧ f n = some x.val) := by
  obtain ⟨es, clock, hb, hs, hk, hf⟩ := h
  refine ⟨es, clock, hb, hs, hk, hf, ?_⟩
  rcases findNow_spec (ik_key n) es.toList 0 hk with ⟨h1, h2⟩ | ⟨j, x, h1, h2, h3⟩
  · left
    refine ⟨h1, ?_, h2⟩
    cases hfn : f n with
    | none => rfl
    | some v =>
      obtain ⟨x, hx, hxk, _⟩ := (hf n v).1 hfn
      exact absurd hxk (h2 x hx)
  · right
    refine ⟨j, x, by simpa using h1, by simpa using h2, h3, (hf n x.val).2 ⟨x, List.mem_of_getElem? h2, h3, rfl⟩⟩

theorem Mp.lookup (h : Mp w b f) (ht : P.underlying t = some (.map k e)) (hk : P.underlying k = some (.int .i64)) {z : Value} (hz : (zeroValue e).run P w = .ok z w) (n : Int) :
    (Instr.lookup t (.map (some b)) (ik n) true).run P w = .ok (.tuple #[(f n).getD z, .bool (f n).isSome]) w := by
  obtain ⟨es, clock, hb, hs, hks, hf, h | ⟨j, x, h1, h2, h3, h4⟩⟩ := h.find n
  · simp [Instr.lookup, run_underlying ht, MapKept.run_getObj_map hb, run_checkKey hk (ik_key n), run_findKey hk h.1, Result.andThen, hz, h.2.1]
  · simp [Instr.lookup, run_underlying ht, MapKept.run_getObj_map hb, run_checkKey hk (ik_key n), run_findKey hk h1, Result.andThen, h4]
theorem Mp.lookup1 (h : Mp w b f) (ht : P.underlying t = some (.map k e)) (hk : P.underlying k = some (.int .i64)) {z : Value} (hz : (zeroValue e).run P w = .ok z w) (n : Int) :
    (Instr.lookup t (.map (some b)) (ik n) false).run P w = .ok ((f n).getD z) w := by
  obtain ⟨es, clock, hb, hs, hks, hf, h | ⟨j, x, h1, h2, h3, h4⟩⟩ := h.find n
  · simp [Instr.lookup, run_underlying ht, MapKept.run_getObj_map hb, run_checkKey hk (ik_key n), run_findKey hk h.1, Result.andThen, hz, h.2.1]
  · simp [Instr.lookup, run_underlying ht, MapKept.run_getObj_map hb, run_checkKey hk (ik_key n), run_findKey hk h1, Result.andThen, h4]

theorem chg_block {b : Nat} {w : World} {o o' : Obj} (hb : w.heap[b]? = some o) : Chg (· = b) w { w with heap := w.heap.setIfInBounds b o' } :=
  ⟨rfl, rfl, rfl, by simp, fun i _ hi => (heap_set hb).2 i hi⟩

theorem mem_modify {es : Array MapEntry} {j : Nat} {g : MapEntry → MapEntry} {y : MapEntry} : y ∈ (es.modify j g).toList ↔ ∃ i x, es[i]? = some x ∧ y = if j = i then g x else x := by
  constructor
  · intro h
    obtain ⟨i, hi, e⟩ := List.getElem_of_mem h
    have h1 : (es.modify j g)[i]? = some y := by rw [← Array.getElem?_toList, List.getElem?_eq_getElem hi, e]
    rw [Array.getElem?_modify] at h1
    by_cases hji : j = i
    · rw [if_pos hji] at h1
      cases hx : es[i]? with
      | none => rw [hx] at h1; cases h1
      | some x => rw [hx] at h1; cases h1; exact ⟨i, x, hx, by rw [if_pos hji]⟩
    · rw [if_neg hji] at h1
      exact ⟨i, y, h1, by rw [if_neg hji]⟩
  · rintro ⟨i, x, hx, rfl⟩
    have h1 : (es.modify j g)[i]? = some (if j = i then g x else x) := by
      rw [Array.getElem?_modify]
      by_cases hji : j = i
      · rw [if_pos hji, if_pos hji, hx]; rfl
      · rw [if_neg hji, if_neg hji, hx]
    rw [← Array.getElem?_toList] at h1
    exact List.mem_of_getElem? h1

theorem key_once {es : Array MapEntry} {clock : Nat} (hs : Stamped es clock) {i j : Nat} {x y : MapEntry} (hi : es[i]? = some x) (hj : es[j]? = some y) (e : x.key = y.key) : i = j := by
  have hn := hs.2.2
  have h1 : (es.toList.map (·.key))[i]? = some x.key := by rw [List.getElem?_map, Array.getElem?_toList, hi]; rfl
  have h2 : (es.toList.map (·.key))[j]? = some x.key := by rw [List.getElem?_map, Array.getElem?_toList, hj, e]; rfl
  obtain ⟨hi', e1⟩ := List.getElem?_eq_some_iff.1 h1
  obtain ⟨hj', e2⟩ := List.getElem?_eq_some_iff.1 h2
  have hp := List.pairwise_iff_getElem.1 hn
  rcases Nat.lt_trichotomy i j with q | q | q
  · exact absurd (e1.trans e2.symm) (hp i j hi' hj' q)
  · exact q
  · exact absurd (e2.trans e1.symm) (hp j i hj' hi' q)

theorem Mp.update (h : Mp w b f) (ht : P.underlying t = some (.map k e)) (hk : P.underlying k = some (.int .i64)) (n : Int) (v : Value) :
    ∃ w', (Instr.mapUpdate t (.map (some b)) (ik n) v).run P w = .ok () w' ∧ Mp w' b (fun m => if m = n then some v else f m) ∧ Chg (· = b) w w' := by
  obtain ⟨es, clock, hb, hs, hks, hf, ⟨h1, h2, h3⟩ | ⟨j, x, h1, h2, h3, h4⟩⟩ := h.find n
  · refine ⟨{ w with heap := w.heap.setIfInBounds b (.map (es.push { key := ik n, val := v, born := clock }) (clock + 1)) }, by simp [Instr.mapUpdate, run_underlying ht, MapKept.run_getObj_map hb, run_checkKey hk (ik_key n), run_findKey hk h1, run_setObj_map _ hb, Result.andThen], ⟨es.push { key := ik n, val := v, born := clock }, clock + 1, (heap_set hb).1, stamped_push hs h3, ?_, ?_⟩, chg_block hb⟩
    · intro x hx
      simp only [Array.toList_push, List.mem_append, List.mem_singleton] at hx
      rcases hx with hx | rfl
      · exact hks x hx
      · exact ik_key n
    · intro m u; dsimp only
      simp only [Array.toList_push, List.mem_append, List.mem_singleton]
      by_cases hm : m = n
      · subst hm
        rw [if_pos rfl]
        constructor
        · intro hu; cases hu; exact ⟨_, .inr rfl, rfl, rfl⟩
        · rintro ⟨x, hx | rfl, hxk, rfl⟩
          · exact absurd hxk (h3 x hx)
          · rfl
      · rw [if_neg hm, hf m u]
        constructor
        · rintro ⟨x, hx, r⟩; exact ⟨x, .inl hx, r⟩
        · rintro ⟨x, hx | rfl, hxk, hxv⟩
          · exact ⟨x, hx, hxk, hxv⟩
          · exact absurd (ik_inj hxk).symm hm
  · have hkey : ∀ e', es[j]? = some e' → ({ e' with key := ik n, val := v } : MapEntry).key = e'.key := fun e' he' => by rw [h2] at he'; cases he'; exact h3.symm
    refine ⟨{ w with heap := w.heap.setIfInBounds b (.map (es.modify j fun e => { e with key := ik n, val := v }) clock) }, by simp [Instr.mapUpdate, run_underlying ht, MapKept.run_getObj_map hb, run_checkKey hk (ik_key n), run_findKey hk h1, h2, h3, run_keyThatStays (ik_key n), run_setObj_map _ hb, Result.andThen],
      ⟨es.modify j fun e => { e with key := ik n, val := v }, clock, (heap_set hb).1, stamped_modify hs _ _ (fun _ _ => rfl) (fun e' _ he' => hkey e' he'), isKey_modify hks _ _ hkey, ?_⟩, chg_block hb⟩
    intro m u; dsimp only
    by_cases hm : m = n
    · subst hm
      rw [if_pos rfl]
      constructor
      · intro hu; cases hu
        exact ⟨_, mem_modify.2 ⟨j, x, h2, rfl⟩, by rw [if_pos rfl], by rw [if_pos rfl]⟩
      · rintro ⟨y, hy, hyk, rfl⟩
        obtain ⟨i, z, hi, rfl⟩ := mem_modify.1 hy
        by_cases hji : j = i
        · rw [if_pos hji]
        · rw [if_neg hji] at hyk
          exact absurd (key_once hs h2 hi (h3.trans hyk.symm)) hji
    · rw [if_neg hm, hf m u]
      constructor
      · rintro ⟨y, hy, hyk, hyv⟩
        obtain ⟨i, hi, e0⟩ := List.getElem_of_mem hy
        have hi2 : es[i]? = some y := by rw [← Array.getElem?_toList, List.getElem?_eq_getElem hi, e0]
        have hji : ¬ j = i := fun q => by subst q; rw [h2] at hi2; cases hi2; exact hm (ik_inj (hyk.symm.trans h3))
        exact ⟨y, mem_modify.2 ⟨i, y, hi2, by rw [if_neg hji]⟩, hyk, hyv⟩
      · rintro ⟨y, hy, hyk, hyv⟩
        obtain ⟨i, z, hi, rfl⟩ := mem_modify.1 hy
        by_cases hji : j = i
        · rw [if_pos hji] at hyk; exact absurd (ik_inj hyk).symm hm
        · rw [if_neg hji] at hyk hyv
          exact ⟨z, by rw [← Array.getElem?_toList] at hi; exact List.mem_of_getElem? hi, hyk, hyv⟩

theorem mem_erase {es : Array MapEntry} {j : Nat} {y : MapEntry} (hj : j < es.size) : y ∈ (es.eraseIdxIfInBounds j).toList ↔ ∃ i, i ≠ j ∧ es[i]? = some y := by
  have e : (es.eraseIdxIfInBounds j).toList = es.toList.eraseIdx j := by unfold Array.eraseIdxIfInBounds; rw [dif_pos hj]; simp
  rw [e, List.mem_eraseIdx_iff_getElem?]
  simp

theorem Mp.delete (h : Mp w b f) (ht : P.underlying t = some (.map k e)) (hk : P.underlying k = some (.int .i64)) (n : Int) (ty : TypeId) :
    ∃ w', (Builtin.delete_ #[t, k] ty #[.map (some b), ik n]).run P w = .ok (.tuple #[]) w' ∧ Mp w' b (fun m => if m = n then none else f m) ∧ Chg (· = b) w w' := by
  obtain ⟨es, clock, hb, hs, hks, hf, ⟨h1, h2, h3⟩ | ⟨j, x, h1, h2, h3, h4⟩⟩ := h.find n
  · refine ⟨{ w with heap := w.heap.setIfInBounds b (.map es clock) }, by simp [Builtin.delete_, run_underlying ht, MapKept.run_getObj_map hb, run_checkKey hk (ik_key n), run_findKey hk h1, run_setObj_map _ hb, Result.andThen], ⟨es, clock, (heap_set hb).1, hs, hks, ?_⟩, chg_block hb⟩
    intro m u; dsimp only
    by_cases hm : m = n
    · subst hm
      rw [if_pos rfl]
      constructor
      · intro hu; cases hu
      · rintro ⟨x, hx, hxk, _⟩; exact absurd hxk (h3 x hx)
    · rw [if_neg hm]; exact hf m u
  · have hj : j < es.size := (Array.getElem?_eq_some_iff.1 h2).1
    refine ⟨{ w with heap := w.heap.setIfInBounds b (.map (es.eraseIdxIfInBounds j) clock) }, by simp [Builtin.delete_, run_underlying ht, MapKept.run_getObj_map hb, run_checkKey hk (ik_key n), run_findKey hk h1, run_setObj_map _ hb, Result.andThen], ⟨es.eraseIdxIfInBounds j, clock, (heap_set hb).1, stamped_erase hs j, ?_, ?_⟩, chg_block hb⟩
    · intro x hx
      obtain ⟨i, _, hi⟩ := (mem_erase hj).1 hx
      exact hks x (by rw [← Array.getElem?_toList] at hi; exact List.mem_of_getElem? hi)
    · intro m u; dsimp only
      by_cases hm : m = n
      · subst hm
        rw [if_pos rfl]
        constructor
        · intro hu; cases hu
        · rintro ⟨y, hy, hyk, _⟩
          obtain ⟨i, hij, hi⟩ := (mem_erase hj).1 hy
          exact absurd (key_once hs hi h2 (hyk.trans h3.symm)) hij
      · rw [if_neg hm, hf m u]
        constructor
        · rintro ⟨y, hy, hyk, hyv⟩
          obtain ⟨i, hi, e0⟩ := List.getElem_of_mem hy
          have hi2 : es[i]? = some y := by rw [← Array.getElem?_toList, List.getElem?_eq_getElem hi, e0]
          have hji : i ≠ j := fun q => by subst q; rw [h2] at hi2; cases hi2; exact hm (ik_inj (hyk.symm.trans h3))
          exact ⟨y, (mem_erase hj).2 ⟨i, hji, hi2⟩, hyk, hyv⟩
        · rintro ⟨y, hy, hyk, hyv⟩
          obtain ⟨i, _, hi⟩ := (mem_erase hj).1 hy
          exact ⟨y, by rw [← Array.getElem?_toList] at hi; exact List.mem_of_getElem? hi, hyk, hyv⟩
end
end Go.Proofs.Ytciekkenheiedaa
