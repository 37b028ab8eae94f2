/- Maps from ints to values of whatever kind: what a look-up, a store, a delete do. What 'Measure' and 'Within' give, here and in the document. Classes of blocks: own k = 0: block k is never written again; what slices of such blocks hold. What a reader of whole bytes does, in one form for all its states. What the program reckons of elements, frames and packets, as functions on numbers and lists. No condition. -/
import Derived.Test.YtnpihllannobgaaGreatDoorG03
import Derived.Carry
import Derived.MapKept
import Derived.Maps.OwnOps
namespace Go.Proofs.YtnpihllannobgaaGreatDoor
set_option linter.unusedVariables false
open Go.ChangeShapes Go.WideShapes Go.ChangeAt Go.RowKit
open Go.MapKept

def ik (n : Int) : Value := .int .i64 n
theorem ik_key (n : Int) : IsKey (.int .i64) (ik n) := rfl
theorem ik_inj {a b : Int} (h : ik a = ik b) : a = b := by unfold ik at h; cases h; rfl

/-- block b is a map from ints that holds f. -/
def Mp (w : World) (b : Nat) (f : Int → Option Value) : Prop :=
  ∃ es clock, w.heap[b]? = some (.map es clock) ∧ Stamped es clock ∧ (∀ x ∈ es.toList, IsKey (.int .i64) x.key) ∧ ∀ n v, f n = some v ↔ ∃ x ∈ es.toList, x.key = ik n ∧ x.val = v

theorem Mp.lt {w : World} {b : Nat} {f : Int → Option Value} (h : Mp w b f) : b < w.heap.size := by
  obtain ⟨es, c, hb, _⟩ := h; exact lt_of_block hb
theorem Mp.keep {w w' : World} {b : Nat} {f : Int → Option Value} {S : Nat → Prop} (h : Mp w b f) (g : Chg S w w') (hs : ¬ S b) : Mp w' b f := by
  obtain ⟨es, c, hb, r⟩ := h; exact ⟨es, c, Chg.keep g hb hs, r⟩
theorem Mp.made (w : World) : Mp (w.alloc (.map #[] 0)) w.heap.size (fun _ => none) :=
  ⟨#[], 0, block_alloc _ _, stamped_empty 0, by simp, by simp⟩
theorem Mp.congr {w : World} {b : Nat} {f g : Int → Option Value} (h : Mp w b f) (e : ∀ n, f n = g n) : Mp w b g := by
  have : f = g := funext e
  exact this ▸ h

section
variable {P : Program} {w : World} {b : Nat} {f : Int → Option Value} {t k e : TypeId}

/-- the entry of a key, or none. -/
theorem Mp.find (h : Mp w b f) (n : Int) : ∃ es clock, w.heap[b]? = some (.map es clock) ∧ Stamped es clock ∧ (∀ x ∈ es.toList, IsKey (.int .i64) x.key) ∧ (∀ n v, f n = some v ↔ ∃ x ∈ es.toList, x.key = ik n ∧ x.val = v) ∧
    ((Instr.findNow (.int .i64) (ik n) es.toList 0 = some none ∧ f n = none ∧ ∀ x ∈ es.toList, x.key ≠ ik n) ∨
     ∃ j x, Instr.findNow (.int .i64) (ik n) es.toList 0 = some (some (j, x.val)) ∧ es[j]? = some x ∧ x.key = ik n ∧ f n = some x.val) := by
  obtain ⟨es, clock, hb, hs, hk, hf⟩ := h
  refine ⟨es, clock, hb, hs, hk, hf, ?_⟩
  rcases findNow_spec (ik_key n) es.toList 0 hk with ⟨h1, h2⟩ | ⟨j, x, h1, h2, h3⟩
  · left
    refine ⟨h1, ?_, h2⟩
    cases hfn : f n with
    | none => rfl
    | some v =>
      obtain ⟨x, hx, hxk, _⟩ := (hf n v).1 hfn
      exact absurd hxk (h2 x hx)
  · right
    refine ⟨j, x, by simpa using h1, by simpa using h2, h3, (hf n x.val).2 ⟨x, List.mem_of_getElem? h2, h3, rfl⟩⟩

theorem Mp.lookup (h : Mp w b f) (ht : P.underlying t = some (.map k e)) (hk : P.underlying k = some (.int .i64)) {z : Value} (hz : (zeroValue e).run P w = .ok z w) (n : Int) :
    (Instr.lookup t (.map (some b)) (ik n) true).run P w = .ok (.tuple #[(f n).getD z, .bool (f n).isSome]) w := by
  obtain ⟨es, clock, hb, hs, hks, hf, h | ⟨j, x, h1, h2, h3, h4⟩⟩ := h.find n
  · simp [Instr.lookup, run_underlying ht, MapKept.run_getObj_map hb, run_checkKey hk (ik_key n), run_findKey hk h.1, Result.andThen, hz, h.2.1]
  · simp [Instr.lookup, run_underlying ht, MapKept.run_getObj_map hb, run_checkKey hk (ik_key n), run_findKey hk h1, Result.andThen, h4]
theorem Mp.lookup1 (h : Mp w b f) (ht : P.underlying t = some (.map k e)) (hk : P.underlying k = some (.int .i64)) {z : Value} (hz : (zeroValue e).run P w = .ok z w) (n : Int) :
    (Instr.lookup t (.map (some b)) (ik n) false).run P w = .ok ((f n).getD z) w := by
  obtain ⟨es, clock, hb, hs, hks, hf, h | ⟨j, x, h1, h2, h3, h4⟩⟩ := h.find n
  · simp [Instr.lookup, run_underlying ht, MapKept.run_getObj_map hb, run_checkKey hk (ik_key n), run_findKey hk h.1, Result.andThen, hz, h.2.1]
  · simp [Instr.lookup, run_underlying ht, MapKept.run_getObj_map hb, run_checkKey hk (ik_key n), run_findKey hk h1, Result.andThen, h4]

theorem chg_block {b : Nat} {w : World} {o o' : Obj} (hb : w.heap[b]? = some o) : Chg (· = b) w { w with heap := w.heap.setIfInBounds b o' } :=
  ⟨rfl, rfl, rfl, by simp, fun i _ hi => (heap_set hb).2 i hi⟩

theorem mem_modify {es : Array MapEntry} {j : Nat} {g : MapEntry → MapEntry} {y : MapEntry} : y ∈ (es.modify j g).toList ↔ ∃ i x, es[i]? = some x ∧ y = if j = i then g x else x := by
  constructor
  · intro h
    obtain ⟨i, hi, e⟩ := List.getElem_of_mem h
    have h1 : (es.modify j g)[i]? = some y := by rw [← Array.getElem?_toList, List.getElem?_eq_getElem hi, e]
    rw [Array.getElem?_modify] at h1
    by_cases hji : j = i
    · rw [if_pos hji] at h1
      cases hx : es[i]? with
      | none => rw [hx] at h1; cases h1
      | some x => rw [hx] at h1; cases h1; exact ⟨i, x, hx, by rw [if_pos hji]⟩
    · rw [if_neg hji] at h1
      exact ⟨i, y, h1, by rw [if_neg hji]⟩
  · rintro ⟨i, x, hx, rfl⟩
    have h1 : (es.modify j g)[i]? = some (if j = i then g x else x) := by
      rw [Array.getElem?_modify]
      by_cases hji : j = i
      · rw [if_pos hji, if_pos hji, hx]; rfl
      · rw [if_neg hji, if_neg hji, hx]
    rw [← Array.getElem?_toList] at h1
    exact List.mem_of_getElem? h1

theorem key_once {es : Array MapEntry} {clock : Nat} (hs : Stamped es clock) {i j : Nat} {x y : MapEntry} (hi : es[i]? = some x) (hj : es[j]? = some y) (e : x.key = y.key) : i = j := by
  have hn := hs.2.2
  have h1 : (es.toList.map (·.key))[i]? = some x.key := by rw [List.getElem?_map, Array.getElem?_toList, hi]; rfl
  have h2 : (es.toList.map (·.key))[j]? = some x.key := by rw [List.getElem?_map, Array.getElem?_toList, hj, e]; rfl
  obtain ⟨hi', e1⟩ := List.getElem?_eq_some_iff.1 h1
  obtain ⟨hj', e2⟩ := List.getElem?_eq_some_iff.1 h2
  have hp := List.pairwise_iff_getElem.1 hn
  rcases Nat.lt_trichotomy i j with q | q | q
  · exact absurd (e1.trans e2.symm) (hp i j hi' hj' q)
  · exact q
  · exact absurd (e2.trans e1.symm) (hp j i hj' hi' q)

theorem Mp.update (h : Mp w b f) (ht : P.underlying t = some (.map k e)) (hk : P.underlying k = some (.int .i64)) (n : Int) (v : Value) :
    ∃ w', (Instr.mapUpdate t (.map (some b)) (ik n) v).run P w = .ok () w' ∧ Mp w' b (fun m => if m = n then some v else f m) ∧ Chg (· = b) w w' := by
  obtain ⟨es, clock, hb, hs, hks, hf, ⟨h1, h2, h3⟩ | ⟨j, x, h1, h2, h3, h4⟩⟩ := h.find n
  · refine ⟨{ w with heap := w.heap.setIfInBounds b (.map (es.push { key := ik n, val := v, born := clock }) (clock + 1)) }, by simp [Instr.mapUpdate, run_underlying ht, MapKept.run_getObj_map hb, run_checkKey hk (ik_key n), run_findKey hk h1, run_setObj_map _ hb, Result.andThen], ⟨es.push { key := ik n, val := v, born := clock }, clock + 1, (heap_set hb).1, stamped_push hs h3, ?_, ?_⟩, chg_block hb⟩
    · intro x hx
      simp only [Array.toList_push, List.mem_append, List.mem_singleton] at hx
      rcases hx with hx | rfl
      · exact hks x hx
      · exact ik_key n
    · intro m u; dsimp only
      simp only [Array.toList_push, List.mem_append, List.mem_singleton]
      by_cases hm : m = n
      · subst hm
        rw [if_pos rfl]
        constructor
        · intro hu; cases hu; exact ⟨_, .inr rfl, rfl, rfl⟩
        · rintro ⟨x, hx | rfl, hxk, rfl⟩
          · exact absurd hxk (h3 x hx)
          · rfl
      · rw [if_neg hm, hf m u]
        constructor
        · rintro ⟨x, hx, r⟩; exact ⟨x, .inl hx, r⟩
        · rintro ⟨x, hx | rfl, hxk, hxv⟩
          · exact ⟨x, hx, hxk, hxv⟩
          · exact absurd (ik_inj hxk).symm hm
  · have hkey : ∀ e', es[j]? = some e' → ({ e' with key := ik n, val := v } : MapEntry).key = e'.key := fun e' he' => by rw [h2] at he'; cases he'; exact h3.symm
    refine ⟨{ w with heap := w.heap.setIfInBounds b (.map (es.modify j fun e => { e with key := ik n, val := v }) clock) }, by simp [Instr.mapUpdate, run_underlying ht, MapKept.run_getObj_map hb, run_checkKey hk (ik_key n), run_findKey hk h1, h2, h3, run_keyThatStays (ik_key n), run_setObj_map _ hb, Result.andThen],
      ⟨es.modify j fun e => { e with key := ik n, val := v }, clock, (heap_set hb).1, stamped_modify hs _ _ (fun _ _ => rfl) (fun e' _ he' => hkey e' he'), isKey_modify hks _ _ hkey, ?_⟩, chg_block hb⟩
    intro m u; dsimp only
    by_cases hm : m = n
    · subst hm
      rw [if_pos rfl]
      constructor
      · intro hu; cases hu
        exact ⟨_, mem_modify.2 ⟨j, x, h2, rfl⟩, by rw [if_pos rfl], by rw [if_pos rfl]⟩
      · rintro ⟨y, hy, hyk, rfl⟩
        obtain ⟨i, z, hi, rfl⟩ := mem_modify.1 hy
        by_cases hji : j = i
        · rw [if_pos hji]
        · rw [if_neg hji] at hyk
          exact absurd (key_once hs h2 hi (h3.trans hyk.symm)) hji
    · rw [if_neg hm, hf m u]
      constructor
      · rintro ⟨y, hy, hyk, hyv⟩
        obtain ⟨i, hi, e0⟩ := List.getElem_of_mem hy
        have hi2 : es[i]? = some y := by rw [← Array.getElem?_toList, List.getElem?_eq_getElem hi, e0]
        have hji : ¬ j = i := fun q => by subst q; rw [h2] at hi2; cases hi2; exact hm (ik_inj (hyk.symm.trans h3))
        exact ⟨y, mem_modify.2 ⟨i, y, hi2, by rw [if_neg hji]⟩, hyk, hyv⟩
      · rintro ⟨y, hy, hyk, hyv⟩
        obtain ⟨i, z, hi, rfl⟩ := mem_modify.1 hy
        by_cases hji : j = i
        · rw [if_pos hji] at hyk; exact absurd (ik_inj hyk).symm hm
        · rw [if_neg hji] at hyk hyv
          exact ⟨z, by rw [← Array.getElem?_toList] at hi; exact List.mem_of_getElem? hi, hyk, hyv⟩

theorem mem_erase {es : Array MapEntry} {j : Nat} {y : MapEntry} (hj : j < es.size) : y ∈ (es.eraseIdxIfInBounds j).toList ↔ ∃ i, i ≠ j ∧ es[i]? = some y := by
  have e : (es.eraseIdxIfInBounds j).toList = es.toList.eraseIdx j := by unfold Array.eraseIdxIfInBounds; rw [dif_pos hj]; simp
  rw [e, List.mem_eraseIdx_iff_getElem?]
  simp

theorem Mp.delete (h : Mp w b f) (ht : P.underlying t = some (.map k e)) (hk : P.underlying k = some (.int .i64)) (n : Int) (ty : TypeId) :
    ∃ w', (Builtin.delete_ #[t, k] ty #[.map (some b), ik n]).run P w = .ok (.tuple #[]) w' ∧ Mp w' b (fun m => if m = n then none else f m) ∧ Chg (· = b) w w' := by
  obtain ⟨es, clock, hb, hs, hks, hf, ⟨h1, h2, h3⟩ | ⟨j, x, h1, h2, h3, h4⟩⟩ := h.find n
  · refine ⟨{ w with heap := w.heap.setIfInBounds b (.map es clock) }, by simp [Builtin.delete_, run_underlying ht, MapKept.run_getObj_map hb, run_checkKey hk (ik_key n), run_findKey hk h1, run_setObj_map _ hb, Result.andThen], ⟨es, clock, (heap_set hb).1, hs, hks, ?_⟩, chg_block hb⟩
    intro m u; dsimp only
    by_cases hm : m = n
    · subst hm
      rw [if_pos rfl]
      constructor
      · intro hu; cases hu
      · rintro ⟨x, hx, hxk, _⟩; exact absurd hxk (h3 x hx)
    · rw [if_neg hm]; exact hf m u
  · have hj : j < es.size := (Array.getElem?_eq_some_iff.1 h2).1
    refine ⟨{ w with heap := w.heap.setIfInBounds b (.map (es.eraseIdxIfInBounds j) clock) }, by simp [Builtin.delete_, run_underlying ht, MapKept.run_getObj_map hb, run_checkKey hk (ik_key n), run_findKey hk h1, run_setObj_map _ hb, Result.andThen], ⟨es.eraseIdxIfInBounds j, clock, (heap_set hb).1, stamped_erase hs j, ?_, ?_⟩, chg_block hb⟩
    · intro x hx
      obtain ⟨i, _, hi⟩ := (mem_erase hj).1 hx
      exact hks x (by rw [← Array.getElem?_toList] at hi; exact List.mem_of_getElem? hi)
    · intro m u; dsimp only
      by_cases hm : m = n
      · subst hm
        rw [if_pos rfl]
        constructor
        · intro hu; cases hu
        · rintro ⟨y, hy, hyk, _⟩
          obtain ⟨i, hij, hi⟩ := (mem_erase hj).1 hy
          exact absurd (key_once hs hi h2 (hyk.trans h3.symm)) hij
      · rw [if_neg hm, hf m u]
        constructor
        · rintro ⟨y, hy, hyk, hyv⟩
          obtain ⟨i, hi, e0⟩ := List.getElem_of_mem hy
          have hi2 : es[i]? = some y := by rw [← Array.getElem?_toList, List.getElem?_eq_getElem hi, e0]
          have hji : i ≠ j := fun q => by subst q; rw [h2] at hi2; cases hi2; exact hm (ik_inj (hyk.symm.trans h3))
          exact ⟨y, (mem_erase hj).2 ⟨i, hji, hi2⟩, hyk, hyv⟩
        · rintro ⟨y, hy, hyk, hyv⟩
          obtain ⟨i, _, hi⟩ := (mem_erase hj).1 hy
          exact ⟨y, by rw [← Array.getElem?_toList] at hi; exact List.mem_of_getElem? hi, hyk, hyv⟩
end
end Go.Proofs.YtnpihllannobgaaGreatDoor
namespace Go.Proofs.YtnpihllannobgaaGreatDoor
set_option linter.unusedVariables false
set_option linter.unusedSimpArgs false
open Go.ChangeShapes Go.WideShapes Go.ChangeAt Go.RowKit

theorem ret_bool {a b : Bool} (h : a = b) : Ending.returned (.bool a) = .returned (.bool b) := by rw [h]
def lim (m : Int) : Int := max 0 (min m 1000)
def meas (a b e m : Int) : Int := cutf (cutf b 1000000000000 - cutf a 1000000000000 + cutf e (lim m)) 30000
def withinB (a b g : Int) : Bool := decide (0 ≤ g ∧ max a b - min a b ≤ g)

set_option maxRecDepth 100000 in
theorem offcut_any (n m : Int) (w : World) (h0 : 0 ≤ m) (h1 : m ≤ 1000000000000) :
   Calls Tryz.prog 109 #[.int .i64 n, .int .i64 m] w fun e w' => e = .returned (.int .i64 (cutf n m)) ∧ w' = w := by
  go_enter Tryz.func109, Tryz.ntmps109
  go_wp2
  all_goals
    go_ret
    refine ⟨ret_int ?_, rfl⟩
    unfold cutf
    split at * <;> omega
theorem lim_bd (m : Int) : 0 ≤ lim m ∧ lim m ≤ 1000 := by unfold lim; omega

set_option maxRecDepth 100000 in
theorem measure_any (a b e m : Int) (w : World) :
   Calls Tryz.prog 64 #[.int .i64 a, .int .i64 b, .int .i64 e, .int .i64 m] w fun r w' => r = .returned (.int .i64 (meas a b e m)) ∧ w' = w := by
  obtain ⟨a0, a1⟩ := cutf_bd a 1000000000000 (by omega)
  obtain ⟨b0, b1⟩ := cutf_bd b 1000000000000 (by omega)
  obtain ⟨l0, l1⟩ := lim_bd m
  obtain ⟨c0, c1⟩ := cutf_bd e (lim m) (by omega)
  obtain ⟨L, hL⟩ : ∃ L, L = lim m := ⟨_, rfl⟩
  unfold meas
  rw [← hL] at l0 l1 c0 c1 ⊢
  have hL' : L = max 0 (min m 1000) := hL
  clear hL
  go_enter Tryz.func64, Tryz.ntmps64
  rcases (by omega : (m ≤ 0 ∧ L = 0) ∨ (1000 < m ∧ L = 1000) ∨ (0 < m ∧ m ≤ 1000 ∧ L = m)) with ⟨h1, rfl⟩ | ⟨h1, rfl⟩ | ⟨h1, h2, rfl⟩
  all_goals
    clear hL'
    go_wp2_with (go_at_call 109; refine (offcut_any _ _ _ (by omega) (by omega)).mono ?_; rintro r w' ⟨rfl, rfl⟩)
    go_ret
    exact ⟨rfl, rfl⟩
theorem i64_bd {x : Int} (h : (Lit.int .i64 x).wf = true) : -9223372036854775808 ≤ x ∧ x ≤ 9223372036854775807 := by
  simp only [Lit.wf, IntKind.min, IntKind.max, IntKind.signed, IntKind.bits, Bool.and_eq_true] at h
  simp at h; omega
theorem u64w (n : Int) : IntKind.u64.wrap n = n % 18446744073709551616 := by
  simp [IntKind.wrap, IntKind.bits, IntKind.signed]
theorem within_yes {x y g : Int} (hx : (Lit.int .i64 x).wf = true) (hy : (Lit.int .i64 y).wf = true) (hg : (Lit.int .i64 g).wf = true) (h : x ≤ y) (h0 : 0 ≤ g) :
    decide (IntKind.u64.wrap (IntKind.u64.wrap y - IntKind.u64.wrap x) ≤ IntKind.u64.wrap g) = decide (y - x ≤ g) := by
  obtain ⟨x0, x1⟩ := i64_bd hx
  obtain ⟨y0, y1⟩ := i64_bd hy
  obtain ⟨g0, g1⟩ := i64_bd hg
  rw [decide_eq_decide, u64w, u64w, u64w, u64w]
  omega
theorem wb_lt {a b g : Int} (h : a ≤ b) (h0 : 0 ≤ g) : withinB a b g = decide (b - a ≤ g) := by
  unfold withinB; rw [decide_eq_decide]; omega
theorem wb_gt {a b g : Int} (h : b ≤ a) (h0 : 0 ≤ g) : withinB a b g = decide (a - b ≤ g) := by
  unfold withinB; rw [decide_eq_decide]; omega
theorem wb_self {a g : Int} (h0 : 0 ≤ g) : withinB a a g = true := by unfold withinB; rw [decide_eq_true_iff]; omega
theorem wb_no {a b g : Int} (h0 : g < 0) : withinB a b g = false := by
  unfold withinB; rw [decide_eq_false_iff_not]; omega
set_option maxRecDepth 100000 in
theorem within_any (a b g : Int) (w : World) (ha : (Lit.int .i64 a).wf = true) (hb : (Lit.int .i64 b).wf = true) (hg : (Lit.int .i64 g).wf = true) :
   Calls Tryz.prog 105 #[.int .i64 a, .int .i64 b, .int .i64 g] w fun r w' => r = .returned (.bool (withinB a b g)) ∧ w' = w := by
  have HA := Lib.hid ha
  have HB := Lib.hid hb
  have HG := Lib.hid hg
  clear ha hb hg
  by_cases h0 : 0 ≤ g
  · rcases (by omega : a < b ∨ b < a ∨ a = b) with h | h | rfl
    · go_enter Tryz.func105, Tryz.ntmps105
      go_wp2
      go_ret
      exact ⟨ret_bool ((within_yes HA.out HB.out HG.out (by omega) h0).trans (wb_lt (by omega) h0).symm), rfl⟩
    · go_enter Tryz.func105, Tryz.ntmps105
      go_wp2
      go_ret
      exact ⟨ret_bool ((within_yes HB.out HA.out HG.out (by omega) h0).trans (wb_gt (by omega) h0).symm), rfl⟩
    · go_enter Tryz.func105, Tryz.ntmps105
      go_wp2
      go_ret
      exact ⟨ret_bool (wb_self h0).symm, rfl⟩
  · have HF := Lib.hid (wb_no (a := a) (b := b) (by omega : g < 0))
    rcases (by omega : a < b ∨ b < a ∨ a = b) with h | h | rfl
    all_goals
      go_enter Tryz.func105, Tryz.ntmps105
      go_wp2
      go_ret
      exact ⟨ret_bool HF.out.symm, rfl⟩
end Go.Proofs.YtnpihllannobgaaGreatDoor
namespace Go.Proofs.YtnpihllannobgaaGreatDoor
set_option linter.unusedVariables false
set_option linter.unusedSimpArgs false
open Go.ChangeShapes Go.WideShapes Go.ChangeAt Go.RowKit

abbrev Cls := Nat → Nat
/-- blocks that are not there yet are of class 0. -/
def Z (w : World) (own : Cls) : Prop := ∀ k, w.heap.size ≤ k → own k = 0
/-- the classes of the blocks of w are as they were. -/
def Ext (w : World) (own own' : Cls) : Prop := ∀ k, k < w.heap.size → own' k = own k
theorem Ext.refl (w : World) (own : Cls) : Ext w own own := fun _ _ => rfl
theorem Ext.trans {w w' : World} {o1 o2 o3 : Cls} (h : Ext w o1 o2) (k : Ext w' o2 o3) (hs : w.heap.size ≤ w'.heap.size) : Ext w o1 o3 :=
  fun i hi => (k i (by omega)).trans (h i hi)
theorem Z.more {w w' : World} {own : Cls} (h : Z w own) (hs : w.heap.size ≤ w'.heap.size) : Z w' own := fun k hk => h k (by omega)
/-- block b gets class c. -/
def cls (own : Cls) (b c : Nat) : Cls := fun k => if k = b then c else own k
theorem cls_at (own : Cls) (b c : Nat) : cls own b c b = c := by simp [cls]
theorem cls_ne (own : Cls) (b c : Nat) {k : Nat} (h : k ≠ b) : cls own b c k = own k := by simp [cls, h]
theorem Ext.cls {w : World} (own : Cls) (b c : Nat) (h : w.heap.size ≤ b) : Ext w own (cls own b c) := fun k hk => cls_ne own b c (by omega)
theorem Z.cls {w : World} {own : Cls} (h : Z w own) {b : Nat} (c : Nat) (hb : b < w.heap.size) : Z w (cls own b c) := fun k hk => by
  rw [cls_ne own b c (by omega)]; exact h k hk
/-- of class c alone, or new. -/
def Of (own : Cls) (c : Nat) : Nat → Prop := fun k => own k = c
theorem Chg.ext {w w1 w2 : World} {o1 o2 : Cls} {c : Nat} (h : Chg (Of o1 c) w w1) (e : Ext w o1 o2) (k : Chg (Of o2 c) w1 w2) (hs : w.heap.size ≤ w1.heap.size) : Chg (Of o1 c) w w2 :=
  ⟨k.os.trans h.os, k.tape.trans h.tape, k.output.trans h.output, Nat.le_trans h.size k.size,
   fun i hi hn => (k.block i (Nat.lt_of_lt_of_le hi h.size) (fun hh => hn (by have := e i hi; unfold Of at *; omega))).trans (h.block i hi hn)⟩

/-- a slice reads as zs; its cells lie in blocks of class 0. -/
def Ro {α : Type} (V : α → Value) (w : World) (own : Cls) (a : Option Addr) (len : Nat) (zs : List α) : Prop :=
  zs.length = len ∧ ∀ i (h : i < zs.length), ∃ x, a = some x ∧ own x.block = 0 ∧ w.cell? (x.add i) = some (V zs[i])
section
variable {α : Type} {V : α → Value} {w w' : World} {own own' : Cls} {len : Nat} {a : Option Addr} {zs : List α}
theorem Ro.nil (V : α → Value) (w : World) (own : Cls) (a : Option Addr) : Ro V w own a 0 [] := ⟨rfl, fun i h => absurd h (Nat.not_lt_zero _)⟩
theorem Ro.rs (h : Ro V w own a len zs) : Rs V w w.heap.size a len zs :=
  ⟨h.1, fun i hi => by
    obtain ⟨x, e, hb, hc⟩ := h.2 i hi
    have h1 := lt_of_cell hc
    rw [add_block] at h1
    exact ⟨x, e, h1, hc⟩⟩
theorem Ro.keep {S : Nat → Prop} (h : Ro V w own a len zs) (g : Chg S w w') (hS : ∀ j, own j = 0 → ¬ S j) : Ro V w' own a len zs :=
  ⟨h.1, fun i hi => by
    obtain ⟨x, e, hb, hc⟩ := h.2 i hi
    have hx := add_block x i
    exact ⟨x, e, hb, by rw [g.cell (lt_of_cell hc) (fun s => hS _ hb (hx ▸ s)), hc]⟩⟩
theorem Ro.ext (h : Ro V w own a len zs) (e : Ext w own own') : Ro V w own' a len zs :=
  ⟨h.1, fun i hi => by
    obtain ⟨x, e1, hb, hc⟩ := h.2 i hi
    have h1 := lt_of_cell hc
    rw [add_block] at h1
    exact ⟨x, e1, by rw [e _ h1, hb], hc⟩⟩
theorem Ro.of_rs {w0 : World} (h : Rs V w w.heap.size a len zs) (hz : ∀ x i, a = some x → w.cell? (x.add i) ≠ none → own x.block = 0) : Ro V w own a len zs :=
  ⟨h.1, fun i hi => by
    obtain ⟨x, e, hb, hc⟩ := h.2 i hi
    exact ⟨x, e, hz x i e (by rw [hc]; simp), hc⟩⟩
theorem Ro.of_own {base e : Nat} {v : Value} {n : Nat} (h : w.ownsRow base e 1 v n (zs.map V)) (hz : ∀ k, base ≤ k → own k = 0) : ∃ a c, v = .slice a n c ∧ Ro V w own a n zs ∧ (a = none → c = 0) := by
  have hl : zs.length = n := by have := h.1; simpa using this
  rcases h.2 with ⟨rfl, rfl⟩ | ⟨g, cap, cur, rfl, hb, hg, _⟩
  · obtain rfl := List.eq_nil_of_length_eq_zero hl
    exact ⟨_, _, rfl, Ro.nil _ _ _ _, fun _ => rfl⟩
  · refine ⟨_, _, rfl, ⟨hl, fun i hi => ⟨_, rfl, hz g hb, ?_⟩⟩, fun e => by cases e⟩
    have := own_cell h i (V zs[i]) (by simp [List.getElem?_eq_getElem hi])
    rw [add_mk, Nat.zero_add]; exact this
theorem Ro.at (h : Ro V w own a len zs) {i : Nat} (hi : i < len) : ∃ x z, a = some x ∧ zs[i]? = some z ∧ w.cell? (x.add i) = some (V z) := by
  have hl := h.1
  obtain ⟨x, e, hb, hc⟩ := h.2 i (by omega)
  exact ⟨x, zs[i]'(by omega), e, by simp, hc⟩
end
/-- a value is a slice of numbers that reads as L, in blocks of class 0. -/
def RV (V : Int → Value) (w : World) (own : Cls) (v : Value) (L : List Int) : Prop :=
  ∃ A c, v = .slice A L.length c ∧ Ro V w own A L.length L ∧ (A = none → c = 0) ∧ L.length ≤ c ∧ c ≤ maxLen
/-- .. of bytes. -/
def BO (w : World) (own : Cls) (v : Value) (L : List Int) : Prop := RV V8 w own v L ∧ ∀ x ∈ L, 0 ≤ x ∧ x < 256
section
variable {V : Int → Value} {w w' : World} {own own' : Cls} {v : Value} {L : List Int}
theorem RV.nil (V : Int → Value) (w : World) (own : Cls) : RV V w own (.slice none 0 0) [] := ⟨none, 0, rfl, Ro.nil _ _ _ _, fun _ => rfl, Nat.le_refl _, Nat.zero_le _⟩
theorem RV.keep {S : Nat → Prop} (h : RV V w own v L) (g : Chg S w w') (hS : ∀ j, own j = 0 → ¬ S j) : RV V w' own v L := by
  obtain ⟨A, c, h1, h2, h3⟩ := h
  exact ⟨A, c, h1, h2.keep g hS, h3⟩
theorem RV.ext (h : RV V w own v L) (e : Ext w own own') : RV V w own' v L := by
  obtain ⟨A, c, h1, h2, h3⟩ := h
  exact ⟨A, c, h1, h2.ext e, h3⟩
theorem RV.of_own {base e : Nat} (h : w.ownsRow base e 1 v L.length (L.map V)) (hz : ∀ k, base ≤ k → own k = 0) : RV V w own v L := by
  obtain ⟨A, c, rfl, h2, h3⟩ := Ro.of_own h hz
  refine ⟨A, c, rfl, h2, h3, ?_, ?_⟩
  · rcases h.2 with ⟨e, h0⟩ | ⟨g, cap, cur, e, _, _, hc, hm, _⟩
    · have := h.1; rw [h0] at this; simp at this; rw [this]; exact Nat.zero_le _
    · cases e; exact hc
  · rcases h.2 with ⟨e, h0⟩ | ⟨g, cap, cur, e, _, _, hc, hm, _⟩
    · simp at e; rw [e.2.2]; exact Nat.zero_le _
    · cases e; exact hm
theorem BO.nil (w : World) (own : Cls) : BO w own (.slice none 0 0) [] := ⟨RV.nil _ _ _, fun x hx => by cases hx⟩
theorem BO.keep {S : Nat → Prop} (h : BO w own v L) (g : Chg S w w') (hS : ∀ j, own j = 0 → ¬ S j) : BO w' own v L := ⟨h.1.keep g hS, h.2⟩
theorem BO.ext (h : BO w own v L) (e : Ext w own own') : BO w own' v L := ⟨h.1.ext e, h.2⟩
theorem BO.bs (h : BO w own v L) : BS w w.heap.size v L := by
  obtain ⟨⟨A, c, h1, h2, h3, h4, h5⟩, h6⟩ := h
  exact ⟨A, c, h1, h2.rs, h3, h4, h5, h6⟩
theorem BO.of_own {base : Nat} (h : w.ownsRow base 5 1 v L.length (L.map V8)) (hb : ∀ x ∈ L, 0 ≤ x ∧ x < 256) (hz : ∀ k, base ≤ k → own k = 0) : BO w own v L := ⟨RV.of_own h hz, hb⟩
end
end Go.Proofs.YtnpihllannobgaaGreatDoor
namespace Go.Proofs.YtnpihllannobgaaGreatDoor
set_option linter.unusedVariables false
set_option linter.unusedSimpArgs false
open Go.ChangeShapes Go.WideShapes Go.ChangeAt Go.RowKit

/-- what is left to read, and what failed. -/
structure RS where
  l : List Int
  e : Int
def num (l : List Int) : Int := l.foldl (fun a x => a * 256 + x) 0
def rTake (s : RS) (m : Nat) : Int := if s.e = 0 ∧ m ≤ s.l.length then num (s.l.take m) else 0
def rTakeS (s : RS) (m : Nat) : RS := if s.e = 0 then (if m ≤ s.l.length then ⟨s.l.drop m, 0⟩ else ⟨[], 2⟩) else s
def rText (s : RS) (n : Int) : List Int := if s.e = 0 ∧ n ≤ s.l.length then s.l.take n.toNat else []
def rTextS (s : RS) (n : Int) : RS := if n ≤ 0 then s else if s.e = 0 then (if n ≤ s.l.length then ⟨s.l.drop n.toNat, 0⟩ else ⟨[], 2⟩) else s
def rEnd (s : RS) : Int := if s.e = 0 then (if s.l = [] then 0 else 3) else s.e
def Rx (w : World) (r : Nat) (s : RS) : Prop :=
  ∃ (a : Option Addr) (c : Nat) (L : List Int) (k : Nat), Rd w r a c L (8 * k : Nat) s.e ∧ L.length ≤ 100000 ∧ (∀ x ∈ L, 0 ≤ x ∧ x < 256) ∧ k ≤ L.length ∧ s.l = L.drop k ∧ (s.e = 0 ∨ s.e = 2) ∧ (s.e ≠ 0 → s.l = [])
def PRx (w : World) (r : Nat) (s : RS) (v : Value) (en : Ending) (w' : World) : Prop := en = .returned v ∧ Rx w' r s ∧ Chg (· = r) w w'
theorem Rx.keep {S : Nat → Prop} {w w' : World} {r : Nat} {s : RS} (h : Rx w r s) (g : Chg S w w') (hS : ∀ j, j ≤ r → ¬ S j) : Rx w' r s := by
  obtain ⟨a, c, L, k, h1, h2⟩ := h
  exact ⟨a, c, L, k, h1.keep g hS, h2⟩
theorem Rx.kept {w w' : World} {r : Nat} {s : RS} (h : Rx w r s) (g : Chg (fun _ => False) w w') : Rx w' r s := h.keep g (fun _ _ e => e)
theorem Rx.fresh {w0 w w' : World} {r : Nat} {s : RS} (h : Rx w r s) (g : Chg (fun k => w.heap.size ≤ k) w w') : Rx w' r s := h.kept g.fresh
theorem Rx.lt {w : World} {r : Nat} {s : RS} (h : Rx w r s) : r < w.heap.size := by
  obtain ⟨a, c, L, k, h1, _⟩ := h
  exact lt_of_block h1.blk
theorem Rx.len {w : World} {r : Nat} {s : RS} (h : Rx w r s) : s.l.length ≤ 100000 := by
  obtain ⟨a, c, L, k, h1, h2, h3, h4, h5, _⟩ := h
  rw [h5]; simp; omega
theorem Rx.err {w : World} {r : Nat} {s : RS} (h : Rx w r s) : s.e = 0 ∨ s.e = 2 := by
  obtain ⟨a, c, L, k, h1, h2, h3, h4, h5, h6, _⟩ := h
  exact h6
theorem Rx.bytes {w : World} {r : Nat} {s : RS} (h : Rx w r s) : ∀ x ∈ s.l, 0 ≤ x ∧ x < 256 := by
  obtain ⟨a, c, L, k, h1, h2, h3, h4, h5, h6, _⟩ := h
  rw [h5]; intro x hx; exact h3 x (List.mem_of_mem_drop hx)
theorem num_snoc (l : List Int) (x : Int) : num (l ++ [x]) = num l * 256 + x := by unfold num; simp
theorem take_num (L : List Int) (k m : Nat) (hb : ∀ x ∈ L, 0 ≤ x ∧ x < 256) (hm : k + m ≤ L.length) : take L k m = num ((L.drop k).take m) := by
  induction m with
  | zero => rfl
  | succ m ih =>
    obtain ⟨x, hx⟩ : ∃ x, L[k + m]? = some x := ⟨_, List.getElem?_eq_getElem (by omega)⟩
    obtain ⟨x0, x1⟩ := hb x (List.mem_of_getElem? hx)
    rw [bv_byte L k m x hx x0 x1, ih (by omega), List.take_add_one, List.getElem?_drop, hx]
    exact (num_snoc _ _).symm
theorem foldl_bd (l : List Int) (a : Int) (h0 : 0 ≤ a) (hb : ∀ x ∈ l, 0 ≤ x ∧ x < 256) : 0 ≤ l.foldl (fun a x => a * 256 + x) a ∧ l.foldl (fun a x => a * 256 + x) a < (a + 1) * 256 ^ l.length := by
  induction l generalizing a with
  | nil => simp; omega
  | cons x l ih =>
    have h2 := hb x (by simp)
    obtain ⟨h3, h4⟩ := ih (a * 256 + x) (by omega) (fun y hy => hb y (by simp [hy]))
    refine ⟨h3, Int.lt_of_lt_of_le h4 ?_⟩
    rw [List.length_cons, Int.pow_succ, Int.mul_comm (256 ^ l.length) 256, ← Int.mul_assoc]
    exact Int.mul_le_mul_of_nonneg_right (by omega) (Int.le_of_lt (Int.pow_pos (by omega)))
theorem num_bd (l : List Int) (hb : ∀ x ∈ l, 0 ≤ x ∧ x < 256) : 0 ≤ num l ∧ num l < 256 ^ l.length := by
  have h := foldl_bd l 0 (Int.le_refl _) hb
  simpa [num] using h
theorem rTake_bd {w : World} {r : Nat} {s : RS} (h : Rx w r s) (m : Nat) : 0 ≤ rTake s m ∧ rTake s m < 256 ^ m := by
  unfold rTake
  split
  · rename_i h1
    have h2 := num_bd (s.l.take m) (fun x hx => h.bytes x (List.mem_of_mem_take hx))
    rw [List.length_take, Nat.min_eq_left h1.2] at h2
    exact h2
  · exact ⟨Int.le_refl _, Int.pow_pos (by omega)⟩
theorem rx_take (w : World) (r : Nat) (s : RS) (m : Nat) (h : Rx w r s) (hm : m ≤ 8) :
    Calls Tryz.prog 162 #[.pointer (some ⟨r, 0, none⟩), .int .i64 (8 * m : Nat)] w (PRx w r (rTakeS s m) (.int .u64 (rTake s m))) := by
  obtain ⟨a, c, L, k, h1, h2, h3, h4, h5, h6, h7⟩ := h
  rcases h6 with h6 | h6
  · have hl : s.l.length = L.length - k := by rw [h5]; simp
    rw [h6] at h1
    by_cases hlt : m ≤ s.l.length
    · refine (take_ok w r a c L k m h1 h3 h2 hm (by omega)).mono ?_
      rintro e w1 ⟨rfl, R, G⟩
      refine ⟨?_, ⟨a, c, L, k + m, ?_, h2, h3, by omega, ?_, ?_, ?_⟩, G⟩
      · unfold rTake; rw [if_pos ⟨h6, hlt⟩, h5, take_num L k m h3 (by omega)]
      · unfold rTakeS; rw [if_pos h6, if_pos hlt]; exact R
      · unfold rTakeS; rw [if_pos h6, if_pos hlt, h5]; simp
      · unfold rTakeS; rw [if_pos h6, if_pos hlt]; exact .inl rfl
      · unfold rTakeS; rw [if_pos h6, if_pos hlt]; intro h; exact absurd rfl h
    · refine (take_short w r a c L k m h1 h2 hm h4 (by omega)).mono ?_
      rintro e w1 ⟨rfl, R, G⟩
      refine ⟨?_, ⟨none, 0, [], 0, ?_, by simp, (fun x hx => by cases hx), Nat.le_refl _, ?_, ?_, ?_⟩, G⟩
      · unfold rTake; rw [if_neg (by omega)]
      · unfold rTakeS; rw [if_pos h6, if_neg hlt]; exact R
      · unfold rTakeS; rw [if_pos h6, if_neg hlt]; rfl
      · unfold rTakeS; rw [if_pos h6, if_neg hlt]; exact .inr rfl
      · unfold rTakeS; rw [if_pos h6, if_neg hlt]; intro; rfl
  · have he : ¬ s.e = 0 := by omega
    refine (take_bad w r a c L (8 * k : Nat) s.e m h1 (by simpa using he) hm).mono ?_
    rintro e w1 ⟨rfl, R, G⟩
    have e1 : rTakeS s m = s := by unfold rTakeS; rw [if_neg he]
    refine ⟨?_, ?_, G⟩
    · unfold rTake; rw [if_neg (fun h => he h.1)]
    · rw [e1]; exact ⟨a, c, L, k, R, h2, h3, h4, h5, .inr h6, h7⟩
def PTx (w : World) (r : Nat) (s : RS) (zs : List Int) (en : Ending) (w' : World) : Prop :=
  ∃ v, en = .returned v ∧ w'.ownsRow w.heap.size 5 1 v zs.length (zs.map V8) ∧ Rx w' r s ∧ Chg (· = r) w w' ∧ (∀ x ∈ zs, 0 ≤ x ∧ x < 256) ∧ zs.length ≤ 100000
theorem rx_text (w : World) (r : Nat) (s : RS) (n : Int) (h : Rx w r s) (hn : n ≤ 100000) :
    Calls Tryz.prog 113 #[.pointer (some ⟨r, 0, none⟩), .int .i64 n] w (PTx w r (rTextS s n) (rText s n)) := by
  have hbb := h.bytes
  have hlen := h.len
  obtain ⟨a, c, L, k, h1, h2, h3, h4, h5, h6, h7⟩ := h
  by_cases hn0 : n ≤ 0
  · refine (rtext_zero w r a c L (8 * k : Nat) s.e n h1 hn0).mono ?_
    rintro e w1 ⟨v, rfl, O, R, G⟩
    have e1 : rText s n = [] := by
      unfold rText; split
      · rw [show n.toNat = 0 from by omega]; rfl
      · rfl
    have e2 : rTextS s n = s := by unfold rTextS; rw [if_pos hn0]
    rw [e1, e2]
    exact ⟨v, rfl, O, ⟨a, c, L, k, R, h2, h3, h4, h5, h6, h7⟩, G, (fun x hx => by cases hx), by simp⟩
  rcases h6 with h6 | h6
  · have hl : s.l.length = L.length - k := by rw [h5]; simp
    rw [h6] at h1
    by_cases hlt : n ≤ s.l.length
    · obtain ⟨N, rfl⟩ : ∃ N : Nat, n = N := ⟨n.toNat, by omega⟩
      refine (rtext_ok w r a c L k N h1 h3 (by omega) h2 (by omega)).mono ?_
      rintro e w1 ⟨v, rfl, O, R, G⟩
      have e1 : rText s N = (L.drop k).take N := by unfold rText; rw [if_pos ⟨h6, hlt⟩, h5]; rfl
      have e2 : rTextS s N = ⟨L.drop (k + N), 0⟩ := by unfold rTextS; rw [if_neg hn0, if_pos h6, if_pos hlt, h5]; simp
      rw [e1, e2]
      refine ⟨v, rfl, O, ⟨a, c, L, k + N, R, h2, h3, by omega, rfl, .inl rfl, fun h => absurd rfl h⟩, G, (fun x hx => h3 x (List.mem_of_mem_drop (List.mem_of_mem_take hx))), by simp; omega⟩
    · refine (rtext_short w r a c L k n h1 (by omega) hn h2 h4 (by omega)).mono ?_
      rintro e w1 ⟨v, rfl, O, R, G⟩
      have e1 : rText s n = [] := by unfold rText; rw [if_neg (fun h => hlt h.2)]
      have e2 : rTextS s n = ⟨[], 2⟩ := by unfold rTextS; rw [if_neg hn0, if_pos h6, if_neg hlt]
      rw [e1, e2]
      exact ⟨v, rfl, O, ⟨none, 0, [], 0, R, by simp, (fun x hx => by cases hx), Nat.le_refl _, rfl, .inr rfl, fun _ => rfl⟩, G, (fun x hx => by cases hx), by simp⟩
  · have he : ¬ s.e = 0 := by omega
    refine (rtext_bad w r a c L (8 * k : Nat) s.e n h1 (by simpa using he) (by omega) hn h2).mono ?_
    rintro e w1 ⟨v, rfl, O, R, G⟩
    have e1 : rText s n = [] := by unfold rText; rw [if_neg (fun h => he h.1)]
    have e2 : rTextS s n = s := by unfold rTextS; rw [if_neg hn0, if_neg he]
    rw [e1, e2]
    exact ⟨v, rfl, O, ⟨a, c, L, k, R, h2, h3, h4, h5, .inr h6, h7⟩, G, (fun x hx => by cases hx), by simp⟩
theorem rx_end (w : World) (r : Nat) (s : RS) (h : Rx w r s) :
    Calls Tryz.prog 114 #[.pointer (some ⟨r, 0, none⟩)] w (PRx w r s (.int .i64 (rEnd s))) := by
  have H := h
  obtain ⟨a, c, L, k, h1, h2, h3, h4, h5, h6, h7⟩ := h
  rcases h6 with h6 | h6
  · rw [h6] at h1
    by_cases hk : k < L.length
    · refine (end_more w r a c L k h1 h2 hk).mono ?_
      rintro e w1 ⟨rfl, rfl⟩
      refine ⟨?_, H.kept (Chg.drew _ _), Chg.drew _ _⟩
      unfold rEnd; rw [if_pos h6, if_neg]
      intro hh; rw [h5] at hh
      have := congrArg List.length hh
      simp at this; omega
    · obtain rfl : k = L.length := by omega
      refine (end_ok w r a c L h1 h2).mono ?_
      rintro e w1 ⟨rfl, rfl⟩
      refine ⟨?_, H.kept (Chg.drew _ _), Chg.drew _ _⟩
      unfold rEnd; rw [if_pos h6, if_pos]
      rw [h5]; simp
  · have he : ¬ s.e = 0 := by omega
    refine (end_bad w r a c L (8 * k : Nat) s.e h1 (by simpa using he)).mono ?_
    rintro e w1 ⟨rfl, rfl⟩
    refine ⟨?_, H, Chg.refl _ _⟩
    unfold rEnd; rw [if_neg he]
def PNewRx (w : World) (L : List Int) (en : Ending) (w' : World) : Prop :=
  ∃ r, en = .returned (.pointer (some ⟨r, 0, none⟩)) ∧ Rx w' r ⟨L, 0⟩ ∧ w.heap.size ≤ r ∧ Chg (fun _ => False) w w'
theorem rx_new (w : World) (v : Value) (L : List Int) (h : BS w w.heap.size v L) (hL : L.length ≤ 100000) :
    Calls Tryz.prog 111 #[v] w (PNewRx w L) := by
  obtain ⟨A, c, rfl, hr, hA, _, _, hb⟩ := h
  refine (newrd_any w A L.length c L hr hA hL).mono ?_
  rintro e w1 ⟨r, a, c, rfl, R, hr, G⟩
  exact ⟨r, rfl, ⟨a, c, L, 0, R, hL, hb, Nat.zero_le _, rfl, .inl rfl, fun h => absurd rfl h⟩, hr, G⟩
end Go.Proofs.YtnpihllannobgaaGreatDoor
namespace Go.Proofs.YtnpihllannobgaaGreatDoor
set_option linter.unusedVariables false
set_option linter.unusedSimpArgs false

/-- an element of a frame. -/
structure El where
  kind : Int
  asn : Int
  rank : Int
  ticks : Int
  list : List Int
  deriving DecidableEq
structure Fr where
  kind : Int
  src : Int
  dst : Int
  seq : Int
  ies : List El
  data : List Int
  deriving DecidableEq
/-- a packet. -/
structure Pk where
  src : Int
  dst : Int
  n : Int
  life : Int
  path : List Int
  data : List Int
  deriving DecidableEq
/-- an event. -/
structure Ev where
  kind : Int
  i : Int
  src : Int
  code : Int
  p : Pk
  deriving DecidableEq
def el0 : El := ⟨0, 0, 0, 0, []⟩
def fr0 : Fr := ⟨0, 0, 0, 0, [], []⟩
def pk0 : Pk := ⟨0, 0, 0, 0, [], []⟩
def inR (n a b : Int) : Bool := decide (a ≤ n) && decide (n ≤ b)

/- elements -/
def ofE (k : Int) : Bool := inR k 1 4
/-- an element, as its kind keeps it. -/
def plainE (e : El) : El :=
  if e.kind = 1 then ⟨1, e.asn, e.rank, 0, []⟩ else if e.kind = 2 then ⟨2, 0, 0, e.ticks, []⟩ else ⟨e.kind, 0, 0, 0, e.list⟩
def insideE (e : El) : Bool :=
  if e.kind = 1 then inR e.asn 0 1099511627775 && inR e.rank 0 255 else if e.kind = 2 then inR e.ticks (-32768) 32767
  else decide (e.list.length ≤ 16) && e.list.all (fun n => inR n 0 255)
def mayE (e : El) : Bool := ofE e.kind && (insideE e && decide (e = plainE e))
def bodyE (e : El) : List Int :=
  if e.kind = 1 then 6 :: (be 5 e.asn ++ be 1 e.rank) else if e.kind = 2 then 2 :: be 2 (IntKind.u64.wrap e.ticks) else (e.list.length : Int) :: e.list
def encE (e : El) : List Int := e.kind :: bodyE e
def encI (l : List El) : List Int := (l.length : Int) :: l.flatMap encE
def findE (l : List El) (k : Int) : Option El := l.find? (fun e => e.kind == k)

def shortR (s : RS) : Bool := rEnd s == 2
def rightE (k n : Int) : Bool := if k = 1 then n == 6 else if k = 2 then n == 2 else decide (n ≤ 16)
def i16 (x : Int) : Int := if x < 32768 then x else x - 65536
def takeE (s : RS) (k n : Int) : El :=
  if k = 1 then ⟨1, rTake s 5, rTake (rTakeS s 5) 1, 0, []⟩ else if k = 2 then ⟨2, 0, 0, i16 (rTake s 2), []⟩ else ⟨k, 0, 0, 0, rText s n⟩
def takeES (s : RS) (k n : Int) : RS :=
  if k = 1 then rTakeS (rTakeS s 5) 1 else if k = 2 then rTakeS s 2 else rTextS s n
/-- what the reading of one element comes to: an error, the element, what is left. -/
def oneE (s : RS) : Int × El × RS :=
  let k := rTake s 1
  let s1 := rTakeS s 1
  if shortR s1 then (2, el0, s1) else if !ofE k then (3, el0, s1) else
  let n := rTake s1 1
  let s2 := rTakeS s1 1
  if shortR s2 then (2, el0, s2) else if !rightE k n then (3, el0, s2) else
  let s3 := takeES s2 k n
  if shortR s3 then (2, el0, s3) else (0, takeE s2 k n, s3)
/-- so many elements more, behind those of acc. -/
def loopE : Nat → List El → RS → Int × List El × RS
  | 0, acc, s => (0, acc, s)
  | n + 1, acc, s => match oneE s with
    | (g, e, s') => if g = 0 then loopE n (acc ++ [e]) s' else (g, [], s')
def decI (L : List Int) : Int × List El :=
  let s : RS := ⟨L, 0⟩
  let n := rTake s 1
  let s1 := rTakeS s 1
  if shortR s1 then (2, []) else if 4 < n then (3, []) else
  match loopE n.toNat [] s1 with
  | (g, es, s2) => if g ≠ 0 then (g, []) else if rEnd s2 ≠ 0 then (rEnd s2, []) else (0, es)

/- frames -/
def nodeB (n : Int) : Bool := inR n 0 15
def saysF (f : Fr) : Bool :=
  let one := f.dst != 64
  if f.kind = 2 ∨ f.kind = 4 then one && decide (f.data = []) else if f.kind = 3 then !one && decide (f.data = []) && (findE f.ies 1).isSome
  else if f.kind = 1 ∨ f.kind = 5 then one && !decide (f.data = []) else false
def mayF (f : Fr) : Bool :=
  nodeB f.src && (nodeB f.dst || f.dst == 64) && f.dst != f.src && inR f.seq 0 255 && decide (f.ies.length ≤ 4) && f.ies.all mayE && decide (f.data.length ≤ 64) && saysF f
def headF (f : Fr) : List Int := be 1 197 ++ be 1 f.kind ++ be 1 f.src ++ be 1 f.dst ++ be 1 f.seq
def bodyF (f : Fr) : List Int := headF f ++ be 1 (encI f.ies).length ++ encI f.ies ++ be 1 f.data.length ++ f.data
def encF (f : Fr) : List Int := bodyF f ++ crcTail (bodyF f)
/-- a frame, and what the reader comes to behind it. -/
def readF (s : RS) : Int × Fr × List Int × RS :=
  let s1 := rTakeS s 1
  let s2 := rTakeS s1 1
  let s3 := rTakeS s2 1
  let s4 := rTakeS s3 1
  let s5 := rTakeS s4 1
  let s6 := rTakeS s5 1
  let s7 := rTextS s6 (rTake s5 1)
  let s8 := rTakeS s7 1
  (rTake s 1, ⟨rTake s1 1, rTake s2 1, rTake s3 1, rTake s4 1, [], rText s8 (rTake s7 1)⟩, rText s6 (rTake s5 1), rTextS s8 (rTake s7 1))
def decF (L : List Int) : Int × Fr :=
  if L.length < 9 then (2, fr0) else if !crcGood L then (4, fr0) else
  match readF ⟨L.take (L.length - 2), 0⟩ with
  | (first, f, els, s) => if first ≠ 197 ∨ rEnd s ≠ 0 then (3, fr0) else
    match decI els with
    | (e, ies) => if e ≠ 0 then (e, fr0) else if mayF { f with ies := ies } then (0, { f with ies := ies }) else (3, fr0)

/- packets -/
def pathOk (l : List Int) : Bool := l.all nodeB && decide l.Nodup && decide (l.length ≤ 16)
def mayP (p : Pk) : Bool :=
  nodeB p.src && nodeB p.dst && p.src != p.dst && inR p.n 0 70368744177663 && inR p.life 0 15 && pathOk p.path && inR p.data.length 1 24
def encP (p : Pk) : List Int :=
  be 1 p.src ++ be 1 p.dst ++ be 6 p.n ++ be 1 p.life ++ be 1 p.path.length ++ p.path ++ be 1 p.data.length ++ p.data
end Go.Proofs.YtnpihllannobgaaGreatDoor
