/- Maps whose keys are pairs of ints: look-ups, the first store. No condition. -/
import Derived.Test.YtciekkenheiedaaL
import Derived.WideKeyArr
import Derived.WideKeyEntry
import Derived.WideKeyPair
namespace Go.Proofs.Ytciekkenheiedaa
set_option linter.unusedVariables false
set_option linter.unusedSimpArgs false
open Go.ChangeShapes Go.WideShapes Go.ChangeAt Go.RowKit
open Go.MapKept Go.ChangeMaps

def pk (x : Int × Int) : Value := .agg #[.int .i64 x.1, .int .i64 x.2]
theorem arr30 : Go.WideMaps.ArrKey Try.prog 30 3 2 := ⟨by kernel_rfl, by kernel_rfl, by kernel_rfl, by kernel_rfl⟩
theorem klaw : Go.WideMaps.KeyLaw Try.prog 30 := arr30.law
def PW (p : Int × Int) : Prop := (Lit.int .i64 p.1).wf = true ∧ (Lit.int .i64 p.2).wf = true
theorem types_some : ∃ m, Try.prog.types.size = m + 1 := ⟨Try.prog.types.size - 1, by kernel_rfl⟩
theorem pk_key {x : Int × Int} (h : PW x) : ∃ l, keyOf Try.prog 30 (pk x) = some l := ⟨_, Go.WideMaps.keyOf_pair arr30 ty3 types_some h.1 h.2⟩
theorem pk_inj {a b : Int × Int} (h : pk a = pk b) : a = b := by
  obtain ⟨a1, a2⟩ := a; obtain ⟨b1, b2⟩ := b
  unfold pk at h; simp at h; rw [h.1, h.2]
theorem ty25 : Try.prog.underlying 25 = some (.map 30 3) := by kernel_rfl
theorem zero3 (w : World) : (zeroValue 3).run Try.prog w = .ok (.int .i64 0) w := by kernel_rfl

/-- block m is a map from pairs, of at most c entries: each holds 1, and stands for a pair of S. -/
def Sn (w : World) (m c : Nat) (S : Int × Int → Prop) : Prop :=
  ∃ es clock, w.heap[m]? = some (.map es clock) ∧ Stamped es clock ∧ es.size ≤ c ∧ (∀ x ∈ es.toList, ∃ p, x.key = pk p ∧ x.val = .int .i64 1 ∧ S p ∧ PW p) ∧ ∀ p, S p → ∃ x ∈ es.toList, x.key = pk p
theorem Sn.lt {w : World} {m c : Nat} {S : Int × Int → Prop} (h : Sn w m c S) : m < w.heap.size := by obtain ⟨es, cl, hb, _⟩ := h; exact lt_of_block hb
theorem Sn.keep {w w' : World} {m c : Nat} {S : Int × Int → Prop} {T : Nat → Prop} (h : Sn w m c S) (g : Chg T w w') (hm : ¬ T m) : Sn w' m c S := by
  obtain ⟨es, cl, hb, r⟩ := h; exact ⟨es, cl, Chg.keep g hb hm, r⟩
theorem Sn.made (w : World) : Sn (w.alloc (.map #[] 0)) w.heap.size 0 (fun _ => False) := ⟨#[], 0, block_alloc _ _, stamped_empty 0, by simp, by simp, fun p h => h.elim⟩
theorem Sn.more {w : World} {m c d : Nat} {S : Int × Int → Prop} (h : Sn w m c S) (hc : c ≤ d) : Sn w m d S := by
  obtain ⟨es, cl, hb, h1, h2, r⟩ := h; exact ⟨es, cl, hb, h1, by omega, r⟩

theorem Sn.keys {es : Array MapEntry} {S : Int × Int → Prop} (h : ∀ x ∈ es.toList, ∃ p, x.key = pk p ∧ x.val = .int .i64 1 ∧ S p ∧ PW p) : ∀ x ∈ es.toList, ∃ l, keyOf Try.prog 30 x.key = some l := fun x hx => by
  obtain ⟨p, hp, _, _, hw⟩ := h x hx
  rw [hp]; exact pk_key hw

/-- the number at a pair. -/
theorem Sn.look {w : World} {m c : Nat} {S : Int × Int → Prop} (h : Sn w m c S) (p : Int × Int) (hw : PW p) :
    ∃ v, (Instr.lookup 25 (.map (some m)) (pk p) false).run Try.prog w = .ok (.int .i64 v) w ∧ (¬ S p → v = 0) ∧ 0 ≤ v ∧ v ≤ 1 := by
  obtain ⟨es, clock, hb, hs, hc, he, hS⟩ := h
  obtain ⟨l, hl⟩ := pk_key hw
  rcases klaw.find w hl es.toList (Sn.keys he) with ⟨h1, h2⟩ | ⟨j, e0, h1, h2, h3⟩
  · exact ⟨0, by simp [Instr.lookup, run_underlying ty25, MapKept.run_getObj_map hb, klaw.check w _ hl, h1, zero3, Result.andThen], fun _ => rfl, by omega, by omega⟩
  · obtain ⟨q, q1, q2, q3, _⟩ := he e0 (List.mem_of_getElem? h2)
    refine ⟨1, by simp [Instr.lookup, run_underlying ty25, MapKept.run_getObj_map hb, klaw.check w _ hl, h1, q2, Result.andThen], fun hn => ?_, by omega, by omega⟩
    rw [pk_inj (q1.symm.trans h3)] at q3
    exact absurd q3 hn

/-- the first store at a pair: the entry, then its value. -/
theorem Sn.first {w : World} {m c : Nat} {S : Int × Int → Prop} (h : Sn w m c S) (p : Int × Int) (hw : PW p) (hp : ¬ S p) (hc : c ≤ 1000) :
    ∃ st w1 w2, (Instr.mapEntry 25 (.map (some m)) (pk p)).run Try.prog w = .ok (.tuple #[.int .i64 0, goInt st]) w1 ∧
      (Instr.lookup 25 (.map (some m)) (pk p) false).run Try.prog w1 = .ok (.int .i64 0) w1 ∧
      (Instr.entryStore 25 (.map (some m)) (goInt st) (.int .i64 1)).run Try.prog w1 = .ok () w2 ∧ Sn w2 m (c + 1) (fun q => S q ∨ q = p) ∧ Chg (· = m) w w2 := by
  obtain ⟨es, clock, hb, hs, hcc, he, hS⟩ := h
  obtain ⟨l, hl⟩ := pk_key hw
  have F : Go.WideElems.Fit Try.prog 30 (fun _ => some ((.nil : DataW Unit), [])) es clock :=
    ⟨by unfold maxLen; omega, hs, fun x hx => by obtain ⟨k, hk⟩ := Sn.keys he x hx; exact ⟨_, Go.WideElems.rd_mk (born := x.born) hk rfl⟩⟩
  obtain ⟨v0, st, es1, clock1, h1, h2, h3⟩ := Go.WideElems.entry_then_store klaw ty25 zero3 hb F hl
  have hno : ∀ x ∈ es.toList, x.key ≠ pk p := fun x hx e => by
    obtain ⟨q, q1, q2, q3, _⟩ := he x hx
    rw [pk_inj (q1.symm.trans e)] at q3
    exact hp q3
  rcases h2 with ⟨e0, he0, hk0, _⟩ | ⟨_, rfl⟩
  · exact absurd hk0 (hno e0 he0)
  · have hb1 : (setBlock w m (.map es1 clock1)).heap[m]? = some (.map es1 clock1) := (heap_set hb).1
    obtain ⟨es', clock', h4, h5⟩ := h3 _ (.int .i64 1) hb1
    have hu : (Instr.mapUpdate 25 (.map (some m)) (pk p) (.int .i64 1)).run Try.prog w = .ok () { w with heap := w.heap.setIfInBounds m (.map (es.push { key := pk p, val := .int .i64 1, born := clock }) (clock + 1)) } := by
      rcases klaw.find w hl es.toList (Sn.keys he) with ⟨g1, g2⟩ | ⟨j, e0, g1, g2, g3⟩
      · simp [Instr.mapUpdate, run_underlying ty25, MapKept.run_getObj_map hb, klaw.check w _ hl, g1, MapKept.run_setObj_map _ hb, Result.andThen]
      · exact absurd g3 (hno e0 (List.mem_of_getElem? g2))
    have hme : (Instr.mapEntry 25 (.map (some m)) (pk p)).run Try.prog w = .ok (.tuple #[.int .i64 0, goInt clock]) { w with heap := w.heap.setIfInBounds m (.map (es.push { key := pk p, val := .int .i64 0, born := clock }) (clock + 1)) } := by
      rcases klaw.find w hl es.toList (Sn.keys he) with ⟨g1, g2⟩ | ⟨j, e0, g1, g2, g3⟩
      · simp [Instr.mapEntry, run_underlying ty25, MapKept.run_getObj_map hb, klaw.check w _ hl, g1, zero3, MapKept.run_setObj_map _ hb, Result.andThen]
      · exact absurd g3 (hno e0 (List.mem_of_getElem? g2))
    have hlk : (Instr.lookup 25 (.map (some m)) (pk p) false).run Try.prog (setBlock w m (.map es1 clock1)) = .ok (.int .i64 0) (setBlock w m (.map es1 clock1)) := by
      have e1 := hme.symm.trans h1
      have e2 : ({ w with heap := w.heap.setIfInBounds m (.map (es.push { key := pk p, val := .int .i64 0, born := clock }) (clock + 1)) } : World) = setBlock w m (.map es1 clock1) := by
        injection e1
      rw [← e2]
      have hbx : ({ w with heap := w.heap.setIfInBounds m (.map (es.push { key := pk p, val := .int .i64 0, born := clock }) (clock + 1)) } : World).heap[m]? = some (.map (es.push { key := pk p, val := .int .i64 0, born := clock }) (clock + 1)) := (heap_set hb).1
      generalize ({ w with heap := w.heap.setIfInBounds m (.map (es.push { key := pk p, val := .int .i64 0, born := clock }) (clock + 1)) } : World) = wx at hbx
      have hks : ∀ x ∈ (es.push { key := pk p, val := .int .i64 0, born := clock }).toList, ∃ l, keyOf Try.prog 30 x.key = some l := by
        intro x hx
        simp only [Array.toList_push, List.mem_append, List.mem_singleton] at hx
        rcases hx with hx | rfl
        · exact Sn.keys he x hx
        · exact ⟨l, hl⟩
      rcases klaw.find wx hl _ hks with ⟨g1, g2⟩ | ⟨j, e0, g1, g2, g3⟩
      · exact absurd rfl (g2 { key := pk p, val := .int .i64 0, born := clock } (by simp))
      · have hv : e0.val = .int .i64 0 := by
          have hx := List.mem_of_getElem? g2
          simp only [Array.toList_push, List.mem_append, List.mem_singleton] at hx
          rcases hx with hx | rfl
          · exact absurd g3 (hno e0 hx)
          · rfl
        rw [Array.toList_push] at g1
        simp [Instr.lookup, run_underlying ty25, MapKept.run_getObj_map hbx, klaw.check wx _ hl, g1, hv, Result.andThen]
    rw [hu] at h5
    have h6 : ({ w with heap := w.heap.setIfInBounds m (.map (es.push { key := pk p, val := .int .i64 1, born := clock }) (clock + 1)) } : World) = setBlock w m (.map es' clock') := by
      injection h5
    have h7 : (setBlock w m (.map es' clock')).heap[m]? = some (.map es' clock') := (heap_set hb).1
    rw [← h6] at h7
    have h8 := (heap_set (o' := .map (es.push { key := pk p, val := .int .i64 1, born := clock }) (clock + 1)) hb).1
    rw [h8] at h7
    injection h7 with h7
    injection h7 with h7 h9
    subst h7 h9
    refine ⟨st, _, _, h1, hlk, h4, ⟨_, _, (heap_set hb1).1, stamped_push hs hno, ?_, ?_, ?_⟩, (chg_block hb).trans (chg_block hb1)⟩
    · simp; omega
    · intro x hx
      simp only [Array.toList_push, List.mem_append, List.mem_singleton] at hx
      rcases hx with hx | rfl
      · obtain ⟨q, q1, q2, q3, q4⟩ := he x hx; exact ⟨q, q1, q2, .inl q3, q4⟩
      · exact ⟨p, rfl, rfl, .inr rfl, hw⟩
    · intro q hq
      simp only [Array.toList_push, List.mem_append, List.mem_singleton]
      rcases hq with hq | rfl
      · obtain ⟨x, hx, hk⟩ := hS q hq; exact ⟨x, .inl hx, hk⟩
      · exact ⟨_, .inr rfl, rfl⟩
end Go.Proofs.Ytciekkenheiedaa
