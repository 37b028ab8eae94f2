/- Small laws on worlds: 'Chg S w w'': the world w' is w but for the blocks of S, and for new blocks; what slices that came in hold. No condition. -/
import Derived.Test.YtciekkenheiedaaRows
import Derived.WalkKit
import Derived.ProofKit
import Derived.OpenShut
import Derived.Outline
import Derived.BigQuiet
import Derived.Deep.QuietTactic
import Derived.Lib.Hide
import Derived.ShutString
import Derived.ChangeOld
import Derived.Below
import Derived.Deep.Slices
import Derived.Deep.Fields
import Derived.ChangeSame
namespace Go.Proofs.Ytciekkenheiedaa
set_option linter.unusedVariables false
open Go.ChangeShapes Go.WideShapes Go.ChangeAt Go.RowKit

structure Chg (S : Nat → Prop) (w w' : World) : Prop where
  os : w'.os = w.os
  tape : w'.tape = w.tape
  output : w'.output = w.output
  size : w.heap.size ≤ w'.heap.size
  block : ∀ k, k < w.heap.size → ¬ S k → w'.heap[k]? = w.heap[k]?

theorem Chg.refl (S : Nat → Prop) (w : World) : Chg S w w := ⟨rfl, rfl, rfl, Nat.le_refl _, fun _ _ _ => rfl⟩

theorem Chg.trans {S : Nat → Prop} {a b c : World} (h : Chg S a b) (k : Chg S b c) : Chg S a c :=
  ⟨k.os.trans h.os, k.tape.trans h.tape, k.output.trans h.output, Nat.le_trans h.size k.size,
   fun i hi hn => (k.block i (Nat.lt_of_lt_of_le hi h.size) hn).trans (h.block i hi hn)⟩

theorem Chg.mono {S T : Nat → Prop} {w w' : World} (h : Chg S w w') (hs : ∀ k, k < w.heap.size → S k → T k) : Chg T w w' :=
  ⟨h.os, h.tape, h.output, h.size, fun k hk hn => h.block k hk (fun hh => hn (hs k hk hh))⟩

theorem Chg.alloc (S : Nat → Prop) (w : World) (o : Obj) : Chg S w (w.alloc o) :=
  ⟨rfl, rfl, rfl, by simp, fun k hk _ => Below.heap_alloc _ _ _ hk⟩

theorem Chg.set {S : Nat → Prop} (w : World) (a : Addr) (v : Value) (h : S a.block) : Chg S w (w.setCell a v) :=
  ⟨rfl, rfl, rfl, by simp, fun k _ hn => Below.heap_setCell _ _ _ _ (fun e => hn (e ▸ h))⟩

theorem Chg.drewN (S : Nat → Prop) (w : World) (n : Nat) : Chg S w (w.drewN n) := ⟨rfl, rfl, rfl, Nat.le_refl _, fun _ _ _ => rfl⟩
theorem Chg.drew (S : Nat → Prop) (w : World) : Chg S w w.drew := ⟨rfl, rfl, rfl, Nat.le_refl _, fun _ _ _ => rfl⟩

theorem Chg.none {S : Nat → Prop} {w w' : World} (h : Chg (fun _ => False) w w') : Chg S w w' := h.mono (fun _ _ f => f.elim)
theorem Chg.one {B b : Nat} {w w' : World} (h : Chg (fun k => k = b) w w') (hb : B ≤ b) : Chg (fun k => B ≤ k) w w' := h.mono (fun _ _ f => by omega)
theorem Chg.fresh {w w' : World} (h : Chg (fun k => w.heap.size ≤ k) w w') : Chg (fun _ => False) w w' := h.mono (fun _ hk f => absurd f (by omega))
theorem Chg.down {B C : Nat} {w w' : World} (h : Chg (fun k => B ≤ k) w w') (hb : C ≤ B) : Chg (fun k => C ≤ k) w w' := h.mono (fun _ _ f => by omega)

theorem Chg.below {B : Nat} {w w' : World} (h : Chg (fun k => B ≤ k) w w') (hB : B ≤ w.heap.size) : Below B w w' :=
  ⟨h.os, h.tape, h.output, h.size, fun k hk => h.block k (by omega) (by omega)⟩

theorem Chg.cell {S : Nat → Prop} {w w' : World} {p : Addr} (h : Chg S w w') (hp : p.block < w.heap.size) (hs : ¬ S p.block) : w'.cell? p = w.cell? p :=
  World.cell?_of_block (w := w) (h.block p.block hp hs)

/-- a law's ending: it says true; what was there is as it was. -/
def PTrue (w : World) (e : Ending) (w' : World) : Prop := e = .returned (.bool true) ∧ Chg (fun _ => False) w w'
theorem PTrue.below {w w' : World} {e : Ending} (h : PTrue w e w') : e = .returned (.bool true) ∧ Below w.heap.size w w' :=
  ⟨h.1, (h.2.none).below (Nat.le_refl _)⟩

/-- what a block of cells says of its cells. -/
theorem lt_of_block {w : World} {b : Nat} {o : Obj} (h : w.heap[b]? = some o) : b < w.heap.size := by
  rcases Nat.lt_or_ge b w.heap.size with h1 | h1
  · exact h1
  · rw [Array.getElem?_eq_none h1] at h; cases h

theorem lt_of_cell {w : World} {p : Addr} {v : Value} (h : w.cell? p = some v) : p.block < w.heap.size := by
  unfold World.cell? at h
  cases hb : w.heap[p.block]? with
  | none => rw [hb] at h; cases h
  | some o => exact lt_of_block hb

theorem cell_of_block {w : World} {b : Nat} {c : Array Value} {t : TypeId} {fr : Nat × Nat} (h : w.heap[b]? = some (.cells c t fr)) (o : Nat) :
    w.cell? ⟨b, o, none⟩ = c[o]? := by
  simp [World.cell?, h]

theorem frozen_of_block {w : World} {b : Nat} {c : Array Value} {t : TypeId} (h : w.heap[b]? = some (.cells c t (0, 0))) (o : Nat) :
    w.frozen? ⟨b, o, none⟩ = false := by
  simp [World.frozen?, h]

theorem block_set {w : World} {b : Nat} {c : Array Value} {t : TypeId} {fr : Nat × Nat} (h : w.heap[b]? = some (.cells c t fr)) (o : Nat) (v : Value) :
    (w.setCell ⟨b, o, none⟩ v).heap[b]? = some (.cells (c.setIfInBounds o v) t fr) := by
  simp [World.setCell, Array.getElem?_modify, h]

theorem block_alloc (w : World) (o : Obj) : (w.alloc o).heap[w.heap.size]? = some o := by
  show (w.heap.push o)[w.heap.size]? = _
  simp

theorem Chg.keep {S : Nat → Prop} {w w' : World} {b : Nat} {o : Obj} (h : Chg S w w') (hb : w.heap[b]? = some o) (hs : ¬ S b) : w'.heap[b]? = some o := by
  rw [h.block b (lt_of_block hb) hs, hb]

/-- what a walk is told of a slice that came in, whose elements are one cell each: cell i holds 'V zs[i]'. -/
def Sl {α : Type} (V : α → Value) (w : World) (a : Option Addr) (len : Nat) (zs : List α) : Prop :=
  zs.length = len ∧ len ≤ maxLen ∧ ∀ i (h : i < zs.length), ∃ x, a = some x ∧ x.block < w.heap.size ∧ w.cell? (x.add i) = some (V zs[i])

theorem add_block (x : Addr) (i : Nat) : (x.add i).block = x.block := by unfold Addr.add; split <;> rfl

theorem Sl.at {α : Type} {V : α → Value} {w w' : World} {a : Option Addr} {len : Nat} {zs : List α} (h : Sl V w a len zs) (g : Chg (fun k => w.heap.size ≤ k) w w') {i : Nat} (hi : i < len) :
    ∃ x z, a = some x ∧ zs[i]? = some z ∧ w'.cell? (x.add i) = some (V z) := by
  obtain ⟨h1, h2, h3⟩ := h
  obtain ⟨x, e, hb, hc⟩ := h3 i (by omega)
  have e2 := add_block x i
  refine ⟨x, zs[i]'(by omega), e, by simp, ?_⟩
  rw [g.cell (by omega) (by omega), hc]

theorem Sl.len {α : Type} {V : α → Value} {w : World} {a : Option Addr} {len : Nat} {zs : List α} (h : Sl V w a len zs) : len ≤ 9223372036854775807 := by
  have := h.2.1; unfold maxLen at this; omega

/-- .. whose elements are structs of s cells. -/
def Sls {α : Type} (s : Nat) (V : α → List Value) (w : World) (a : Option Addr) (len : Nat) (zs : List α) : Prop :=
  zs.length = len ∧ len ≤ maxLen ∧ ∀ i (h : i < zs.length), ∃ x, a = some x ∧ x.block < w.heap.size ∧ ∀ j, j < s → w.cell? ((x.add (i * s)).add j) = (V zs[i])[j]?

theorem Sls.at {α : Type} {s : Nat} {V : α → List Value} {w w' : World} {a : Option Addr} {len : Nat} {zs : List α} (h : Sls s V w a len zs) (g : Chg (fun k => w.heap.size ≤ k) w w') {i : Nat} (hi : i < len) :
    ∃ x z, a = some x ∧ zs[i]? = some z ∧ ∀ j, j < s → w'.cell? ((x.add (i * s)).add j) = (V z)[j]? := by
  obtain ⟨h1, h2, h3⟩ := h
  obtain ⟨x, e, hb, hc⟩ := h3 i (by omega)
  refine ⟨x, zs[i]'(by omega), e, by simp, fun j hj => ?_⟩
  have e2 := add_block x (i * s)
  have e3 := add_block (x.add (i * s)) j
  rw [g.cell (by omega) (by omega), hc j hj]

theorem Sls.len {α : Type} {s : Nat} {V : α → List Value} {w : World} {a : Option Addr} {len : Nat} {zs : List α} (h : Sls s V w a len zs) : len ≤ 9223372036854775807 := by
  have := h.2.1; unfold maxLen at this; omega

section
variable {H : Type} {enc : TypeId × Value → H} {P : Program} {w : World} {base : Nat} {spare : Nat → Bool} {held : Bool}
open Go.Deep

theorem list_of_fn {α : Type} {Q : Nat → α → Prop} : ∀ n : Nat, (∀ i, i < n → ∃ z, Q i z) → ∃ zs : List α, zs.length = n ∧ ∀ i (h : i < zs.length), Q i zs[i]
  | 0, _ => ⟨[], rfl, fun i h => absurd h (Nat.not_lt_zero _)⟩
  | n + 1, h => by
    obtain ⟨zs, hl, hz⟩ := list_of_fn n (fun i hi => h i (by omega))
    obtain ⟨z, hq⟩ := h n (by omega)
    refine ⟨zs ++ [z], by simp [hl], fun i hi => ?_⟩
    by_cases hlt : i < zs.length
    · rw [List.getElem_append_left hlt]; exact hz i hlt
    · have : i = zs.length := by simp at hi; omega
      subst this
      simp only [List.getElem_append_right (Nat.le_refl _), Nat.sub_self, List.getElem_cons_zero]
      rw [hl]; exact hq

theorem sl_of_trod {α : Type} (V : α → Value) (Good : α → Prop) {t e : TypeId} {a : Option Addr} {len cap : Nat} {d : DataW H} {ps : List MemPlace} (ht : P.underlying t = some (.slice e)) (hc : P.cellsOf e = 1)
    (hone : ∀ (n : Nat) (v : Value) (y : DataW H × List MemPlace), DataW.trod enc P w base spare held n e [v] = some y → ∃ z, v = V z ∧ Good z)
    (h : DataW.Trod enc P w base spare held t (.slice a len cap) d ps) : ∃ zs : List α, Sl V w a len zs ∧ ∀ z ∈ zs, Good z := by
  obtain ⟨fuel, hf⟩ := h
  rcases open_slice1 ht hc hf with ⟨hcs, _⟩ | ⟨x, l, c, m, n, V', D, Pl, hcs, hb, hl, hm, hmm, _, hx⟩
  · simp [Value.cells] at hcs
    obtain ⟨rfl, rfl, rfl⟩ := hcs
    exact ⟨[], ⟨rfl, by simp [maxLen], fun i h => absurd h (Nat.not_lt_zero _)⟩, by simp⟩
  · simp [Value.cells] at hcs
    obtain ⟨rfl, rfl, rfl⟩ := hcs
    have hle : len ≤ m := by rw [hmm]; split <;> omega
    obtain ⟨zs, hzl, hz⟩ := list_of_fn (Q := fun i z => w.cell? (x.add i) = some (V z) ∧ Good z) len (fun i hi => by
      obtain ⟨h1, h2⟩ := hx i (by omega)
      obtain ⟨z, h3, h4⟩ := hone _ _ _ h2
      exact ⟨z, h3 ▸ h1, h4⟩)
    refine ⟨zs, ⟨hzl, by omega, fun i hi => ?_⟩, fun z hz' => ?_⟩
    · have h1 := (hz i hi).1
      have h2 := lt_of_cell h1
      exact ⟨x, rfl, by rw [add_block] at h2; exact h2, h1⟩
    · obtain ⟨i, hi, rfl⟩ := List.getElem_of_mem hz'
      exact (hz i hi).2

theorem sls_of_trod {α : Type} (s : Nat) (V : α → List Value) (Good : α → Prop) {t e : TypeId} {a : Option Addr} {len cap : Nat} {d : DataW H} {ps : List MemPlace} (ht : P.underlying t = some (.slice e)) (hc : P.cellsOf e = s)
    (hone : ∀ (n : Nat) (cs : List Value) (y : DataW H × List MemPlace), cs.length = s → DataW.trod enc P w base spare held n e cs = some y → ∃ z, cs = V z ∧ Good z) (hs : 0 < s)
    (h : DataW.Trod enc P w base spare held t (.slice a len cap) d ps) : ∃ zs : List α, Sls s V w a len zs ∧ ∀ z ∈ zs, Good z := by
  obtain ⟨fuel, hf⟩ := h
  rcases open_slice ht hf with ⟨hcs, _⟩ | ⟨x, l, c, m, n, D, Pl, hcs, hb, hl, hm, hmm, _, hx⟩
  · simp [Value.cells] at hcs
    obtain ⟨rfl, rfl, rfl⟩ := hcs
    exact ⟨[], ⟨rfl, by simp [maxLen], fun i h => absurd h (Nat.not_lt_zero _)⟩, by simp⟩
  · simp [Value.cells] at hcs
    obtain ⟨rfl, rfl, rfl⟩ := hcs
    rw [hc] at hx
    have hle : len ≤ m := by rw [hmm]; split <;> omega
    obtain ⟨zs, hzl, hz⟩ := list_of_fn (Q := fun i z => (∀ j, j < s → w.cell? ((x.add (i * s)).add j) = (V z)[j]?) ∧ (V z).length = s ∧ Good z) len (fun i hi => by
      obtain ⟨cs, h1, h2⟩ := hx i (by omega)
      obtain ⟨_, hlen, hcell⟩ := World.cells?_some h1
      obtain ⟨z, h3, h4⟩ := hone _ _ _ hlen h2
      exact ⟨z, fun j hj => by rw [hcell j hj, h3], h3 ▸ hlen, h4⟩)
    refine ⟨zs, ⟨hzl, by omega, fun i hi => ?_⟩, fun z hz' => ?_⟩
    · obtain ⟨h1, h2, _⟩ := hz i hi
      have h3 := h1 0 hs
      rw [List.getElem?_eq_getElem (by omega)] at h3
      have h4 := lt_of_cell h3
      exact ⟨x, rfl, by rw [add_block, add_block] at h4; exact h4, h1⟩
    · obtain ⟨i, hi, rfl⟩ := List.getElem_of_mem hz'
      exact (hz i hi).2.2

/-- a struct of one-cell fields: each cell reads as its field. -/
theorem fields_of_trod {t : TypeId} {fs : Array Field} {n : Nat} {cs : List Value} {y : DataW H × List MemPlace} (ht : P.underlying t = some (.struct fs)) (hone : oneCellFields P fs = true)
    (h : DataW.trod enc P w base spare held n t cs = some y) : ∀ (j : Nat) (f : Field) (v : Value), fs[j]? = some f → cs[j]? = some v → ∃ n' y', DataW.trod enc P w base spare held n' f.type [v] = some y' := by
  intro j f v hj hv
  obtain ⟨xs, n', _, _, hlen, hxl, hf⟩ := DataW.trod_struct ht h
  obtain ⟨ho, hk⟩ := hone_of hone j f hj
  have hjl : j < fs.size := (Array.getElem?_eq_some_iff.1 hj).1
  have hx := hf j f hj
  obtain ⟨hjc, hv'⟩ := List.getElem?_eq_some_iff.1 hv
  have e : (cs.drop f.offset).take (P.cellsOf f.type) = [v] := by
    rw [ho, hk, List.drop_eq_getElem_cons hjc, hv']; rfl
  rw [e, List.getElem?_eq_getElem (by omega)] at hx
  exact ⟨n', _, hx⟩
end

/-- int(uint64(n) % m) lies in [0, m). -/
theorem umod (n m : Int) (h0 : 0 < m) (h1 : m ≤ 4611686018427387904) : ∃ k : Nat, (k : Int) < m ∧ wrap64 ((IntKind.u64.wrap n).tmod m) = k := by
  have h : 0 ≤ IntKind.u64.wrap n := by
    simp only [IntKind.wrap, IntKind.bits, IntKind.signed]
    simp; omega
  have h2 : (IntKind.u64.wrap n).tmod m = (IntKind.u64.wrap n) % m := by
    rw [Int.tmod_eq_emod_of_nonneg h]
  have h3 := Int.emod_lt_of_pos (IntKind.u64.wrap n) h0
  have h4 := Int.emod_nonneg (IntKind.u64.wrap n) (Int.ne_of_gt h0)
  refine ⟨((IntKind.u64.wrap n) % m).toNat, by omega, ?_⟩
  rw [h2]
  unfold wrap64
  omega

end Go.Proofs.Ytciekkenheiedaa
