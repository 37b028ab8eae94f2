/- Small laws on worlds: 'Chg S w w'': the world w' is w but for the blocks of S, and for new blocks; what slices that came in hold. Words of this seat: what slices that are appended to hold; bytes; big-endian numbers. No condition. -/
import Derived.Test.YtnpihllannobgaaGreatDoorRows
import Derived.WalkKit
import Derived.ProofKit
import Derived.OpenShut
import Derived.Outline
import Derived.BigQuiet
import Derived.Deep.QuietTactic
import Derived.Lib.Hide
import Derived.ShutString
import Derived.ChangeOld
import Derived.Below
import Derived.Deep.Slices
import Derived.Deep.Fields
import Derived.ChangeSame
import Derived.Laws.AppendOwn
import Derived.Laws.AppendOwnNone
import Derived.Maps.AppendAt
import Derived.StillTailTactics
import Derived.IntWalk
import Derived.Laws.Bits64b
import Derived.Deep.RegionHeld3
namespace Go.Proofs.YtnpihllannobgaaGreatDoor
set_option linter.unusedVariables false
open Go.ChangeShapes Go.WideShapes Go.ChangeAt Go.RowKit

structure Chg (S : Nat → Prop) (w w' : World) : Prop where
  os : w'.os = w.os
  tape : w'.tape = w.tape
  output : w'.output = w.output
  size : w.heap.size ≤ w'.heap.size
  block : ∀ k, k < w.heap.size → ¬ S k → w'.heap[k]? = w.heap[k]?

theorem Chg.refl (S : Nat → Prop) (w : World) : Chg S w w := ⟨rfl, rfl, rfl, Nat.le_refl _, fun _ _ _ => rfl⟩

theorem Chg.trans {S : Nat → Prop} {a b c : World} (h : Chg S a b) (k : Chg S b c) : Chg S a c :=
  ⟨k.os.trans h.os, k.tape.trans h.tape, k.output.trans h.output, Nat.le_trans h.size k.size,
   fun i hi hn => (k.block i (Nat.lt_of_lt_of_le hi h.size) hn).trans (h.block i hi hn)⟩

theorem Chg.mono {S T : Nat → Prop} {w w' : World} (h : Chg S w w') (hs : ∀ k, k < w.heap.size → S k → T k) : Chg T w w' :=
  ⟨h.os, h.tape, h.output, h.size, fun k hk hn => h.block k hk (fun hh => hn (hs k hk hh))⟩

theorem Chg.alloc (S : Nat → Prop) (w : World) (o : Obj) : Chg S w (w.alloc o) :=
  ⟨rfl, rfl, rfl, by simp, fun k hk _ => Below.heap_alloc _ _ _ hk⟩

theorem Chg.set {S : Nat → Prop} (w : World) (a : Addr) (v : Value) (h : S a.block) : Chg S w (w.setCell a v) :=
  ⟨rfl, rfl, rfl, by simp, fun k _ hn => Below.heap_setCell _ _ _ _ (fun e => hn (e ▸ h))⟩

theorem Chg.drewN (S : Nat → Prop) (w : World) (n : Nat) : Chg S w (w.drewN n) := ⟨rfl, rfl, rfl, Nat.le_refl _, fun _ _ _ => rfl⟩
theorem Chg.drew (S : Nat → Prop) (w : World) : Chg S w w.drew := ⟨rfl, rfl, rfl, Nat.le_refl _, fun _ _ _ => rfl⟩

theorem Chg.none {S : Nat → Prop} {w w' : World} (h : Chg (fun _ => False) w w') : Chg S w w' := h.mono (fun _ _ f => f.elim)
theorem Chg.one {B b : Nat} {w w' : World} (h : Chg (fun k => k = b) w w') (hb : B ≤ b) : Chg (fun k => B ≤ k) w w' := h.mono (fun _ _ f => by omega)
theorem Chg.fresh {w w' : World} (h : Chg (fun k => w.heap.size ≤ k) w w') : Chg (fun _ => False) w w' := h.mono (fun _ hk f => absurd f (by omega))
theorem Chg.down {B C : Nat} {w w' : World} (h : Chg (fun k => B ≤ k) w w') (hb : C ≤ B) : Chg (fun k => C ≤ k) w w' := h.mono (fun _ _ f => by omega)

theorem Chg.below {B : Nat} {w w' : World} (h : Chg (fun k => B ≤ k) w w') (hB : B ≤ w.heap.size) : Below B w w' :=
  ⟨h.os, h.tape, h.output, h.size, fun k hk => h.block k (by omega) (by omega)⟩

theorem Chg.cell {S : Nat → Prop} {w w' : World} {p : Addr} (h : Chg S w w') (hp : p.block < w.heap.size) (hs : ¬ S p.block) : w'.cell? p = w.cell? p :=
  World.cell?_of_block (w := w) (h.block p.block hp hs)

/-- a law's ending: it says true; what was there is as it was. -/
def PTrue (w : World) (e : Ending) (w' : World) : Prop := e = .returned (.bool true) ∧ Chg (fun _ => False) w w'
theorem PTrue.below {w w' : World} {e : Ending} (h : PTrue w e w') : e = .returned (.bool true) ∧ Below w.heap.size w w' :=
  ⟨h.1, (h.2.none).below (Nat.le_refl _)⟩

/-- what a block of cells says of its cells. -/
theorem lt_of_block {w : World} {b : Nat} {o : Obj} (h : w.heap[b]? = some o) : b < w.heap.size := by
  rcases Nat.lt_or_ge b w.heap.size with h1 | h1
  · exact h1
  · rw [Array.getElem?_eq_none h1] at h; cases h

theorem lt_of_cell {w : World} {p : Addr} {v : Value} (h : w.cell? p = some v) : p.block < w.heap.size := by
  unfold World.cell? at h
  cases hb : w.heap[p.block]? with
  | none => rw [hb] at h; cases h
  | some o => exact lt_of_block hb

theorem cell_of_block {w : World} {b : Nat} {c : Array Value} {t : TypeId} {fr : Nat × Nat} (h : w.heap[b]? = some (.cells c t fr)) (o : Nat) :
    w.cell? ⟨b, o, none⟩ = c[o]? := by
  simp [World.cell?, h]

theorem frozen_of_block {w : World} {b : Nat} {c : Array Value} {t : TypeId} (h : w.heap[b]? = some (.cells c t (0, 0))) (o : Nat) :
    w.frozen? ⟨b, o, none⟩ = false := by
  simp [World.frozen?, h]

theorem block_set {w : World} {b : Nat} {c : Array Value} {t : TypeId} {fr : Nat × Nat} (h : w.heap[b]? = some (.cells c t fr)) (o : Nat) (v : Value) :
    (w.setCell ⟨b, o, none⟩ v).heap[b]? = some (.cells (c.setIfInBounds o v) t fr) := by
  simp [World.setCell, Array.getElem?_modify, h]

theorem block_alloc (w : World) (o : Obj) : (w.alloc o).heap[w.heap.size]? = some o := by
  show (w.heap.push o)[w.heap.size]? = _
  simp

theorem Chg.keep {S : Nat → Prop} {w w' : World} {b : Nat} {o : Obj} (h : Chg S w w') (hb : w.heap[b]? = some o) (hs : ¬ S b) : w'.heap[b]? = some o := by
  rw [h.block b (lt_of_block hb) hs, hb]

/-- what a walk is told of a slice that came in, whose elements are one cell each: cell i holds 'V zs[i]'. -/
def Sl {α : Type} (V : α → Value) (w : World) (a : Option Addr) (len : Nat) (zs : List α) : Prop :=
  zs.length = len ∧ len ≤ maxLen ∧ ∀ i (h : i < zs.length), ∃ x, a = some x ∧ x.block < w.heap.size ∧ w.cell? (x.add i) = some (V zs[i])

theorem add_block (x : Addr) (i : Nat) : (x.add i).block = x.block := by unfold Addr.add; split <;> rfl

theorem Sl.at {α : Type} {V : α → Value} {w w' : World} {a : Option Addr} {len : Nat} {zs : List α} (h : Sl V w a len zs) (g : Chg (fun k => w.heap.size ≤ k) w w') {i : Nat} (hi : i < len) :
    ∃ x z, a = some x ∧ zs[i]? = some z ∧ w'.cell? (x.add i) = some (V z) := by
  obtain ⟨h1, h2, h3⟩ := h
  obtain ⟨x, e, hb, hc⟩ := h3 i (by omega)
  have e2 := add_block x i
  refine ⟨x, zs[i]'(by omega), e, by simp, ?_⟩
  rw [g.cell (by omega) (by omega), hc]

theorem Sl.len {α : Type} {V : α → Value} {w : World} {a : Option Addr} {len : Nat} {zs : List α} (h : Sl V w a len zs) : len ≤ 9223372036854775807 := by
  have := h.2.1; unfold maxLen at this; omega

/-- .. whose elements are structs of s cells. -/
def Sls {α : Type} (s : Nat) (V : α → List Value) (w : World) (a : Option Addr) (len : Nat) (zs : List α) : Prop :=
  zs.length = len ∧ len ≤ maxLen ∧ ∀ i (h : i < zs.length), ∃ x, a = some x ∧ x.block < w.heap.size ∧ ∀ j, j < s → w.cell? ((x.add (i * s)).add j) = (V zs[i])[j]?

theorem Sls.at {α : Type} {s : Nat} {V : α → List Value} {w w' : World} {a : Option Addr} {len : Nat} {zs : List α} (h : Sls s V w a len zs) (g : Chg (fun k => w.heap.size ≤ k) w w') {i : Nat} (hi : i < len) :
    ∃ x z, a = some x ∧ zs[i]? = some z ∧ ∀ j, j < s → w'.cell? ((x.add (i * s)).add j) = (V z)[j]? := by
  obtain ⟨h1, h2, h3⟩ := h
  obtain ⟨x, e, hb, hc⟩ := h3 i (by omega)
  refine ⟨x, zs[i]'(by omega), e, by simp, fun j hj => ?_⟩
  have e2 := add_block x (i * s)
  have e3 := add_block (x.add (i * s)) j
  rw [g.cell (by omega) (by omega), hc j hj]

theorem Sls.len {α : Type} {s : Nat} {V : α → List Value} {w : World} {a : Option Addr} {len : Nat} {zs : List α} (h : Sls s V w a len zs) : len ≤ 9223372036854775807 := by
  have := h.2.1; unfold maxLen at this; omega

section
variable {H : Type} {enc : TypeId × Value → H} {P : Program} {w : World} {base : Nat} {spare : Nat → Bool} {held : Bool}
open Go.Deep

theorem list_of_fn {α : Type} {Q : Nat → α → Prop} : ∀ n : Nat, (∀ i, i < n → ∃ z, Q i z) → ∃ zs : List α, zs.length = n ∧ ∀ i (h : i < zs.length), Q i zs[i]
  | 0, _ => ⟨[], rfl, fun i h => absurd h (Nat.not_lt_zero _)⟩
  | n + 1, h => by
    obtain ⟨zs, hl, hz⟩ := list_of_fn n (fun i hi => h i (by omega))
    obtain ⟨z, hq⟩ := h n (by omega)
    refine ⟨zs ++ [z], by simp [hl], fun i hi => ?_⟩
    by_cases hlt : i < zs.length
    · rw [List.getElem_append_left hlt]; exact hz i hlt
    · have : i = zs.length := by simp at hi; omega
      subst this
      simp only [List.getElem_append_right (Nat.le_refl _), Nat.sub_self, List.getElem_cons_zero]
      rw [hl]; exact hq

theorem sl_of_trod {α : Type} (V : α → Value) (Good : α → Prop) {t e : TypeId} {a : Option Addr} {len cap : Nat} {d : DataW H} {ps : List MemPlace} (ht : P.underlying t = some (.slice e)) (hc : P.cellsOf e = 1)
    (hone : ∀ (n : Nat) (v : Value) (y : DataW H × List MemPlace), DataW.trod enc P w base spare held n e [v] = some y → ∃ z, v = V z ∧ Good z)
    (h : DataW.Trod enc P w base spare held t (.slice a len cap) d ps) : ∃ zs : List α, Sl V w a len zs ∧ ∀ z ∈ zs, Good z := by
  obtain ⟨fuel, hf⟩ := h
  rcases open_slice1 ht hc hf with ⟨hcs, _⟩ | ⟨x, l, c, m, n, V', D, Pl, hcs, hb, hl, hm, hmm, _, hx⟩
  · simp [Value.cells] at hcs
    obtain ⟨rfl, rfl, rfl⟩ := hcs
    exact ⟨[], ⟨rfl, by simp [maxLen], fun i h => absurd h (Nat.not_lt_zero _)⟩, by simp⟩
  · simp [Value.cells] at hcs
    obtain ⟨rfl, rfl, rfl⟩ := hcs
    have hle : len ≤ m := by rw [hmm]; split <;> omega
    obtain ⟨zs, hzl, hz⟩ := list_of_fn (Q := fun i z => w.cell? (x.add i) = some (V z) ∧ Good z) len (fun i hi => by
      obtain ⟨h1, h2⟩ := hx i (by omega)
      obtain ⟨z, h3, h4⟩ := hone _ _ _ h2
      exact ⟨z, h3 ▸ h1, h4⟩)
    refine ⟨zs, ⟨hzl, by omega, fun i hi => ?_⟩, fun z hz' => ?_⟩
    · have h1 := (hz i hi).1
      have h2 := lt_of_cell h1
      exact ⟨x, rfl, by rw [add_block] at h2; exact h2, h1⟩
    · obtain ⟨i, hi, rfl⟩ := List.getElem_of_mem hz'
      exact (hz i hi).2

theorem sls_of_trod {α : Type} (s : Nat) (V : α → List Value) (Good : α → Prop) {t e : TypeId} {a : Option Addr} {len cap : Nat} {d : DataW H} {ps : List MemPlace} (ht : P.underlying t = some (.slice e)) (hc : P.cellsOf e = s)
    (hone : ∀ (n : Nat) (cs : List Value) (y : DataW H × List MemPlace), cs.length = s → DataW.trod enc P w base spare held n e cs = some y → ∃ z, cs = V z ∧ Good z) (hs : 0 < s)
    (h : DataW.Trod enc P w base spare held t (.slice a len cap) d ps) : ∃ zs : List α, Sls s V w a len zs ∧ ∀ z ∈ zs, Good z := by
  obtain ⟨fuel, hf⟩ := h
  rcases open_slice ht hf with ⟨hcs, _⟩ | ⟨x, l, c, m, n, D, Pl, hcs, hb, hl, hm, hmm, _, hx⟩
  · simp [Value.cells] at hcs
    obtain ⟨rfl, rfl, rfl⟩ := hcs
    exact ⟨[], ⟨rfl, by simp [maxLen], fun i h => absurd h (Nat.not_lt_zero _)⟩, by simp⟩
  · simp [Value.cells] at hcs
    obtain ⟨rfl, rfl, rfl⟩ := hcs
    rw [hc] at hx
    have hle : len ≤ m := by rw [hmm]; split <;> omega
    obtain ⟨zs, hzl, hz⟩ := list_of_fn (Q := fun i z => (∀ j, j < s → w.cell? ((x.add (i * s)).add j) = (V z)[j]?) ∧ (V z).length = s ∧ Good z) len (fun i hi => by
      obtain ⟨cs, h1, h2⟩ := hx i (by omega)
      obtain ⟨_, hlen, hcell⟩ := World.cells?_some h1
      obtain ⟨z, h3, h4⟩ := hone _ _ _ hlen h2
      exact ⟨z, fun j hj => by rw [hcell j hj, h3], h3 ▸ hlen, h4⟩)
    refine ⟨zs, ⟨hzl, by omega, fun i hi => ?_⟩, fun z hz' => ?_⟩
    · obtain ⟨h1, h2, _⟩ := hz i hi
      have h3 := h1 0 hs
      rw [List.getElem?_eq_getElem (by omega)] at h3
      have h4 := lt_of_cell h3
      exact ⟨x, rfl, by rw [add_block, add_block] at h4; exact h4, h1⟩
    · obtain ⟨i, hi, rfl⟩ := List.getElem_of_mem hz'
      exact (hz i hi).2.2

/-- a struct of one-cell fields: each cell reads as its field. -/
theorem fields_of_trod {t : TypeId} {fs : Array Field} {n : Nat} {cs : List Value} {y : DataW H × List MemPlace} (ht : P.underlying t = some (.struct fs)) (hone : oneCellFields P fs = true)
    (h : DataW.trod enc P w base spare held n t cs = some y) : ∀ (j : Nat) (f : Field) (v : Value), fs[j]? = some f → cs[j]? = some v → ∃ n' y', DataW.trod enc P w base spare held n' f.type [v] = some y' := by
  intro j f v hj hv
  obtain ⟨xs, n', _, _, hlen, hxl, hf⟩ := DataW.trod_struct ht h
  obtain ⟨ho, hk⟩ := hone_of hone j f hj
  have hjl : j < fs.size := (Array.getElem?_eq_some_iff.1 hj).1
  have hx := hf j f hj
  obtain ⟨hjc, hv'⟩ := List.getElem?_eq_some_iff.1 hv
  have e : (cs.drop f.offset).take (P.cellsOf f.type) = [v] := by
    rw [ho, hk, List.drop_eq_getElem_cons hjc, hv']; rfl
  rw [e, List.getElem?_eq_getElem (by omega)] at hx
  exact ⟨n', _, hx⟩
end

/-- int(uint64(n) % m) lies in [0, m). -/
theorem umod (n m : Int) (h0 : 0 < m) (h1 : m ≤ 4611686018427387904) : ∃ k : Nat, (k : Int) < m ∧ wrap64 ((IntKind.u64.wrap n).tmod m) = k := by
  have h : 0 ≤ IntKind.u64.wrap n := by
    simp only [IntKind.wrap, IntKind.bits, IntKind.signed]
    simp; omega
  have h2 : (IntKind.u64.wrap n).tmod m = (IntKind.u64.wrap n) % m := by
    rw [Int.tmod_eq_emod_of_nonneg h]
  have h3 := Int.emod_lt_of_pos (IntKind.u64.wrap n) h0
  have h4 := Int.emod_nonneg (IntKind.u64.wrap n) (Int.ne_of_gt h0)
  refine ⟨((IntKind.u64.wrap n) % m).toNat, by omega, ?_⟩
  rw [h2]
  unfold wrap64
  omega

end Go.Proofs.YtnpihllannobgaaGreatDoor
namespace Go.Proofs.YtnpihllannobgaaGreatDoor
set_option linter.unusedVariables false
set_option linter.unusedSimpArgs false
open Go.ChangeShapes Go.WideShapes Go.ChangeAt Go.RowKit

def V8 (x : Int) : Value := .int .u8 x
def VI (x : Int) : Value := .int .i64 x
theorem ret_int {k : IntKind} {a b : Int} (h : a = b) : Ending.returned (.int k a) = .returned (.int k b) := by rw [h]

theorem chg1 (w : World) (b o : Nat) (v : Value) : Chg (· = b) w (w.setCell ⟨b, o, none⟩ v) := Chg.set w ⟨b, o, none⟩ v rfl
theorem chg_grown {S : Nat → Prop} {w w' : World} {row : Option Nat} (h : w.grownBy w' row) (hr : ∀ k, row = some k → S k) : Chg S w w' :=
  ⟨h.os, h.tape, h.output, h.size, fun k hk hn => h.block k hk (fun e => hn (hr k e.symm))⟩
theorem own_chg {S : Nat → Prop} {w w' : World} {base e size n : Nat} {v : Value} {xs : List Value} (h : w.ownsRow base e size v n xs) (g : Chg S w w') (hS : ∀ k, v.ownBlock = some k → ¬ S k) : w'.ownsRow base e size v n xs := by
  refine ⟨h.1, ?_⟩
  rcases h.2 with hn | ⟨k, cap, cur, rfl, hb, hgg, rest⟩
  · exact .inl hn
  · exact .inr ⟨k, cap, cur, rfl, hb, Chg.keep g hgg (hS k rfl), rest⟩

theorem Chg.old {S : Nat → Prop} {w w' : World} (h : Chg (fun k => S k ∨ w.heap.size ≤ k) w w') : Chg S w w' :=
  h.mono (fun k hk e => by rcases e with e | e; exact e; omega)
theorem Tryz.info5 : (Tryz.prog.info? 5).map (fun i => (i.zero, i.size, i.bytes)) = some (some (.int .u8 0), 1, 1) := by kernel_rfl
theorem Tryz.info3 : (Tryz.prog.info? 3).map (fun i => (i.zero, i.size, i.bytes)) = some (some (.int .i64 0), 1, 8) := by kernel_rfl
theorem info5 : ∃ i, Tryz.prog.info? 5 = some i ∧ i.zero = some (.int .u8 0) ∧ i.size = 1 ∧ i.bytes = 1 := by
  obtain ⟨i0, hi, hx⟩ := Option.map_eq_some_iff.1 Tryz.info5
  simp only [Prod.mk.injEq] at hx
  exact ⟨i0, hi, hx⟩
theorem info3 : ∃ i, Tryz.prog.info? 3 = some i ∧ i.zero = some (.int .i64 0) ∧ i.size = 1 ∧ i.bytes = 8 := by
  obtain ⟨i0, hi, hx⟩ := Option.map_eq_some_iff.1 Tryz.info3
  simp only [Prod.mk.injEq] at hx
  exact ⟨i0, hi, hx⟩
/-- append to a slice of bytes that the call itself made (v: n bytes, xs). -/
theorem app8 {w : World} {ops : Array Oper} {rest : List Oper} {o : Oper} {a : Act} {Q : Exit → Act → World → Prop} (hgd : o.guard = none) (s x : Operand)
    (ho : o.op = .call { callee := .builtin .append, args := #[s, x], argTypes := #[33, 33] })
    (base : Nat) (v : Value) (n : Nat) (xs : List Value) (hs : a.eval s = v) (hown : w.ownsRow base 5 1 v n xs)
    (ad : Addr) (m c : Nat) (news : List Value) (hx : a.eval x = .slice (some ad) m c) (hl : news.length = m) (hnews : ∀ j u, news[j]? = some u → w.cell? (ad.add j) = some u) (h1 : ∀ u ∈ news, u.oneCell' = true)
    (h63 : n + m ≤ 1000000000) (hbase : base ≤ w.heap.size)
    (h : ∀ v' w', w'.ownsRow base 5 1 v' (n + m) (xs ++ news) → w.grownBy w' v.ownBlock → (v' = .slice none 0 0 ↔ v = .slice none 0 0 ∧ m = 0) → wpList Tryz.prog ops Q rest (a.put o.dst v') w') : wpList Tryz.prog ops Q (o :: rest) a w := by
  obtain ⟨i, h1i, h2i, h3i, h4i⟩ := info5
  exact wpList_append_own w hgd s x 33 ho base 5 i (.int .u8 0) 1 1 Tryz.underlying33 h1i h2i h3i h4i rfl (by decide) v n xs hs hown ad m c news hx (by omega) hnews h1 (by unfold maxLen; omega) (by omega) hbase h

section
variable {w : World} {base e n : Nat} {v : Value} {xs : List Value}
theorem own_pos (h : w.ownsRow base e 1 v n xs) (hn : 0 < n) : ∃ g cap cur, v = .slice (some ⟨g, 0, none⟩) n cap ∧ base ≤ g ∧ w.heap[g]? = some (.cells cur e (0, 0)) ∧ cur.toList.take n = xs ∧ n ≤ cap ∧ cap ≤ maxLen ∧ cur.size = cap := by
  obtain ⟨h1, h2⟩ := h
  rcases h2 with ⟨_, rfl⟩ | ⟨g, cap, cur, rfl, hb, hg, hc, hm, hs, ht⟩
  · omega
  · exact ⟨g, cap, cur, rfl, hb, hg, by simpa using ht, hc, hm, by simpa using hs⟩
theorem own_cell {g cap : Nat} (h : w.ownsRow base e 1 (.slice (some ⟨g, 0, none⟩) n cap) n xs) (i : Nat) (x : Value) (hi : xs[i]? = some x) : w.cell? ⟨g, i, none⟩ = some x := by
  obtain ⟨h1, h2⟩ := h
  rcases h2 with ⟨h2, _⟩ | ⟨g', cap', cur, he, hb, hg, hc, hm, hs, ht⟩
  · cases h2
  · cases he
    rw [cell_of_block hg]
    have hi2 := (List.getElem?_eq_some_iff.1 hi).1
    rw [← ht, List.getElem?_take] at hi
    split at hi
    · rw [← hi]; simp
    · cases hi
theorem own_frozen {g cap : Nat} (h : w.ownsRow base e 1 (.slice (some ⟨g, 0, none⟩) n cap) n xs) (i : Nat) : w.frozen? ⟨g, i, none⟩ = false := by
  obtain ⟨h1, h2⟩ := h
  rcases h2 with ⟨h2, _⟩ | ⟨g', cap', cur, he, hb, hg, hc, hm, hs, ht⟩
  · cases h2
  · cases he; exact frozen_of_block hg i
theorem own_set {g cap : Nat} (h : w.ownsRow base e 1 (.slice (some ⟨g, 0, none⟩) n cap) n xs) (i : Nat) (x : Value) (hi : i < n) : (w.setCell ⟨g, i, none⟩ x).ownsRow base e 1 (.slice (some ⟨g, 0, none⟩) n cap) n (xs.set i x) := by
  obtain ⟨h1, h2⟩ := h
  refine ⟨by simpa using h1, ?_⟩
  rcases h2 with ⟨h2, _⟩ | ⟨g', cap', cur, he, hb, hg, hc, hm, hs, ht⟩
  · cases h2
  · cases he
    refine .inr ⟨g, cap, cur.setIfInBounds i x, rfl, hb, block_set hg i x, hc, hm, by simpa using hs, ?_⟩
    rw [← ht]
    simp [List.take_set]
theorem own_in (h : w.ownsRow base e 1 v n xs) {j : Nat} (hj : v.ownBlock = some j) : base ≤ j ∧ j < w.heap.size := h.lt j hj
end

theorem and255 (r : Int) (h0 : 0 ≤ r) (h1 : r < 256) : bits BinOp.and IntKind.u8 r 255 = r := by
  obtain ⟨m, rfl⟩ : ∃ m : Nat, r = m := ⟨r.toNat, by omega⟩
  have h : ∀ m : Nat, m < 256 → bits BinOp.and IntKind.u8 (m : Int) 255 = m := by decide +kernel
  exact h m (by omega)
theorem or0 (r : Int) (h0 : 0 ≤ r) (h1 : r < 256) : bits BinOp.or IntKind.u8 0 r = r := by
  obtain ⟨m, rfl⟩ : ∃ m : Nat, r = m := ⟨r.toNat, by omega⟩
  have h : ∀ m : Nat, m < 256 → bits BinOp.or IntKind.u8 0 (m : Int) = m := by decide +kernel
  exact h m (by omega)
/-- block b, and rows of elements e that were made behind it: what a struct at b with one slice that it appends to may turn. -/
def RowBl (e b : Nat) (w : World) (j : Nat) : Prop := j = b ∨ (b < j ∧ ∃ cur, w.heap[j]? = some (.cells cur e (0, 0)))
def CW (e b : Nat) (w w' : World) : Prop := Chg (RowBl e b w) w w'
theorem CW.refl (e b : Nat) (w : World) : CW e b w w := Chg.refl _ _
theorem CW.trans {e b : Nat} {w0 w1 w2 : World} (h : CW e b w0 w1) (k : CW e b w1 w2) : CW e b w0 w2 :=
  ⟨k.os.trans h.os, k.tape.trans h.tape, k.output.trans h.output, Nat.le_trans h.size k.size, fun i hi hn => by
    have h1 := h.block i hi hn
    rw [k.block i (Nat.lt_of_lt_of_le hi h.size) (fun hS => hn ?_), h1]
    rcases hS with e | ⟨hb, cur, hc⟩
    · exact .inl e
    · exact .inr ⟨hb, cur, by rw [← h1]; exact hc⟩⟩
theorem CW.none {e b : Nat} {w w' : World} (h : Chg (fun _ => False) w w') : CW e b w w' := h.none
theorem CW.self {e b : Nat} {w w' : World} (h : Chg (· = b) w w') : CW e b w w' := Chg.mono h (fun _ _ e => .inl e)
theorem CW.row {e b : Nat} {w w' : World} {n size : Nat} {v : Value} {xs : List Value} (ho : w.ownsRow (b + 1) e size v n xs) (h : Chg (fun j => v.ownBlock = some j) w w') : CW e b w w' :=
  Chg.mono h (fun j hj hS => by
    rcases ho.2 with ⟨rfl, _⟩ | ⟨g, cap, cur, rfl, hb, hg, _⟩
    · cases hS
    · cases hS; exact .inr ⟨Nat.lt_of_lt_of_le (Nat.lt_succ_self b) hb, cur, hg⟩)
theorem CW.chg {e b : Nat} {w w' : World} (h : CW e b w w') : Chg (fun j => b ≤ j) w w' := Chg.mono h (fun j _ hS => by rcases hS with rfl | ⟨h1, _⟩ <;> omega)
theorem CW.keep {e b : Nat} {w w' : World} (h : CW e b w w') {j : Nat} {cs : Array Value} {t : TypeId} {fr : Nat × Nat} (hj : w.heap[j]? = some (.cells cs t fr)) (hb : j ≠ b) (ht : t ≠ e ∨ j < b) : w'.heap[j]? = some (.cells cs t fr) :=
  Chg.keep h hj (fun hS => by
    rcases hS with rfl | ⟨h1, cur, h2⟩
    · exact hb rfl
    · rw [hj] at h2; cases h2; rcases ht with ht | ht
      · exact ht rfl
      · omega)
theorem u8_wrap (x : Int) : IntKind.u8.wrap x = x % 256 := by simp only [IntKind.wrap, IntKind.bits, IntKind.signed]; simp
theorem u8_in (x : Int) (h0 : 0 ≤ x) (h1 : x < 256) : IntKind.u8.wrap x = x := by rw [u8_wrap]; omega
/-- k bytes of a number, the greatest first. -/
def be : Nat → Int → List Int
  | 0, _ => []
  | k + 1, n => n / 256 ^ k % 256 :: be k n
theorem be_len (k : Nat) (n : Int) : (be k n).length = k := by induction k with
  | zero => rfl
  | succ k ih => simp [be, ih]
theorem be_at (k : Nat) (n : Int) (i : Nat) (h : i < k) : (be k n)[i]? = some (n / 256 ^ (k - 1 - i) % 256) := by
  induction k generalizing i with
  | zero => omega
  | succ k ih =>
    cases i with
    | zero => simp [be]
    | succ i =>
      simp only [be, List.getElem?_cons_succ]
      rw [ih i (by omega), show k + 1 - 1 - (i + 1) = k - 1 - i from by omega]
theorem be_take (k : Nat) (n : Int) (i : Nat) (h : i < k) : (be k n).take (i + 1) = (be k n).take i ++ [n / 256 ^ (k - 1 - i) % 256] := by
  rw [List.take_add_one, be_at k n i h]; rfl
theorem be_byte (k : Nat) (n : Int) : ∀ x ∈ be k n, 0 ≤ x ∧ x < 256 := by
  induction k with
  | zero => intro x hx; cases hx
  | succ k ih =>
    intro x hx
    simp only [be, List.mem_cons] at hx
    rcases hx with rfl | hx
    · omega
    · exact ih x hx
theorem add_mk (g o i : Nat) : (⟨g, o, none⟩ : Addr).add i = ⟨g, o + i, none⟩ := by
  unfold Addr.add
  split
  · rename_i e; subst e; rfl
  · rfl
/-- bit p of bytes. -/
def bitAt (L : List Int) (p : Nat) : Int := (L[p / 8]?.getD 0) / 2 ^ (7 - p % 8) % 2
/-- j bits from p on, as a number. -/
def bv (L : List Int) (p : Nat) : Nat → Int
  | 0 => 0
  | j + 1 => bv L p j * 2 + bitAt L (p + j)
theorem bitAt_bd (L : List Int) (p : Nat) : 0 ≤ bitAt L p ∧ bitAt L p < 2 := by unfold bitAt; omega
theorem bv_bd (L : List Int) (p j : Nat) : 0 ≤ bv L p j ∧ bv L p j < 2 ^ j := by
  induction j with
  | zero => simp [bv]
  | succ j ih =>
    have := bitAt_bd L (p + j)
    simp only [bv]
    rw [Int.pow_succ]
    omega
theorem or_bit (n b : Int) (h0 : 0 ≤ n) (h1 : n < 9223372036854775808) (hb : 0 ≤ b ∧ b < 2) : bits BinOp.or IntKind.u64 (n * 2) b = n * 2 + b := by
  obtain ⟨m, rfl⟩ : ∃ m : Nat, n = m := ⟨n.toNat, by omega⟩
  obtain ⟨c, rfl⟩ : ∃ c : Nat, b = c := ⟨b.toNat, by omega⟩
  have e : ((m : Int) * 2) = ((m * 2 : Nat) : Int) := by push_cast; rfl
  rw [e, bits_or_u64_nat _ _ (by omega) (by omega)]
  have hc : c = 0 ∨ c = 1 := by omega
  rcases hc with rfl | rfl
  · simp
  · have : m * 2 ||| 1 = m * 2 + 1 := by
      have := Nat.two_pow_add_eq_or_of_lt (i := 1) (b := 1) (by omega) m
      rw [Nat.mul_comm m 2]
      simpa using this.symm
    rw [this]; omega
theorem and_bit (x : Int) (h0 : 0 ≤ x) (h1 : x < 256) : bits BinOp.and IntKind.u8 x 1 = x % 2 := by
  obtain ⟨m, rfl⟩ : ∃ m : Nat, x = m := ⟨x.toNat, by omega⟩
  have h : ∀ m : Nat, m < 256 → bits BinOp.and IntKind.u8 (m : Int) 1 = (m : Int) % 2 := by decide +kernel
  exact h m (by omega)
/-- a slice reads as zs; its cells lie below block B. -/
def Rs {α : Type} (V : α → Value) (w : World) (B : Nat) (a : Option Addr) (len : Nat) (zs : List α) : Prop :=
  zs.length = len ∧ ∀ i (h : i < zs.length), ∃ x, a = some x ∧ x.block < B ∧ w.cell? (x.add i) = some (V zs[i])
section
variable {α : Type} {V : α → Value} {w w' : World} {B B' len : Nat} {a : Option Addr} {zs : List α}
theorem Rs.nil (V : α → Value) (w : World) (B : Nat) (a : Option Addr) : Rs V w B a 0 [] := ⟨rfl, fun i h => absurd h (Nat.not_lt_zero _)⟩
theorem Rs.at (h : Rs V w B a len zs) {i : Nat} (hi : i < len) : ∃ x z, a = some x ∧ x.block < B ∧ zs[i]? = some z ∧ w.cell? (x.add i) = some (V z) := by
  have hl := h.1
  obtain ⟨x, e, hb, hc⟩ := h.2 i (by omega)
  exact ⟨x, zs[i]'(by omega), e, hb, by simp, hc⟩
theorem Rs.keep {S : Nat → Prop} (h : Rs V w B a len zs) (g : Chg S w w') (hS : ∀ j, j < B → ¬ S j) : Rs V w' B a len zs :=
  ⟨h.1, fun i hi => by
    obtain ⟨x, e, hb, hc⟩ := h.2 i hi
    have hx := add_block x i
    exact ⟨x, e, hb, by rw [g.cell (lt_of_cell hc) (fun s => hS _ hb (hx ▸ s)), hc]⟩⟩
theorem Rs.more (h : Rs V w B a len zs) (hB : B ≤ B') : Rs V w B' a len zs :=
  ⟨h.1, fun i hi => by
    obtain ⟨x, e, hb, hc⟩ := h.2 i hi
    exact ⟨x, e, by omega, hc⟩⟩
theorem Rs.of_own {base e : Nat} {v : Value} {n : Nat} {zs : List α} (h : w.ownsRow base e 1 v n (zs.map V)) : ∃ a c, v = .slice a n c ∧ Rs V w w.heap.size a n zs ∧ (a = none → c = 0) := by
  have hl : zs.length = n := by have := h.1; simpa using this
  rcases h.2 with ⟨rfl, rfl⟩ | ⟨g, cap, cur, rfl, hb, hg, _⟩
  · obtain rfl := List.eq_nil_of_length_eq_zero hl
    exact ⟨_, _, rfl, Rs.nil _ _ _ _, fun _ => rfl⟩
  · refine ⟨_, _, rfl, ⟨hl, fun i hi => ⟨_, rfl, lt_of_block hg, ?_⟩⟩, fun e => by cases e⟩
    have := own_cell h i (V zs[i]) (by simp [List.getElem?_eq_getElem hi])
    rw [add_mk, Nat.zero_add]; exact this
end
/-- what is asked of a slice's type t, whose elements are of type e. -/
def ElOk (t e : TypeId) (bytes : Nat) : Prop := Tryz.prog.underlying t = some (.slice e) ∧ ∃ i z, Tryz.prog.info? e = some i ∧ i.zero = some z ∧ i.size = 1 ∧ i.bytes = bytes ∧ z.cells.size = 1
theorem el8 : ElOk 33 5 1 := by
  obtain ⟨i, h1, h2, h3, h4⟩ := info5
  exact ⟨Tryz.underlying33, i, _, h1, h2, h3, h4, rfl⟩
theorem elI : ElOk 22 3 8 := by
  obtain ⟨i, h1, h2, h3, h4⟩ := info3
  exact ⟨Tryz.underlying22, i, _, h1, h2, h3, h4, rfl⟩
/-- append to a slice of the call's own, from whatever slice. -/
theorem appS {α : Type} {V : α → Value} {w : World} {ops : Array Oper} {rest : List Oper} {o : Oper} {a : Act} {Q : Exit → Act → World → Prop} {t e : TypeId} {bytes : Nat} (he : ElOk t e bytes) (hgd : o.guard = none) (s x : Operand)
    (ho : o.op = .call { callee := .builtin .append, args := #[s, x], argTypes := #[t, t] })
    (base : Nat) (v : Value) (n : Nat) (xs : List Value) (hs : a.eval s = v) (hown : w.ownsRow base e 1 v n xs)
    (B : Nat) (A : Option Addr) (m c : Nat) (zs : List α) (hx : a.eval x = .slice A m c) (hA : A = none → c = 0) (hr : Rs V w B A m zs) (h1 : ∀ z, (V z).oneCell' = true)
    (hb : bytes ≤ 8) (h63 : n + m ≤ 1000000000) (hbase : base ≤ w.heap.size)
    (h : ∀ v' w', w'.ownsRow base e 1 v' (n + m) (xs ++ zs.map V) → w.grownBy w' v.ownBlock → (v'.ownBlock = v.ownBlock ∨ v'.ownBlock = some w.heap.size) → wpList Tryz.prog ops Q rest (a.put o.dst v') w') : wpList Tryz.prog ops Q (o :: rest) a w := by
  obtain ⟨ht, i, z, h1i, h2i, h3i, h4i, h5i⟩ := he
  have hbb : (n + m) * bytes ≤ (n + m) * 8 := Nat.mul_le_mul_left _ hb
  rcases A with _ | ad
  · obtain rfl := hA rfl
    have hm : m = 0 := by
      rcases Nat.eq_zero_or_pos m with h0 | h0
      · exact h0
      · obtain ⟨x, z, e, _⟩ := hr.at h0; cases e
    subst hm
    have hz : zs = [] := List.eq_nil_of_length_eq_zero hr.1
    subst hz
    exact wpList_append_own_none hgd s x t ho base e i 1 ht h1i v n xs hs hown hx (h v w (by simpa using hown) ⟨rfl, rfl, rfl, Nat.le_refl _, fun _ _ _ => rfl⟩ (.inl rfl))
  · refine wpList_append_own_at w hgd s x t ho base e i z 1 bytes ht h1i h2i h3i h4i h5i (by decide) v n xs hs hown ad m c (zs.map V) hx (by simp [hr.1]) (fun j u hu => ?_) (fun u hu => ?_) (by unfold maxLen; omega) (by omega) hbase (fun v' w' k1 k2 _ k4 => h v' w' k1 k2 k4)
    · rw [List.getElem?_map] at hu
      have hj : j < m := by
        rcases Nat.lt_or_ge j m with hj | hj
        · exact hj
        · rw [List.getElem?_eq_none (by rw [hr.1]; exact hj)] at hu; cases hu
      obtain ⟨y, z, e, _, hz, hc⟩ := hr.at hj
      cases e
      rw [hz] at hu; simp at hu; rw [← hu]; exact hc
    · rw [List.mem_map] at hu
      obtain ⟨z, _, rfl⟩ := hu
      exact h1 z
/-- append one element to a slice of the call's own. -/
theorem app1 {α : Type} {V : α → Value} {w : World} {ops : Array Oper} {rest : List Oper} {o : Oper} {a : Act} {Q : Exit → Act → World → Prop} {t e : TypeId} {bytes : Nat} (he : ElOk t e bytes) (hgd : o.guard = none) (s x : Operand)
    (ho : o.op = .call { callee := .builtin .append, args := #[s, x], argTypes := #[t, t] })
    (base : Nat) (v : Value) (n : Nat) (xs : List Value) (hs : a.eval s = v) (hown : w.ownsRow base e 1 v n xs)
    (sb : Nat) (z : α) (hx : a.eval x = .slice (some ⟨sb, 0, none⟩) 1 1) (hc : w.cell? ⟨sb, 0, none⟩ = some (V z)) (h1 : (V z).oneCell' = true)
    (hb : bytes ≤ 8) (h63 : n + 1 ≤ 1000000000) (hbase : base ≤ w.heap.size)
    (h : ∀ v' w', w'.ownsRow base e 1 v' (n + 1) (xs ++ [V z]) → w.grownBy w' v.ownBlock → (v'.ownBlock = v.ownBlock ∨ v'.ownBlock = some w.heap.size) → wpList Tryz.prog ops Q rest (a.put o.dst v') w') : wpList Tryz.prog ops Q (o :: rest) a w := by
  refine appS (V := fun _ : Unit => V z) he hgd s x ho base v n xs hs hown (sb + 1) (some ⟨sb, 0, none⟩) 1 1 [()] hx (fun e => by cases e) ⟨rfl, fun i hi => ⟨_, rfl, Nat.lt_succ_self _, ?_⟩⟩ (fun _ => h1) hb h63 hbase h
  have : i = 0 := by simp at hi; exact hi
  subst this
  exact hc
/-- a result: a slice of bytes (numbers) of its own. -/
def PNew {α : Type} (V : α → Value) (e : TypeId) (w : World) (zs : List α) (en : Ending) (w' : World) : Prop :=
  ∃ v, en = .returned v ∧ w'.ownsRow w.heap.size e 1 v zs.length (zs.map V) ∧ Chg (fun _ => False) w w'
end Go.Proofs.YtnpihllannobgaaGreatDoor
