/- A call of the script, in memory. No condition. -/
import Derived.Test.YtcdfoofkcgoapaaN
namespace Go.Proofs.Ytcdfoofkcgoapaa
set_option linter.unusedVariables false
open Go.ChangeShapes Go.WideShapes Go.ChangeAt Go.RowKit
def VCall (c : Int × Int × Int × Int) : List Value := [.int .i64 c.1, .int .i64 c.2.1, .int .i64 c.2.2.1, .int .i64 c.2.2.2]
theorem call_of_trod {H : Type} {enc : TypeId × Value → H} {w : World} {base : Nat} {spare : Nat → Bool} {held : Bool} (n : Nat) (cs : List Value) (y : DataW H × List MemPlace) (hl : cs.length = 4)
    (h : DataW.trod enc Try.prog w base spare held n 33 cs = some y) : ∃ z, cs = VCall z ∧ True := by
  match cs, hl with
  | [c0, c1, c2, c3], _ =>
    have F := fields_of_trod Try.underlying33 (by kernel_rfl) h
    obtain ⟨_, _, h0⟩ := F 0 _ c0 rfl rfl
    obtain ⟨_, _, h1⟩ := F 1 _ c1 rfl rfl
    obtain ⟨_, _, h2⟩ := F 2 _ c2 rfl rfl
    obtain ⟨_, _, h3⟩ := F 3 _ c3 rfl rfl
    obtain ⟨a, e0, _⟩ := DataW.trod_int Try.underlying3 h0
    obtain ⟨b, e1, _⟩ := DataW.trod_int Try.underlying3 h1
    obtain ⟨c, e2, _⟩ := DataW.trod_int Try.underlying3 h2
    obtain ⟨d, e3, _⟩ := DataW.trod_int Try.underlying3 h3
    exact ⟨(a, b, c, d), by rw [(List.cons.inj e0).1, (List.cons.inj e1).1, (List.cons.inj e2).1, (List.cons.inj e3).1]; rfl, trivial⟩
def Vk (w : World) (b : Nat) (c0 c1 c2 c3 : Int) : Prop := w.heap[b]? = some (.cells #[.int .i64 c0, .int .i64 c1, .int .i64 c2, .int .i64 c3] 33 (0, 0))
theorem Vk.keep {w w' : World} {b : Nat} {x y z u : Int} {S : Nat → Prop} (h : Vk w b x y z u) (g : Chg S w w') (hs : ¬ S b) : Vk w' b x y z u := Chg.keep g h hs
theorem Vk.c1 {w : World} {b : Nat} {x y z u : Int} (h : Vk w b x y z u) : w.cell? ⟨b, 1, none⟩ = some (.int .i64 y) := by rw [cell_of_block h]; rfl
theorem Vk.c2 {w : World} {b : Nat} {x y z u : Int} (h : Vk w b x y z u) : w.cell? ⟨b, 2, none⟩ = some (.int .i64 z) := by rw [cell_of_block h]; rfl
theorem Vk.c3 {w : World} {b : Nat} {x y z u : Int} (h : Vk w b x y z u) : w.cell? ⟨b, 3, none⟩ = some (.int .i64 u) := by rw [cell_of_block h]; rfl
end Go.Proofs.Ytcdfoofkcgoapaa
