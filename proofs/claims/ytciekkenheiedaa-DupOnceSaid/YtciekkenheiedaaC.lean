/- A call that came in: a Boolean and two numbers, each within its kind. No condition. -/
import Derived.Test.YtciekkenheiedaaDupOnce
namespace Go.Proofs.Ytciekkenheiedaa
set_option linter.unusedVariables false
open Go.ChangeShapes Go.WideShapes Go.ChangeAt Go.RowKit
theorem call_of_trod {H : Type} {enc : TypeId × Value → H} {w : World} {base : Nat} {spare : Nat → Bool} {held : Bool} (n : Nat) (cs : List Value) (y : DataW H × List MemPlace) (hl : cs.length = 3)
    (h : DataW.trod enc Try.prog w base spare held n 28 cs = some y) : ∃ z, cs = VCall z ∧ PW z.2 := by
  match cs, hl with
  | [c0, c1, c2], _ =>
    have F := fields_of_trod Try.underlying28 (by kernel_rfl) h
    obtain ⟨_, _, h0⟩ := F 0 _ c0 rfl rfl
    obtain ⟨_, _, h1⟩ := F 1 _ c1 rfl rfl
    obtain ⟨_, _, h2⟩ := F 2 _ c2 rfl rfl
    obtain ⟨a, e0, _⟩ := DataW.trod_bool Try.underlying4 h0
    obtain ⟨b, e1, _, w1⟩ := DataW.trod_int Try.underlying3 h1
    obtain ⟨c, e2, _, w2⟩ := DataW.trod_int Try.underlying3 h2
    exact ⟨(a, b, c), by rw [(List.cons.inj e0).1, (List.cons.inj e1).1, (List.cons.inj e2).1]; rfl, w1, w2⟩
end Go.Proofs.Ytciekkenheiedaa
