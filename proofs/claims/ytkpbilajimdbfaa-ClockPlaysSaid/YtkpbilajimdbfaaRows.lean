/-
  No cell of these rows narrows 'for every input' (looked for: loops, veiled, ifaces, maps, wideKeys, modest, calm, conditions, laid).
  DERIVED. THE GIVEN ROWS OF THIS SEAT. 6 by the template 'for every input the law returns true; each argument reads behind the call as it read before'; 0 by the template 'total and deterministic' (their statements: YtkpbilajimdbfaaTotals.lean).
  GIVEN WITH THE SEED: the statements are not yours to turn. If you find one false, say at which input.
  Laid BY PROGRAM, IN A SANDBOX (cutbox-rows.mjs): the forced cells as the released guide's own fill.sh prints them over the translation 1c2e753896e0c7ef… (all of the seat's roots in one cut). By AI agents, Wed Nov 11 2026. No macro, syntax, notation, axiom, sorry.
-/
import Derived.Test.YtkpbilajimdbfaaChecked
import GoSem.Claim
import GoSem.ClaimJoined
import GoSem.ClaimMapViews
import Derived.JoinedTies
import Derived.KernelRfl
namespace Go.Proofs.Ytkpbilajimdbfaa
/- THE CELL 'sum', in the pinned program and in every row, IS THE sha256 OF THE DUMP (.gsa) THAT YtkpbilajimdbfaaProg.lean LOADS. Nothing in Lean hashes anything: it is a label: what it is worth is what the hold of that sum in a sandbox is worth. -/
noncomputable def Try.pinned : Pinned := { name := "ytkpbilajimdbfaa", sum := "1c2e753896e0c7ef8cb7479ceb8d75fd2bd101a2891511864852d32e3d0d6aa4", checked := Try.checked }
namespace Rows
def none {H : Type} : Left H := { results := [], args := [] }

/-- 'campanilelaw4.ClockOrder': WHATEVER THE INPUT: true; the input reads as it did. -/
def clockOrderSpec : ChangeSpec := { name := "clockOrder", fn := fun _ => fun
  | [d1, d2] => { results := [.lit (.bool true)], args := [d1, d2] }
  | _ => none }
def clockOrderRow : OpenClaim := { program := "ytkpbilajimdbfaa", sum := "1c2e753896e0c7ef8cb7479ceb8d75fd2bd101a2891511864852d32e3d0d6aa4", func := "campanile/campanilelaw4.ClockOrder", spec := "clockOrder", apart := false }
def ClockOrderSaid : Prop := clockOrderRow.holds Try.pinned (OpenSpec.ofChange clockOrderSpec)

/-- ITS FALSE NEIGHBOUR: 'it returns false'. Refute it at one input. -/
def clockOrderWrong : ChangeSpec := { name := "clockOrder", fn := fun _ => fun
  | [d1, d2] => { results := [.lit (.bool false)], args := [d1, d2] }
  | _ => none }
def ClockOrderWrongFalsely : Prop := clockOrderRow.holds Try.pinned (OpenSpec.ofChange clockOrderWrong)

/-- 'campanilelaw4.ClockHalf': WHATEVER THE INPUT: true; the input reads as it did. -/
def clockHalfSpec : ChangeSpec := { name := "clockHalf", fn := fun _ => fun
  | [d1, d2] => { results := [.lit (.bool true)], args := [d1, d2] }
  | _ => none }
def clockHalfRow : OpenClaim := { program := "ytkpbilajimdbfaa", sum := "1c2e753896e0c7ef8cb7479ceb8d75fd2bd101a2891511864852d32e3d0d6aa4", func := "campanile/campanilelaw4.ClockHalf", spec := "clockHalf", apart := false }
def ClockHalfSaid : Prop := clockHalfRow.holds Try.pinned (OpenSpec.ofChange clockHalfSpec)

/-- ITS FALSE NEIGHBOUR: 'it returns false'. Refute it at one input. -/
def clockHalfWrong : ChangeSpec := { name := "clockHalf", fn := fun _ => fun
  | [d1, d2] => { results := [.lit (.bool false)], args := [d1, d2] }
  | _ => none }
def ClockHalfWrongFalsely : Prop := clockHalfRow.holds Try.pinned (OpenSpec.ofChange clockHalfWrong)

/-- 'campanilelaw4.ClockDrifts': WHATEVER THE INPUT: true; the input reads as it did. -/
def clockDriftsSpec : ChangeSpec := { name := "clockDrifts", fn := fun _ => fun
  | [d1, d2] => { results := [.lit (.bool true)], args := [d1, d2] }
  | _ => none }
def clockDriftsRow : OpenClaim := { program := "ytkpbilajimdbfaa", sum := "1c2e753896e0c7ef8cb7479ceb8d75fd2bd101a2891511864852d32e3d0d6aa4", func := "campanile/campanilelaw4.ClockDrifts", spec := "clockDrifts", apart := false }
def ClockDriftsSaid : Prop := clockDriftsRow.holds Try.pinned (OpenSpec.ofChange clockDriftsSpec)

/-- ITS FALSE NEIGHBOUR: 'it returns false'. Refute it at one input. -/
def clockDriftsWrong : ChangeSpec := { name := "clockDrifts", fn := fun _ => fun
  | [d1, d2] => { results := [.lit (.bool false)], args := [d1, d2] }
  | _ => none }
def ClockDriftsWrongFalsely : Prop := clockDriftsRow.holds Try.pinned (OpenSpec.ofChange clockDriftsWrong)

/-- 'campanilelaw4.ClockPlays': WHATEVER THE INPUT: true; the input reads as it did. -/
def clockPlaysSpec : ChangeSpec := { name := "clockPlays", fn := fun _ => fun
  | [d] => { results := [.lit (.bool true)], args := [d] }
  | _ => none }
def clockPlaysRow : OpenClaim := { program := "ytkpbilajimdbfaa", sum := "1c2e753896e0c7ef8cb7479ceb8d75fd2bd101a2891511864852d32e3d0d6aa4", func := "campanile/campanilelaw4.ClockPlays", spec := "clockPlays", apart := false }
def ClockPlaysSaid : Prop := clockPlaysRow.holds Try.pinned (OpenSpec.ofChange clockPlaysSpec)

/-- ITS FALSE NEIGHBOUR: 'it returns false'. Refute it at one input. -/
def clockPlaysWrong : ChangeSpec := { name := "clockPlays", fn := fun _ => fun
  | [d] => { results := [.lit (.bool false)], args := [d] }
  | _ => none }
def ClockPlaysWrongFalsely : Prop := clockPlaysRow.holds Try.pinned (OpenSpec.ofChange clockPlaysWrong)

/-- 'campanilelaw4.ClockNil': WHATEVER THE INPUT: true; the input reads as it did. -/
def clockNilSpec : ChangeSpec := { name := "clockNil", fn := fun _ => fun
  | [d] => { results := [.lit (.bool true)], args := [d] }
  | _ => none }
def clockNilRow : OpenClaim := { program := "ytkpbilajimdbfaa", sum := "1c2e753896e0c7ef8cb7479ceb8d75fd2bd101a2891511864852d32e3d0d6aa4", func := "campanile/campanilelaw4.ClockNil", spec := "clockNil", apart := false }
def ClockNilSaid : Prop := clockNilRow.holds Try.pinned (OpenSpec.ofChange clockNilSpec)

/-- ITS FALSE NEIGHBOUR: 'it returns false'. Refute it at one input. -/
def clockNilWrong : ChangeSpec := { name := "clockNil", fn := fun _ => fun
  | [d] => { results := [.lit (.bool false)], args := [d] }
  | _ => none }
def ClockNilWrongFalsely : Prop := clockNilRow.holds Try.pinned (OpenSpec.ofChange clockNilWrong)

/-- 'campanilelaw4.ClockMoves': WHATEVER THE INPUT: true; the input reads as it did. -/
def clockMovesSpec : ChangeSpec := { name := "clockMoves", fn := fun _ => fun
  | [d1, d2] => { results := [.lit (.bool true)], args := [d1, d2] }
  | _ => none }
def clockMovesRow : OpenClaim := { program := "ytkpbilajimdbfaa", sum := "1c2e753896e0c7ef8cb7479ceb8d75fd2bd101a2891511864852d32e3d0d6aa4", func := "campanile/campanilelaw4.ClockMoves", spec := "clockMoves", apart := false }
def ClockMovesSaid : Prop := clockMovesRow.holds Try.pinned (OpenSpec.ofChange clockMovesSpec)

/-- ITS FALSE NEIGHBOUR: 'it returns false'. Refute it at one input. -/
def clockMovesWrong : ChangeSpec := { name := "clockMoves", fn := fun _ => fun
  | [d1, d2] => { results := [.lit (.bool false)], args := [d1, d2] }
  | _ => none }
def ClockMovesWrongFalsely : Prop := clockMovesRow.holds Try.pinned (OpenSpec.ofChange clockMovesWrong)

/- THE SECOND FORM. 'bulk': how many values and letters a reading holds, each counted each time it is reached (what is shared counts as often as it is met; a slice's spare places count too). A statement '..UptoSaid' is the law's where the arguments, and the package variables that the reading takes, are together of bulk at most 1048576: NARROWER than '..Said'. Prove '..Said' where nothing that the law and all that it calls make is longer than what came in: it says more and counts as full. Else prove '..UptoSaid'. A law counts once. -/
mutual
def uptoBulk {H : Type} : DataW H → Nat
  | .lit (.string bytes) => bytes.length + 1
  | .lit _ => 1
  | .nil => 1
  | .ptr d => uptoBulk d + 1
  | .slice elems spare => uptoBulkAll elems + uptoBulkAll spare + 1
  | .agg parts => uptoBulkAll parts + 1
  | .iface _ d => uptoBulk d + 1
  | .map entries => uptoBulkEntries entries + 1
  | .held _ => 1
def uptoBulkAll {H : Type} : List (DataW H) → Nat
  | [] => 0
  | d :: r => uptoBulk d + uptoBulkAll r
def uptoBulkEntries {H : Type} : List (Lit × DataW H) → Nat
  | [] => 0
  | x :: r => uptoBulkEntry x + uptoBulkEntries r
def uptoBulkEntry {H : Type} : Lit × DataW H → Nat
  | (.string bytes, d) => bytes.length + uptoBulk d + 1
  | (_, d) => uptoBulk d + 1
 end
def uptoSmall : (H : Type) → List (DataW H) → Bool := fun _ ds => decide (uptoBulkAll ds ≤ 1048576)
def OpenSpec.upto (s : _root_.Go.ChangeSpec) : _root_.Go.OpenSpec := { _root_.Go.OpenSpec.ofChange s with cond := some uptoSmall }

/-- 'campanilelaw4.ClockOrder', WHERE WHAT IT READS IS OF BULK AT MOST 1048576: true; the input reads as it did. -/
def clockOrderUptoRow : OpenClaim := { program := "ytkpbilajimdbfaa", sum := "1c2e753896e0c7ef8cb7479ceb8d75fd2bd101a2891511864852d32e3d0d6aa4", func := "campanile/campanilelaw4.ClockOrder", spec := "clockOrder", apart := false, narrowed := true }
def ClockOrderUptoSaid : Prop := clockOrderUptoRow.holds Try.pinned (OpenSpec.upto clockOrderSpec)

/-- 'campanilelaw4.ClockHalf', WHERE WHAT IT READS IS OF BULK AT MOST 1048576: true; the input reads as it did. -/
def clockHalfUptoRow : OpenClaim := { program := "ytkpbilajimdbfaa", sum := "1c2e753896e0c7ef8cb7479ceb8d75fd2bd101a2891511864852d32e3d0d6aa4", func := "campanile/campanilelaw4.ClockHalf", spec := "clockHalf", apart := false, narrowed := true }
def ClockHalfUptoSaid : Prop := clockHalfUptoRow.holds Try.pinned (OpenSpec.upto clockHalfSpec)

/-- 'campanilelaw4.ClockDrifts', WHERE WHAT IT READS IS OF BULK AT MOST 1048576: true; the input reads as it did. -/
def clockDriftsUptoRow : OpenClaim := { program := "ytkpbilajimdbfaa", sum := "1c2e753896e0c7ef8cb7479ceb8d75fd2bd101a2891511864852d32e3d0d6aa4", func := "campanile/campanilelaw4.ClockDrifts", spec := "clockDrifts", apart := false, narrowed := true }
def ClockDriftsUptoSaid : Prop := clockDriftsUptoRow.holds Try.pinned (OpenSpec.upto clockDriftsSpec)

/-- 'campanilelaw4.ClockPlays', WHERE WHAT IT READS IS OF BULK AT MOST 1048576: true; the input reads as it did. -/
def clockPlaysUptoRow : OpenClaim := { program := "ytkpbilajimdbfaa", sum := "1c2e753896e0c7ef8cb7479ceb8d75fd2bd101a2891511864852d32e3d0d6aa4", func := "campanile/campanilelaw4.ClockPlays", spec := "clockPlays", apart := false, narrowed := true }
def ClockPlaysUptoSaid : Prop := clockPlaysUptoRow.holds Try.pinned (OpenSpec.upto clockPlaysSpec)

/-- 'campanilelaw4.ClockNil', WHERE WHAT IT READS IS OF BULK AT MOST 1048576: true; the input reads as it did. -/
def clockNilUptoRow : OpenClaim := { program := "ytkpbilajimdbfaa", sum := "1c2e753896e0c7ef8cb7479ceb8d75fd2bd101a2891511864852d32e3d0d6aa4", func := "campanile/campanilelaw4.ClockNil", spec := "clockNil", apart := false, narrowed := true }
def ClockNilUptoSaid : Prop := clockNilUptoRow.holds Try.pinned (OpenSpec.upto clockNilSpec)

/-- 'campanilelaw4.ClockMoves', WHERE WHAT IT READS IS OF BULK AT MOST 1048576: true; the input reads as it did. -/
def clockMovesUptoRow : OpenClaim := { program := "ytkpbilajimdbfaa", sum := "1c2e753896e0c7ef8cb7479ceb8d75fd2bd101a2891511864852d32e3d0d6aa4", func := "campanile/campanilelaw4.ClockMoves", spec := "clockMoves", apart := false, narrowed := true }
def ClockMovesUptoSaid : Prop := clockMovesUptoRow.holds Try.pinned (OpenSpec.upto clockMovesSpec)

end Rows
end Go.Proofs.Ytkpbilajimdbfaa
