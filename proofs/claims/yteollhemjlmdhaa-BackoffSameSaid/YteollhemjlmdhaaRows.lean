/-
  No cell of these rows narrows 'for every input' (looked for: loops, veiled, ifaces, maps, wideKeys, modest, calm, conditions, laid).
  DERIVED. THE GIVEN ROWS OF THIS SEAT. 4 by the template 'for every input the law returns true; each argument reads behind the call as it read before'; 0 by the template 'total and deterministic' (their statements: YteollhemjlmdhaaTotals.lean).
  GIVEN WITH THE SEED: the statements are not yours to turn. If you find one false, say at which input.
  Laid BY PROGRAM, IN A SANDBOX (cutbox-rows.mjs): the forced cells as the released guide's own fill.sh prints them over the translation 44b63b8f10a1b02a… (all of the seat's roots in one cut). By AI agents, Wed Nov 11 2026. No macro, syntax, notation, axiom, sorry.
-/
import Derived.Test.YteollhemjlmdhaaChecked
import GoSem.Claim
import GoSem.ClaimJoined
import GoSem.ClaimMapViews
import Derived.JoinedTies
import Derived.KernelRfl
namespace Go.Proofs.Yteollhemjlmdhaa
/- THE CELL 'sum', in the pinned program and in every row, IS THE sha256 OF THE DUMP (.gsa) THAT YteollhemjlmdhaaProg.lean LOADS. Nothing in Lean hashes anything: it is a label: what it is worth is what the hold of that sum in a sandbox is worth. -/
noncomputable def Try.pinned : Pinned := { name := "yteollhemjlmdhaa", sum := "44b63b8f10a1b02a3b7bca236c729fa7457409d558a749b7c816add78cde944f", checked := Try.checked }
namespace Rows
def none {H : Type} : Left H := { results := [], args := [] }

/-- 'campanilelaw11.BackoffSame': WHATEVER THE INPUT: true; the input reads as it did. -/
def backoffSameSpec : ChangeSpec := { name := "backoffSame", fn := fun _ => fun
  | [d1, d2, d3, d4] => { results := [.lit (.bool true)], args := [d1, d2, d3, d4] }
  | _ => none }
def backoffSameRow : OpenClaim := { program := "yteollhemjlmdhaa", sum := "44b63b8f10a1b02a3b7bca236c729fa7457409d558a749b7c816add78cde944f", func := "campanile/campanilelaw11.BackoffSame", spec := "backoffSame", apart := false }
def BackoffSameSaid : Prop := backoffSameRow.holds Try.pinned (OpenSpec.ofChange backoffSameSpec)

/-- ITS FALSE NEIGHBOUR: 'it returns false'. Refute it at one input. -/
def backoffSameWrong : ChangeSpec := { name := "backoffSame", fn := fun _ => fun
  | [d1, d2, d3, d4] => { results := [.lit (.bool false)], args := [d1, d2, d3, d4] }
  | _ => none }
def BackoffSameWrongFalsely : Prop := backoffSameRow.holds Try.pinned (OpenSpec.ofChange backoffSameWrong)

/-- 'campanilelaw11.BackoffPlays': WHATEVER THE INPUT: true; the input reads as it did. -/
def backoffPlaysSpec : ChangeSpec := { name := "backoffPlays", fn := fun _ => fun
  | [d1, d2, d3, d4] => { results := [.lit (.bool true)], args := [d1, d2, d3, d4] }
  | _ => none }
def backoffPlaysRow : OpenClaim := { program := "yteollhemjlmdhaa", sum := "44b63b8f10a1b02a3b7bca236c729fa7457409d558a749b7c816add78cde944f", func := "campanile/campanilelaw11.BackoffPlays", spec := "backoffPlays", apart := false }
def BackoffPlaysSaid : Prop := backoffPlaysRow.holds Try.pinned (OpenSpec.ofChange backoffPlaysSpec)

/-- ITS FALSE NEIGHBOUR: 'it returns false'. Refute it at one input. -/
def backoffPlaysWrong : ChangeSpec := { name := "backoffPlays", fn := fun _ => fun
  | [d1, d2, d3, d4] => { results := [.lit (.bool false)], args := [d1, d2, d3, d4] }
  | _ => none }
def BackoffPlaysWrongFalsely : Prop := backoffPlaysRow.holds Try.pinned (OpenSpec.ofChange backoffPlaysWrong)

/-- 'campanilelaw11.BackoffNil': WHATEVER THE INPUT: true; the input reads as it did. -/
def backoffNilSpec : ChangeSpec := { name := "backoffNil", fn := fun _ => fun
  | [d] => { results := [.lit (.bool true)], args := [d] }
  | _ => none }
def backoffNilRow : OpenClaim := { program := "yteollhemjlmdhaa", sum := "44b63b8f10a1b02a3b7bca236c729fa7457409d558a749b7c816add78cde944f", func := "campanile/campanilelaw11.BackoffNil", spec := "backoffNil", apart := false }
def BackoffNilSaid : Prop := backoffNilRow.holds Try.pinned (OpenSpec.ofChange backoffNilSpec)

/-- ITS FALSE NEIGHBOUR: 'it returns false'. Refute it at one input. -/
def backoffNilWrong : ChangeSpec := { name := "backoffNil", fn := fun _ => fun
  | [d] => { results := [.lit (.bool false)], args := [d] }
  | _ => none }
def BackoffNilWrongFalsely : Prop := backoffNilRow.holds Try.pinned (OpenSpec.ofChange backoffNilWrong)

/-- 'campanilelaw11.BackoffEnds': WHATEVER THE INPUT: true; the input reads as it did. -/
def backoffEndsSpec : ChangeSpec := { name := "backoffEnds", fn := fun _ => fun
  | [d1, d2, d3, d4] => { results := [.lit (.bool true)], args := [d1, d2, d3, d4] }
  | _ => none }
def backoffEndsRow : OpenClaim := { program := "yteollhemjlmdhaa", sum := "44b63b8f10a1b02a3b7bca236c729fa7457409d558a749b7c816add78cde944f", func := "campanile/campanilelaw11.BackoffEnds", spec := "backoffEnds", apart := false }
def BackoffEndsSaid : Prop := backoffEndsRow.holds Try.pinned (OpenSpec.ofChange backoffEndsSpec)

/-- ITS FALSE NEIGHBOUR: 'it returns false'. Refute it at one input. -/
def backoffEndsWrong : ChangeSpec := { name := "backoffEnds", fn := fun _ => fun
  | [d1, d2, d3, d4] => { results := [.lit (.bool false)], args := [d1, d2, d3, d4] }
  | _ => none }
def BackoffEndsWrongFalsely : Prop := backoffEndsRow.holds Try.pinned (OpenSpec.ofChange backoffEndsWrong)

/- THE SECOND FORM. 'bulk': how many values and letters a reading holds, each counted each time it is reached (what is shared counts as often as it is met; a slice's spare places count too). A statement '..UptoSaid' is the law's where the arguments, and the package variables that the reading takes, are together of bulk at most 1048576: NARROWER than '..Said'. Prove '..Said' where nothing that the law and all that it calls make is longer than what came in: it says more and counts as full. Else prove '..UptoSaid'. A law counts once. -/
mutual
def uptoBulk {H : Type} : DataW H → Nat
  | .lit (.string bytes) => bytes.length + 1
  | .lit _ => 1
  | .nil => 1
  | .ptr d => uptoBulk d + 1
  | .slice elems spare => uptoBulkAll elems + uptoBulkAll spare + 1
  | .agg parts => uptoBulkAll parts + 1
  | .iface _ d => uptoBulk d + 1
  | .map entries => uptoBulkEntries entries + 1
  | .held _ => 1
def uptoBulkAll {H : Type} : List (DataW H) → Nat
  | [] => 0
  | d :: r => uptoBulk d + uptoBulkAll r
def uptoBulkEntries {H : Type} : List (Lit × DataW H) → Nat
  | [] => 0
  | x :: r => uptoBulkEntry x + uptoBulkEntries r
def uptoBulkEntry {H : Type} : Lit × DataW H → Nat
  | (.string bytes, d) => bytes.length + uptoBulk d + 1
  | (_, d) => uptoBulk d + 1
 end
def uptoSmall : (H : Type) → List (DataW H) → Bool := fun _ ds => decide (uptoBulkAll ds ≤ 1048576)
def OpenSpec.upto (s : _root_.Go.ChangeSpec) : _root_.Go.OpenSpec := { _root_.Go.OpenSpec.ofChange s with cond := some uptoSmall }

/-- 'campanilelaw11.BackoffSame', WHERE WHAT IT READS IS OF BULK AT MOST 1048576: true; the input reads as it did. -/
def backoffSameUptoRow : OpenClaim := { program := "yteollhemjlmdhaa", sum := "44b63b8f10a1b02a3b7bca236c729fa7457409d558a749b7c816add78cde944f", func := "campanile/campanilelaw11.BackoffSame", spec := "backoffSame", apart := false, narrowed := true }
def BackoffSameUptoSaid : Prop := backoffSameUptoRow.holds Try.pinned (OpenSpec.upto backoffSameSpec)

/-- 'campanilelaw11.BackoffPlays', WHERE WHAT IT READS IS OF BULK AT MOST 1048576: true; the input reads as it did. -/
def backoffPlaysUptoRow : OpenClaim := { program := "yteollhemjlmdhaa", sum := "44b63b8f10a1b02a3b7bca236c729fa7457409d558a749b7c816add78cde944f", func := "campanile/campanilelaw11.BackoffPlays", spec := "backoffPlays", apart := false, narrowed := true }
def BackoffPlaysUptoSaid : Prop := backoffPlaysUptoRow.holds Try.pinned (OpenSpec.upto backoffPlaysSpec)

/-- 'campanilelaw11.BackoffNil', WHERE WHAT IT READS IS OF BULK AT MOST 1048576: true; the input reads as it did. -/
def backoffNilUptoRow : OpenClaim := { program := "yteollhemjlmdhaa", sum := "44b63b8f10a1b02a3b7bca236c729fa7457409d558a749b7c816add78cde944f", func := "campanile/campanilelaw11.BackoffNil", spec := "backoffNil", apart := false, narrowed := true }
def BackoffNilUptoSaid : Prop := backoffNilUptoRow.holds Try.pinned (OpenSpec.upto backoffNilSpec)

/-- 'campanilelaw11.BackoffEnds', WHERE WHAT IT READS IS OF BULK AT MOST 1048576: true; the input reads as it did. -/
def backoffEndsUptoRow : OpenClaim := { program := "yteollhemjlmdhaa", sum := "44b63b8f10a1b02a3b7bca236c729fa7457409d558a749b7c816add78cde944f", func := "campanile/campanilelaw11.BackoffEnds", spec := "backoffEnds", apart := false, narrowed := true }
def BackoffEndsUptoSaid : Prop := backoffEndsUptoRow.holds Try.pinned (OpenSpec.upto backoffEndsSpec)

end Rows
end Go.Proofs.Yteollhemjlmdhaa
