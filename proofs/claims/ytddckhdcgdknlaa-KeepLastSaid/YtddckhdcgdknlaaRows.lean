/-
  No cell of these rows narrows 'for every input' (looked for: loops, veiled, ifaces, maps, wideKeys, modest, calm, conditions, laid).
  DERIVED. THE GIVEN ROWS OF THIS SEAT. 4 by the template 'for every input the law returns true; each argument reads behind the call as it read before'; 0 by the template 'total and deterministic' (their statements: YtddckhdcgdknlaaTotals.lean).
  GIVEN WITH THE SEED: the statements are not yours to turn. If you find one false, say at which input.
  Laid BY PROGRAM, IN A SANDBOX (cutbox-rows.mjs): the forced cells as the released guide's own fill.sh prints them over the translation 3889e27428a2dd84… (all of the seat's roots in one cut). By AI agents, Wed Nov 11 2026. No macro, syntax, notation, axiom, sorry.
-/
import Derived.Test.YtddckhdcgdknlaaChecked
import GoSem.Claim
import GoSem.ClaimJoined
import GoSem.ClaimMapViews
import Derived.JoinedTies
import Derived.KernelRfl
namespace Go.Proofs.Ytddckhdcgdknlaa
/- THE CELL 'sum', in the pinned program and in every row, IS THE sha256 OF THE DUMP (.gsa) THAT YtddckhdcgdknlaaProg.lean LOADS. Nothing in Lean hashes anything: it is a label: what it is worth is what the hold of that sum in a sandbox is worth. -/
noncomputable def Try.pinned : Pinned := { name := "ytddckhdcgdknlaa", sum := "3889e27428a2dd84c805cc32c26c133956398249bc27262403d69260dd110d6c", checked := Try.checked }
namespace Rows
def none {H : Type} : Left H := { results := [], args := [] }

/-- 'campanilelaw15.KeepPlays': WHATEVER THE INPUT: true; the input reads as it did. -/
def keepPlaysSpec : ChangeSpec := { name := "keepPlays", fn := fun _ => fun
  | [d1, d2] => { results := [.lit (.bool true)], args := [d1, d2] }
  | _ => none }
def keepPlaysRow : OpenClaim := { program := "ytddckhdcgdknlaa", sum := "3889e27428a2dd84c805cc32c26c133956398249bc27262403d69260dd110d6c", func := "campanile/campanilelaw15.KeepPlays", spec := "keepPlays", apart := false }
def KeepPlaysSaid : Prop := keepPlaysRow.holds Try.pinned (OpenSpec.ofChange keepPlaysSpec)

/-- ITS FALSE NEIGHBOUR: 'it returns false'. Refute it at one input. -/
def keepPlaysWrong : ChangeSpec := { name := "keepPlays", fn := fun _ => fun
  | [d1, d2] => { results := [.lit (.bool false)], args := [d1, d2] }
  | _ => none }
def KeepPlaysWrongFalsely : Prop := keepPlaysRow.holds Try.pinned (OpenSpec.ofChange keepPlaysWrong)

/-- 'campanilelaw15.KeepNil': WHATEVER THE INPUT: true; the input reads as it did. -/
def keepNilSpec : ChangeSpec := { name := "keepNil", fn := fun _ => fun
  | [d] => { results := [.lit (.bool true)], args := [d] }
  | _ => none }
def keepNilRow : OpenClaim := { program := "ytddckhdcgdknlaa", sum := "3889e27428a2dd84c805cc32c26c133956398249bc27262403d69260dd110d6c", func := "campanile/campanilelaw15.KeepNil", spec := "keepNil", apart := false }
def KeepNilSaid : Prop := keepNilRow.holds Try.pinned (OpenSpec.ofChange keepNilSpec)

/-- ITS FALSE NEIGHBOUR: 'it returns false'. Refute it at one input. -/
def keepNilWrong : ChangeSpec := { name := "keepNil", fn := fun _ => fun
  | [d] => { results := [.lit (.bool false)], args := [d] }
  | _ => none }
def KeepNilWrongFalsely : Prop := keepNilRow.holds Try.pinned (OpenSpec.ofChange keepNilWrong)

/-- 'campanilelaw15.KeepJust': WHATEVER THE INPUT: true; the input reads as it did. -/
def keepJustSpec : ChangeSpec := { name := "keepJust", fn := fun _ => fun
  | [d1, d2] => { results := [.lit (.bool true)], args := [d1, d2] }
  | _ => none }
def keepJustRow : OpenClaim := { program := "ytddckhdcgdknlaa", sum := "3889e27428a2dd84c805cc32c26c133956398249bc27262403d69260dd110d6c", func := "campanile/campanilelaw15.KeepJust", spec := "keepJust", apart := false }
def KeepJustSaid : Prop := keepJustRow.holds Try.pinned (OpenSpec.ofChange keepJustSpec)

/-- ITS FALSE NEIGHBOUR: 'it returns false'. Refute it at one input. -/
def keepJustWrong : ChangeSpec := { name := "keepJust", fn := fun _ => fun
  | [d1, d2] => { results := [.lit (.bool false)], args := [d1, d2] }
  | _ => none }
def KeepJustWrongFalsely : Prop := keepJustRow.holds Try.pinned (OpenSpec.ofChange keepJustWrong)

/-- 'campanilelaw15.KeepLast': WHATEVER THE INPUT: true; the input reads as it did. -/
def keepLastSpec : ChangeSpec := { name := "keepLast", fn := fun _ => fun
  | [d1, d2, d3] => { results := [.lit (.bool true)], args := [d1, d2, d3] }
  | _ => none }
def keepLastRow : OpenClaim := { program := "ytddckhdcgdknlaa", sum := "3889e27428a2dd84c805cc32c26c133956398249bc27262403d69260dd110d6c", func := "campanile/campanilelaw15.KeepLast", spec := "keepLast", apart := false }
def KeepLastSaid : Prop := keepLastRow.holds Try.pinned (OpenSpec.ofChange keepLastSpec)

/-- ITS FALSE NEIGHBOUR: 'it returns false'. Refute it at one input. -/
def keepLastWrong : ChangeSpec := { name := "keepLast", fn := fun _ => fun
  | [d1, d2, d3] => { results := [.lit (.bool false)], args := [d1, d2, d3] }
  | _ => none }
def KeepLastWrongFalsely : Prop := keepLastRow.holds Try.pinned (OpenSpec.ofChange keepLastWrong)

/- THE SECOND FORM. 'bulk': how many values and letters a reading holds, each counted each time it is reached (what is shared counts as often as it is met; a slice's spare places count too). A statement '..UptoSaid' is the law's where the arguments, and the package variables that the reading takes, are together of bulk at most 1048576: NARROWER than '..Said'. Prove '..Said' where nothing that the law and all that it calls make is longer than what came in: it says more and counts as full. Else prove '..UptoSaid'. A law counts once. -/
mutual
def uptoBulk {H : Type} : DataW H → Nat
  | .lit (.string bytes) => bytes.length + 1
  | .lit _ => 1
  | .nil => 1
  | .ptr d => uptoBulk d + 1
  | .slice elems spare => uptoBulkAll elems + uptoBulkAll spare + 1
  | .agg parts => uptoBulkAll parts + 1
  | .iface _ d => uptoBulk d + 1
  | .map entries => uptoBulkEntries entries + 1
  | .held _ => 1
def uptoBulkAll {H : Type} : List (DataW H) → Nat
  | [] => 0
  | d :: r => uptoBulk d + uptoBulkAll r
def uptoBulkEntries {H : Type} : List (Lit × DataW H) → Nat
  | [] => 0
  | x :: r => uptoBulkEntry x + uptoBulkEntries r
def uptoBulkEntry {H : Type} : Lit × DataW H → Nat
  | (.string bytes, d) => bytes.length + uptoBulk d + 1
  | (_, d) => uptoBulk d + 1
 end
def uptoSmall : (H : Type) → List (DataW H) → Bool := fun _ ds => decide (uptoBulkAll ds ≤ 1048576)
def OpenSpec.upto (s : _root_.Go.ChangeSpec) : _root_.Go.OpenSpec := { _root_.Go.OpenSpec.ofChange s with cond := some uptoSmall }

/-- 'campanilelaw15.KeepPlays', WHERE WHAT IT READS IS OF BULK AT MOST 1048576: true; the input reads as it did. -/
def keepPlaysUptoRow : OpenClaim := { program := "ytddckhdcgdknlaa", sum := "3889e27428a2dd84c805cc32c26c133956398249bc27262403d69260dd110d6c", func := "campanile/campanilelaw15.KeepPlays", spec := "keepPlays", apart := false, narrowed := true }
def KeepPlaysUptoSaid : Prop := keepPlaysUptoRow.holds Try.pinned (OpenSpec.upto keepPlaysSpec)

/-- 'campanilelaw15.KeepNil', WHERE WHAT IT READS IS OF BULK AT MOST 1048576: true; the input reads as it did. -/
def keepNilUptoRow : OpenClaim := { program := "ytddckhdcgdknlaa", sum := "3889e27428a2dd84c805cc32c26c133956398249bc27262403d69260dd110d6c", func := "campanile/campanilelaw15.KeepNil", spec := "keepNil", apart := false, narrowed := true }
def KeepNilUptoSaid : Prop := keepNilUptoRow.holds Try.pinned (OpenSpec.upto keepNilSpec)

/-- 'campanilelaw15.KeepJust', WHERE WHAT IT READS IS OF BULK AT MOST 1048576: true; the input reads as it did. -/
def keepJustUptoRow : OpenClaim := { program := "ytddckhdcgdknlaa", sum := "3889e27428a2dd84c805cc32c26c133956398249bc27262403d69260dd110d6c", func := "campanile/campanilelaw15.KeepJust", spec := "keepJust", apart := false, narrowed := true }
def KeepJustUptoSaid : Prop := keepJustUptoRow.holds Try.pinned (OpenSpec.upto keepJustSpec)

/-- 'campanilelaw15.KeepLast', WHERE WHAT IT READS IS OF BULK AT MOST 1048576: true; the input reads as it did. -/
def keepLastUptoRow : OpenClaim := { program := "ytddckhdcgdknlaa", sum := "3889e27428a2dd84c805cc32c26c133956398249bc27262403d69260dd110d6c", func := "campanile/campanilelaw15.KeepLast", spec := "keepLast", apart := false, narrowed := true }
def KeepLastUptoSaid : Prop := keepLastUptoRow.holds Try.pinned (OpenSpec.upto keepLastSpec)

end Rows
end Go.Proofs.Ytddckhdcgdknlaa
