/-
  No cell of these rows narrows 'for every input' (looked for: loops, veiled, ifaces, maps, wideKeys, modest, calm, conditions, laid).
  DERIVED. THE GIVEN ROWS OF THIS SEAT. 6 by the template 'for every input the law returns true; each argument reads behind the call as it read before'; 0 by the template 'total and deterministic' (their statements: YtcdfoofkcgoapaaTotals.lean).
  GIVEN WITH THE SEED: the statements are not yours to turn. If you find one false, say at which input.
  Laid BY PROGRAM, IN A SANDBOX (cutbox-rows.mjs): the forced cells as the released guide's own fill.sh prints them over the translation 7e83b03190ff0ce5… (all of the seat's roots in one cut). By AI agents, Wed Nov 11 2026. No macro, syntax, notation, axiom, sorry.
-/
import Derived.Test.YtcdfoofkcgoapaaChecked
import GoSem.Claim
import GoSem.ClaimJoined
import GoSem.ClaimMapViews
import Derived.JoinedTies
import Derived.KernelRfl
namespace Go.Proofs.Ytcdfoofkcgoapaa
/- THE CELL 'sum', in the pinned program and in every row, IS THE sha256 OF THE DUMP (.gsa) THAT YtcdfoofkcgoapaaProg.lean LOADS. Nothing in Lean hashes anything: it is a label: what it is worth is what the hold of that sum in a sandbox is worth. -/
noncomputable def Try.pinned : Pinned := { name := "ytcdfoofkcgoapaa", sum := "7e83b03190ff0ce5d2308812828ccea4889c30bbd79ce28aa714852e179825a0", checked := Try.checked }
namespace Rows
def none {H : Type} : Left H := { results := [], args := [] }

/-- 'campanilelaw13.OffsetForms': WHATEVER THE INPUT: true; the input reads as it did. -/
def offsetFormsSpec : ChangeSpec := { name := "offsetForms", fn := fun _ => fun
  | [d1, d2, d3, d4, d5] => { results := [.lit (.bool true)], args := [d1, d2, d3, d4, d5] }
  | _ => none }
def offsetFormsRow : OpenClaim := { program := "ytcdfoofkcgoapaa", sum := "7e83b03190ff0ce5d2308812828ccea4889c30bbd79ce28aa714852e179825a0", func := "campanile/campanilelaw13.OffsetForms", spec := "offsetForms", apart := false }
def OffsetFormsSaid : Prop := offsetFormsRow.holds Try.pinned (OpenSpec.ofChange offsetFormsSpec)

/-- ITS FALSE NEIGHBOUR: 'it returns false'. Refute it at one input. -/
def offsetFormsWrong : ChangeSpec := { name := "offsetForms", fn := fun _ => fun
  | [d1, d2, d3, d4, d5] => { results := [.lit (.bool false)], args := [d1, d2, d3, d4, d5] }
  | _ => none }
def OffsetFormsWrongFalsely : Prop := offsetFormsRow.holds Try.pinned (OpenSpec.ofChange offsetFormsWrong)

/-- 'campanilelaw13.OffsetBoth': WHATEVER THE INPUT: true; the input reads as it did. -/
def offsetBothSpec : ChangeSpec := { name := "offsetBoth", fn := fun _ => fun
  | [d1, d2, d3] => { results := [.lit (.bool true)], args := [d1, d2, d3] }
  | _ => none }
def offsetBothRow : OpenClaim := { program := "ytcdfoofkcgoapaa", sum := "7e83b03190ff0ce5d2308812828ccea4889c30bbd79ce28aa714852e179825a0", func := "campanile/campanilelaw13.OffsetBoth", spec := "offsetBoth", apart := false }
def OffsetBothSaid : Prop := offsetBothRow.holds Try.pinned (OpenSpec.ofChange offsetBothSpec)

/-- ITS FALSE NEIGHBOUR: 'it returns false'. Refute it at one input. -/
def offsetBothWrong : ChangeSpec := { name := "offsetBoth", fn := fun _ => fun
  | [d1, d2, d3] => { results := [.lit (.bool false)], args := [d1, d2, d3] }
  | _ => none }
def OffsetBothWrongFalsely : Prop := offsetBothRow.holds Try.pinned (OpenSpec.ofChange offsetBothWrong)

/-- 'campanilelaw13.OffsetPlays': WHATEVER THE INPUT: true; the input reads as it did. -/
def offsetPlaysSpec : ChangeSpec := { name := "offsetPlays", fn := fun _ => fun
  | [d1, d2] => { results := [.lit (.bool true)], args := [d1, d2] }
  | _ => none }
def offsetPlaysRow : OpenClaim := { program := "ytcdfoofkcgoapaa", sum := "7e83b03190ff0ce5d2308812828ccea4889c30bbd79ce28aa714852e179825a0", func := "campanile/campanilelaw13.OffsetPlays", spec := "offsetPlays", apart := false }
def OffsetPlaysSaid : Prop := offsetPlaysRow.holds Try.pinned (OpenSpec.ofChange offsetPlaysSpec)

/-- ITS FALSE NEIGHBOUR: 'it returns false'. Refute it at one input. -/
def offsetPlaysWrong : ChangeSpec := { name := "offsetPlays", fn := fun _ => fun
  | [d1, d2] => { results := [.lit (.bool false)], args := [d1, d2] }
  | _ => none }
def OffsetPlaysWrongFalsely : Prop := offsetPlaysRow.holds Try.pinned (OpenSpec.ofChange offsetPlaysWrong)

/-- 'campanilelaw13.OffsetNil': WHATEVER THE INPUT: true; the input reads as it did. -/
def offsetNilSpec : ChangeSpec := { name := "offsetNil", fn := fun _ => fun
  | [d] => { results := [.lit (.bool true)], args := [d] }
  | _ => none }
def offsetNilRow : OpenClaim := { program := "ytcdfoofkcgoapaa", sum := "7e83b03190ff0ce5d2308812828ccea4889c30bbd79ce28aa714852e179825a0", func := "campanile/campanilelaw13.OffsetNil", spec := "offsetNil", apart := false }
def OffsetNilSaid : Prop := offsetNilRow.holds Try.pinned (OpenSpec.ofChange offsetNilSpec)

/-- ITS FALSE NEIGHBOUR: 'it returns false'. Refute it at one input. -/
def offsetNilWrong : ChangeSpec := { name := "offsetNil", fn := fun _ => fun
  | [d] => { results := [.lit (.bool false)], args := [d] }
  | _ => none }
def OffsetNilWrongFalsely : Prop := offsetNilRow.holds Try.pinned (OpenSpec.ofChange offsetNilWrong)

/-- 'campanilelaw13.OffsetTrue': WHATEVER THE INPUT: true; the input reads as it did. -/
def offsetTrueSpec : ChangeSpec := { name := "offsetTrue", fn := fun _ => fun
  | [d1, d2] => { results := [.lit (.bool true)], args := [d1, d2] }
  | _ => none }
def offsetTrueRow : OpenClaim := { program := "ytcdfoofkcgoapaa", sum := "7e83b03190ff0ce5d2308812828ccea4889c30bbd79ce28aa714852e179825a0", func := "campanile/campanilelaw13.OffsetTrue", spec := "offsetTrue", apart := false }
def OffsetTrueSaid : Prop := offsetTrueRow.holds Try.pinned (OpenSpec.ofChange offsetTrueSpec)

/-- ITS FALSE NEIGHBOUR: 'it returns false'. Refute it at one input. -/
def offsetTrueWrong : ChangeSpec := { name := "offsetTrue", fn := fun _ => fun
  | [d1, d2] => { results := [.lit (.bool false)], args := [d1, d2] }
  | _ => none }
def OffsetTrueWrongFalsely : Prop := offsetTrueRow.holds Try.pinned (OpenSpec.ofChange offsetTrueWrong)

/-- 'campanilelaw13.OffsetHops': WHATEVER THE INPUT: true; the input reads as it did. -/
def offsetHopsSpec : ChangeSpec := { name := "offsetHops", fn := fun _ => fun
  | [d1, d2, d3] => { results := [.lit (.bool true)], args := [d1, d2, d3] }
  | _ => none }
def offsetHopsRow : OpenClaim := { program := "ytcdfoofkcgoapaa", sum := "7e83b03190ff0ce5d2308812828ccea4889c30bbd79ce28aa714852e179825a0", func := "campanile/campanilelaw13.OffsetHops", spec := "offsetHops", apart := false }
def OffsetHopsSaid : Prop := offsetHopsRow.holds Try.pinned (OpenSpec.ofChange offsetHopsSpec)

/-- ITS FALSE NEIGHBOUR: 'it returns false'. Refute it at one input. -/
def offsetHopsWrong : ChangeSpec := { name := "offsetHops", fn := fun _ => fun
  | [d1, d2, d3] => { results := [.lit (.bool false)], args := [d1, d2, d3] }
  | _ => none }
def OffsetHopsWrongFalsely : Prop := offsetHopsRow.holds Try.pinned (OpenSpec.ofChange offsetHopsWrong)

/- THE SECOND FORM. 'bulk': how many values and letters a reading holds, each counted each time it is reached (what is shared counts as often as it is met; a slice's spare places count too). A statement '..UptoSaid' is the law's where the arguments, and the package variables that the reading takes, are together of bulk at most 1048576: NARROWER than '..Said'. Prove '..Said' where nothing that the law and all that it calls make is longer than what came in: it says more and counts as full. Else prove '..UptoSaid'. A law counts once. -/
mutual
def uptoBulk {H : Type} : DataW H → Nat
  | .lit (.string bytes) => bytes.length + 1
  | .lit _ => 1
  | .nil => 1
  | .ptr d => uptoBulk d + 1
  | .slice elems spare => uptoBulkAll elems + uptoBulkAll spare + 1
  | .agg parts => uptoBulkAll parts + 1
  | .iface _ d => uptoBulk d + 1
  | .map entries => uptoBulkEntries entries + 1
  | .held _ => 1
def uptoBulkAll {H : Type} : List (DataW H) → Nat
  | [] => 0
  | d :: r => uptoBulk d + uptoBulkAll r
def uptoBulkEntries {H : Type} : List (Lit × DataW H) → Nat
  | [] => 0
  | x :: r => uptoBulkEntry x + uptoBulkEntries r
def uptoBulkEntry {H : Type} : Lit × DataW H → Nat
  | (.string bytes, d) => bytes.length + uptoBulk d + 1
  | (_, d) => uptoBulk d + 1
 end
def uptoSmall : (H : Type) → List (DataW H) → Bool := fun _ ds => decide (uptoBulkAll ds ≤ 1048576)
def OpenSpec.upto (s : _root_.Go.ChangeSpec) : _root_.Go.OpenSpec := { _root_.Go.OpenSpec.ofChange s with cond := some uptoSmall }

/-- 'campanilelaw13.OffsetForms', WHERE WHAT IT READS IS OF BULK AT MOST 1048576: true; the input reads as it did. -/
def offsetFormsUptoRow : OpenClaim := { program := "ytcdfoofkcgoapaa", sum := "7e83b03190ff0ce5d2308812828ccea4889c30bbd79ce28aa714852e179825a0", func := "campanile/campanilelaw13.OffsetForms", spec := "offsetForms", apart := false, narrowed := true }
def OffsetFormsUptoSaid : Prop := offsetFormsUptoRow.holds Try.pinned (OpenSpec.upto offsetFormsSpec)

/-- 'campanilelaw13.OffsetBoth', WHERE WHAT IT READS IS OF BULK AT MOST 1048576: true; the input reads as it did. -/
def offsetBothUptoRow : OpenClaim := { program := "ytcdfoofkcgoapaa", sum := "7e83b03190ff0ce5d2308812828ccea4889c30bbd79ce28aa714852e179825a0", func := "campanile/campanilelaw13.OffsetBoth", spec := "offsetBoth", apart := false, narrowed := true }
def OffsetBothUptoSaid : Prop := offsetBothUptoRow.holds Try.pinned (OpenSpec.upto offsetBothSpec)

/-- 'campanilelaw13.OffsetPlays', WHERE WHAT IT READS IS OF BULK AT MOST 1048576: true; the input reads as it did. -/
def offsetPlaysUptoRow : OpenClaim := { program := "ytcdfoofkcgoapaa", sum := "7e83b03190ff0ce5d2308812828ccea4889c30bbd79ce28aa714852e179825a0", func := "campanile/campanilelaw13.OffsetPlays", spec := "offsetPlays", apart := false, narrowed := true }
def OffsetPlaysUptoSaid : Prop := offsetPlaysUptoRow.holds Try.pinned (OpenSpec.upto offsetPlaysSpec)

/-- 'campanilelaw13.OffsetNil', WHERE WHAT IT READS IS OF BULK AT MOST 1048576: true; the input reads as it did. -/
def offsetNilUptoRow : OpenClaim := { program := "ytcdfoofkcgoapaa", sum := "7e83b03190ff0ce5d2308812828ccea4889c30bbd79ce28aa714852e179825a0", func := "campanile/campanilelaw13.OffsetNil", spec := "offsetNil", apart := false, narrowed := true }
def OffsetNilUptoSaid : Prop := offsetNilUptoRow.holds Try.pinned (OpenSpec.upto offsetNilSpec)

/-- 'campanilelaw13.OffsetTrue', WHERE WHAT IT READS IS OF BULK AT MOST 1048576: true; the input reads as it did. -/
def offsetTrueUptoRow : OpenClaim := { program := "ytcdfoofkcgoapaa", sum := "7e83b03190ff0ce5d2308812828ccea4889c30bbd79ce28aa714852e179825a0", func := "campanile/campanilelaw13.OffsetTrue", spec := "offsetTrue", apart := false, narrowed := true }
def OffsetTrueUptoSaid : Prop := offsetTrueUptoRow.holds Try.pinned (OpenSpec.upto offsetTrueSpec)

/-- 'campanilelaw13.OffsetHops', WHERE WHAT IT READS IS OF BULK AT MOST 1048576: true; the input reads as it did. -/
def offsetHopsUptoRow : OpenClaim := { program := "ytcdfoofkcgoapaa", sum := "7e83b03190ff0ce5d2308812828ccea4889c30bbd79ce28aa714852e179825a0", func := "campanile/campanilelaw13.OffsetHops", spec := "offsetHops", apart := false, narrowed := true }
def OffsetHopsUptoSaid : Prop := offsetHopsUptoRow.holds Try.pinned (OpenSpec.upto offsetHopsSpec)

end Rows
end Go.Proofs.Ytcdfoofkcgoapaa
