/-
  No cell of these rows narrows 'for every input' (looked for: loops, veiled, ifaces, maps, wideKeys, modest, calm, conditions, laid).
  DERIVED. THE GIVEN ROWS OF THIS SEAT. 5 by the template 'for every input the law returns true; each argument reads behind the call as it read before'; 0 by the template 'total and deterministic' (their statements: YtciekkenheiedaaTotals.lean).
  GIVEN WITH THE SEED: the statements are not yours to turn. If you find one false, say at which input.
  Laid BY PROGRAM, IN A SANDBOX (cutbox-rows.mjs): the forced cells as the released guide's own fill.sh prints them over the translation b870cfeea5243516… (all of the seat's roots in one cut). By AI agents, Wed Nov 11 2026. No macro, syntax, notation, axiom, sorry.
-/
import Derived.Test.YtciekkenheiedaaChecked
import GoSem.Claim
import GoSem.ClaimJoined
import GoSem.ClaimMapViews
import Derived.JoinedTies
import Derived.KernelRfl
namespace Go.Proofs.Ytciekkenheiedaa
/- THE CELL 'sum', in the pinned program and in every row, IS THE sha256 OF THE DUMP (.gsa) THAT YtciekkenheiedaaProg.lean LOADS. Nothing in Lean hashes anything: it is a label: what it is worth is what the hold of that sum in a sandbox is worth. -/
noncomputable def Try.pinned : Pinned := { name := "ytciekkenheiedaa", sum := "b870cfeea5243516e0a7b65a77c09f0a7bbd8c788e7b5eb76f15c80d321f8fe5", checked := Try.checked }
namespace Rows
def none {H : Type} : Left H := { results := [], args := [] }

/-- 'campanilelaw12.DupOnce': WHATEVER THE INPUT: true; the input reads as it did. -/
def dupOnceSpec : ChangeSpec := { name := "dupOnce", fn := fun _ => fun
  | [d] => { results := [.lit (.bool true)], args := [d] }
  | _ => none }
def dupOnceRow : OpenClaim := { program := "ytciekkenheiedaa", sum := "b870cfeea5243516e0a7b65a77c09f0a7bbd8c788e7b5eb76f15c80d321f8fe5", func := "campanile/campanilelaw12.DupOnce", spec := "dupOnce", plainKeys := false, apart := false }
def DupOnceSaid : Prop := dupOnceRow.holds Try.pinned (OpenSpec.ofChange dupOnceSpec)

/-- ITS FALSE NEIGHBOUR: 'it returns false'. Refute it at one input. -/
def dupOnceWrong : ChangeSpec := { name := "dupOnce", fn := fun _ => fun
  | [d] => { results := [.lit (.bool false)], args := [d] }
  | _ => none }
def DupOnceWrongFalsely : Prop := dupOnceRow.holds Try.pinned (OpenSpec.ofChange dupOnceWrong)

/-- 'campanilelaw12.DupRow': WHATEVER THE INPUT: true; the input reads as it did. -/
def dupRowSpec : ChangeSpec := { name := "dupRow", fn := fun _ => fun
  | [d1, d2] => { results := [.lit (.bool true)], args := [d1, d2] }
  | _ => none }
def dupRowRow : OpenClaim := { program := "ytciekkenheiedaa", sum := "b870cfeea5243516e0a7b65a77c09f0a7bbd8c788e7b5eb76f15c80d321f8fe5", func := "campanile/campanilelaw12.DupRow", spec := "dupRow", plainKeys := false, apart := false }
def DupRowSaid : Prop := dupRowRow.holds Try.pinned (OpenSpec.ofChange dupRowSpec)

/-- ITS FALSE NEIGHBOUR: 'it returns false'. Refute it at one input. -/
def dupRowWrong : ChangeSpec := { name := "dupRow", fn := fun _ => fun
  | [d1, d2] => { results := [.lit (.bool false)], args := [d1, d2] }
  | _ => none }
def DupRowWrongFalsely : Prop := dupRowRow.holds Try.pinned (OpenSpec.ofChange dupRowWrong)

/-- 'campanilelaw12.DupLate': WHATEVER THE INPUT: true; the input reads as it did. -/
def dupLateSpec : ChangeSpec := { name := "dupLate", fn := fun _ => fun
  | [d1, d2] => { results := [.lit (.bool true)], args := [d1, d2] }
  | _ => none }
def dupLateRow : OpenClaim := { program := "ytciekkenheiedaa", sum := "b870cfeea5243516e0a7b65a77c09f0a7bbd8c788e7b5eb76f15c80d321f8fe5", func := "campanile/campanilelaw12.DupLate", spec := "dupLate", plainKeys := false, apart := false }
def DupLateSaid : Prop := dupLateRow.holds Try.pinned (OpenSpec.ofChange dupLateSpec)

/-- ITS FALSE NEIGHBOUR: 'it returns false'. Refute it at one input. -/
def dupLateWrong : ChangeSpec := { name := "dupLate", fn := fun _ => fun
  | [d1, d2] => { results := [.lit (.bool false)], args := [d1, d2] }
  | _ => none }
def DupLateWrongFalsely : Prop := dupLateRow.holds Try.pinned (OpenSpec.ofChange dupLateWrong)

/-- 'campanilelaw12.DupPlays': WHATEVER THE INPUT: true; the input reads as it did. -/
def dupPlaysSpec : ChangeSpec := { name := "dupPlays", fn := fun _ => fun
  | [d1, d2] => { results := [.lit (.bool true)], args := [d1, d2] }
  | _ => none }
def dupPlaysRow : OpenClaim := { program := "ytciekkenheiedaa", sum := "b870cfeea5243516e0a7b65a77c09f0a7bbd8c788e7b5eb76f15c80d321f8fe5", func := "campanile/campanilelaw12.DupPlays", spec := "dupPlays", plainKeys := false, apart := false }
def DupPlaysSaid : Prop := dupPlaysRow.holds Try.pinned (OpenSpec.ofChange dupPlaysSpec)

/-- ITS FALSE NEIGHBOUR: 'it returns false'. Refute it at one input. -/
def dupPlaysWrong : ChangeSpec := { name := "dupPlays", fn := fun _ => fun
  | [d1, d2] => { results := [.lit (.bool false)], args := [d1, d2] }
  | _ => none }
def DupPlaysWrongFalsely : Prop := dupPlaysRow.holds Try.pinned (OpenSpec.ofChange dupPlaysWrong)

/-- 'campanilelaw12.DupNil': WHATEVER THE INPUT: true; the input reads as it did. -/
def dupNilSpec : ChangeSpec := { name := "dupNil", fn := fun _ => fun
  | [d] => { results := [.lit (.bool true)], args := [d] }
  | _ => none }
def dupNilRow : OpenClaim := { program := "ytciekkenheiedaa", sum := "b870cfeea5243516e0a7b65a77c09f0a7bbd8c788e7b5eb76f15c80d321f8fe5", func := "campanile/campanilelaw12.DupNil", spec := "dupNil", plainKeys := false, apart := false }
def DupNilSaid : Prop := dupNilRow.holds Try.pinned (OpenSpec.ofChange dupNilSpec)

/-- ITS FALSE NEIGHBOUR: 'it returns false'. Refute it at one input. -/
def dupNilWrong : ChangeSpec := { name := "dupNil", fn := fun _ => fun
  | [d] => { results := [.lit (.bool false)], args := [d] }
  | _ => none }
def DupNilWrongFalsely : Prop := dupNilRow.holds Try.pinned (OpenSpec.ofChange dupNilWrong)

/- THE SECOND FORM. 'bulk': how many values and letters a reading holds, each counted each time it is reached (what is shared counts as often as it is met; a slice's spare places count too). A statement '..UptoSaid' is the law's where the arguments, and the package variables that the reading takes, are together of bulk at most 1048576: NARROWER than '..Said'. Prove '..Said' where nothing that the law and all that it calls make is longer than what came in: it says more and counts as full. Else prove '..UptoSaid'. A law counts once. -/
mutual
def uptoBulk {H : Type} : DataW H → Nat
  | .lit (.string bytes) => bytes.length + 1
  | .lit _ => 1
  | .nil => 1
  | .ptr d => uptoBulk d + 1
  | .slice elems spare => uptoBulkAll elems + uptoBulkAll spare + 1
  | .agg parts => uptoBulkAll parts + 1
  | .iface _ d => uptoBulk d + 1
  | .map entries => uptoBulkEntries entries + 1
  | .held _ => 1
def uptoBulkAll {H : Type} : List (DataW H) → Nat
  | [] => 0
  | d :: r => uptoBulk d + uptoBulkAll r
def uptoBulkEntries {H : Type} : List (Lit × DataW H) → Nat
  | [] => 0
  | x :: r => uptoBulkEntry x + uptoBulkEntries r
def uptoBulkEntry {H : Type} : Lit × DataW H → Nat
  | (.string bytes, d) => bytes.length + uptoBulk d + 1
  | (_, d) => uptoBulk d + 1
 end
def uptoSmall : (H : Type) → List (DataW H) → Bool := fun _ ds => decide (uptoBulkAll ds ≤ 1048576)
def OpenSpec.upto (s : _root_.Go.ChangeSpec) : _root_.Go.OpenSpec := { _root_.Go.OpenSpec.ofChange s with cond := some uptoSmall }

/-- 'campanilelaw12.DupOnce', WHERE WHAT IT READS IS OF BULK AT MOST 1048576: true; the input reads as it did. -/
def dupOnceUptoRow : OpenClaim := { program := "ytciekkenheiedaa", sum := "b870cfeea5243516e0a7b65a77c09f0a7bbd8c788e7b5eb76f15c80d321f8fe5", func := "campanile/campanilelaw12.DupOnce", spec := "dupOnce", plainKeys := false, apart := false, narrowed := true }
def DupOnceUptoSaid : Prop := dupOnceUptoRow.holds Try.pinned (OpenSpec.upto dupOnceSpec)

/-- 'campanilelaw12.DupRow', WHERE WHAT IT READS IS OF BULK AT MOST 1048576: true; the input reads as it did. -/
def dupRowUptoRow : OpenClaim := { program := "ytciekkenheiedaa", sum := "b870cfeea5243516e0a7b65a77c09f0a7bbd8c788e7b5eb76f15c80d321f8fe5", func := "campanile/campanilelaw12.DupRow", spec := "dupRow", plainKeys := false, apart := false, narrowed := true }
def DupRowUptoSaid : Prop := dupRowUptoRow.holds Try.pinned (OpenSpec.upto dupRowSpec)

/-- 'campanilelaw12.DupLate', WHERE WHAT IT READS IS OF BULK AT MOST 1048576: true; the input reads as it did. -/
def dupLateUptoRow : OpenClaim := { program := "ytciekkenheiedaa", sum := "b870cfeea5243516e0a7b65a77c09f0a7bbd8c788e7b5eb76f15c80d321f8fe5", func := "campanile/campanilelaw12.DupLate", spec := "dupLate", plainKeys := false, apart := false, narrowed := true }
def DupLateUptoSaid : Prop := dupLateUptoRow.holds Try.pinned (OpenSpec.upto dupLateSpec)

/-- 'campanilelaw12.DupPlays', WHERE WHAT IT READS IS OF BULK AT MOST 1048576: true; the input reads as it did. -/
def dupPlaysUptoRow : OpenClaim := { program := "ytciekkenheiedaa", sum := "b870cfeea5243516e0a7b65a77c09f0a7bbd8c788e7b5eb76f15c80d321f8fe5", func := "campanile/campanilelaw12.DupPlays", spec := "dupPlays", plainKeys := false, apart := false, narrowed := true }
def DupPlaysUptoSaid : Prop := dupPlaysUptoRow.holds Try.pinned (OpenSpec.upto dupPlaysSpec)

/-- 'campanilelaw12.DupNil', WHERE WHAT IT READS IS OF BULK AT MOST 1048576: true; the input reads as it did. -/
def dupNilUptoRow : OpenClaim := { program := "ytciekkenheiedaa", sum := "b870cfeea5243516e0a7b65a77c09f0a7bbd8c788e7b5eb76f15c80d321f8fe5", func := "campanile/campanilelaw12.DupNil", spec := "dupNil", plainKeys := false, apart := false, narrowed := true }
def DupNilUptoSaid : Prop := dupNilUptoRow.holds Try.pinned (OpenSpec.upto dupNilSpec)

end Rows
end Go.Proofs.Ytciekkenheiedaa
