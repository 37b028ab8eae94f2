/-
  DERIVED. GIVEN WITH THE SEED: THE CARDS: each row of YtnpihllannobgaaGreatDoorRows.lean that lists a variable, with what it lists TIED to the program's text (the seventh form; the later family's looks); each row that meets fmt, with fmt's text TOLD by the authors' own Lean function (tested against real Go, not proved from fmt's source: count such statements apart). THE CARD IS WHAT COUNTS. Prove the row's statement (the work); the ties are given (YtnpihllannobgaaGreatDoorTie.lean); close each card by the builder's one call (the guide's Derived/Test/ToyasCard.lean, 'card_holds'). Laid BY PROGRAM, IN A SANDBOX (cutbox-door.mjs). By AI agents, Wed Nov 11 2026. No macro, syntax, notation, axiom, sorry.
-/
import Derived.Test.YtnpihllannobgaaGreatDoorRows
import GoSem.ClaimSeven
namespace Go.Proofs.YtnpihllannobgaaGreatDoor
namespace Rows

/-- THE TIED CARD OF 'campaniletop.TopFailover'. -/
def topFailoverCard : Claim7 := { stood := { row := topFailoverRow, standIns := [], harness := (true, "4084af2775c2f426b41209a4351ee84b32c3d9b07781932fa9a61597894290d1"), looks := true }, kinds := [], alts := [], laidByText := true, laidKinds := [.data, .data, .data, .data, .sentinel, .sentinel, .pinned], laidTests := true, laidLooks := .later }
def TopFailoverCardSaid : Prop := Claim7.holds Tryz.pinned (.plain (OpenSpec.ofChange topFailoverSpec)) topFailoverCard

/-- THE TIED CARD OF 'campaniletop.TopComes'. -/
def topComesCard : Claim7 := { stood := { row := topComesRow, standIns := [], harness := (true, "4084af2775c2f426b41209a4351ee84b32c3d9b07781932fa9a61597894290d1"), looks := true }, kinds := [], alts := [], laidByText := true, laidKinds := [.data, .data, .data, .data, .sentinel, .sentinel, .pinned], laidTests := true, laidLooks := .later }
def TopComesCardSaid : Prop := Claim7.holds Tryz.pinned (.plain (OpenSpec.ofChange topComesSpec)) topComesCard

/-- THE TIED CARD OF 'campaniletop.TopAlone'. -/
def topAloneCard : Claim7 := { stood := { row := topAloneRow, standIns := [], harness := (true, "4084af2775c2f426b41209a4351ee84b32c3d9b07781932fa9a61597894290d1"), looks := true }, kinds := [], alts := [], laidByText := true, laidKinds := [.data, .data, .data, .data, .sentinel, .sentinel, .pinned], laidTests := true, laidLooks := .later }
def TopAloneCardSaid : Prop := Claim7.holds Tryz.pinned (.plain (OpenSpec.ofChange topAloneSpec)) topAloneCard

/-- THE SECOND FORM's CARD OF 'campaniletop.TopFailover'. -/
def topFailoverUptoCard : Claim7 := { stood := { row := topFailoverUptoRow, standIns := [], harness := (true, "4084af2775c2f426b41209a4351ee84b32c3d9b07781932fa9a61597894290d1"), looks := true }, kinds := [], alts := [], laidByText := true, laidKinds := [.data, .data, .data, .data, .sentinel, .sentinel, .pinned], laidTests := true, laidLooks := .later }
def TopFailoverUptoCardSaid : Prop := Claim7.holds Tryz.pinned (.plain (OpenSpec.upto topFailoverSpec)) topFailoverUptoCard

/-- THE SECOND FORM's CARD OF 'campaniletop.TopComes'. -/
def topComesUptoCard : Claim7 := { stood := { row := topComesUptoRow, standIns := [], harness := (true, "4084af2775c2f426b41209a4351ee84b32c3d9b07781932fa9a61597894290d1"), looks := true }, kinds := [], alts := [], laidByText := true, laidKinds := [.data, .data, .data, .data, .sentinel, .sentinel, .pinned], laidTests := true, laidLooks := .later }
def TopComesUptoCardSaid : Prop := Claim7.holds Tryz.pinned (.plain (OpenSpec.upto topComesSpec)) topComesUptoCard

/-- THE SECOND FORM's CARD OF 'campaniletop.TopAlone'. -/
def topAloneUptoCard : Claim7 := { stood := { row := topAloneUptoRow, standIns := [], harness := (true, "4084af2775c2f426b41209a4351ee84b32c3d9b07781932fa9a61597894290d1"), looks := true }, kinds := [], alts := [], laidByText := true, laidKinds := [.data, .data, .data, .data, .sentinel, .sentinel, .pinned], laidTests := true, laidLooks := .later }
def TopAloneUptoCardSaid : Prop := Claim7.holds Tryz.pinned (.plain (OpenSpec.upto topAloneSpec)) topAloneUptoCard
end Rows
end Go.Proofs.YtnpihllannobgaaGreatDoor
