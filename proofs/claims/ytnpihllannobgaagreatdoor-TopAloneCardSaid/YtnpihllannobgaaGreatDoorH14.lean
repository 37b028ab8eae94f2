/- Steps of the proof, part H14. No condition. -/
import Derived.Test.YtnpihllannobgaaGreatDoorH10
namespace Go.Proofs.YtnpihllannobgaaGreatDoor
set_option linter.unusedVariables false
set_option linter.unusedSimpArgs false
set_option maxRecDepth 100000
set_option maxHeartbeats 32000000
def vh(w i j:Nat):Bool:=decide (i≠j)&&(decide (i≤j+w)&&decide (j≤i+w))
end Go.Proofs.YtnpihllannobgaaGreatDoor
