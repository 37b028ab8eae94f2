/- Steps of the proof, part H44. No condition. -/
import Derived.Test.YtnpihllannobgaaGreatDoorH43
import Derived.Test.YtnpihllannobgaaGreatDoorH40
import Derived.Test.YtnpihllannobgaaGreatDoorH21
namespace Go.Proofs.YtnpihllannobgaaGreatDoor
set_option linter.unusedVariables false
set_option linter.unusedSimpArgs false
set_option maxRecDepth 100000
set_option maxHeartbeats 32000000
open Go.ChangeShapes Go.WideShapes Go.ChangeAt Go.RowKit
def KpW(w:World)(o:Cls)(w':World):Prop:=Chg (λ_=>False) w w'∧∀q,q<w.heap.size→o q=0
theorem KpW.go{w w1 w2:World}{o o2:Cls}{c:Cfg}{W:Nat}{x:WM}{a:Int}{r:WR}(h:KpW w o w1)(A:WAt w1 o c W x a w2 o2 r):KpW w o2 w2:=by
 have g1:=h.1
 have g2:=A.chg
 refine⟨⟨g2.os.trans g1.os,g2.tape.trans g1.tape,g2.output.trans g1.output,Nat.le_trans g1.size g2.size,λq hq _=>(g2.block q (Nat.lt_of_lt_of_le hq g1.size) (λe=>?_)).trans (g1.block q hq (λe=>e))⟩,λq hq=>(A.ext q (Nat.lt_of_lt_of_le hq g1.size)).trans (h.2 q hq)⟩
 exact e.1 (h.2 q hq)
theorem KpW.ch{w w1 w2:World}{o:Cls}(h:KpW w o w1)(g:Chg (λ_=>False) w1 w2):KpW w o w2:=⟨h.1.trans g,h.2⟩
theorem WAt.blk0{w1 w2:World}{o o2:Cls}{c:Cfg}{W:Nat}{x:WM}{a:Int}{r:WR}(A:WAt w1 o c W x a w2 o2 r){b:Nat}{ob:Obj}(h:w1.heap[b]? =some ob∧o b=0):w2.heap[b]? =some ob∧o2 b=0:=
 ⟨Chg.keep A.chg h.1 (λe=>e.1 h.2),(A.ext b (qX h.1)).trans h.2⟩
theorem WAt.re{w0 w:World}{o0 o:Cls}{c:Cfg}{W:Nat}{x:WM}{a:Int}{r:WR}(A:WAt w0 o0 c W x a w o r):WAt w o c W x a w o r:=WAt.start A.wd A.z
end Go.Proofs.YtnpihllannobgaaGreatDoor
