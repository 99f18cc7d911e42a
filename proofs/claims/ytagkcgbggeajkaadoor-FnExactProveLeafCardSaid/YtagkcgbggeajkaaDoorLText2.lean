/- Leaves: LeavesText. -/
import Derived.Test.YtagkcgbggeajkaaDoorLText
namespace Go.Proofs.YtagkcgbggeajkaaDoor
open Go.RowKit

def leavesTx (xs : List Leaf) : ByteArray := if leavesOk xs = true then leavesT xs else ⟨#[]⟩

end Go.Proofs.YtagkcgbggeajkaaDoor
