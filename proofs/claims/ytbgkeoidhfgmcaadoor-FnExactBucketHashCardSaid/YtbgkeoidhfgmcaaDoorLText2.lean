/- Leaves: LeavesText. -/
import Derived.Test.YtbgkeoidhfgmcaaDoorLText
namespace Go.Proofs.YtbgkeoidhfgmcaaDoor
open Go.RowKit

def leavesTx (xs : List Leaf) : ByteArray := if leavesOk xs = true then leavesT xs else ⟨#[]⟩

end Go.Proofs.YtbgkeoidhfgmcaaDoor
