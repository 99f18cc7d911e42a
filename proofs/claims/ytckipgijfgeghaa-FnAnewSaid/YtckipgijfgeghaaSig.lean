/- Signatures: sizes, copies, equality, form. -/
import Derived.Test.YtckipgijfgeghaaStrA
import Derived.Test.YtckipgijfgeghaaCore
namespace Go.Proofs.Ytckipgijfgeghaa
open Go.RowKit

/-- a signature -/
structure SigV where
  at_ : Int
  op : List ByteArray
  sh : List ByteArray
  si : List ByteArray
def SigFit (s : SigV) : Prop := (∀ x ∈ s.op, x.size ≤ maxLen) ∧ (∀ x ∈ s.sh, x.size ≤ maxLen) ∧ ∀ x ∈ s.si, x.size ≤ maxLen
def sigWell (s : SigV) : Bool := inB s.at_ 0 15 && ((wide s.op 16 && decide ((s.op.length : Int) = 8)) && ((wide s.sh 16 && decide ((s.sh.length : Int) = 8)) && (wide s.si 16 && decide ((s.si.length : Int) = 4))))

end Go.Proofs.Ytckipgijfgeghaa
