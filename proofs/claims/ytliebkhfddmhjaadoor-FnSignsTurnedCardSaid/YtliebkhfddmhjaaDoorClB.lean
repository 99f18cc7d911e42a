/- Two texts with one digest, looked for from above. -/
import Derived.Test.YtliebkhfddmhjaaDoorHashA
namespace Go.Proofs.YtliebkhfddmhjaaDoor
open Go.RowKit

/-- of two lists of texts, from the last one on back the first two that differ: have they one digest? -/
def clN (a b : List ByteArray) (wd : Int) : Nat → Bool
  | 0 => false
  | k + 1 => if a.getD k ⟨#[]⟩ = b.getD k ⟨#[]⟩ then clN a b wd k else decide (cutT (a.getD k ⟨#[]⟩) wd = cutT (b.getD k ⟨#[]⟩) wd)
def clB (a b : List ByteArray) (wd : Int) : Bool := if a.length = b.length then clN a b wd a.length else false
theorem cutT_eq {a b : ByteArray} (wd : Int) (h : a = b) : cutT a wd = cutT b wd := by rw [h]
end Go.Proofs.YtliebkhfddmhjaaDoor
