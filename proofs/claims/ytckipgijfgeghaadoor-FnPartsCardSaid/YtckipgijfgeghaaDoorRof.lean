/- The roots of a list's shards, one by one. -/
import Derived.Test.YtckipgijfgeghaaDoorTree
import Derived.Deep.AppendLies
namespace Go.Proofs.YtckipgijfgeghaaDoor
open Go.RowKit

def rtsN (xs : List Leaf) (k n : Nat) : List ByteArray := (List.range n).map fun j : Nat => shRoot xs k j 16
theorem rtsN_len (xs : List Leaf) (k n : Nat) : (rtsN xs k n).length = n := by simp [rtsN]
theorem rtsN_succ (xs : List Leaf) (k n : Nat) : rtsN xs k (n + 1) = rtsN xs k n ++ [shRoot xs k n 16] := by simp [rtsN, List.range_succ]
end Go.Proofs.YtckipgijfgeghaaDoor
