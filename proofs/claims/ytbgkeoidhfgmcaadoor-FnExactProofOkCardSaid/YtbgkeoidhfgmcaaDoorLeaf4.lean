/- Leaves: the value of a name. -/
import Derived.Test.YtbgkeoidhfgmcaaDoorLeaf3
namespace Go.Proofs.YtbgkeoidhfgmcaaDoor
open Go.RowKit

def leafFind (xs : List Leaf) (n : ByteArray) : Option Leaf := xs.find? fun l => decide (l.name = n)
def leafVal (xs : List Leaf) (n : ByteArray) : ByteArray := match leafFind xs n with | some l => l.value | none => ⟨#[]⟩
def leafHas (xs : List Leaf) (n : ByteArray) : Bool := (leafFind xs n).isSome
theorem leaf_hit {xs : List Leaf} {n : ByteArray} {k : Nat} (hk : k < xs.length) (h : ∀ l ∈ xs.take k, l.name ≠ n) (e : xs[k].name = n) : leafVal xs n = xs[k].value ∧ leafHas xs n = true := by
  have hf : leafFind xs n = some xs[k] := by
    have hsplit : leafFind xs n = leafFind (xs.take k ++ xs[k] :: xs.drop (k + 1)) n := by rw [← List.drop_eq_getElem_cons hk, List.take_append_drop]
    rw [hsplit, leafFind, List.find?_append, List.find?_eq_none.2 (fun l hl => by simpa using h l hl), List.find?_cons_of_pos (by simpa using e)]
    rfl
  simp [leafVal, leafHas, hf]
theorem leaf_miss {xs : List Leaf} {n : ByteArray} (h : ∀ l ∈ xs, l.name ≠ n) : leafVal xs n = ⟨#[]⟩ ∧ leafHas xs n = false := by
  have hf : leafFind xs n = none := List.find?_eq_none.2 (fun l hl => by simpa using h l hl)
  simp [leafVal, leafHas, hf]
theorem ne_succ {xs : List Leaf} {n : ByteArray} {k : Nat} (hk : k < xs.length) (h : ∀ l ∈ xs.take k, l.name ≠ n) (e : xs[k].name ≠ n) : ∀ l ∈ xs.take (k + 1), l.name ≠ n := by
  intro l hl
  rw [List.take_succ_eq_append_getElem hk, List.mem_append] at hl
  rcases hl with hl | hl
  · exact h l hl
  · simp at hl; rw [hl]; exact e

end Go.Proofs.YtbgkeoidhfgmcaaDoor
