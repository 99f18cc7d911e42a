/- The laws' marks on strings. -/
import Derived.Test.YtcinihfjkkaclaaDoorMarkA
import Derived.Test.YtcinihfjkkaclaaDoorStrA
namespace Go.Proofs.YtcinihfjkkaclaaDoor
open Go.RowKit

def marksS (n : Nat) (k : Int) : List ByteArray := (List.range n).map fun i : Nat => markI (k + (i : Int))
/-- the first i are marked -/
def markOnS (xs : List ByteArray) (k : Int) : Nat → List ByteArray
  | 0 => xs
  | i + 1 => (markOnS xs k i).set i (markI (k + (i : Int)))
theorem markOnS_length (xs : List ByteArray) (k : Int) : ∀ i, (markOnS xs k i).length = xs.length
  | 0 => rfl
  | i + 1 => by rw [markOnS, List.length_set, markOnS_length xs k i]
theorem markOnS_get (xs : List ByteArray) (k : Int) (j : Nat) : ∀ i, i ≤ xs.length → (markOnS xs k i)[j]? = if j < i then some (markI (k + (j : Int))) else xs[j]?
  | 0, _ => by simp [markOnS]
  | i + 1, h => by
    rw [markOnS, List.getElem?_set, markOnS_get xs k j i (by omega), markOnS_length]
    by_cases hj : i = j
    · subst hj; simp; omega
    · rw [if_neg hj]
      by_cases h2 : j < i
      · rw [if_pos h2, if_pos (by omega)]
      · rw [if_neg h2, if_neg (by omega)]
theorem markOnS_all (xs : List ByteArray) (k : Int) : markOnS xs k xs.length = marksS xs.length k := by
  apply List.ext_getElem?
  intro j
  rw [markOnS_get xs k j _ (Nat.le_refl _), marksS, List.getElem?_map]
  by_cases hj : j < xs.length
  · simp [hj]
  · simp [hj]

theorem marksS_length (n : Nat) (k : Int) : (marksS n k).length = n := by simp [marksS]

end Go.Proofs.YtcinihfjkkaclaaDoor
