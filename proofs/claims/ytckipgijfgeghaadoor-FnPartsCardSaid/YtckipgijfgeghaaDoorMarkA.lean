/- Mark, Mark2 in one text. -/
import Derived.Test.YtckipgijfgeghaaDoorLeafA
import Derived.Test.YtckipgijfgeghaaDoorCore
import Derived.Test.YtckipgijfgeghaaDoorFields
import Derived.Test.YtckipgijfgeghaaDoorStrA
import Derived.Deep.RegionHeld3
namespace Go.Proofs.YtckipgijfgeghaaDoor
open Go.RowKit

def digits (n : Nat) (acc : ByteArray) : ByteArray := if n = 0 then acc else digits (n / 10) (strOfNums [48 + (n : Int) % 10] ++ acc)
termination_by n
theorem digits_zero (acc : ByteArray) : digits 0 acc = acc := by rw [digits, if_pos rfl]
theorem digits_more {n : Nat} (acc : ByteArray) (h : n ≠ 0) : digits n acc = digits (n / 10) (strOfNums [48 + (n : Int) % 10] ++ acc) := by rw [digits, if_neg h]
/-- a mark -/
def markI (k : Int) : ByteArray := ⟨#[109]⟩ ++ digits k.toNat ⟨#[]⟩

end Go.Proofs.YtckipgijfgeghaaDoor
namespace Go.Proofs.YtckipgijfgeghaaDoor
open Go.RowKit

def markLeaf (k : Int) (i : Nat) : Leaf := ⟨markI (k + 2 * (i : Int)), markI (k + 2 * (i : Int) + 1)⟩
def marksL (n : Nat) (k : Int) : List Leaf := (List.range n).map (markLeaf k)
/-- the first i are marked -/
def markOn (xs : List Leaf) (k : Int) : Nat → List Leaf
  | 0 => xs
  | i + 1 => (markOn xs k i).set i (markLeaf k i)
theorem markOn_length (xs : List Leaf) (k : Int) : ∀ i, (markOn xs k i).length = xs.length
  | 0 => rfl
  | i + 1 => by rw [markOn, List.length_set, markOn_length xs k i]
theorem markOn_get (xs : List Leaf) (k : Int) (j : Nat) : ∀ i, i ≤ xs.length → (markOn xs k i)[j]? = if j < i then some (markLeaf k j) else xs[j]?
  | 0, _ => by simp [markOn]
  | i + 1, h => by
    rw [markOn, List.getElem?_set, markOn_get xs k j i (by omega), markOn_length]
    by_cases hj : i = j
    · subst hj; simp; omega
    · rw [if_neg hj]
      by_cases h2 : j < i
      · rw [if_pos h2, if_pos (by omega)]
      · rw [if_neg h2, if_neg (by omega)]
theorem markOn_all (xs : List Leaf) (k : Int) : markOn xs k xs.length = marksL xs.length k := by
  apply List.ext_getElem?
  intro j
  rw [markOn_get xs k j _ (Nat.le_refl _), marksL, List.getElem?_map]
  by_cases hj : j < xs.length
  · simp [hj]
  · simp [hj]
theorem leaf_flat_set (l : Leaf) : ∀ (xs : List Leaf) (i : Nat), i < xs.length → ((xs.flatMap Leaf.cells).set (i * 2) (.string l.name)).set (i * 2 + 1) (.string l.value) = (xs.set i l).flatMap Leaf.cells
  | [], i, h => by simp at h
  | x :: t, 0, _ => by simp [Leaf.cells]
  | x :: t, i + 1, h => by
    have ih := leaf_flat_set l t i (by simpa using h)
    rw [show (i + 1) * 2 = i * 2 + 1 + 1 by omega]
    simp only [List.flatMap_cons, Leaf.cells, List.cons_append, List.nil_append, List.set_cons_succ] at ih ⊢
    rw [ih]

theorem marksL_length (n : Nat) (k : Int) : (marksL n k).length = n := by simp [marksL]
theorem marksL_get (n : Nat) (k : Int) (j : Nat) (h : j < (marksL n k).length) : (marksL n k)[j] = markLeaf k j := by simp [marksL]

end Go.Proofs.YtckipgijfgeghaaDoor
