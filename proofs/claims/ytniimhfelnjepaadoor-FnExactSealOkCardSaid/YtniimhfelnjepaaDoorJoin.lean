/- Strings joined. -/
import Derived.Test.YtniimhfelnjepaaDoorStrs
namespace Go.Proofs.YtniimhfelnjepaaDoor
open Go.RowKit

def joinOn (a : ByteArray) (xs : List ByteArray) (k : Nat) : ByteArray := (xs.take k).foldl (· ++ ·) a
/-- strings behind a text -/
def joinT (xs : List ByteArray) : ByteArray := joinOn ⟨#[]⟩ xs xs.length
theorem joinOn_zero (a : ByteArray) (xs : List ByteArray) : joinOn a xs 0 = a := by simp [joinOn]
theorem joinOn_succ (a : ByteArray) (xs : List ByteArray) (k : Nat) (h : k < xs.length) : joinOn a xs (k + 1) = joinOn a xs k ++ xs[k] := by
  unfold joinOn
  rw [List.take_succ_eq_append_getElem h, List.foldl_append]
  rfl
theorem ba_empty_size : (⟨#[]⟩ : ByteArray).size = 0 := rfl
theorem ba_empty_append (a : ByteArray) : (⟨#[]⟩ : ByteArray) ++ a = a := by apply ByteArray.ext; simp [ByteArray.data_append]
theorem ba_append_empty (a : ByteArray) : a ++ (⟨#[]⟩ : ByteArray) = a := by apply ByteArray.ext; simp [ByteArray.data_append]
theorem joinOn_eq (a : ByteArray) (xs : List ByteArray) : ∀ k, k ≤ xs.length → joinOn a xs k = a ++ joinOn ⟨#[]⟩ xs k
  | 0, _ => by rw [joinOn_zero, joinOn_zero, ba_append_empty]
  | k + 1, h => by rw [joinOn_succ a xs k (by omega), joinOn_succ _ xs k (by omega), joinOn_eq a xs k (by omega), ByteArray.append_assoc]
theorem joinOn_all (a : ByteArray) (xs : List ByteArray) : joinOn a xs xs.length = a ++ joinT xs := joinOn_eq a xs _ (Nat.le_refl _)
/-- short strings, not many -/
def StrSmall (xs : List ByteArray) : Prop := xs.length ≤ 1000 ∧ ∀ s ∈ xs, s.size ≤ 200
theorem joinOn_size (a : ByteArray) {xs : List ByteArray} (hs : StrSmall xs) : ∀ k, k ≤ xs.length → (joinOn a xs k).size ≤ a.size + 200 * k
  | 0, _ => by simp [joinOn]
  | k + 1, h => by
    have h1 := joinOn_size a hs k (by omega)
    have h2 := hs.2 xs[k] (List.getElem_mem (by omega))
    rw [joinOn_succ a xs k (by omega), ByteArray.size_append]
    omega

end Go.Proofs.YtniimhfelnjepaaDoor
