/- The frames of records, as a text. -/
import Derived.Test.YtckipgijfgeghaaFrP
namespace Go.Proofs.Ytckipgijfgeghaa
open Go.RowKit

/-- the frames of records, as a text -/
def frsT (ss : List ByteArray) : ByteArray := ⟨(frsB ss).toArray⟩
theorem frsT_list (ss : List ByteArray) : (frsT ss).data.toList = frsB ss := by simp [frsT]
theorem frsT_size (ss : List ByteArray) : (frsT ss).size = (frsB ss).length := by rw [← ba_len, frsT_list]
theorem frsT_snoc (ss : List ByteArray) (s : ByteArray) : frsT (ss ++ [s]) = frsT ss ++ frT s := by
  apply ba_ext
  rw [ba_append, frsT_list, frsT_list, frT_list, frsB, List.flatMap_append]
  simp [frsB]
theorem frsB_len_le : ∀ (ss : List ByteArray), (∀ s ∈ ss, s.size ≤ 900) → (frsB ss).length ≤ ss.length * 1805
  | [], _ => Nat.le_refl _
  | s :: ss, h => by
    have h1 := frsB_len_le ss (fun x hx => h x (by simp [hx]))
    have h2 := h s (by simp)
    have h3 := varT_size s.size
    have h4 : (varB s.size).length = (varT s.size).size := by rw [varB, ba_len]
    rw [frsB, List.flatMap_cons, List.length_append, frB_len, List.length_cons]
    have h5 : (List.flatMap frB ss).length = (frsB ss).length := rfl
    omega
/-- where each record ends -/
def ends (L : List ByteArray) (k : Nat) : List Int := (List.range (k + 1)).map fun j : Nat => ((frsB (L.take j)).length : Int)
theorem ends_len (L : List ByteArray) (k : Nat) : (ends L k).length = k + 1 := by simp [ends]
theorem ends_succ (L : List ByteArray) (k : Nat) : ends L (k + 1) = ends L k ++ [((frsB (L.take (k + 1))).length : Int)] := by rw [ends, List.range_succ, List.map_append, ends]; rfl
theorem ends_at (L : List ByteArray) {k j : Nat} (hj : j ≤ k) : (ends L k)[j]? = some ((frsB (L.take j)).length : Int) := by
  rw [ends, List.getElem?_map, List.getElem?_range (by omega)]; rfl
end Go.Proofs.Ytckipgijfgeghaa
