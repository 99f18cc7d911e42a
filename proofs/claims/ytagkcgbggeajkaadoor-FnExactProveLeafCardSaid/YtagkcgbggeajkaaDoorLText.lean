/- Leaves: their text. -/
import Derived.Test.YtagkcgbggeajkaaDoorLeaf4
import Derived.Test.YtagkcgbggeajkaaDoorVar
namespace Go.Proofs.YtagkcgbggeajkaaDoor
open Go.RowKit

def leafT (l : Leaf) : ByteArray := varT l.name.size ++ l.name ++ (varT l.value.size ++ l.value)
def leavesUpto (xs : List Leaf) (k : Nat) : ByteArray := (xs.take k).foldl (fun a l => a ++ leafT l) (varT xs.length)
def leavesT (xs : List Leaf) : ByteArray := leavesUpto xs xs.length
theorem leavesUpto_succ (xs : List Leaf) (k : Nat) (h : k < xs.length) : leavesUpto xs (k + 1) = leavesUpto xs k ++ leafT xs[k] := by
  unfold leavesUpto
  rw [List.take_succ_eq_append_getElem h, List.foldl_append]
  rfl
/-- short leaves, not many -/
def LeafSmall (xs : List Leaf) : Prop := xs.length ≤ 1000 ∧ ∀ l ∈ xs, l.name.size ≤ 200 ∧ l.value.size ≤ 200
theorem leavesUpto_size {xs : List Leaf} (hs : LeafSmall xs) : ∀ k, k ≤ xs.length → (leavesUpto xs k).size ≤ 1001 + 1000 * k
  | 0, _ => by have := varT_size xs.length; have := hs.1; simp [leavesUpto]; omega
  | k + 1, h => by
    have h1 := leavesUpto_size hs k (by omega)
    obtain ⟨a, b⟩ := hs.2 xs[k] (List.getElem_mem (by omega))
    have c := varT_size xs[k].name.size
    have d := varT_size xs[k].value.size
    rw [leavesUpto_succ xs k (by omega)]
    simp only [leafT, ByteArray.size_append]
    omega
theorem leavesOk_small {xs : List Leaf} (h : leavesOk xs = true) : xs.length ≤ 24 ∧ ∀ l ∈ xs, (1 ≤ l.name.size ∧ l.name.size ≤ 12) ∧ (1 ≤ l.value.size ∧ l.value.size ≤ 12) := by
  rw [leavesOk, Bool.and_eq_true, decide_eq_true_eq, List.all_eq_true] at h
  refine ⟨h.1, fun l hl => ?_⟩
  obtain ⟨i, hi, rfl⟩ := List.getElem_of_mem hl
  have hg := h.2 i (List.mem_range.2 hi)
  have hd : xs.getD i noLeaf = xs[i] := by simp [hi]
  have hn : nameOk xs[i].name = true ∧ valueOk xs[i].value = true := by
    cases i with
    | zero => simp only [goodAt, hd, Bool.and_eq_true] at hg; exact hg
    | succ j => simp only [goodAt, hd, Bool.and_eq_true] at hg; exact ⟨hg.1, hg.2.1⟩
  have h1 := hn.1
  have h2 := hn.2
  simp only [nameOk, valueOk, Bool.and_eq_true, inB_true] at h1 h2
  omega
theorem leavesOk_LeafSmall {xs : List Leaf} (h : leavesOk xs = true) : LeafSmall xs := by
  obtain ⟨h1, h2⟩ := leavesOk_small h
  exact ⟨by omega, fun l hl => by have := h2 l hl; omega⟩

end Go.Proofs.YtagkcgbggeajkaaDoor
