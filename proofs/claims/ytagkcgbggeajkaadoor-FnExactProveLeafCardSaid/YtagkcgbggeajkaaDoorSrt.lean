/- Leaves that are right are sorted. -/
import Derived.Test.YtagkcgbggeajkaaDoorLeaf3
namespace Go.Proofs.YtagkcgbggeajkaaDoor
open Go.RowKit

theorem less_trans : ∀ (a b c : List UInt8), Op.bytesLess a b = true → Op.bytesLess b c = true → Op.bytesLess a c = true
  | a, [], c, h, _ => by cases a <;> simp [Op.bytesLess] at h
  | [], y :: b, c, _, h2 => by
    cases c with
    | nil => simp [Op.bytesLess] at h2
    | cons z c => rfl
  | x :: a, y :: b, [], _, h2 => by simp [Op.bytesLess] at h2
  | x :: a, y :: b, z :: c, h1, h2 => by
    simp only [Op.bytesLess, Bool.or_eq_true, Bool.and_eq_true, decide_eq_true_eq, beq_iff_eq] at h1 h2 ⊢
    rcases h1 with h1 | ⟨h1, h1'⟩
    · rcases h2 with h2 | ⟨h2, -⟩
      · exact Or.inl (UInt8.lt_trans h1 h2)
      · exact Or.inl (h2 ▸ h1)
    · rcases h2 with h2 | ⟨h2, h2'⟩
      · exact Or.inl (h1 ▸ h2)
      · exact Or.inr ⟨h1.trans h2, less_trans a b c h1' h2'⟩

def lss (a b : ByteArray) : Bool := Op.bytesLess a.toList b.toList
theorem lss_trans {a b c : ByteArray} (h : lss a b = true) (k : lss b c = true) : lss a c = true := less_trans _ _ _ h k
def Srt (xs : List Leaf) : Prop := xs.Pairwise fun a b => lss a.name b.name = true
theorem leavesOk_step {xs : List Leaf} (h : leavesOk xs = true) (j : Nat) (hj : j + 1 < xs.length) : lss xs[j].name xs[j + 1].name = true := by
  rw [leavesOk, Bool.and_eq_true, List.all_eq_true] at h
  have hg := h.2 (j + 1) (List.mem_range.2 hj)
  have h1 : xs.getD j noLeaf = xs[j] := by simp [show j < xs.length by omega]
  have h2 : xs.getD (j + 1) noLeaf = xs[j + 1] := by simp [hj]
  simp only [goodAt, h1, h2, Bool.and_eq_true] at hg
  exact hg.2.2
theorem leavesOk_lt {xs : List Leaf} (h : leavesOk xs = true) (i : Nat) : ∀ d, (hd : i + d + 1 < xs.length) → lss xs[i].name xs[i + d + 1].name = true
  | 0, hd => leavesOk_step h i hd
  | d + 1, hd => lss_trans (leavesOk_lt h i d (by omega)) (leavesOk_step h (i + d + 1) hd)
theorem leavesOk_srt {xs : List Leaf} (h : leavesOk xs = true) : Srt xs := by
  rw [Srt, List.pairwise_iff_getElem]
  intro i j hi hj hij
  obtain ⟨d, rfl⟩ : ∃ d, j = i + d + 1 := ⟨j - i - 1, by omega⟩
  exact leavesOk_lt h i d hj

end Go.Proofs.YtagkcgbggeajkaaDoor
