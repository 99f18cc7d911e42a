/- When a proof is well-formed. -/
import Derived.Test.YtagkcgbggeajkaaDoorLeaf3
import Derived.Test.YtagkcgbggeajkaaDoorJoin
import Derived.Test.YtagkcgbggeajkaaDoorWide
namespace Go.Proofs.YtagkcgbggeajkaaDoor
open Go.RowKit

def proofWell (xs : List Leaf) (ss : List ByteArray) (wd : Int) : Bool := leavesOk xs && (decide (ss.length ≤ 8) && (inB wd 1 32 && wide ss wd))
theorem wide_small {ss : List ByteArray} {wd : Int} (h1 : ss.length ≤ 1000) (h2 : inB wd 1 32 = true) (h3 : wide ss wd = true) : StrSmall ss := by
  refine ⟨h1, fun s hs => ?_⟩
  rw [inB_true] at h2
  rw [wide, List.all_eq_true] at h3
  have := of_decide_eq_true (h3 s hs)
  omega
theorem proofWell_cases (xs : List Leaf) (ss : List ByteArray) (wd : Int) :
    (proofWell xs ss wd = false ∧ leavesOk xs = false) ∨ (proofWell xs ss wd = false ∧ leavesOk xs = true ∧ 8 < ss.length) ∨ (proofWell xs ss wd = false ∧ leavesOk xs = true ∧ ss.length ≤ 8 ∧ inB wd 1 32 = false) ∨ (proofWell xs ss wd = false ∧ leavesOk xs = true ∧ ss.length ≤ 8 ∧ inB wd 1 32 = true ∧ wide ss wd = false) ∨ (proofWell xs ss wd = true ∧ leavesOk xs = true ∧ ss.length ≤ 8 ∧ inB wd 1 32 = true ∧ wide ss wd = true) := by
  unfold proofWell
  by_cases h2 : ss.length ≤ 8
  · cases leavesOk xs <;> cases inB wd 1 32 <;> cases wide ss wd <;> simp [h2]
  · cases leavesOk xs <;> simp [h2]; omega
end Go.Proofs.YtagkcgbggeajkaaDoor
