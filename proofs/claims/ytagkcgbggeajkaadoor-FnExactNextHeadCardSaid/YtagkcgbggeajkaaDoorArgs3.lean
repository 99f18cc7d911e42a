/- The arguments' readings in the walks' own words: heads in slices. -/
import Derived.Test.YtagkcgbggeajkaaDoorArgs2
import Derived.Test.YtagkcgbggeajkaaDoorHeads
namespace Go.Proofs.YtagkcgbggeajkaaDoor
open Go.ChangeShapes Go.WideShapes Go.ChangeAt Go.RowKit

instance : Inhabited Hd := ⟨hd0⟩
def tyHeads : Ty := .sl tyHead
theorem rd_heads {w : World} {v : Value} (h : Rd w tyHeads [v]) : ∃ xs, Hds w v xs ∧ HeadFit xs := by
  obtain ⟨v', len, flat, hv, hrow, hel⟩ := h
  simp only [List.cons.injEq, and_true] at hv
  subst hv
  obtain ⟨xs, hx, hf, hall⟩ := rows_flat (f := Hd.cells) (n := 4) hrow.1 (p := fun l => l.root.size ≤ maxLen ∧ l.prev.size ≤ maxLen) (fun i hi => by
    obtain ⟨n, e, a, b, hc, h1, h2⟩ := cells_head (hel i hi)
    exact ⟨⟨n, e, a, b⟩, hc, h1, h2⟩)
  refine ⟨xs, ?_, hall⟩
  unfold Hds
  rw [hx, ← hf]
  exact hrow
theorem arg_heads {W : World} {v : Value} (hv : ∃ a len cap, v = .slice a len cap) (h : Rd W tyHeads v.cells.toList) : ∃ xs, Hds W v xs ∧ HeadFit xs := by
  obtain ⟨a, len, cap, rfl⟩ := hv
  exact rd_heads h
end Go.Proofs.YtagkcgbggeajkaaDoor
