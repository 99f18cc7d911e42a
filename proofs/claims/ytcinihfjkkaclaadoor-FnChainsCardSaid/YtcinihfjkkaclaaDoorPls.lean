/- The first two places. -/
import Derived.Test.YtcinihfjkkaclaaDoorCurA
import Derived.Deep.AppendLies
namespace Go.Proofs.YtcinihfjkkaclaaDoor
open Go.RowKit

/-- the first two places -/
def Pls (W : World) (g : Nat) (x y : Int) : Prop := g < W.heap.size ∧ W.cell? ⟨g, 0, none⟩ = some (.int .i64 x) ∧ W.cell? ⟨g, 1, none⟩ = some (.int .i64 y)
theorem Pls.ext {W W' : World} {g : Nat} {x y : Int} (h : Pls W g x y) (hx : Ext W W') : Pls W' g x y :=
  ⟨Nat.lt_of_lt_of_le h.1 hx.size, (hx.cell _ _ h.1).trans h.2.1, (hx.cell _ _ h.1).trans h.2.2⟩
theorem Pls.grown {W W' : World} {g : Nat} {x y : Int} (h : Pls W g x y) {row : Option Nat} (hg : W.grownBy W' row) (hr : row ≠ some g) : Pls W' g x y := by
  have hne : ∀ o, some (⟨g, o, none⟩ : Addr).block ≠ row := fun o e => hr e.symm
  exact ⟨Nat.lt_of_lt_of_le h.1 hg.size, (hg.cell_far _ h.1 (hne 0)).trans h.2.1, (hg.cell_far _ h.1 (hne 1)).trans h.2.2⟩
end Go.Proofs.YtcinihfjkkaclaaDoor
