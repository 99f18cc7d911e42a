/- Slices that are nil or lie somewhere. -/
import Derived.Test.YtckipgijfgeghaaDoorCore
import Derived.Deep.AppendLies
import Derived.Laws.AppendOwnNone
namespace Go.Proofs.YtckipgijfgeghaaDoor
open Go.RowKit

/-- a slice that is nil outright, or lies somewhere -/
def Solid (v : Value) : Prop := v = .slice none 0 0 ∨ ∃ b o n c, v = .slice (some ⟨b, o, none⟩) n c
theorem own_solid {w : World} {base : Nat} {e : TypeId} {size n : Nat} {v : Value} {xs : List Value} (h : w.ownsRow base e size v n xs) : Solid v := by
  rcases h.2 with ⟨rfl, -⟩ | ⟨g, cap, cur, rfl, -⟩
  · exact Or.inl rfl
  · exact Or.inr ⟨g, 0, n, cap, rfl⟩
theorem cells_news {w : World} {b o : Nat} {flat : List Value} (h : ∀ j u, flat[j]? = some u → w.cell? ⟨b, o + j, none⟩ = some u) : ∀ j u, flat[j]? = some u → w.cell? ((⟨b, o, none⟩ : Addr).add j) = some u := by
  intro j u hj
  have hadd : (⟨b, o, none⟩ : Addr).add j = ⟨b, o + j, none⟩ := by unfold Addr.add; split <;> simp_all
  rw [hadd]
  exact h j u hj
end Go.Proofs.YtckipgijfgeghaaDoor
