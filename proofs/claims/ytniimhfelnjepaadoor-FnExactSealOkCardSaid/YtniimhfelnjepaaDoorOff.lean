/- Slices that lie in blocks of their own. -/
import Derived.Test.YtniimhfelnjepaaDoorOwnG
namespace Go.Proofs.YtniimhfelnjepaaDoor
open Go.RowKit

/-- two slices lie in blocks of their own -/
def Off (v r : Value) : Prop := ∀ g, v.ownBlock = some g → r.ownBlock ≠ some g
theorem off_next {v v' r : Value} {H : Nat} (h : Off v r) (hat : v'.ownBlock = v.ownBlock ∨ v'.ownBlock = some H) (hb : ∀ g, r.ownBlock = some g → g < H) : Off v' r := by
  intro g hg hr
  rcases hat with hat | hat
  · exact h g (hat ▸ hg) hr
  · rw [hat] at hg
    injection hg with hg
    have := hb g hr
    omega
theorem row_grown {w w' : World} {n : Nat} {v : Value} {len : Nat} {flat : List Value} {row : Option Nat} (h : Row w n v len flat) (hg : w.grownBy w' row) (hne : ∀ g, row = some g → v.ownBlock ≠ some g) : Row w' n v len flat := by
  obtain ⟨h1, a, cap, rfl, h2, h3, h4⟩ := h
  refine ⟨h1, a, cap, rfl, h2, h3, ?_⟩
  rcases h4 with h4 | ⟨b, o, rfl, hb, hc⟩
  · exact Or.inl h4
  · exact Or.inr ⟨b, o, rfl, Nat.lt_of_lt_of_le hb hg.size, fun j u hu => (World.cell?_of_block (w := w) (a := ⟨b, o + j, none⟩) (hg.block b hb (fun e => hne b e.symm rfl))).trans (hc j u hu)⟩
theorem own_grown2 {w w' : World} {base : Nat} {e : TypeId} {size n : Nat} {v : Value} {xs : List Value} (h : w.ownsRow base e size v n xs) {row : Option Nat} (hg : w.grownBy w' row) (hr : ∀ k, row = some k → v.ownBlock ≠ some k) : w'.ownsRow base e size v n xs := by
  refine ⟨h.1, ?_⟩
  rcases h.2 with h2 | ⟨g, cap, cur, hv, hb, hh, r⟩
  · exact Or.inl h2
  · exact Or.inr ⟨g, cap, cur, hv, hb, (hg.block g (Array.getElem?_eq_some_iff.1 hh).1 (fun e => hr g e.symm (by rw [hv]; rfl))).trans hh, r⟩
theorem off_new {w : World} {base b : Nat} {e e' : TypeId} {n m size size' : Nat} {v r : Value} {xs ys : List Value} (h : w.ownsRow base e size v n xs) {w' : World} (h' : w'.ownsRow b e' size' r m ys) (hb : w.heap.size ≤ b) : Off v r := by
  intro g hg hr
  have h1 := (own_lt h g hg).2
  have h2 := (own_lt h' g hr).1
  omega
end Go.Proofs.YtniimhfelnjepaaDoor
