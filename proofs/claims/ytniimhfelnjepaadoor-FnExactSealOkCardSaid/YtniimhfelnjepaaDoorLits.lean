/- Literal slices of strings. -/
import Derived.Test.YtniimhfelnjepaaDoorStrs
namespace Go.Proofs.YtniimhfelnjepaaDoor
open Go.RowKit

theorem strs_nil (w : World) : Strs w (.slice none 0 0) [] :=
  ⟨rfl, none, 0, rfl, Nat.le_refl _, Nat.zero_le _, Or.inl rfl⟩
/-- a literal slice of strings, its block the newest -/
theorem strs_lit (w : World) (xs : List ByteArray) (n b : Nat) (t : TypeId) (hn : n = xs.length) (hb : b = w.heap.size) (hm : n ≤ 1000) : Strs (w.alloc (.cells (xs.map Value.string).toArray t)) (.slice (some ⟨b, 0, none⟩) n n) xs := by
  subst hb
  subst hn
  refine ⟨by simp, _, _, rfl, Nat.le_refl _, by unfold maxLen; omega, Or.inr ⟨w.heap.size, 0, rfl, by simp, fun j u hu => ?_⟩⟩
  rw [Nat.zero_add, World.cell?_alloc_new]
  simpa using hu
theorem strs_lit0 (w : World) (t : TypeId) : Strs (w.alloc (.cells #[] t)) (.slice (some ⟨w.heap.size, 0, none⟩) 0 0) [] := strs_lit w [] 0 _ t rfl rfl (by omega)
theorem strs_lit1 (w : World) (a : ByteArray) (t : TypeId) : Strs (w.alloc (.cells #[.string a] t)) (.slice (some ⟨w.heap.size, 0, none⟩) 1 1) [a] := strs_lit w [a] 1 _ t rfl rfl (by omega)
theorem strs_lit2 (w : World) (a b : ByteArray) (t : TypeId) : Strs (w.alloc (.cells #[.string a, .string b] t)) (.slice (some ⟨w.heap.size, 0, none⟩) 2 2) [a, b] := strs_lit w [a, b] 2 _ t rfl rfl (by omega)
theorem fit1 {a : ByteArray} (h : a.size ≤ maxLen) : ∀ s ∈ [a], s.size ≤ maxLen := by
  intro s hs
  rw [List.mem_singleton] at hs
  rw [hs]; exact h
theorem fit2 {a b : ByteArray} (h : a.size ≤ maxLen) (k : b.size ≤ maxLen) : ∀ s ∈ [a, b], s.size ≤ maxLen := by
  intro s hs
  rw [List.mem_cons, List.mem_singleton] at hs
  rcases hs with rfl | rfl <;> assumption
theorem fit0 : ∀ s ∈ ([] : List ByteArray), s.size ≤ maxLen := fun _ h => by cases h
theorem le_max {a : ByteArray} {n : Nat} (h : a.size ≤ n) (hn : n ≤ 1099511627776) : a.size ≤ maxLen := by unfold maxLen; omega
end Go.Proofs.YtniimhfelnjepaaDoor
