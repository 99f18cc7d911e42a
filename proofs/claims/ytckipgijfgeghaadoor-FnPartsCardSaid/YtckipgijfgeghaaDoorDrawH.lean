/- The draws of heads. -/
import Derived.Test.YtckipgijfgeghaaDoorCurA
import Derived.Test.YtckipgijfgeghaaDoorHashA
namespace Go.Proofs.YtckipgijfgeghaaDoor
open Go.RowKit

theorem Code.ext {w w' : World} {b b' : Nat} {v : Value} {xs : List Int} (h : Code w b v xs) (hb : b ≤ w.heap.size) (hx : Ext w w') (hb' : b ≤ b') : Code w' b' v xs := by
  obtain ⟨a, cap, rfl, h1, h2⟩ := h
  refine ⟨a, cap, rfl, h1, ?_⟩
  rcases h2 with h2 | ⟨g, o, rfl, hg, h2⟩
  · exact Or.inl h2
  · exact Or.inr ⟨g, o, rfl, by omega, fun j hj => (hx.cell _ _ (by omega)).trans (h2 j hj)⟩
theorem long_set (n k : Nat) (hk : k < n) (x : Int) : ((List.replicate k x ++ List.replicate (n - k) 0).map (Value.int .u8)).set k (.int .u8 x) = (List.replicate (k + 1) x ++ List.replicate (n - (k + 1)) 0).map (Value.int .u8) := by
  rw [List.map_append, List.set_append_right _ _ (by simp)]
  simp only [List.length_map, List.length_replicate, Nat.sub_self]
  rw [show n - k = (n - (k + 1)) + 1 by omega, List.replicate_succ, List.replicate_succ']
  simp
end Go.Proofs.YtckipgijfgeghaaDoor
