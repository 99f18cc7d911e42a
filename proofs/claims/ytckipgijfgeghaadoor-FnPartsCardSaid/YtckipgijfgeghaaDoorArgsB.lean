/- An argument that is a slice of bytes. -/
import Derived.Test.YtckipgijfgeghaaDoorLftA
import Derived.Test.YtckipgijfgeghaaDoorCurA
namespace Go.Proofs.YtckipgijfgeghaaDoor
open Go.ChangeShapes Go.WideShapes Go.ChangeAt Go.RowKit

theorem rd_bytes {w : World} {v : Value} (h : Rd w (.sl (.int .u8)) [v]) : ∃ xs, Code w w.heap.size v xs := by
  obtain ⟨v', len, flat, hv, hrow, hel⟩ := h
  simp only [List.cons.injEq, and_true] at hv
  subst hv
  simp only [Ty.n, Nat.mul_one] at hel hrow
  obtain ⟨hl, a, cap, rfl, -, -, hc⟩ := hrow
  have hch : ∀ i, i < len → ∃ x : Int, flat[i]? = some (.int .u8 x) ∧ 0 ≤ x ∧ x ≤ 255 := by
    intro i hi
    obtain ⟨n, hn, hw⟩ := hel i hi
    refine ⟨n, ?_, ?_⟩
    · have : ((flat.drop i).take 1)[0]? = some (.int .u8 n) := by rw [hn]; rfl
      simpa using this
    · exact bounds_u8 hw
  obtain ⟨F, hF⟩ := Deep.choose_lt hch
  have hg : ∀ j, j < len → ((List.range len).map F).getD j 0 = F j := fun j hj => by simp [List.getD, hj]
  refine ⟨(List.range len).map F, a, cap, by simp, fun j => ?_, ?_⟩
  · by_cases hj : j < len
    · rw [hg j hj]; exact (hF j hj).2
    · rw [List.getD_eq_getElem?_getD, List.getElem?_eq_none (by simp; omega)]; simp
  · rcases hc with h0 | ⟨b, o, rfl, hb, hc⟩
    · exact Or.inl (by simp [h0])
    · refine Or.inr ⟨b, o, rfl, hb, fun j hj => ?_⟩
      have hj' : j < len := by simpa using hj
      rw [hg j hj']
      exact hc j _ (hF j hj').1
end Go.Proofs.YtckipgijfgeghaaDoor
