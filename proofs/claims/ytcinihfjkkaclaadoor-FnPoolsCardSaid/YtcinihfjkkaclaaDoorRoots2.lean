/- CombineRoots; the law. -/
import Derived.Test.YtcinihfjkkaclaaDoorHashA
namespace Go.Proofs.YtcinihfjkkaclaaDoor
open Go.RowKit

/-- the first string of a list of one -/
theorem strs_first {w : World} {a : Option Addr} {n c : Nat} {ys : List ByteArray} (h : Strs w (.slice a n c) ys) (hn : 0 < ys.length) : ∃ b o, a = some ⟨b, o, none⟩ ∧ b < w.heap.size ∧ w.cell? ⟨b, o, none⟩ = some (.string (ys.getD 0 ⟨#[]⟩)) := by
  obtain ⟨-, a1, c1, hv, -, -, g⟩ := h
  injection hv with e1 e2 e3
  subst e1
  rcases g with g | ⟨b, o, rfl, hb, g⟩
  · omega
  · refine ⟨b, o, rfl, hb, ?_⟩
    have := g 0 (.string (ys.getD 0 ⟨#[]⟩)) (by rw [ba_getD _ _ hn]; simp [hn])
    simpa using this
/-- the cells of a list, as they are copied -/
theorem strs_cells {w : World} {b o n c : Nat} {ys : List ByteArray} (h : Strs w (.slice (some ⟨b, o, none⟩) n c) ys) (hn : 0 < ys.length) : ∀ j u, (ys.map Value.string)[j]? = some u → w.cell? ((⟨b, o, none⟩ : Addr).add j) = some u := by
  obtain ⟨-, a1, c1, hv, -, -, g⟩ := h
  injection hv with e1 e2 e3
  subst e1
  rcases g with g | ⟨b', o', hb', hb, g⟩
  · omega
  · injection hb' with hb'
    injection hb' with h1 h2
    subst h1 h2
    intro j u hu
    rw [Addr.add_lit]
    exact g j u hu
theorem combR_yes {xs : List ByteArray} {wd : Int} (h : rootsOk xs wd = true) : combR xs wd = combT xs wd := by rw [combR, if_pos h]
theorem combR_no {xs : List ByteArray} {wd : Int} (h : rootsOk xs wd = false) : combR xs wd = ⟨#[]⟩ := by rw [combR, if_neg (by rw [h]; decide)]
theorem lvl_le (n : Nat) : lvl n ≤ 2 := by unfold lvl; split <;> (try split) <;> omega

end Go.Proofs.YtcinihfjkkaclaaDoor
