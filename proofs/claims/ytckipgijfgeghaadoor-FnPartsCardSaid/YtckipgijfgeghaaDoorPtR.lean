/- The roots of the parts: what they are. -/
import Derived.Test.YtckipgijfgeghaaDoorTreeP
import Derived.Test.YtckipgijfgeghaaDoorRof
import Derived.Test.YtckipgijfgeghaaDoorRoots2
namespace Go.Proofs.YtckipgijfgeghaaDoor
open Go.RowKit

theorem rts_at {xs : List Leaf} (h : leavesOk xs = true) {k : Nat} (hk : k ≤ 2) {j : Nat} (hj : j < 2 ^ k) : (rtsN xs k (2 ^ k)).getD j ⟨#[]⟩ = nodeT xs 16 (8 - k) j := by
  have hp : ((2 ^ k : Nat) : Int) = 2 ^ k := by push_cast; rfl
  have e : (rtsN xs k (2 ^ k)).getD j ⟨#[]⟩ = shRoot xs k j 16 := by simp [rtsN, List.getD, hj]
  rw [e, shRoot_yes (inB_true.2 (by omega)), nodeH_yes h (inB_true.2 (by omega)) (inB_true.2 (by rw [Int.toNat_natCast, ← hp]; omega)) rfl, show (8 - (k : Int)).toNat = 8 - k by omega]
theorem rts_ok {xs : List Leaf} (h : leavesOk xs = true) {k : Nat} (hk : k ≤ 2) : rootsOk (rtsN xs k (2 ^ k)) 16 = true := by
  have hw : wide (rtsN xs k (2 ^ k)) 16 = true := by
    refine wide_of fun s hs => ?_
    obtain ⟨j, hj, rfl⟩ := List.getElem_of_mem hs
    have hj' : j < 2 ^ k := by rw [rtsN_len] at hj; exact hj
    have := rts_at h hk hj'
    rw [List.getD_eq_getElem?_getD, List.getElem?_eq_getElem hj] at this
    rw [show (rtsN xs k (2 ^ k))[j] = nodeT xs 16 (8 - k) j from this]
    exact nodeT_size xs 16 rfl _ _
  rw [rootsOk, rtsN_len, hw]
  rcases (by omega : k = 0 ∨ k = 1 ∨ k = 2) with rfl | rfl | rfl <;> rfl
theorem rts_fit {xs : List Leaf} (h : leavesOk xs = true) {k : Nat} (hk : k ≤ 2) : ∀ s ∈ rtsN xs k (2 ^ k), s.size ≤ maxLen := by
  intro s hs
  obtain ⟨j, hj, rfl⟩ := List.getElem_of_mem hs
  have hj' : j < 2 ^ k := by rw [rtsN_len] at hj; exact hj
  have := rts_at h hk hj'
  rw [List.getD_eq_getElem?_getD, List.getElem?_eq_getElem hj] at this
  rw [show (rtsN xs k (2 ^ k))[j] = nodeT xs 16 (8 - k) j from this]
  exact le_max (nodeT_le xs 16 _ _) (by omega)
theorem up_at {xs : List Leaf} (h : leavesOk xs = true) {q : Nat} (hq : q < 2) : (upL (rtsN xs 2 (2 ^ 2)) 16).getD q ⟨#[]⟩ = nodeT xs 16 7 q := by
  have e0 := rts_at h (k := 2) (by omega) (j := 2 * q) (by omega)
  have e1 := rts_at h (k := 2) (by omega) (j := 2 * q + 1) (by omega)
  have hl : (rtsN xs 2 (2 ^ 2)).length = 4 := rtsN_len _ _ _
  have e : (upL (rtsN xs 2 (2 ^ 2)) 16).getD q ⟨#[]⟩ = tagH 3 [(rtsN xs 2 (2 ^ 2)).getD (2 * q) ⟨#[]⟩, (rtsN xs 2 (2 ^ 2)).getD (2 * q + 1) ⟨#[]⟩] 16 := by
    have hu : upL (rtsN xs 2 (2 ^ 2)) 16 = upK (rtsN xs 2 (2 ^ 2)) 16 2 := by rw [upL, hl]
    rw [hu]
    have hg : (upK (rtsN xs 2 (2 ^ 2)) 16 2).getD q ⟨#[]⟩ = pairH (rtsN xs 2 (2 ^ 2)) 16 q := by simp [upK, List.getD, hq]
    rw [hg, pairH]
  rw [e, e0, e1, show nodeT xs 16 7 (q : Int) = _ from node_both xs 16 6 q]
  push_cast
  rfl
theorem shd_ok {xs : List Leaf} (h : leavesOk xs = true) (k s : Int) : leavesOk (shdL xs k s) = true := by
  have e : shdL xs k s = xs.filter (shdP k s) := by simp [shdL, pickOn]
  rw [e]; exact leavesOk_filter h _
end Go.Proofs.YtckipgijfgeghaaDoor
