/- A proof in a part, and the roots of all parts: the plain law. -/
import Derived.Test.YtliebkhfddmhjaaDoorFgP
import Derived.Test.YtliebkhfddmhjaaDoorForgeP
import Derived.Test.YtliebkhfddmhjaaDoorRof
import Derived.Test.YtliebkhfddmhjaaDoorSides
import Derived.Test.YtliebkhfddmhjaaDoorHashA
namespace Go.Proofs.YtliebkhfddmhjaaDoor
open Go.RowKit

theorem besT_at {m j : Nat} (h : m / 2 ^ j ≤ 3) : besT (m : Int) j = (besideN (m / 2 ^ j) : Int) := by
  have e : ((m : Int) / 2 ^ j) = ((m / 2 ^ j : Nat) : Int) := by push_cast; rfl
  rw [besT, e, beside_bits h]
/-- from a part's root up along the sides of the other parts -/
theorem fold_part (xs : List Leaf) (wd i : Int) (k : Nat) (ts : List ByteArray) (hi : 0 ≤ i ∧ i ≤ 255) (hk : k ≤ 2)
    (ht : ∀ j, j < k → ts.getD j ⟨#[]⟩ = nodeT xs wd (8 - k + j) (besT i (8 - k + j))) : ∀ j, j ≤ k → foldSt (nodeT xs wd (8 - k) (i / 2 ^ (8 - k))) i k wd ts j = nodeT xs wd (8 - k + j) (i / 2 ^ (8 - k + j))
  | 0, _ => by rw [foldSt]; rfl
  | j + 1, h => by
    have hp := pair_up (k := 8 - k + j) hi (by omega) (nodeT xs wd (8 - k + j))
    rw [foldSt, fold_part xs wd i k ts hi hk ht j (by omega), ht j (by omega), show ((k : Int) - 1 - (j : Int)) = 8 - 1 - ((8 - k + j : Nat) : Int) by omega, hp, ← node_both]
    rfl
theorem rts_at {xs : List Leaf} (h : leavesOk xs = true) {k : Nat} (hk : k ≤ 2) {j : Nat} (hj : j < 2 ^ k) : (rtsN xs k (2 ^ k)).getD j ⟨#[]⟩ = nodeT xs 16 (8 - k) j := by
  have hp : ((2 ^ k : Nat) : Int) = 2 ^ k := by push_cast; rfl
  have e : (rtsN xs k (2 ^ k)).getD j ⟨#[]⟩ = shRoot xs k j 16 := by simp [rtsN, List.getD, hj]
  rw [e, shRoot_yes (inB_true.2 (by omega)), nodeH_yes h (inB_true.2 (by omega)) (inB_true.2 (by rw [Int.toNat_natCast, ← hp]; omega)) rfl, show (8 - (k : Int)).toNat = 8 - k by omega]
theorem rts_ok {xs : List Leaf} (h : leavesOk xs = true) {k : Nat} (hk : k ≤ 2) : rootsOk (rtsN xs k (2 ^ k)) 16 = true := by
  have hw : wide (rtsN xs k (2 ^ k)) 16 = true := by
    refine wide_of fun s hs => ?_
    obtain ⟨j, hj, rfl⟩ := List.getElem_of_mem hs
    have hj' : j < 2 ^ k := by rw [rtsN_len] at hj; exact hj
    have := rts_at h hk hj'
    rw [List.getD_eq_getElem?_getD, List.getElem?_eq_getElem hj] at this
    rw [show (rtsN xs k (2 ^ k))[j] = nodeT xs 16 (8 - k) j from this]
    exact nodeT_size xs 16 rfl _ _
  rw [rootsOk, rtsN_len, hw]
  rcases (by omega : k = 0 ∨ k = 1 ∨ k = 2) with rfl | rfl | rfl <;> rfl
theorem rts_fit {xs : List Leaf} (h : leavesOk xs = true) {k : Nat} (hk : k ≤ 2) : ∀ s ∈ rtsN xs k (2 ^ k), s.size ≤ maxLen := by
  intro s hs
  obtain ⟨j, hj, rfl⟩ := List.getElem_of_mem hs
  have hj' : j < 2 ^ k := by rw [rtsN_len] at hj; exact hj
  have := rts_at h hk hj'
  rw [List.getD_eq_getElem?_getD, List.getElem?_eq_getElem hj] at this
  rw [show (rtsN xs k (2 ^ k))[j] = nodeT xs 16 (8 - k) j from this]
  exact le_max (nodeT_le xs 16 _ _) (by omega)
theorem up_at {xs : List Leaf} (h : leavesOk xs = true) {q : Nat} (hq : q < 2) : (upL (rtsN xs 2 (2 ^ 2)) 16).getD q ⟨#[]⟩ = nodeT xs 16 7 q := by
  have e0 := rts_at h (k := 2) (by omega) (j := 2 * q) (by omega)
  have e1 := rts_at h (k := 2) (by omega) (j := 2 * q + 1) (by omega)
  have hl : (rtsN xs 2 (2 ^ 2)).length = 4 := rtsN_len _ _ _
  have e : (upL (rtsN xs 2 (2 ^ 2)) 16).getD q ⟨#[]⟩ = tagH 3 [(rtsN xs 2 (2 ^ 2)).getD (2 * q) ⟨#[]⟩, (rtsN xs 2 (2 ^ 2)).getD (2 * q + 1) ⟨#[]⟩] 16 := by
    have hu : upL (rtsN xs 2 (2 ^ 2)) 16 = upK (rtsN xs 2 (2 ^ 2)) 16 2 := by rw [upL, hl]
    rw [hu]
    have hg : (upK (rtsN xs 2 (2 ^ 2)) 16 2).getD q ⟨#[]⟩ = pairH (rtsN xs 2 (2 ^ 2)) 16 q := by simp [upK, List.getD, hq]
    rw [hg, pairH]
  rw [e, e0, e1, show nodeT xs 16 7 (q : Int) = _ from node_both xs 16 6 q]
  push_cast
  rfl
/-- the sides among the parts -/
theorem tops_at {xs : List Leaf} (h : leavesOk xs = true) {m k : Nat} (hm : m ≤ 255) (hk : k ≤ 2) :
    sidesOk (rtsN xs k (2 ^ k)) ((m / 2 ^ (8 - k) : Nat) : Int) 16 = true ∧ (sidesL (rtsN xs k (2 ^ k)) ((m / 2 ^ (8 - k) : Nat) : Int) 16).length = k ∧
    ∀ j, j < k → (sidesL (rtsN xs k (2 ^ k)) ((m / 2 ^ (8 - k) : Nat) : Int) 16).getD j ⟨#[]⟩ = nodeT xs 16 (8 - k + j) (besT (m : Int) (8 - k + j)) := by
  have hs : m / 2 ^ (8 - k) < 2 ^ k := by
    rw [Nat.div_lt_iff_lt_mul (Nat.pow_pos (by decide)), ← Nat.pow_add, show k + (8 - k) = 8 by omega]
    omega
  have hok : sidesOk (rtsN xs k (2 ^ k)) ((m / 2 ^ (8 - k) : Nat) : Int) 16 = true := by
    generalize m / 2 ^ (8 - k) = s at hs
    rw [sidesOk, rts_ok h hk, rtsN_len, Bool.true_and, inB_true]
    omega
  have hlv : lvl (rtsN xs k (2 ^ k)).length = k := by
    rw [rtsN_len]
    rcases (by omega : k = 0 ∨ k = 1 ∨ k = 2) with rfl | rfl | rfl <;> rfl
  rw [sidesL, if_pos hok, hlv, Int.toNat_natCast, sideT_length]
  refine ⟨hok, rfl, fun j hj => ?_⟩
  rcases (by omega : k = 0 ∨ k = 1 ∨ k = 2) with rfl | rfl | rfl
  · omega
  · obtain rfl : j = 0 := by omega
    rw [sideT]
    rw [show ∀ (a : ByteArray) (l : List ByteArray), (a :: l).getD 0 ⟨#[]⟩ = a from fun _ _ => rfl, rts_at h hk (by have := beside_lt (s := m / 2 ^ (8 - 1)) (p := 1) (by omega); omega), besT_at (by omega)]
  · rcases (by omega : j = 0 ∨ j = 1) with rfl | rfl
    · rw [sideT]
      rw [show ∀ (a : ByteArray) (l : List ByteArray), (a :: l).getD 0 ⟨#[]⟩ = a from fun _ _ => rfl, rts_at h hk (by have := beside_lt (s := m / 2 ^ (8 - 2)) (p := 2) (by omega); omega), besT_at (by omega)]
    · rw [sideT, sideT]
      rw [show ∀ (a b : ByteArray) (l : List ByteArray), (a :: b :: l).getD 1 ⟨#[]⟩ = b from fun _ _ _ => rfl, up_at h (by have := beside_lt (s := m / 2 ^ (8 - 2) / 2) (p := 1) (by omega); omega), besT_at (by omega), show m / 2 ^ (8 - 2) / 2 = m / 2 ^ (8 - 2 + 1) by omega]
theorem tops_fit {xs : List Leaf} {n : ByteArray} (h : leavesOk xs = true) {k : Nat} (hk : k ≤ 2) : ∀ s ∈ sidesL (rtsN xs k (2 ^ k)) (shardT n k) 16, s.size ≤ maxLen := by
  have hib := idxT_bd n
  obtain ⟨m, hm⟩ := Int.eq_ofNat_of_zero_le hib.1
  have hsT : shardT n k = ((m / 2 ^ (8 - k) : Nat) : Int) := by
    rw [shardT_yes (inB_true.2 (by omega)), show (8 - (k : Int)).toNat = 8 - k by omega, hm]; push_cast; rfl
  obtain ⟨-, t2, t3⟩ := tops_at h (m := m) (k := k) (by omega) hk
  rw [hsT]
  intro s hs
  obtain ⟨j, hj, rfl⟩ := List.getElem_of_mem hs
  have := t3 j (by rw [t2] at hj; exact hj)
  rw [List.getD_eq_getElem?_getD, List.getElem?_eq_getElem hj] at this
  rw [show (sidesL (rtsN xs k (2 ^ k)) ((m / 2 ^ (8 - k) : Nat) : Int) 16)[j] = _ from this]
  exact le_max (nodeT_le xs 16 _ _) (by omega)
theorem shd_ok {xs : List Leaf} (h : leavesOk xs = true) (k s : Int) : leavesOk (shdL xs k s) = true := by
  have e : shdL xs k s = xs.filter (shdP k s) := by simp [shdL, pickOn]
  rw [e]; exact leavesOk_filter h _
theorem parts_law {xs : List Leaf} {n : ByteArray} {k : Nat} (h : leavesOk xs = true) (hn : nameOk n = true) (hk : k ≤ 2) :
    plOk (shdL xs k (shardT n k)) n k 16 = true ∧ sidesOk (rtsN xs k (2 ^ k)) (shardT n k) 16 = true ∧ (sidesL (rtsN xs k (2 ^ k)) (shardT n k) 16).length = k ∧
    foldH (prHash n (plB (shdL xs k (shardT n k)) n k 16) (plS (shdL xs k (shardT n k)) n k 16) 16) (idxT n) k (sidesL (rtsN xs k (2 ^ k)) (shardT n k) 16) 16 = nodeH xs 0 0 16 := by
  have hib := idxT_bd n
  have ik : inB (k : Int) 0 2 = true := inB_true.2 (by omega)
  have ik8 : inB (k : Int) 0 8 = true := inB_true.2 (by omega)
  have hP := shd_ok h k (shardT n k)
  have pu : plOk (shdL xs k (shardT n k)) n k 16 = true := by rw [plOk, hP, hn, ik8]; rfl
  obtain ⟨a1, a2⟩ := pl_yes pu
  have ku := prove_ok pu
  have hnode : ∀ q, q = idxT n / 2 ^ (8 - k) → nodeT (shdL xs k (shardT n k)) 16 (8 - k) q = nodeT xs 16 (8 - k) q := by
    rintro q rfl
    have e : shdL xs k (shardT n k) = xs.filter (shdP k (shardT n k)) := by simp [shdL, pickOn]
    rw [e]
    refine node_sub xs 16 _ _ _ (fun l _ hl => ?_)
    rw [belP, beq_iff_eq] at hl
    rw [shdP, shardT_yes ik, shardT_yes ik, show (8 - (k : Int)).toNat = 8 - k by omega, hl]
    simp
  have hH : prHash n (plB (shdL xs k (shardT n k)) n k 16) (plS (shdL xs k (shardT n k)) n k 16) 16 = nodeT xs 16 (8 - k) (idxT n / 2 ^ (8 - k)) := by
    rw [prHash_fold ku (proof_fit ku), a1, a2, sdF_yes hP (inB_true.2 hib) ik8 rfl, sdL_len, show (8 - (k : Int)).toNat = 8 - k by omega]
    have xu : leavesOk (bktL (shdL xs k (shardT n k)) (idxT n)) = true := by rw [bkt_bel]; exact belL_ok hP 0 _
    have hb : cutT (bucketT (bktL (shdL xs k (shardT n k)) (idxT n))) 16 = nodeT (shdL xs k (shardT n k)) 16 0 (idxT n) := by
      rw [← node_bucket hP, ← bkt_bel, bucketH, if_pos xu, bucketTx, if_pos xu]
    rw [hb, fold_up _ 16 _ (8 - k) hib (by omega) (8 - k) (Nat.le_refl _)]
    exact hnode _ rfl
  have hsT : shardT n k = idxT n / 2 ^ (8 - k) := by rw [shardT_yes ik, show (8 - (k : Int)).toNat = 8 - k by omega]
  rw [hH, hsT]
  obtain ⟨m, hm⟩ := Int.eq_ofNat_of_zero_le hib.1
  have hq : idxT n / 2 ^ (8 - k) = ((m / 2 ^ (8 - k) : Nat) : Int) := by rw [hm]; push_cast; rfl
  obtain ⟨t1, t2, t3⟩ := tops_at h (m := m) (k := k) (by omega) hk
  rw [hsT] at pu
  refine ⟨pu, by rw [hq]; exact t1, by rw [hq]; exact t2, ?_⟩
  have hf := fold_part xs 16 (idxT n) k (sidesL (rtsN xs k (2 ^ k)) (idxT n / 2 ^ (8 - k)) 16) hib hk (fun j hj => by rw [hq, hm]; exact t3 j hj) k (Nat.le_refl _)
  have hlen : (sidesL (rtsN xs k (2 ^ k)) (idxT n / 2 ^ (8 - k)) 16).length = k := by rw [hq]; exact t2
  rw [foldH, if_pos ik8, if_pos (by rw [hlen]; exact Int.le_refl _), hlen, hf, show 8 - k + k = 8 by omega, up_zero _ hib, nodeH_yes (l := 0) (p := 0) h rfl rfl rfl]
  rfl
end Go.Proofs.YtliebkhfddmhjaaDoor
