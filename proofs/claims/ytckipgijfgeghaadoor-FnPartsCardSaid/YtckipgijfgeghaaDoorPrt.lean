/- All parts together are the list, and the parts' roots make the root: the plain law of FnParts. -/
import Derived.Test.YtckipgijfgeghaaDoorAlp
import Derived.Test.YtckipgijfgeghaaDoorPtR
namespace Go.Proofs.YtckipgijfgeghaaDoor
open Go.RowKit

/-- the first n parts -/
def prtN (xs : List Leaf) (k n : Nat) : List (List Leaf) := (List.range n).map fun j : Nat => shdL xs k j
theorem prtN_len (xs : List Leaf) (k n : Nat) : (prtN xs k n).length = n := by simp [prtN]
theorem prtN_succ (xs : List Leaf) (k n : Nat) : prtN xs k (n + 1) = prtN xs k n ++ [shdL xs k n] := by simp [prtN, List.range_succ]
theorem prtN_at (xs : List Leaf) (k n j : Nat) (h : j < (prtN xs k n).length) : (prtN xs k n)[j] = shdL xs k j := by simp [prtN]
theorem shd_filter (xs : List Leaf) (k s : Int) : shdL xs k s = xs.filter (shdP k s) := by simp [shdL, pickOn]
theorem prt_perm (xs : List Leaf) (k : Nat) : ∀ n : Nat, (prtN xs k n).flatten.Perm (xs.filter fun l => decide (0 ≤ shardT l.name k ∧ shardT l.name k < n))
  | 0 => by
    have e : (xs.filter fun l => decide (0 ≤ shardT l.name k ∧ shardT l.name k < ((0 : Nat) : Int))) = [] := by
      rw [List.filter_eq_nil_iff]
      intro l _ h
      have := of_decide_eq_true h
      omega
    rw [e]
    exact List.Perm.refl _
  | n + 1 => by
    rw [prtN_succ, List.flatten_append]
    have ih := prt_perm xs k n
    have e1 : (xs.filter fun l => decide (0 ≤ shardT l.name k ∧ shardT l.name k < (n : Nat))) = (xs.filter fun l => decide (0 ≤ shardT l.name k ∧ shardT l.name k < ((n + 1 : Nat) : Int))).filter fun l => decide (shardT l.name k < n) := by
      rw [List.filter_filter]
      refine List.filter_congr fun l _ => ?_
      rw [← Bool.decide_and, decide_eq_decide]
      omega
    have e2 : shdL xs k n = (xs.filter fun l => decide (0 ≤ shardT l.name k ∧ shardT l.name k < ((n + 1 : Nat) : Int))).filter fun l => !decide (shardT l.name k < n) := by
      rw [List.filter_filter, shd_filter]
      refine List.filter_congr fun l _ => ?_
      rw [shdP, ← decide_not, ← Bool.decide_and]
      apply Bool.eq_iff_iff.2
      rw [beq_iff_eq, decide_eq_true_iff]
      omega
    rw [e1] at ih
    have e3 : [shdL xs k n].flatten = shdL xs k n := by simp
    rw [e3, e2]
    exact (ih.append_right _).trans (List.filter_append_perm _ _)
theorem shard_lt (t : ByteArray) {k : Nat} (hk : k ≤ 2) : 0 ≤ shardT t k ∧ shardT t k < ((2 ^ k : Nat) : Int) := by
  have hb := idxT_bd t
  rw [shardT_yes (inB_true.2 (by omega)), show (8 - (k : Int)).toNat = 8 - k by omega]
  rcases (by omega : k = 0 ∨ k = 1 ∨ k = 2) with rfl | rfl | rfl <;> simp <;> omega
theorem prt_all {xs : List Leaf} (h : leavesOk xs = true) {k : Nat} (hk : k ≤ 2) : allR (prtN xs k (2 ^ k)).flatten = (xs, true) := by
  have hs := leavesOk_srt h
  refine all_ok (List.Perm.symm ((prt_perm xs k (2 ^ k)).trans ?_)) (hs.imp fun {a b} hab => lss_asym hab) h
  rw [List.filter_eq_self.2 fun l _ => decide_eq_true (shard_lt l.name hk)]
/-- what a part holds -/
theorem shd_mem {xs : List Leaf} {k s : Int} {l : Leaf} (h : l ∈ shdL xs k s) : shardT l.name k = s := by
  rw [shd_filter] at h
  exact beq_iff_eq.1 (List.mem_filter.1 h).2
/-- the root of a part taken alone -/
theorem shRoot_part {xs : List Leaf} (h : leavesOk xs = true) {k : Nat} (hk : k ≤ 2) {j : Nat} (hj : j < 2 ^ k) : shRoot (shdL xs k j) k j 16 = shRoot xs k j 16 := by
  have hp : ((2 ^ k : Nat) : Int) = 2 ^ k := by push_cast; rfl
  have hB := shd_ok h k j
  rw [shRoot_yes (inB_true.2 (by omega)), shRoot_yes (inB_true.2 (by omega)), nodeH_yes h (inB_true.2 (by omega)) (inB_true.2 (by rw [Int.toNat_natCast, ← hp]; omega)) rfl, nodeH_yes hB (inB_true.2 (by omega)) (inB_true.2 (by rw [Int.toNat_natCast, ← hp]; omega)) rfl, show (8 - (k : Int)).toNat = 8 - k by omega, shd_filter]
  refine node_sub xs 16 _ _ _ (fun l _ hl => ?_)
  rw [belP, beq_iff_eq] at hl
  rw [shdP, shardT_yes (inB_true.2 (by omega)), show (8 - (k : Int)).toNat = 8 - k by omega, hl]
  simp
theorem rts_comb {xs : List Leaf} (h : leavesOk xs = true) {k : Nat} (hk : k ≤ 2) : combR (rtsN xs k (2 ^ k)) 16 = nodeH xs 0 0 16 := by
  have hz : nodeH xs 0 0 16 = nodeT xs 16 8 0 := by rw [nodeH_yes (l := 0) (p := 0) h rfl rfl rfl]; rfl
  rw [combR_yes (rts_ok h hk), combT, rtsN_len, hz]
  rcases (by omega : k = 0 ∨ k = 1 ∨ k = 2) with rfl | rfl | rfl
  · show (rtsN xs 0 (2 ^ 0)).getD 0 ⟨#[]⟩ = _
    rw [rts_at h hk (j := 0) (by omega)]
    rfl
  · show (upL (rtsN xs 1 (2 ^ 1)) 16).getD 0 ⟨#[]⟩ = _
    have e0 := rts_at h (k := 1) (by omega) (j := 0) (by omega)
    have e1 := rts_at h (k := 1) (by omega) (j := 1) (by omega)
    have hu : upL (rtsN xs 1 (2 ^ 1)) 16 = [pairH (rtsN xs 1 (2 ^ 1)) 16 0] := by rw [upL, rtsN_len]; rfl
    rw [hu]
    show pairH (rtsN xs 1 (2 ^ 1)) 16 0 = _
    rw [pairH, e0, e1, show nodeT xs 16 8 0 = _ from node_both xs 16 7 0]
    rfl
  · show (upL (upL (rtsN xs 2 (2 ^ 2)) 16) 16).getD 0 ⟨#[]⟩ = _
    have e0 := up_at h (q := 0) (by omega)
    have e1 := up_at h (q := 1) (by omega)
    have hu : upL (upL (rtsN xs 2 (2 ^ 2)) 16) 16 = [pairH (upL (rtsN xs 2 (2 ^ 2)) 16) 16 0] := by rw [upL, upL_length, rtsN_len]; rfl
    rw [hu]
    show pairH (upL (rtsN xs 2 (2 ^ 2)) 16) 16 0 = _
    rw [pairH, e0, e1, show nodeT xs 16 8 0 = _ from node_both xs 16 7 0]
    rfl
end Go.Proofs.YtckipgijfgeghaaDoor
