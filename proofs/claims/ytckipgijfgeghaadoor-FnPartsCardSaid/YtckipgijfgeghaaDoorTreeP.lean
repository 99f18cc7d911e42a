/- The hash of a place is made of the two below it; sides lead up to the root. -/
import Derived.Test.YtckipgijfgeghaaDoorNodeP
import Derived.Test.YtckipgijfgeghaaDoorFold
import Derived.Test.YtckipgijfgeghaaDoorTree
namespace Go.Proofs.YtckipgijfgeghaaDoor
open Go.RowKit

theorem bel_none {xs : List Leaf} {n : Nat} {p q : Int} (hq : q = 2 * p ∨ q = 2 * p + 1) (h : (belL xs (n + 1) p).length = 0) : (belL xs n q).length = 0 := by
  have h1 := List.eq_nil_of_length_eq_zero h
  rw [belL_eq, List.filter_eq_nil_iff] at h1
  have h2 : belL xs n q = [] := by
    rw [belL_eq, List.filter_eq_nil_iff]
    intro l hl e
    exact h1 l hl (bel_up hq e)
  rw [h2]; rfl
/-- a place is made of the two below it -/
theorem node_both (xs : List Leaf) (wd : Int) (n : Nat) (p : Int) : nodeT xs wd (n + 1) p = tagH 3 [nodeT xs wd n (2 * p), nodeT xs wd n (2 * p + 1)] wd := by
  by_cases h : (belL xs (n + 1) p).length = 0
  · rw [node_none wd h, node_none wd (bel_none (Or.inl rfl) h), node_none wd (bel_none (Or.inr rfl) h)]
    rfl
  · exact node_some wd h
theorem and1_all : ∀ m : Fin 256, bits .and .i64 ((m.val : Nat) : Int) 1 = ((m.val % 2 : Nat) : Int) := by decide +kernel
theorem half_bd (i : Int) (k : Nat) (hi : 0 ≤ i ∧ i ≤ 255) : ∃ m : Nat, i / 2 ^ k = (m : Int) ∧ m < 256 := by
  obtain ⟨n, rfl⟩ := Int.eq_ofNat_of_zero_le hi.1
  refine ⟨n / 2 ^ k, by push_cast; rfl, ?_⟩
  have : n / 2 ^ k ≤ n := Nat.div_le_self _ _
  omega
/-- the two places below the place above -/
theorem pair_up {i : Int} {k : Nat} (hi : 0 ≤ i ∧ i ≤ 255) (hk : k < 8) (f : Int → ByteArray) :
    pairOf (bitT i (8 - 1 - (k : Int))) (f (i / 2 ^ k)) (f (besT i k)) = [f (2 * (i / 2 ^ (k + 1))), f (2 * (i / 2 ^ (k + 1)) + 1)] := by
  obtain ⟨m, hm, hlt⟩ := half_bd i k hi
  have hb : bitT i (8 - 1 - (k : Int)) = ((m % 2 : Nat) : Int) := by
    rw [bitT_yes (inB_true.2 (by omega)), show (7 - (8 - 1 - (k : Int))).toNat = k by omega, hm]
    exact and1_all ⟨m, hlt⟩
  have hs : besT i k = (bsdN m : Int) := by
    rw [besT, hm]
    exact bsd_all ⟨m, hlt⟩
  rw [hb, hs, half_pow i k hi.1, hm]
  unfold bsdN pairOf
  by_cases h2 : m % 2 = 0
  · rw [if_pos h2, if_neg (by omega)]
    rw [show (2 * ((m : Int) / 2)) = (m : Int) by omega, show ((m + 1 : Nat) : Int) = (m : Int) + 1 by omega]
  · rw [if_neg h2, if_pos (by omega)]
    rw [show (2 * ((m : Int) / 2)) = ((m - 1 : Nat) : Int) by omega, show (((m - 1 : Nat) : Int) + 1) = (m : Int) by omega]
theorem sdL_at (xs : List Leaf) (i wd : Int) (n k : Nat) (h : k < n) : (sdL xs i wd n).getD k ⟨#[]⟩ = nodeT xs wd k (besT i k) := by
  simp [sdL, List.getD, h]
/-- from a bucket up along the sides -/
theorem fold_up (xs : List Leaf) (wd i : Int) (n : Nat) (hi : 0 ≤ i ∧ i ≤ 255) (hn : n ≤ 8) : ∀ k, k ≤ n → foldSt (nodeT xs wd 0 i) i 8 wd (sdL xs i wd n) k = nodeT xs wd k (i / 2 ^ k)
  | 0, _ => by rw [foldSt]; simp
  | k + 1, h => by
    rw [foldSt, fold_up xs wd i n hi hn k (by omega), sdL_at _ _ _ _ _ (by omega), pair_up hi (by omega) (nodeT xs wd k), ← node_both]
theorem up_zero (i : Int) (hi : 0 ≤ i ∧ i ≤ 255) : i / 2 ^ 8 = 0 := by
  have : (2 : Int) ^ 8 = 256 := rfl
  rw [this]; omega
theorem bkt_bel (xs : List Leaf) (i : Int) : bktL xs i = belL xs 0 i := by
  rw [belL_eq]
  unfold bktL pickOn
  rw [List.take_length]
  refine List.filter_congr (fun l _ => ?_)
  simp [bktP, belP]
/-- the hash of every name's bucket leads to the root -/
theorem roots_law {xs : List Leaf} {i wd : Int} (h : leavesOk xs = true) (hi : 0 ≤ i ∧ i ≤ 255) (hw : inB wd 1 32 = true) :
    (sdF xs i 0 wd).length = 8 ∧ foldH (bucketH (bktL xs i) wd) i 8 (sdF xs i 0 wd) wd = nodeH xs 0 0 wd ∧ nodeH xs 8 i wd = bucketH (bktL xs i) wd := by
  have e1 : sdF xs i 0 wd = sdL xs i wd 8 := sdF_yes h (inB_true.2 (by omega)) rfl hw
  have e2 : bucketH (bktL xs i) wd = nodeT xs wd 0 i := by rw [bkt_bel]; exact node_bucket h i wd
  refine ⟨by rw [e1, sdL_len], ?_, ?_⟩
  · rw [e1, e2, foldH, if_pos (show inB 8 0 8 = true from rfl), if_pos (by rw [sdL_len]; omega), sdL_len, fold_up xs wd i 8 hi (by omega) 8 (by omega), up_zero i hi]
    rw [nodeH_yes (l := 0) (p := 0) h rfl rfl hw]; rfl
  · have h8 : inB i 0 (2 ^ (8 : Int).toNat - 1) = true := inB_true.2 ⟨hi.1, by have : (2 : Int) ^ (8 : Int).toNat = 256 := rfl; omega⟩
    rw [e2, nodeH_yes (l := 8) h rfl h8 hw]; rfl
/-- a place in the middle -/
theorem nodes_law {xs : List Leaf} {l p : Int} (h : leavesOk xs = true) (hl : 0 ≤ l ∧ l < 8) (hp : 0 ≤ p ∧ p < 2 ^ l.toNat) :
    nodeH xs l p 16 = tagH 3 [nodeH xs (l + 1) (2 * p) 16, nodeH xs (l + 1) (2 * p + 1) 16] 16 := by
  have hpow : (2 : Int) ^ (l + 1).toNat = 2 * 2 ^ l.toNat := by
    rw [show (l + 1).toNat = l.toNat + 1 by omega, Int.pow_succ]; omega
  rw [nodeH_yes h (inB_true.2 (by omega)) (inB_true.2 (by omega)) rfl, nodeH_yes h (inB_true.2 (by omega)) (inB_true.2 (by rw [hpow]; omega)) rfl, nodeH_yes h (inB_true.2 (by omega)) (inB_true.2 (by rw [hpow]; omega)) rfl,
    show (8 - l).toNat = (8 - (l + 1)).toNat + 1 by omega, node_both]
theorem nodes_none {l p : Int} (hl : 0 ≤ l ∧ l ≤ 8) (hp : 0 ≤ p ∧ p < 2 ^ l.toNat) : nodeH [] l p 16 = emptyH l 16 := by
  rw [nodeH_yes rfl (inB_true.2 hl) (inB_true.2 (by omega)) rfl, emptyH_yes (inB_true.2 hl) rfl]
  exact node_none 16 rfl
theorem nodeT_size (xs : List Leaf) (wd : Int) (hw : inB wd 1 32 = true) : ∀ n p, ((nodeT xs wd n p).size : Int) = wd
  | 0, p => cutT_size _ _ hw
  | n + 1, p => by
    rw [node_both, tagH, if_pos (tag_yes rfl (by simp) (fun q hq => by
      simp only [List.mem_cons, List.not_mem_nil, or_false] at hq
      have h1 := nodeT_le xs wd n (2 * p)
      have h2 := nodeT_le xs wd n (2 * p + 1)
      rcases hq with rfl | rfl <;> omega))]
    exact cutT_size _ _ hw
theorem wide_of {ss : List ByteArray} {wd : Int} (h : ∀ s ∈ ss, (s.size : Int) = wd) : wide ss wd = true := by
  rw [wide, List.all_eq_true]
  exact fun s hs => decide_eq_true (h s hs)
end Go.Proofs.YtckipgijfgeghaaDoor
