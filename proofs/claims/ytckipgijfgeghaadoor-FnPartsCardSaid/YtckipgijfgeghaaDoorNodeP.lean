/- The hash of a place: the plain law. -/
import Derived.Test.YtckipgijfgeghaaDoorBktA
import Derived.Test.YtckipgijfgeghaaDoorLeafA
import Derived.Test.YtckipgijfgeghaaDoorPick
import Derived.Test.YtckipgijfgeghaaDoorHashA
namespace Go.Proofs.YtckipgijfgeghaaDoor
open Go.RowKit

theorem leavesOk_mem {xs : List Leaf} (h : leavesOk xs = true) (l : Leaf) (hl : l ∈ xs) : nameOk l.name = true ∧ valueOk l.value = true := by
  obtain ⟨i, hi, rfl⟩ := List.getElem_of_mem hl
  rw [leavesOk, Bool.and_eq_true, List.all_eq_true] at h
  have hg := h.2 i (List.mem_range.2 hi)
  have h1 : xs.getD i noLeaf = xs[i] := by simp [hi]
  cases i with
  | zero =>
    simp only [goodAt, h1, Bool.and_eq_true] at hg
    exact hg
  | succ j =>
    simp only [goodAt, h1, Bool.and_eq_true] at hg
    exact ⟨hg.1, hg.2.1⟩
theorem leavesOk_of {xs : List Leaf} (hl : xs.length ≤ 24) (hm : ∀ l ∈ xs, nameOk l.name = true ∧ valueOk l.value = true) (hs : Srt xs) : leavesOk xs = true := by
  refine leavesOk_true (fun i hi => ?_) hl
  have h1 : xs.getD i noLeaf = xs[i] := by simp [hi]
  have hg := hm xs[i] (List.getElem_mem hi)
  cases i with
  | zero => simp only [goodAt, h1, hg.1, hg.2]; rfl
  | succ j =>
    have h2 : xs.getD j noLeaf = xs[j] := by simp [show j < xs.length by omega]
    have h3 : lss xs[j].name xs[j + 1].name = true := List.pairwise_iff_getElem.1 hs j (j + 1) (by omega) hi (by omega)
    unfold lss at h3
    simp only [goodAt, h1, h2, hg.1, hg.2, h3]; rfl
theorem leavesOk_filter {xs : List Leaf} (h : leavesOk xs = true) (p : Leaf → Bool) : leavesOk (xs.filter p) = true :=
  leavesOk_of (Nat.le_trans (List.length_filter_le _ _) (leavesOk_small h).1) (fun l hl => leavesOk_mem h l (List.mem_filter.1 hl).1) ((leavesOk_srt h).filter p)

/-- is a leaf below a place, n levels above the buckets? -/
def belP (n : Nat) (p : Int) (l : Leaf) : Bool := idxT l.name / 2 ^ n == p
def belL (xs : List Leaf) (n : Nat) (p : Int) : List Leaf := pickOn (belP n p) xs xs.length
theorem belL_eq (xs : List Leaf) (n : Nat) (p : Int) : belL xs n p = xs.filter (belP n p) := by simp [belL, pickOn]
theorem belL_ok {xs : List Leaf} (h : leavesOk xs = true) (n : Nat) (p : Int) : leavesOk (belL xs n p) = true := by rw [belL_eq]; exact leavesOk_filter h _
theorem belL_len (xs : List Leaf) (n : Nat) (p : Int) : (belL xs n p).length ≤ xs.length := by rw [belL_eq]; exact List.length_filter_le _ _
/-- the hash of a place, n levels above the buckets -/
def nodeT (xs : List Leaf) (wd : Int) : Nat → Int → ByteArray
  | 0, p => cutT (bucketT (belL xs 0 p)) wd
  | n + 1, p => if (belL xs (n + 1) p).length = 0 then emptyAt wd (n + 1) else tagH 3 [nodeT xs wd n (2 * p), nodeT xs wd n (2 * p + 1)] wd
theorem nodeT_le (xs : List Leaf) (wd : Int) : ∀ n p, (nodeT xs wd n p).size ≤ 32
  | 0, _ => cutT_le _ _
  | n + 1, _ => by
    rw [nodeT]
    split
    · exact emptyAt_le _ _
    · exact tagH_le _ _ _
theorem node_none {xs : List Leaf} {n : Nat} {p : Int} (wd : Int) (h : (belL xs n p).length = 0) : nodeT xs wd n p = emptyAt wd n := by
  cases n with
  | zero =>
    rw [nodeT, List.eq_nil_of_length_eq_zero h]
    rfl
  | succ n => rw [nodeT, if_pos h]
theorem node_some {xs : List Leaf} {n : Nat} {p : Int} (wd : Int) (h : (belL xs (n + 1) p).length ≠ 0) : nodeT xs wd (n + 1) p = tagH 3 [nodeT xs wd n (2 * p), nodeT xs wd n (2 * p + 1)] wd := by
  rw [nodeT, if_neg h]
theorem half_pow (a : Int) (n : Nat) (h : 0 ≤ a) : a / 2 ^ (n + 1) = a / 2 ^ n / 2 := by
  obtain ⟨m, rfl⟩ := Int.eq_ofNat_of_zero_le h
  have h1 : ((m : Int) / 2 ^ (n + 1)) = ((m / 2 ^ (n + 1) : Nat) : Int) := by push_cast; rfl
  have h2 : ((m : Int) / 2 ^ n / 2) = ((m / 2 ^ n / 2 : Nat) : Int) := by push_cast; rfl
  rw [h1, h2, Nat.div_div_eq_div_mul, Nat.pow_succ]
theorem bel_up {l : Leaf} {n : Nat} {p q : Int} (hq : q = 2 * p ∨ q = 2 * p + 1) (h : belP n q l = true) : belP (n + 1) p l = true := by
  unfold belP at h ⊢
  rw [beq_iff_eq] at h ⊢
  rw [half_pow _ _ (idxT_bd _).1, h]
  omega
theorem node_sub (xs : List Leaf) (wd : Int) (P : Leaf → Bool) : ∀ n q, (∀ l ∈ xs, belP n q l = true → P l = true) → nodeT (xs.filter P) wd n q = nodeT xs wd n q := by
  have hb : ∀ n q, (∀ l ∈ xs, belP n q l = true → P l = true) → belL (xs.filter P) n q = belL xs n q := by
    intro n q h
    rw [belL_eq, belL_eq, List.filter_filter]
    refine List.filter_congr (fun l hl => ?_)
    cases e : belP n q l
    · rfl
    · rw [h l hl e]; rfl
  intro n
  induction n with
  | zero => intro q h; rw [nodeT, nodeT, hb 0 q h]
  | succ n ih =>
    intro q h
    rw [nodeT, nodeT, hb (n + 1) q h, ih (2 * q) (fun l hl e => h l hl (bel_up (Or.inl rfl) e)), ih (2 * q + 1) (fun l hl e => h l hl (bel_up (Or.inr rfl) e))]
theorem node_left (xs : List Leaf) (wd : Int) (n : Nat) (p : Int) : nodeT (belL xs (n + 1) p) wd n (2 * p) = nodeT xs wd n (2 * p) := by
  rw [belL_eq]; exact node_sub xs wd _ n _ (fun l _ e => bel_up (Or.inl rfl) e)
theorem node_right (xs : List Leaf) (wd : Int) (n : Nat) (p : Int) : nodeT (belL xs (n + 1) p) wd n (2 * p + 1) = nodeT xs wd n (2 * p + 1) := by
  rw [belL_eq]; exact node_sub xs wd _ n _ (fun l _ e => bel_up (Or.inr rfl) e)
theorem node_bucket {xs : List Leaf} (h : leavesOk xs = true) (p : Int) (wd : Int) : bucketH (belL xs 0 p) wd = nodeT xs wd 0 p := by
  have hb := belL_ok h 0 p
  rw [bucketH, if_pos hb, nodeT, bucketTx, if_pos hb]

/-- are these a place and a width? -/
def nodeOk (xs : List Leaf) (l p wd : Int) : Bool := leavesOk xs && (inB l 0 8 && (inB p 0 (2 ^ l.toNat - 1) && inB wd 1 32))
def nodeH (xs : List Leaf) (l p wd : Int) : ByteArray := if nodeOk xs l p wd = true then nodeT xs wd (8 - l).toNat p else ⟨#[]⟩
theorem nodeH_no1 {xs : List Leaf} {l p wd : Int} (h : leavesOk xs = false) : nodeH xs l p wd = ⟨#[]⟩ := by rw [nodeH, nodeOk, h]; rfl
theorem nodeH_no2 {xs : List Leaf} {l p wd : Int} (h : inB l 0 8 = false) : nodeH xs l p wd = ⟨#[]⟩ := by rw [nodeH, nodeOk, h]; simp
theorem nodeH_no3 {xs : List Leaf} {l p wd : Int} (h : inB p 0 (2 ^ l.toNat - 1) = false) : nodeH xs l p wd = ⟨#[]⟩ := by rw [nodeH, nodeOk, h]; simp
theorem nodeH_no4 {xs : List Leaf} {l p wd : Int} (h : inB wd 1 32 = false) : nodeH xs l p wd = ⟨#[]⟩ := by rw [nodeH, nodeOk, h]; simp
theorem nodeH_yes {xs : List Leaf} {l p wd : Int} (h1 : leavesOk xs = true) (h2 : inB l 0 8 = true) (h3 : inB p 0 (2 ^ l.toNat - 1) = true) (h4 : inB wd 1 32 = true) : nodeH xs l p wd = nodeT xs wd (8 - l).toNat p := by
  rw [nodeH, nodeOk, h1, h2, h3, h4]; rfl
theorem nodeH_le (xs : List Leaf) (l p wd : Int) : (nodeH xs l p wd).size ≤ 32 := by
  unfold nodeH
  split
  · exact nodeT_le _ _ _ _
  · exact Nat.zero_le _
/-- a place and what lies below it -/
theorem place_step {n : Nat} {p : Int} (hn : n + 1 ≤ 8) (h0 : 0 ≤ p) (h : p < 2 ^ (8 - (n + 1))) : 2 * p + 1 < 2 ^ (8 - n) ∧ 0 ≤ 2 * p := by
  rw [show 8 - n = (8 - (n + 1)) + 1 by omega, Int.pow_succ]
  generalize (2 : Int) ^ (8 - (n + 1)) = m at *
  omega
theorem place_small {n : Nat} {p : Int} (h : p < 2 ^ (8 - n)) : p < 256 := by
  have h1 : (2 : Int) ^ (8 - n) ≤ 2 ^ 8 := by
    have := Nat.pow_le_pow_right (show 0 < 2 by decide) (show 8 - n ≤ 8 by omega)
    exact_mod_cast this
  have h2 : (2 : Int) ^ 8 = 256 := by decide
  omega
end Go.Proofs.YtckipgijfgeghaaDoor
