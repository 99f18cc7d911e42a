/- Two proofs of one name and one hash that say otherwise: two texts with one digest. -/
import Derived.Test.YtliebkhfddmhjaaDoorTagA
import Derived.Test.YtliebkhfddmhjaaDoorTx
import Derived.Test.YtliebkhfddmhjaaDoorExt
namespace Go.Proofs.YtliebkhfddmhjaaDoor
open Go.RowKit

theorem pairs_inj : ∀ xs ys : List Leaf, (xs.flatMap fun l => [l.name, l.value]) = (ys.flatMap fun l => [l.name, l.value]) → xs = ys
  | [], [], _ => rfl
  | [], y :: ys, h => by simp at h
  | x :: xs, [], h => by simp at h
  | x :: xs, y :: ys, h => by
    simp only [List.flatMap_cons, List.cons_append, List.nil_append, List.cons.injEq] at h
    obtain ⟨h1, h2, h3⟩ := h
    rw [pairs_inj xs ys h3]
    cases x; cases y; simp_all
/-- a bucket's text tells it -/
theorem bucket_inj {xs ys : List Leaf} (h : leavesOk xs = true) (k : leavesOk ys = true) (e : bucketT xs = bucketT ys) : xs = ys := by
  obtain ⟨-, e2⟩ := tag_inj (bucket_well h) (bucket_well k) e
  unfold pairsUpto at e2
  rw [List.take_length, List.take_length] at e2
  exact pairs_inj _ _ e2
theorem pairOf_inj {b : Int} {h s h' s' : ByteArray} (e : pairOf b h s = pairOf b h' s') : h = h' ∧ s = s' := by
  unfold pairOf at e
  split at e <;> simp_all
theorem prUp_zero (n : ByteArray) (xs : List Leaf) (ss : List ByteArray) (wd : Int) (m : Nat) : (prUp n xs ss wd m).getD 0 ⟨#[]⟩ = bucketT xs := by simp [prUp, List.getD]
theorem prUp_more (n : ByteArray) (xs : List Leaf) (ss : List ByteArray) (wd : Int) (m k : Nat) (h : k < m) : (prUp n xs ss wd m).getD (k + 1) ⟨#[]⟩ = foldTx (cutT (bucketT xs) wd) (idxT n) 8 wd ss k := by
  simp [prUp, List.getD, foldTxs, h]
theorem fold_cut {h : ByteArray} {i l wd : Int} {ss : List ByteArray} (hh : h.size ≤ 32) (hs : ∀ s ∈ ss, s.size ≤ 32) (k : Nat) : cutT (foldTx h i l wd ss k) wd = foldSt h i l wd ss (k + 1) := by
  have hw := pair_well (b := bitT i (l - 1 - k)) (foldSt_32 h i l wd ss hh k) (getD_fit hs k)
  rw [foldTx, foldSt, tagH, if_pos hw]
/-- from where the hashes are one on down there are two texts with one digest -/
theorem scan_clash {n : ByteArray} {xs ys : List Leaf} {ss ts : List ByteArray} {wd : Int} (hx : leavesOk xs = true) (hy : leavesOk ys = true) (hs : ∀ s ∈ ss, s.size ≤ 32) (ht : ∀ s ∈ ts, s.size ≤ 32) (hl : ss.length = ts.length) (hne : xs ≠ ys) :
    ∀ k, k ≤ ss.length → foldSt (cutT (bucketT xs) wd) (idxT n) 8 wd ss k = foldSt (cutT (bucketT ys) wd) (idxT n) 8 wd ts k →
      ∃ a b, scan (prUp n xs ss wd ss.length) (prUp n ys ts wd ts.length) (k + 1) = some (a, b) ∧ a ≠ b ∧ cutT a wd = cutT b wd
  | 0, _, e => by
    have hd : bucketT xs ≠ bucketT ys := fun e => hne (bucket_inj hx hy e)
    refine ⟨bucketT xs, bucketT ys, ?_, hd, e⟩
    rw [scan, prUp_zero, prUp_zero, if_neg hd]
  | k + 1, hk, e => by
    rw [scan, prUp_more _ _ _ _ _ _ (by omega), prUp_more _ _ _ _ _ _ (by omega)]
    by_cases hq : foldTx (cutT (bucketT xs) wd) (idxT n) 8 wd ss k = foldTx (cutT (bucketT ys) wd) (idxT n) 8 wd ts k
    · rw [if_pos hq]
      refine scan_clash hx hy hs ht hl hne k (by omega) ?_
      have h1 := pair_well (b := bitT (idxT n) (8 - 1 - k)) (foldSt_32 (cutT (bucketT xs) wd) (idxT n) 8 wd ss (cutT_le _ _) k) (getD_fit hs k)
      have h2 := pair_well (b := bitT (idxT n) (8 - 1 - k)) (foldSt_32 (cutT (bucketT ys) wd) (idxT n) 8 wd ts (cutT_le _ _) k) (getD_fit ht k)
      exact (pairOf_inj (tag_inj h1 h2 hq).2).1
    · rw [if_neg hq]
      exact ⟨_, _, rfl, hq, by rw [fold_cut (cutT_le _ _) hs, fold_cut (cutT_le _ _) ht]; exact e⟩
theorem prHash_fold {n : ByteArray} {xs : List Leaf} {ss : List ByteArray} {wd : Int} (h : proofOk n xs ss wd = true) (hs : ∀ s ∈ ss, s.size ≤ 32) : prHash n xs ss wd = foldSt (cutT (bucketT xs) wd) (idxT n) 8 wd ss ss.length := by
  have hl : (prTexts n xs ss wd).length = ss.length + 1 := by rw [prTexts_yes h, prUp_len]
  rw [prHash_yes hl, prTexts_yes h, prUp_last n xs ss wd hs]
theorem proof_fit {n : ByteArray} {xs : List Leaf} {ss : List ByteArray} {wd : Int} (h : proofOk n xs ss wd = true) : ∀ s ∈ ss, s.size ≤ 32 := by
  obtain ⟨-, -, -, h1, h2⟩ := proofOk_parts h
  intro s hs
  rw [wide, List.all_eq_true] at h2
  have := of_decide_eq_true (h2 s hs)
  rw [inB_true] at h1
  omega
/-- the clash is found -/
theorem extract_law {n : ByteArray} {xs ys : List Leaf} {ss ts : List ByteArray} {wd : Int} (hp : proofOk n xs ss wd = true) (hq : proofOk n ys ts wd = true) (hl : ss.length = ts.length) (hh : prHash n xs ss wd = prHash n ys ts wd) (hd : ¬ (leafVal xs n = leafVal ys n ∧ leafHas xs n = leafHas ys n)) :
    ∃ a b, exV n xs ys ss ts wd = .tuple #[.string a, .string b, .bool true] ∧ a ≠ b ∧ cutT a wd = cutT b wd := by
  have hne : xs ≠ ys := fun e => hd (by rw [e]; exact ⟨rfl, rfl⟩)
  have hs := proof_fit hp
  have ht := proof_fit hq
  have l1 : (prTexts n xs ss wd).length = ss.length + 1 := by rw [prTexts_yes hp, prUp_len]
  have l2 : (prTexts n ys ts wd).length = ts.length + 1 := by rw [prTexts_yes hq, prUp_len]
  have hgo := exGo_yes (A := prTexts n xs ss wd) (B := prTexts n ys ts wd) (h := prHash n xs ss wd) (k := prHash n ys ts wd) (x := leafVal xs n) (y := leafVal ys n) (p := leafHas xs n) (q := leafHas ys n) (by omega) (by omega) hh (by
    by_cases h1 : leafVal xs n = leafVal ys n
    · exact Or.inr fun h2 => hd ⟨h1, h2⟩
    · exact Or.inl h1)
  obtain ⟨-, hx, -⟩ := proofOk_parts hp
  obtain ⟨-, hy, -⟩ := proofOk_parts hq
  have e := hh
  rw [prHash_fold hp hs, prHash_fold hq ht] at e
  obtain ⟨a, b, h1, h2, h3⟩ := scan_clash (n := n) (wd := wd) hx hy hs ht hl hne ss.length (Nat.le_refl _) (by rw [e, hl])
  refine ⟨a, b, ?_, h2, h3⟩
  rw [exV_yes hgo, l1, prTexts_yes hp, prTexts_yes hq, h1]
  rfl
/-- where the hashes are not one, or the same is said, none is found -/
theorem extract_none {n : ByteArray} {xs ys : List Leaf} {ss ts : List ByteArray} {wd : Int} (h : prHash n xs ss wd ≠ prHash n ys ts wd ∨ (leafVal xs n = leafVal ys n ∧ leafHas xs n = leafHas ys n)) :
    exV n xs ys ss ts wd = scanV none := by
  refine exV_no ?_
  unfold exGo
  rcases h with h | ⟨h1, h2⟩
  · rw [decide_eq_false h]; simp
  · rw [decide_eq_true h1, decide_eq_true h2]; simp
end Go.Proofs.YtliebkhfddmhjaaDoor
