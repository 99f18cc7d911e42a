/- Proofs that are made are right; with another value for the name, too. -/
import Derived.Test.YtliebkhfddmhjaaDoorLRt
import Derived.Test.YtliebkhfddmhjaaDoorPl
import Derived.Test.YtliebkhfddmhjaaDoorTx
namespace Go.Proofs.YtliebkhfddmhjaaDoor
open Go.RowKit

theorem bktAll_iff (n : ByteArray) (xs : List Leaf) : bktAll n xs = true ↔ ∀ l ∈ xs, idxT l.name = idxT n := by
  simp [bktAll, bktP]
theorem wide_of {ss : List ByteArray} {wd : Int} (h : ∀ s ∈ ss, (s.size : Int) = wd) : wide ss wd = true := by
  rw [wide, List.all_eq_true]
  exact fun s hs => decide_eq_true (h s hs)
theorem sd_wide (xs : List Leaf) (i l wd : Int) (hw : inB wd 1 32 = true) : wide (sdF xs i l wd) wd = true := by
  refine wide_of fun s hs => ?_
  rw [sdF] at hs
  split at hs
  · rw [sdL, List.mem_map] at hs
    obtain ⟨j, -, rfl⟩ := hs
    exact nodeT_size xs wd hw _ _
  · cases hs
theorem proofOk_of {n : ByteArray} {xs : List Leaf} {ss : List ByteArray} {wd : Int} (h1 : nameOk n = true) (h2 : leavesOk xs = true) (h3 : ss.length ≤ 8) (h4 : inB wd 1 32 = true) (h5 : wide ss wd = true) (h6 : ∀ l ∈ xs, idxT l.name = idxT n) : proofOk n xs ss wd = true := by
  rw [proofOk, proofWell, h1, h2, h4, h5, decide_eq_true h3, (bktAll_iff n xs).2 h6]; rfl
theorem proofOk_all {n : ByteArray} {xs : List Leaf} {ss : List ByteArray} {wd : Int} (h : proofOk n xs ss wd = true) : ∀ l ∈ xs, idxT l.name = idxT n := by
  rw [proofOk, Bool.and_eq_true, Bool.and_eq_true] at h
  exact (bktAll_iff n xs).1 h.2.2
theorem plOk_parts {xs : List Leaf} {n : ByteArray} {l wd : Int} (h : plOk xs n l wd = true) : leavesOk xs = true ∧ nameOk n = true ∧ inB l 0 8 = true ∧ inB wd 1 32 = true := by
  rw [plOk, Bool.and_eq_true, Bool.and_eq_true, Bool.and_eq_true] at h
  exact h
theorem bkt_mem {xs : List Leaf} {i : Int} : ∀ l ∈ bktL xs i, idxT l.name = i := by
  intro l hl
  rw [bkt_bel, belL_eq, List.mem_filter] at hl
  have := hl.2
  rw [belP, beq_iff_eq] at this
  simpa using this
/-- a proof that is made is right -/
theorem prove_ok {xs : List Leaf} {n : ByteArray} {l wd : Int} (h : plOk xs n l wd = true) : proofOk n (plB xs n l wd) (plS xs n l wd) wd = true := by
  obtain ⟨h1, h2, h3, h4⟩ := plOk_parts h
  obtain ⟨e1, e2⟩ := pl_yes h
  rw [e1, e2]
  refine proofOk_of h2 ?_ (sdF_len _ _ _ _) h4 (sd_wide _ _ _ _ h4) bkt_mem
  rw [bkt_bel]
  exact belL_ok h1 0 _
theorem put_mem {xs : List Leaf} {n u : ByteArray} : ∀ l ∈ putL xs n u, l ∈ xs ∨ l.name = n := by
  intro l hl
  rw [putL] at hl
  split at hl
  · rw [putOut, List.mem_append, List.mem_append] at hl
    rcases hl with (hl | hl) | hl
    · exact Or.inl (List.mem_of_mem_take (List.mem_filter.1 (List.mem_filter.1 hl).1).1)
    · rw [List.mem_singleton] at hl
      exact Or.inr (by rw [hl])
    · exact Or.inl (List.mem_of_mem_take (List.mem_filter.1 (List.mem_filter.1 hl).1).1)
  · exact Or.inl hl
/-- another value for the name, and the proof is right -/
theorem put_ok {n u : ByteArray} {xs : List Leaf} {ss : List ByteArray} {wd : Int} (h : proofOk n xs ss wd = true) : proofOk n (putL xs n u) ss wd = true := by
  obtain ⟨h1, h2, h3, h4, h5⟩ := proofOk_parts h
  have h6 := proofOk_all h
  refine proofOk_of h1 (putL_ok h2) h3 h4 h5 fun l hl => ?_
  rcases put_mem l hl with hm | hm
  · exact h6 l hm
  · rw [hm]
end Go.Proofs.YtliebkhfddmhjaaDoor
