/- Chains: plain laws. -/
import Derived.Test.YtcinihfjkkaclaaDoorDrwA
namespace Go.Proofs.YtcinihfjkkaclaaDoor
open Go.RowKit

theorem good_at {xs : List Hd} {house : Int} (h : chainOk xs house = true) {k : Nat} (hk : k < xs.length) : headOk xs[k].house xs[k].epoch xs[k].root xs[k].prev = true ∧ xs[k] = ⟨house, (k : Int) + 1, xs[k].root, prevT xs k⟩ := by
  rw [chainOk, List.all_eq_true] at h
  have h2 := h k (List.mem_range.2 hk)
  rw [good_eq hk, Bool.and_eq_true] at h2
  exact ⟨h2.1, of_decide_eq_true h2.2⟩
theorem headH_16 {h ep : Int} {r p : ByteArray} (hh : headOk h ep r p = true) : (headH h ep r p).size = 16 := by
  have hw : tagWell 4 [headText h ep r p] = true := tag_yes rfl (by simp) (fun q hq => by simp at hq; subst hq; have := headText_le h ep r p; omega)
  rw [headH, if_pos hh, tagH, if_pos hw]
  have := cutT_size (tagTx 4 [headText h ep r p]) 16 rfl
  omega
theorem last_size {xs : List Hd} {house : Int} (h : chainOk xs house = true) : (xs.length = 0 ∧ (lastH xs).size = 0) ∨ (0 < xs.length ∧ (lastH xs).size = 16) := by
  by_cases h0 : xs.length = 0
  · exact Or.inl ⟨h0, by rw [lastH, if_pos h0]; rfl⟩
  · refine Or.inr ⟨by omega, ?_⟩
    have hk : xs.length - 1 < xs.length := by omega
    rw [lastH, if_neg h0, getD_hd xs _ hk, hdH2]
    exact headH_16 (good_at h hk).1
/-- whether there is a next head -/
theorem nx_len {xs : List Hd} {house : Int} {root : ByteArray} (h : chainOk xs house = true) (hh : 0 ≤ house ∧ house < 3) (hr : root.size = 16) (hl : xs.length ≤ 4) : nxOk xs house root = decide ((xs.length : Int) < 4) := by
  have hs := last_size h
  rw [nxOk, h, Bool.true_and, headOk, inB_true.2 (by omega), decide_eq_true hr]
  by_cases h4 : (xs.length : Int) < 4
  · rw [decide_eq_true h4, inB_true.2 (by omega)]
    rcases hs with ⟨h0, hs⟩ | ⟨h0, hs⟩
    · rw [if_pos (by omega), decide_eq_true hs]; rfl
    · rw [if_neg (by omega), decide_eq_true hs]; rfl
  · rw [decide_eq_false h4, inB_false.2 (by omega)]; rfl
/-- without its first head a chain is none -/
theorem chain_tail {xs : List Hd} {house : Int} (h : chainOk xs house = true) (hl : 1 < xs.length) : chainOk (xs.drop 1) house = false := by
  have hk : 0 < (xs.drop 1).length := by rw [List.length_drop]; omega
  refine chain_bad hk ?_
  rw [good_eq hk]
  have e : (xs.drop 1)[0] = xs[1] := by rw [List.getElem_drop]
  have g := (good_at h hl).2
  rw [Bool.and_eq_false_iff]
  refine Or.inr (decide_eq_false fun e2 => ?_)
  rw [e] at e2
  rw [g] at e2
  have := congrArg Hd.epoch e2
  dsimp only at this
  omega
theorem prev_at {xs : List Hd} {j : Nat} (h : j < xs.length) : prevT xs (j + 1) = hdH2 xs[j] := by
  rw [prevT, prev_next h]
  rfl
/-- another head within a chain has the same hash -/
theorem chain_other {xs : List Hd} {house : Int} {i : Nat} {l' : Hd} (h : chainOk xs house = true) (hi : i + 1 < xs.length) (h' : chainOk (xs.set i l') house = true) : hdH2 l' = hdH2 (xs[i]'(by omega)) := by
  have hi' : i + 1 < (xs.set i l').length := by rw [List.length_set]; exact hi
  have g1 := (good_at h hi).2
  have g2 := (good_at h' hi').2
  have e : (xs.set i l')[i + 1] = xs[i + 1] := List.getElem_set_ne (by omega) _
  rw [e] at g2
  have p1 := congrArg Hd.prev g1
  have p2 := congrArg Hd.prev g2
  dsimp only at p1 p2
  have h0 : i < (xs.set i l').length := by omega
  rw [prev_at (by omega)] at p1
  rw [prev_at h0, List.getElem_set_self] at p2
  rw [← p2, p1]
end Go.Proofs.YtcinihfjkkaclaaDoor
