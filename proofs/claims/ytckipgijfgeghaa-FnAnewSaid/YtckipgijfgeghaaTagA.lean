/- Tag, TagInj in one text. -/
import Derived.Test.YtckipgijfgeghaaStrA
import Derived.Test.YtckipgijfgeghaaCore
import Derived.Lib.AppendStr
import Derived.Deep.RegionHeld3
namespace Go.Proofs.Ytckipgijfgeghaa
open Go.RowKit

theorem conv_str {w : World} {base g cap n : Nat} {t : ByteArray} (h : w.ownsRow base 5 1 (.slice (some ⟨g, 0, none⟩) n cap) n (Lib.strCells t)) :
    (convert 34 9 (.slice (some ⟨g, 0, none⟩) n cap)).run Try.prog w = .ok (.string t) w := by
  rw [strCells_nums8] at h
  have := conv_own h
  rwa [strOfNums_nums8] at this

/-- a kind, and parts behind it -/
def tagUpto (kind : Int) (ps : List ByteArray) (k : Nat) : ByteArray := (ps.take k).foldl (fun a p => a ++ (varT p.size ++ p)) (strOfNums [kind])
def tagWell (kind : Int) (ps : List ByteArray) : Bool := inB kind 1 8 && (decide (ps.length ≤ 60) && ps.all fun p => decide (p.size ≤ 200))
def tagTx (kind : Int) (ps : List ByteArray) : ByteArray := if tagWell kind ps = true then tagUpto kind ps ps.length else ⟨#[]⟩
theorem tagUpto_succ (kind : Int) (ps : List ByteArray) (k : Nat) (h : k < ps.length) : tagUpto kind ps (k + 1) = tagUpto kind ps k ++ (varT ps[k].size ++ ps[k]) := by
  unfold tagUpto
  rw [List.take_succ_eq_append_getElem h, List.foldl_append]
  rfl
theorem short_succ {ps : List ByteArray} {k : Nat} (h : k < ps.length) (ha : ∀ p ∈ ps.take k, p.size ≤ 200) (e : ps[k].size ≤ 200) : ∀ p ∈ ps.take (k + 1), p.size ≤ 200 := by
  intro p hp
  rw [List.take_succ_eq_append_getElem h, List.mem_append] at hp
  rcases hp with hp | hp
  · exact ha p hp
  · simp at hp; rw [hp]; exact e
theorem tagUpto_size (kind : Int) (ps : List ByteArray) : ∀ k, k ≤ ps.length → (∀ p ∈ ps.take k, p.size ≤ 200) → (tagUpto kind ps k).size ≤ 1 + 401 * k
  | 0, _, _ => by simp [tagUpto, strOfNums_size]
  | k + 1, h, ha => by
    have hm : ∀ p ∈ ps.take k, p.size ≤ 200 := fun p hp => ha p (by rw [List.take_succ_eq_append_getElem (by omega)]; exact List.mem_append_left _ hp)
    have h1 := tagUpto_size kind ps k (by omega) hm
    have h2 := ha ps[k] (by rw [List.take_succ_eq_append_getElem (by omega)]; exact List.mem_append_right _ (List.mem_singleton.2 rfl))
    have h3 := varT_size ps[k].size
    rw [tagUpto_succ kind ps k (by omega)]
    simp only [ByteArray.size_append]
    omega
theorem tagUpto_pos (kind : Int) (ps : List ByteArray) : ∀ k, k ≤ ps.length → 0 < (tagUpto kind ps k).size
  | 0, _ => by simp [tagUpto, strOfNums_size]
  | k + 1, h => by
    have h1 := tagUpto_pos kind ps k (by omega)
    rw [tagUpto_succ kind ps k (by omega), ByteArray.size_append]
    omega
theorem tag_no (kind : Int) (ps : List ByteArray) (h : tagWell kind ps = false) : tagTx kind ps = ⟨#[]⟩ := by simp [tagTx, h]
theorem tag_yes {kind : Int} {ps : List ByteArray} (hi : inB kind 1 8 = true) (hl : ps.length ≤ 60) (ha : ∀ p ∈ ps, p.size ≤ 200) : tagWell kind ps = true := by
  rw [tagWell, hi, decide_eq_true hl, Bool.true_and, Bool.true_and, List.all_eq_true]
  exact fun p hp => decide_eq_true (ha p hp)
theorem tag_long {kind : Int} {ps : List ByteArray} {k : Nat} (h : k < ps.length) (e : ¬ ps[k].size ≤ 200) : tagWell kind ps = false := by
  have : ps.all (fun p => decide (p.size ≤ 200)) = false := by
    rw [List.all_eq_false]
    exact ⟨ps[k], List.getElem_mem h, by simpa using e⟩
  rw [tagWell, this]
  simp

end Go.Proofs.Ytckipgijfgeghaa
namespace Go.Proofs.Ytckipgijfgeghaa
open Go.RowKit

/-- a number's bytes -/
def varB (n : Nat) : List UInt8 := (varT n).data.toList
theorem varB_more {n : Nat} (h : 127 < n) : varB n = UInt8.ofNat (128 + n % 128) :: varB (n / 128) := by
  rw [varB, varT, ba_nums, varL_more h, List.map_cons, varB, varT, ba_nums]
  congr 2
theorem varB_last {n : Nat} (h : ¬ 127 < n) : varB n = [UInt8.ofNat n] := by
  rw [varB, varT, ba_nums, varL_last h]
  simp
theorem ofNat_inj {a b : Nat} (ha : a < 256) (hb : b < 256) (h : UInt8.ofNat a = UInt8.ofNat b) : a = b := by
  have := congrArg UInt8.toNat h
  simp at this
  omega
/-- a number ends where it ends -/
theorem var_inj (n : Nat) : ∀ (m : Nat) (x y : List UInt8), varB n ++ x = varB m ++ y → n = m ∧ x = y := by
  induction n using Nat.strongRecOn with
  | ind n ih =>
    intro m x y h
    by_cases hn : 127 < n
    · by_cases hm : 127 < m
      · rw [varB_more hn, varB_more hm, List.cons_append, List.cons_append, List.cons.injEq] at h
        have h1 := ofNat_inj (by omega) (by omega) h.1
        obtain ⟨h2, h3⟩ := ih (n / 128) (by omega) (m / 128) x y h.2
        exact ⟨by omega, h3⟩
      · rw [varB_more hn, varB_last hm, List.cons_append, List.cons_append, List.cons.injEq] at h
        have h1 := ofNat_inj (by omega) (by omega) h.1
        omega
    · by_cases hm : 127 < m
      · rw [varB_last hn, varB_more hm, List.cons_append, List.cons_append, List.cons.injEq] at h
        have h1 := ofNat_inj (by omega) (by omega) h.1
        omega
      · rw [varB_last hn, varB_last hm, List.cons_append, List.cons_append, List.cons.injEq] at h
        have h1 := ofNat_inj (by omega) (by omega) h.1
        exact ⟨h1, by simpa using h.2⟩
theorem varB_pos (n : Nat) : varB n ≠ [] := by
  by_cases hn : 127 < n
  · rw [varB_more hn]; simp
  · rw [varB_last hn]; simp
/-- a part's bytes -/
def shortB (p : ByteArray) : List UInt8 := varB p.size ++ p.data.toList
theorem short_inj {p q : ByteArray} {x y : List UInt8} (h : shortB p ++ x = shortB q ++ y) : p = q ∧ x = y := by
  unfold shortB at h
  rw [List.append_assoc, List.append_assoc] at h
  obtain ⟨h1, h2⟩ := var_inj _ _ _ _ h
  obtain ⟨h3, h4⟩ := List.append_inj h2 (by rw [ba_len, ba_len]; exact h1)
  exact ⟨ba_ext h3, h4⟩
theorem shorts_inj : ∀ (ps qs : List ByteArray), ps.flatMap shortB = qs.flatMap shortB → ps = qs
  | [], [], _ => rfl
  | [], q :: qs, h => by
    rw [List.flatMap_nil, List.flatMap_cons] at h
    have := (List.append_eq_nil_iff.1 (List.append_eq_nil_iff.1 h.symm).1).1
    exact absurd this (varB_pos _)
  | p :: ps, [], h => by
    rw [List.flatMap_nil, List.flatMap_cons] at h
    have := (List.append_eq_nil_iff.1 (List.append_eq_nil_iff.1 h).1).1
    exact absurd this (varB_pos _)
  | p :: ps, q :: qs, h => by
    rw [List.flatMap_cons, List.flatMap_cons] at h
    obtain ⟨h1, h2⟩ := short_inj h
    rw [h1, shorts_inj ps qs h2]
theorem tag_foldl (ps : List ByteArray) : ∀ a : ByteArray, (ps.foldl (fun a p => a ++ (varT p.size ++ p)) a).data.toList = a.data.toList ++ ps.flatMap shortB := by
  induction ps with
  | nil => intro a; simp
  | cons p ps ih =>
    intro a
    rw [List.foldl_cons, ih, ba_append, ba_append, List.flatMap_cons]
    simp [shortB, varB]
theorem tag_list {kind : Int} {ps : List ByteArray} (h : tagWell kind ps = true) : (tagTx kind ps).data.toList = UInt8.ofNat kind.toNat :: ps.flatMap shortB := by
  rw [tagTx, if_pos h, tagUpto, List.take_length, tag_foldl, ba_nums]
  rfl
theorem tagWell_kind {kind : Int} {ps : List ByteArray} (h : tagWell kind ps = true) : 1 ≤ kind ∧ kind ≤ 8 := by
  rw [tagWell, Bool.and_eq_true, inB_true] at h
  exact h.1
/-- texts alike are of parts alike -/
theorem tag_inj {k k' : Int} {ps qs : List ByteArray} (h : tagWell k ps = true) (h' : tagWell k' qs = true) (e : tagTx k ps = tagTx k' qs) : k = k' ∧ ps = qs := by
  have e2 := congrArg (fun t : ByteArray => t.data.toList) e
  rw [tag_list h, tag_list h', List.cons.injEq] at e2
  have a := tagWell_kind h
  have b := tagWell_kind h'
  have h1 := ofNat_inj (by omega) (by omega) e2.1
  exact ⟨by omega, shorts_inj _ _ e2.2⟩
end Go.Proofs.Ytckipgijfgeghaa
