/- AllLeaves: the plain law: putting leaf by leaf gives the sorted ones, or both fail. -/
import Derived.Test.YtckipgijfgeghaaDoorPutA
import Derived.Test.YtckipgijfgeghaaDoorSyw
namespace Go.Proofs.YtckipgijfgeghaaDoor
open Go.RowKit

theorem less_tri : ∀ a b : List UInt8, Op.bytesLess a b = false → Op.bytesLess b a = false → a = b
  | [], [], _, _ => rfl
  | [], _ :: _, h, _ => by cases h
  | _ :: _, [], _, h => by cases h
  | x :: a, y :: b, h1, h2 => by
    have g1 : (decide (x < y) || (x == y && Op.bytesLess a b)) = false := h1
    have g2 : (decide (y < x) || (y == x && Op.bytesLess b a)) = false := h2
    rw [Bool.or_eq_false_iff] at g1 g2
    have n1 : ¬ x.toNat < y.toNat := fun h => (of_decide_eq_false g1.1) (UInt8.lt_iff_toNat_lt.2 h)
    have n2 : ¬ y.toNat < x.toNat := fun h => (of_decide_eq_false g2.1) (UInt8.lt_iff_toNat_lt.2 h)
    have e : x = y := UInt8.toNat_inj.1 (by omega)
    subst e
    have k1 := g1.2
    have k2 := g2.2
    simp only [beq_self_eq_true, Bool.true_and] at k1 k2
    rw [less_tri a b k1 k2]
theorem lss_tri {a b : ByteArray} (h : lss a b = false) (k : lss b a = false) : a = b := toList_inj.1 (less_tri _ _ h k)
theorem lss_irrefl (a : ByteArray) : lss a a = false := less_irrefl _
theorem lss_asym {a b : ByteArray} (h : lss a b = true) : lss b a = false := by
  cases e : lss b a
  · rfl
  · have := lss_trans h e
    rw [lss_irrefl] at this
    cases this

def leafGood (l : Leaf) : Bool := nameOk l.name && valueOk l.value
theorem leavesOk_iff (xs : List Leaf) : leavesOk xs = true ↔ xs.length ≤ 24 ∧ (∀ l ∈ xs, leafGood l = true) ∧ Srt xs := by
  constructor
  · intro h
    refine ⟨(leavesOk_small h).1, fun l hl => ?_, leavesOk_srt h⟩
    obtain ⟨i, hi, rfl⟩ := List.mem_iff_getElem.1 hl
    rw [leavesOk, Bool.and_eq_true, List.all_eq_true] at h
    have hg := h.2 i (List.mem_range.2 hi)
    have e : xs.getD i noLeaf = xs[i] := by simp [hi]
    cases i with
    | zero => rw [goodAt, e] at hg; exact hg
    | succ j =>
      simp only [goodAt, e, Bool.and_eq_true] at hg
      simp only [leafGood, Bool.and_eq_true]
      exact ⟨hg.1, hg.2.1⟩
  · rintro ⟨h1, h2, h3⟩
    refine leavesOk_true (fun i hi => ?_) h1
    have e : xs.getD i noLeaf = xs[i] := by simp [hi]
    have hg := h2 xs[i] (List.getElem_mem hi)
    cases i with
    | zero => rw [goodAt, e]; exact hg
    | succ j =>
      have e2 : xs.getD j noLeaf = xs[j] := by simp [show j < xs.length by omega]
      simp only [leafGood, Bool.and_eq_true] at hg
      simp only [goodAt, e, e2, Bool.and_eq_true]
      rw [Srt, List.pairwise_iff_getElem] at h3
      exact ⟨hg.1, hg.2, h3 j (j + 1) (by omega) hi (by omega)⟩

theorem dropOn_keepN (xs : List Leaf) (n : ByteArray) : dropOn xs n xs.length = keep n xs := by rw [dropOn, List.take_length]; rfl
theorem above_not {n : ByteArray} {xs : List Leaf} : (keep n xs).filter (isAbove n) = (keep n xs).filter (fun l => !isBelow n l) := by
  apply List.filter_congr
  intro l hl
  have hne : l.name ≠ n := by simpa [keep] using (List.mem_filter.1 hl).2
  have ht : (l.name.toList == n.toList) = false := by rw [toList_beq]; simp [hne]
  simp [isAbove, isBelow, ht]
theorem put_perm (xs : List Leaf) (n v : ByteArray) : (putOut xs n v).Perm (⟨n, v⟩ :: keep n xs) := by
  rw [putOut, dropOn_keepN, above_not, List.append_assoc, List.singleton_append]
  exact List.perm_middle.trans ((List.filter_append_perm (isBelow n) (keep n xs)).cons _)
theorem put_srt {xs : List Leaf} (n v : ByteArray) (h : Srt xs) : Srt (putOut xs n v) := by
  rw [putOut, dropOn_keepN]
  have hk : Srt (keep n xs) := h.sublist List.filter_sublist
  have hb : ∀ l ∈ (keep n xs).filter (isBelow n), lss l.name n = true := fun l hl => (List.mem_filter.1 hl).2
  have ha : ∀ l ∈ (keep n xs).filter (isAbove n), lss n l.name = true := by
    intro l hl
    have h1 := (List.mem_filter.1 hl).2
    simp only [isAbove, Bool.not_eq_true', Bool.or_eq_false_iff] at h1
    cases e : lss n l.name
    · have := lss_tri h1.1 e
      rw [this] at h1
      simp at h1
    · rfl
  rw [Srt, List.append_assoc, List.pairwise_append]
  refine ⟨hk.sublist List.filter_sublist, ?_, ?_⟩
  · rw [List.singleton_append, List.pairwise_cons]
    exact ⟨ha, hk.sublist List.filter_sublist⟩
  · intro x hx y hy
    rw [List.singleton_append, List.mem_cons] at hy
    rcases hy with rfl | hy
    · exact hb x hx
    · exact lss_trans (hb x hx) (ha y hy)

/-- put one by one -/
def allOn : List Leaf → List Leaf → Option (List Leaf)
  | o, [] => some o
  | o, l :: t => if putWell o l.name l.value = true then allOn (putOut o l.name l.value) t else none
theorem keep_le (n : ByteArray) (o : List Leaf) : (keep n o).length ≤ o.length := List.length_filter_le _ _
theorem keep_all {n : ByteArray} {o : List Leaf} (h : (keep n o).length = o.length) : keep n o = o := List.filter_eq_self.2 (List.length_filter_eq_length_iff.1 h)
theorem all_inv : ∀ (ls o o' : List Leaf), allOn o ls = some o' → leavesOk o = true → leavesOk o' = true ∧ o'.length ≤ o.length + ls.length ∧ (o'.length = o.length + ls.length → o'.Perm (o ++ ls))
  | [], o, o', h, hk => by
    have e : o = o' := by simpa [allOn] using h
    subst e
    exact ⟨hk, by simp, fun _ => by simp⟩
  | l :: t, o, o', h, hk => by
    rw [allOn] at h
    split at h
    · next hw =>
      have hw2 := hw
      rw [putWell, Bool.and_eq_true] at hw2
      obtain ⟨i1, i2, i3⟩ := all_inv t _ _ h hw2.2
      have hp := put_perm o l.name l.value
      have hl := hp.length_eq
      rw [List.length_cons] at hl
      have hle := keep_le l.name o
      refine ⟨i1, by rw [List.length_cons]; omega, fun he => ?_⟩
      rw [List.length_cons] at he
      have hq := i3 (by omega)
      rw [keep_all (by omega)] at hp
      exact hq.trans ((hp.append_right t).trans List.perm_middle.symm)
    · cases h
/-- names differ -/
def Apart (xs : List Leaf) : Prop := xs.Pairwise fun a b => a.name ≠ b.name
theorem srt_apart {xs : List Leaf} (h : Srt xs) : Apart xs := h.imp fun {a b} hab e => by rw [e, lss_irrefl] at hab; cases hab
theorem Apart.perm {xs ys : List Leaf} (h : Apart xs) (hp : xs.Perm ys) : Apart ys := (hp.pairwise_iff (fun hab => hab.symm)).1 h
theorem Apart.eq {xs : List Leaf} (h : Apart xs) {a b : Leaf} (ha : a ∈ xs) (hb : b ∈ xs) (e : a.name = b.name) : a = b := by
  rw [Apart, List.pairwise_iff_getElem] at h
  obtain ⟨i, hi, rfl⟩ := List.mem_iff_getElem.1 ha
  obtain ⟨j, hj, rfl⟩ := List.mem_iff_getElem.1 hb
  rcases Nat.lt_trichotomy i j with c | c | c
  · exact absurd e (h i j hi hj c)
  · subst c; rfl
  · exact absurd e.symm (h j i hj hi c)
theorem all_yes {ys : List Leaf} (hy : leavesOk ys = true) : ∀ (ls o : List Leaf), (o ++ ls).Perm ys → leavesOk o = true → ∃ o', allOn o ls = some o' ∧ o'.Perm (o ++ ls)
  | [], o, _, _ => ⟨o, rfl, by simp⟩
  | l :: t, o, hp, hk => by
    obtain ⟨y1, y2, y3⟩ := (leavesOk_iff ys).1 hy
    have ha := (srt_apart y3).perm hp.symm
    rw [Apart, List.pairwise_append] at ha
    have hko : keep l.name o = o := List.filter_eq_self.2 (fun x hx => by simpa using ha.2.2 x hx l (by simp))
    have hpp := put_perm o l.name l.value
    rw [hko] at hpp
    have hq : (putOut o l.name l.value ++ t).Perm ys := ((hpp.append_right t).trans List.perm_middle.symm).trans hp
    have hok : leavesOk (putOut o l.name l.value) = true := by
      rw [leavesOk_iff]
      refine ⟨?_, fun x hx => y2 x (hq.subset (List.mem_append_left _ hx)), put_srt _ _ ((leavesOk_iff o).1 hk).2.2⟩
      have := hq.length_eq
      rw [List.length_append] at this
      omega
    have hw : putWell o l.name l.value = true := by rw [putWell, hk, hok]; rfl
    obtain ⟨o', e, hp'⟩ := all_yes hy t _ hq hok
    refine ⟨o', by rw [allOn, if_pos hw]; exact e, hp'.trans ((hpp.append_right t).trans List.perm_middle.symm)⟩
theorem srt_uniq {ys o : List Leaf} (hp : ys.Perm o) (h1 : SrtW ys) (h2 : Srt o) : ys = o := by
  have ha := srt_apart h2
  refine List.Perm.eq_of_pairwise (le := fun a b : Leaf => lss b.name a.name = false) (fun a b h3 h4 h5 h6 => ha.eq (hp.subset h3) h4 (lss_tri h6 h5)) h1 (h2.imp fun {a b} hab => lss_asym hab) hp

def allL (ls : List Leaf) : Option (List Leaf) := match allOn [] ls with
  | some o => if o.length = ls.length then some o else none
  | none => none
/-- what AllLeaves returns -/
def allR (ls : List Leaf) : List Leaf × Bool := match allL ls with
  | some o => (o, true)
  | none => ([], false)
theorem all_ok {ls ys : List Leaf} (hp : ys.Perm ls) (hs : SrtW ys) (hk : leavesOk ys = true) : allR ls = (ys, true) := by
  obtain ⟨o, e, ho⟩ := all_yes hk ls [] (by simpa using hp.symm) rfl
  rw [List.nil_append] at ho
  have h1 := all_inv ls [] o e rfl
  have he : ys = o := srt_uniq (hp.trans ho.symm) hs ((leavesOk_iff o).1 h1.1).2.2
  subst he
  simp [allR, allL, e, ho.length_eq]
theorem all_bad {ls ys : List Leaf} (hp : ys.Perm ls) (hs : SrtW ys) (hk : leavesOk ys = false) : allR ls = ([], false) := by
  cases e : allOn [] ls with
  | none => simp [allR, allL, e]
  | some o =>
    by_cases hl : o.length = ls.length
    · have h1 := all_inv ls [] o e rfl
      have ho := h1.2.2 (by simpa using hl)
      rw [List.nil_append] at ho
      have he : ys = o := srt_uniq (hp.trans ho.symm) hs ((leavesOk_iff o).1 h1.1).2.2
      subst he
      rw [h1.1] at hk
      cases hk
    · simp [allR, allL, e, hl]
end Go.Proofs.YtckipgijfgeghaaDoor
