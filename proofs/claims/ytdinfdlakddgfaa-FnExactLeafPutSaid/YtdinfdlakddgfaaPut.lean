/- Leaves put: the plain law. -/
import Derived.Test.YtdinfdlakddgfaaDrop
namespace Go.Proofs.Ytdinfdlakddgfaa
open Go.RowKit

theorem less_trans : ∀ (a b c : List UInt8), Op.bytesLess a b = true → Op.bytesLess b c = true → Op.bytesLess a c = true
  | a, [], c, h, _ => by cases a <;> simp [Op.bytesLess] at h
  | [], y :: b, c, _, h2 => by
    cases c with
    | nil => simp [Op.bytesLess] at h2
    | cons z c => rfl
  | x :: a, y :: b, [], _, h2 => by simp [Op.bytesLess] at h2
  | x :: a, y :: b, z :: c, h1, h2 => by
    simp only [Op.bytesLess, Bool.or_eq_true, Bool.and_eq_true, decide_eq_true_eq, beq_iff_eq] at h1 h2 ⊢
    rcases h1 with h1 | ⟨h1, h1'⟩
    · rcases h2 with h2 | ⟨h2, -⟩
      · exact Or.inl (UInt8.lt_trans h1 h2)
      · exact Or.inl (h2 ▸ h1)
    · rcases h2 with h2 | ⟨h2, h2'⟩
      · exact Or.inl (h1 ▸ h2)
      · exact Or.inr ⟨h1.trans h2, less_trans a b c h1' h2'⟩

def lss (a b : ByteArray) : Bool := Op.bytesLess a.toList b.toList
theorem lss_trans {a b c : ByteArray} (h : lss a b = true) (k : lss b c = true) : lss a c = true := less_trans _ _ _ h k
def Srt (xs : List Leaf) : Prop := xs.Pairwise fun a b => lss a.name b.name = true
theorem leavesOk_step {xs : List Leaf} (h : leavesOk xs = true) (j : Nat) (hj : j + 1 < xs.length) : lss xs[j].name xs[j + 1].name = true := by
  rw [leavesOk, Bool.and_eq_true, List.all_eq_true] at h
  have hg := h.2 (j + 1) (List.mem_range.2 hj)
  have h1 : xs.getD j noLeaf = xs[j] := by simp [show j < xs.length by omega]
  have h2 : xs.getD (j + 1) noLeaf = xs[j + 1] := by simp [hj]
  simp only [goodAt, h1, h2, Bool.and_eq_true] at hg
  exact hg.2.2
theorem leavesOk_lt {xs : List Leaf} (h : leavesOk xs = true) (i : Nat) : ∀ d, (hd : i + d + 1 < xs.length) → lss xs[i].name xs[i + d + 1].name = true
  | 0, hd => leavesOk_step h i hd
  | d + 1, hd => lss_trans (leavesOk_lt h i d (by omega)) (leavesOk_step h (i + d + 1) hd)
theorem leavesOk_srt {xs : List Leaf} (h : leavesOk xs = true) : Srt xs := by
  rw [Srt, List.pairwise_iff_getElem]
  intro i j hi hj hij
  obtain ⟨d, rfl⟩ : ∃ d, j = i + d + 1 := ⟨j - i - 1, by omega⟩
  exact leavesOk_lt h i d hj

def isBelow (n : ByteArray) (l : Leaf) : Bool := lss l.name n
def isAbove (n : ByteArray) (l : Leaf) : Bool := !(lss l.name n || l.name.toList == n.toList)
def putOut (xs : List Leaf) (n v : ByteArray) : List Leaf := (dropOn xs n xs.length).filter (isBelow n) ++ [⟨n, v⟩] ++ (dropOn xs n xs.length).filter (isAbove n)
/-- a step of the program's walk: what is out, and whether the new one is -/
def putStep (n v : ByteArray) (s : List Leaf × Bool) (l : Leaf) : List Leaf × Bool :=
  let o := if s.2 = false ∧ lss l.name n = false then s.1 ++ [⟨n, v⟩] else s.1
  (if l.name = n then o else o ++ [l], s.2 || !lss l.name n)
def putRun (xs : List Leaf) (n v : ByteArray) (k : Nat) : List Leaf × Bool := (xs.take k).foldl (putStep n v) ([], false)
def putFin (n v : ByteArray) (s : List Leaf × Bool) : List Leaf := if s.2 = true then s.1 else s.1 ++ [⟨n, v⟩]
theorem putRun_succ (xs : List Leaf) (n v : ByteArray) (k : Nat) (h : k < xs.length) : putRun xs n v (k + 1) = putStep n v (putRun xs n v k) xs[k] := by
  unfold putRun
  rw [List.take_succ_eq_append_getElem h, List.foldl_append]
  rfl
def keep (n : ByteArray) (xs : List Leaf) : List Leaf := xs.filter fun l => decide (l.name ≠ n)
theorem put_true (n v : ByteArray) : ∀ (t o : List Leaf), (t.foldl (putStep n v) (o, true)) = (o ++ keep n t, true)
  | [], o => by simp [keep]
  | l :: t, o => by
    rw [List.foldl_cons, show putStep n v (o, true) l = (if l.name = n then o else o ++ [l], true) by simp [putStep], put_true n v t]
    by_cases h : l.name = n <;> simp [keep, h]
theorem above_all {n : ByteArray} {l : Leaf} {t : List Leaf} (hs : ∀ x ∈ t, lss l.name x.name = true) (hl : lss l.name n = false) : ∀ x ∈ t, x.name ≠ n ∧ isAbove n x = true ∧ isBelow n x = false := by
  intro x hx
  have h1 := hs x hx
  have hb : lss x.name n = false := by
    cases hb : lss x.name n
    · rfl
    · rw [lss_trans h1 hb] at hl; cases hl
  have he : x.name ≠ n := fun e => by rw [e] at h1; rw [h1] at hl; cases hl
  have ht : (x.name.toList == n.toList) = false := by rw [toList_beq]; simp [he]
  exact ⟨he, by simp [isAbove, hb, ht], hb⟩
theorem put_false (n v : ByteArray) : ∀ (t o : List Leaf), Srt t → putFin n v (t.foldl (putStep n v) (o, false)) = o ++ ((keep n t).filter (isBelow n) ++ [⟨n, v⟩] ++ (keep n t).filter (isAbove n))
  | [], o, _ => by simp [keep, putFin]
  | l :: t, o, h => by
    rw [Srt, List.pairwise_cons] at h
    cases hl : lss l.name n
    · have ha := above_all h.1 hl
      have hk : keep n t = t := List.filter_eq_self.2 (fun x hx => by simpa using (ha x hx).1)
      have hb : t.filter (isBelow n) = [] := List.filter_eq_nil_iff.2 (fun x hx => by simp [(ha x hx).2.2])
      have hc : t.filter (isAbove n) = t := List.filter_eq_self.2 (fun x hx => (ha x hx).2.1)
      rw [List.foldl_cons, show putStep n v (o, false) l = (if l.name = n then o ++ [⟨n, v⟩] else o ++ [⟨n, v⟩] ++ [l], true) by simp [putStep, hl], put_true, putFin]
      by_cases he : l.name = n
      · have hk2 : keep n (l :: t) = t := by rw [← hk]; simp [keep, he]
        rw [hk2, hk, hb, hc]
        simp [he]
      · have ht : (l.name.toList == n.toList) = false := by rw [toList_beq]; simp [he]
        have hk2 : keep n (l :: t) = l :: t := by
          have : keep n (l :: t) = l :: keep n t := by simp [keep, he]
          rw [this, hk]
        have h1 : isBelow n l = false := hl
        have h2 : isAbove n l = true := by simp [isAbove, hl, ht]
        rw [hk2, hk, List.filter_cons_of_neg (by simp [h1]), List.filter_cons_of_pos h2, hb, hc]
        simp [he]
    · have hb : isBelow n l = true := hl
      have ha : isAbove n l = false := by simp [isAbove, hl]
      have hs : putStep n v (o, false) l = (if l.name = n then o else o ++ [l], false) := by simp [putStep, hl]
      rw [List.foldl_cons, hs]
      by_cases he : l.name = n
      · rw [if_pos he, put_false n v t o h.2]
        have hk2 : keep n (l :: t) = keep n t := by simp [keep, he]
        rw [hk2]
      · rw [if_neg he, put_false n v t _ h.2]
        have hk2 : keep n (l :: t) = l :: keep n t := by simp [keep, he]
        rw [hk2, List.filter_cons_of_pos hb, List.filter_cons_of_neg (by simp [ha])]
        simp
theorem put_law {xs : List Leaf} (n v : ByteArray) (h : leavesOk xs = true) : putFin n v (putRun xs n v xs.length) = putOut xs n v := by
  have := put_false n v xs [] (leavesOk_srt h)
  rw [putRun, List.take_length, this, putOut, dropOn, List.take_length, List.nil_append]
  rfl
theorem putRun_length (xs : List Leaf) (n v : ByteArray) : ∀ k, k ≤ xs.length → (putRun xs n v k).1.length ≤ 2 * k
  | 0, _ => by simp [putRun]
  | k + 1, h => by
    have := putRun_length xs n v k (by omega)
    rw [putRun_succ xs n v k (by omega)]
    simp only [putStep]
    split <;> split <;> (try simp only [List.length_append, List.length_singleton]) <;> omega
end Go.Proofs.Ytdinfdlakddgfaa
