/- Operations on a disk: plain laws. -/
import Derived.Test.YtckipgijfgeghaaFil
namespace Go.Proofs.Ytckipgijfgeghaa
open Go.RowKit

/-- one cell of one element is turned -/
theorem flat_set {α : Type} {f : α → List Value} {n : Nat} (hf : ∀ a, (f a).length = n) (xs : List α) (i j : Nat) (hi : i < xs.length) (hj : j < n) (a : α) (u : Value) (h : f a = (f xs[i]).set j u) : (xs.flatMap f).set (i * n + j) u = (xs.set i a).flatMap f := by
  induction xs generalizing i with
  | nil => simp at hi
  | cons b l ih =>
    cases i with
    | zero => rw [List.flatMap_cons, List.set_cons_zero, List.flatMap_cons, h, Nat.zero_mul, Nat.zero_add, List.set_append_left _ _ (by rw [hf]; exact hj)]; rfl
    | succ i =>
      rw [List.flatMap_cons, List.set_cons_succ, List.flatMap_cons, List.set_append_right _ _ (by rw [hf, Nat.add_mul]; omega), hf]
      rw [show (i + 1) * n + j - n = i * n + j by rw [Nat.add_mul]; omega]
      rw [ih i (by simpa using hi) (by simpa using h)]
/-- an act of adding: the file that is there, or a new one -/
def addAt (xs : List Fil) (k : Nat) (t : ByteArray) : List Fil := xs.set k ⟨(xs.getD k noFil).name, (xs.getD k noFil).text ++ t, (xs.getD k noFil).kept⟩
def keepAt (xs : List Fil) (k : Nat) : List Fil := xs.set k ⟨(xs.getD k noFil).name, (xs.getD k noFil).text, (xs.getD k noFil).text.size⟩
theorem addAt_flat (xs : List Fil) (k : Nat) (t : ByteArray) (hk : k < xs.length) : (xs.flatMap Fil.cells).set (k * 3 + 1) (.string (xs[k].text ++ t)) = (addAt xs k t).flatMap Fil.cells := by
  refine flat_set Fil.cells_len xs k 1 hk (by omega) _ _ ?_
  simp [Fil.cells, hk]
theorem keepAt_flat (xs : List Fil) (k : Nat) (hk : k < xs.length) : (xs.flatMap Fil.cells).set (k * 3 + 2) (.int .i64 xs[k].text.size) = (keepAt xs k).flatMap Fil.cells := by
  refine flat_set Fil.cells_len xs k 2 hk (by omega) _ _ ?_
  simp [Fil.cells, hk]
theorem addAt_len (xs : List Fil) (k : Nat) (t : ByteArray) : (addAt xs k t).length = xs.length := by simp [addAt]
theorem keepAt_len (xs : List Fil) (k : Nat) : (keepAt xs k).length = xs.length := by simp [keepAt]
theorem diskOk_one {n t : ByteArray} {q : Int} (hn : inB n.size 1 8 = true) (ht : t.size ≤ 20000) (hq : 0 ≤ q ∧ q ≤ t.size) : diskOk [⟨n, t, q⟩] = true := by
  refine diskOk_true ?_ (by simp)
  intro i hi
  obtain rfl : i = 0 := by simp at hi; omega
  show filOk ⟨n, t, q⟩ = true
  rw [filOk, fnOk, hn, Bool.true_and, decide_eq_true ht, Bool.true_and, fkOk]
  exact inB_true.2 hq
theorem fAt_zero {n t : ByteArray} {q : Int} : fAt [⟨n, t, q⟩] n = (0 : Nat) := fAt_some (k := 0) (by simp) (by simp) rfl
theorem fit_one {n t : ByteArray} {q : Int} (hn : inB n.size 1 8 = true) (ht : t.size ≤ 20000) : FilFit [⟨n, t, q⟩] := by
  intro l hl
  simp at hl
  subst hl
  have := inB_true.1 hn
  unfold maxLen
  exact ⟨by dsimp only; omega, by dsimp only; omega⟩
theorem fls_of {w : World} {b : Nat} {v : Value} {m : Nat} {ys : List Fil} (h : w.ownsRow b 113 3 v m (ys.flatMap Fil.cells)) (hm : ys.length = m) : Fls w v ys := by
  subst hm
  exact Row.of_owns h
theorem logT_ok : inB logT.size 1 8 = true := by decide
end Go.Proofs.Ytckipgijfgeghaa
