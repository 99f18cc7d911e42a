/- LogQ, CutD, ActP in one text. -/
import Derived.Test.YtckipgijfgeghaaFil
import Derived.Test.YtckipgijfgeghaaCore
namespace Go.Proofs.Ytckipgijfgeghaa
open Go.RowKit

def logQ (t : ByteArray) : List ActV := [⟨1, logT, frT t, ⟨#[]⟩⟩, ⟨2, logT, ⟨#[]⟩, ⟨#[]⟩⟩]
theorem acs_of {w : World} {b n c : Nat} {cs : List Value} {qs : List ActV} (h : Bx w b cs) (hq : qs.length = n) (hc : qs.flatMap ActV.cells = cs) (hn : n ≤ c) (hm : c ≤ maxLen) : Acs w (.slice (some ⟨b, 0, none⟩) n c) qs := by
  subst hq
  refine ⟨flat_length ActV.cells_len qs, some ⟨b, 0, none⟩, c, rfl, hn, hm, Or.inr ⟨b, 0, rfl, h.1, fun j u hu => ?_⟩⟩
  rw [Nat.zero_add]
  rw [hc] at hu
  exact h.2.1 j u hu
end Go.Proofs.Ytckipgijfgeghaa
namespace Go.Proofs.Ytckipgijfgeghaa
open Go.RowKit

def CutD (W0 wx : World) (s8 s9 : Value) (ys : List Fil) (v9 : Value) : Prop := ∃ (qb : Nat) (a : Option Addr) (c : Nat), s8 = .pointer (some ⟨qb, 0, none⟩) ∧ s9 = v9 ∧ W0.heap.size ≤ qb ∧ Bx wx qb [.slice a ys.length c] ∧ OwnFls wx W0.heap.size (.slice a ys.length c) ys ∧ (Value.slice a ys.length c).ownBlock ≠ some qb ∧ Ext W0 wx
end Go.Proofs.Ytckipgijfgeghaa
namespace Go.Proofs.Ytckipgijfgeghaa
open Go.RowKit

/-- one cell of one element is turned -/
theorem flat_set {α : Type} {f : α → List Value} {n : Nat} (hf : ∀ a, (f a).length = n) (xs : List α) (i j : Nat) (hi : i < xs.length) (hj : j < n) (a : α) (u : Value) (h : f a = (f xs[i]).set j u) : (xs.flatMap f).set (i * n + j) u = (xs.set i a).flatMap f := by
  induction xs generalizing i with
  | nil => simp at hi
  | cons b l ih =>
    cases i with
    | zero => rw [List.flatMap_cons, List.set_cons_zero, List.flatMap_cons, h, Nat.zero_mul, Nat.zero_add, List.set_append_left _ _ (by rw [hf]; exact hj)]; rfl
    | succ i =>
      rw [List.flatMap_cons, List.set_cons_succ, List.flatMap_cons, List.set_append_right _ _ (by rw [hf, Nat.add_mul]; omega), hf]
      rw [show (i + 1) * n + j - n = i * n + j by rw [Nat.add_mul]; omega]
      rw [ih i (by simpa using hi) (by simpa using h)]
/-- an act of adding: the file that is there, or a new one -/
def addAt (xs : List Fil) (k : Nat) (t : ByteArray) : List Fil := xs.set k ⟨(xs.getD k noFil).name, (xs.getD k noFil).text ++ t, (xs.getD k noFil).kept⟩
def keepAt (xs : List Fil) (k : Nat) : List Fil := xs.set k ⟨(xs.getD k noFil).name, (xs.getD k noFil).text, (xs.getD k noFil).text.size⟩
theorem addAt_flat (xs : List Fil) (k : Nat) (t : ByteArray) (hk : k < xs.length) : (xs.flatMap Fil.cells).set (k * 3 + 1) (.string (xs[k].text ++ t)) = (addAt xs k t).flatMap Fil.cells := by
  refine flat_set Fil.cells_len xs k 1 hk (by omega) _ _ ?_
  simp [Fil.cells, hk]
theorem keepAt_flat (xs : List Fil) (k : Nat) (hk : k < xs.length) : (xs.flatMap Fil.cells).set (k * 3 + 2) (.int .i64 xs[k].text.size) = (keepAt xs k).flatMap Fil.cells := by
  refine flat_set Fil.cells_len xs k 2 hk (by omega) _ _ ?_
  simp [Fil.cells, hk]
theorem addAt_len (xs : List Fil) (k : Nat) (t : ByteArray) : (addAt xs k t).length = xs.length := by simp [addAt]
theorem keepAt_len (xs : List Fil) (k : Nat) : (keepAt xs k).length = xs.length := by simp [keepAt]
theorem diskOk_one {n t : ByteArray} {q : Int} (hn : inB n.size 1 8 = true) (ht : t.size ≤ 20000) (hq : 0 ≤ q ∧ q ≤ t.size) : diskOk [⟨n, t, q⟩] = true := by
  refine diskOk_true ?_ (by simp)
  intro i hi
  obtain rfl : i = 0 := by simp at hi; omega
  show filOk ⟨n, t, q⟩ = true
  rw [filOk, fnOk, hn, Bool.true_and, decide_eq_true ht, Bool.true_and, fkOk]
  exact inB_true.2 hq
theorem fAt_zero {n t : ByteArray} {q : Int} : fAt [⟨n, t, q⟩] n = (0 : Nat) := fAt_some (k := 0) (by simp) (by simp) rfl
theorem fit_one {n t : ByteArray} {q : Int} (hn : inB n.size 1 8 = true) (ht : t.size ≤ 20000) : FilFit [⟨n, t, q⟩] := by
  intro l hl
  simp at hl
  subst hl
  have := inB_true.1 hn
  unfold maxLen
  exact ⟨by dsimp only; omega, by dsimp only; omega⟩
theorem fls_of {w : World} {b : Nat} {v : Value} {m : Nat} {ys : List Fil} (h : w.ownsRow b 113 3 v m (ys.flatMap Fil.cells)) (hm : ys.length = m) : Fls w v ys := by
  subst hm
  exact Row.of_owns h
theorem logT_ok : inB logT.size 1 8 = true := by decide
end Go.Proofs.Ytckipgijfgeghaa
