/- Two strings with one hash: the program. -/
import Derived.Test.YtliebkhfddmhjaaDoorTx
import Derived.Test.YtliebkhfddmhjaaDoorLeafA
namespace Go.Proofs.YtliebkhfddmhjaaDoor
open Go.RowKit

/-- the last place where two lists differ -/
def scan (A B : List ByteArray) : Nat → Option (ByteArray × ByteArray)
  | 0 => none
  | k + 1 => if A.getD k ⟨#[]⟩ = B.getD k ⟨#[]⟩ then scan A B k else some (A.getD k ⟨#[]⟩, B.getD k ⟨#[]⟩)
def scanV : Option (ByteArray × ByteArray) → Value
  | none => .tuple #[.string ⟨#[]⟩, .string ⟨#[]⟩, .bool false]
  | some (p, q) => .tuple #[.string p, .string q, .bool true]
/-- is there to be a search? -/
def exGo (A B : List ByteArray) (h k x y : ByteArray) (p q : Bool) : Bool := !decide (A.length = 0) && (decide (A.length = B.length) && (decide (h = k) && !(decide (x = y) && decide (p = q))))
def exV (n : ByteArray) (xs ys : List Leaf) (ss ts : List ByteArray) (wd : Int) : Value :=
  if exGo (prTexts n xs ss wd) (prTexts n ys ts wd) (prHash n xs ss wd) (prHash n ys ts wd) (leafVal xs n) (leafVal ys n) (leafHas xs n) (leafHas ys n) = true then scanV (scan (prTexts n xs ss wd) (prTexts n ys ts wd) (prTexts n xs ss wd).length) else scanV none
theorem exV_no {n xs ys ss ts wd} (h : exGo (prTexts n xs ss wd) (prTexts n ys ts wd) (prHash n xs ss wd) (prHash n ys ts wd) (leafVal xs n) (leafVal ys n) (leafHas xs n) (leafHas ys n) = false) : exV n xs ys ss ts wd = scanV none := by rw [exV, if_neg (by rw [h]; decide)]
theorem exV_yes {n xs ys ss ts wd} (h : exGo (prTexts n xs ss wd) (prTexts n ys ts wd) (prHash n xs ss wd) (prHash n ys ts wd) (leafVal xs n) (leafVal ys n) (leafHas xs n) (leafHas ys n) = true) : exV n xs ys ss ts wd = scanV (scan (prTexts n xs ss wd) (prTexts n ys ts wd) (prTexts n xs ss wd).length) := by rw [exV, if_pos h]
theorem exGo_yes {A B : List ByteArray} {h k x y : ByteArray} {p q : Bool} (h0 : ¬ A.length = 0) (hl : A.length = B.length) (hh : h = k) (hs : ¬ x = y ∨ ¬ p = q) : exGo A B h k x y p q = true := by
  rw [exGo, decide_eq_false h0, decide_eq_true hl, decide_eq_true hh]
  rcases hs with e | e <;> simp [e]
theorem strs_cell {w : World} {a : Option Addr} {n c : Nat} {ys : List ByteArray} (h : Strs w (.slice a n c) ys) (hn : 0 < ys.length) : ∃ b o, a = some ⟨b, o, none⟩ ∧ b < w.heap.size ∧ ∀ t, t < ys.length → w.cell? ⟨b, o + t, none⟩ = some (.string (ys.getD t ⟨#[]⟩)) := by
  obtain ⟨-, a1, c1, hv, -, -, g⟩ := h
  injection hv with e1 e2 e3
  subst e1
  rcases g with g | ⟨b, o, rfl, hb, g⟩
  · omega
  · exact ⟨b, o, rfl, hb, fun t ht => g t _ (str_at ys t ht)⟩
theorem box2_at (w : World) (x y z u : Value) (t : TypeId) : ((w.alloc (Obj.cells #[x, y] t)).alloc (Obj.cells #[z, u] t)).cell? ⟨w.heap.size, 0, none⟩ = some x ∧ ((w.alloc (Obj.cells #[x, y] t)).alloc (Obj.cells #[z, u] t)).cell? ⟨w.heap.size, 1, none⟩ = some y ∧ ((w.alloc (Obj.cells #[x, y] t)).alloc (Obj.cells #[z, u] t)).cell? ⟨w.heap.size + 1, 0, none⟩ = some z ∧ ((w.alloc (Obj.cells #[x, y] t)).alloc (Obj.cells #[z, u] t)).cell? ⟨w.heap.size + 1, 1, none⟩ = some u ∧ Ext w ((w.alloc (Obj.cells #[x, y] t)).alloc (Obj.cells #[z, u] t)) ∧ w.heap.size + 1 < ((w.alloc (Obj.cells #[x, y] t)).alloc (Obj.cells #[z, u] t)).heap.size := by
  refine ⟨by simp [go_sem], by simp [go_sem], by simp [go_sem], by simp [go_sem], ((Ext.refl w).alloc _).alloc _, by simp [World.size_alloc]⟩

end Go.Proofs.YtliebkhfddmhjaaDoor
