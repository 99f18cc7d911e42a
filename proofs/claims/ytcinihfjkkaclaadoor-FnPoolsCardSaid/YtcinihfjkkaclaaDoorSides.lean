/- CombineSides; the law. -/
import Derived.Test.YtcinihfjkkaclaaDoorRoots2
import Derived.Test.YtcinihfjkkaclaaDoorMarkS
import Derived.Test.YtcinihfjkkaclaaDoorStrA
import Derived.Maps.AppendAt
namespace Go.Proofs.YtcinihfjkkaclaaDoor
open Go.RowKit

/-- the place beside -/
def besideN (s : Nat) : Nat := if s % 2 = 0 then s + 1 else s - 1
theorem beside_lt {s p : Nat} (h : s < p * 2) : besideN s < p * 2 := by unfold besideN; split <;> omega
theorem beside_bits {s : Nat} (h : s ≤ 3) : bits .xor .i64 (s : Int) 1 = (besideN s : Int) := by
  rcases (by omega : s = 0 ∨ s = 1 ∨ s = 2 ∨ s = 3) with rfl | rfl | rfl | rfl <;> rfl
theorem half_bits {s : Nat} (h : s ≤ 3) : (s : Int).tdiv 2 = ((s / 2 : Nat) : Int) := by
  rcases (by omega : s = 0 ∨ s = 1 ∨ s = 2 ∨ s = 3) with rfl | rfl | rfl | rfl <;> rfl
def sideT (wd : Int) : Nat → Nat → List ByteArray → List ByteArray
  | 0, _, _ => []
  | n + 1, s, ys => ys.getD (besideN s) ⟨#[]⟩ :: sideT wd n (s / 2) (upL ys wd)
theorem sideT_length (wd : Int) : ∀ n s ys, (sideT wd n s ys).length = n
  | 0, _, _ => rfl
  | n + 1, s, ys => by rw [sideT, List.length_cons, sideT_length]
def sidesOk (xs : List ByteArray) (s wd : Int) : Bool := rootsOk xs wd && inB s 0 ((xs.length : Int) - 1)
def sidesL (xs : List ByteArray) (s wd : Int) : List ByteArray := if sidesOk xs s wd = true then sideT wd (lvl xs.length) s.toNat xs else []
theorem sidesL_length (xs : List ByteArray) (s wd : Int) : (sidesL xs s wd).length ≤ 2 := by
  unfold sidesL
  split
  · rw [sideT_length]; exact lvl_le _
  · exact Nat.zero_le _
/-- a string of a list -/
theorem strs_at {w : World} {a : Option Addr} {n c : Nat} {ys : List ByteArray} (h : Strs w (.slice a n c) ys) (t : Nat) (hn : t < ys.length) : ∃ b o, a = some ⟨b, o, none⟩ ∧ b < w.heap.size ∧ w.cell? ⟨b, o + t, none⟩ = some (.string (ys.getD t ⟨#[]⟩)) := by
  obtain ⟨-, a1, c1, hv, -, -, g⟩ := h
  injection hv with e1 e2 e3
  subst e1
  rcases g with g | ⟨b, o, rfl, hb, g⟩
  · omega
  · refine ⟨b, o, rfl, hb, ?_⟩
    exact g t (.string (ys.getD t ⟨#[]⟩)) (by rw [ba_getD _ _ hn]; simp [hn])
theorem ret_slb {a : Option Addr} {n m c : Nat} {p q : Bool} (h : n = m) (k : p = q) : Ending.returned (.tuple #[.slice a n c, .bool p]) = .returned (.tuple #[.slice a m c, .bool q]) := by rw [h, k]

end Go.Proofs.YtcinihfjkkaclaaDoor
