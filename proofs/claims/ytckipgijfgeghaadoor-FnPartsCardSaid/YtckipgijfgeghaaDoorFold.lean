/- The way up; the law on FoldUp. -/
import Derived.Test.YtckipgijfgeghaaDoorHashA
import Derived.Test.YtckipgijfgeghaaDoorStrA
import Derived.Test.YtckipgijfgeghaaDoorMarkA
import Derived.Test.YtckipgijfgeghaaDoorOwnP
import Derived.Deep.RegionHeld3
namespace Go.Proofs.YtckipgijfgeghaaDoor
open Go.RowKit

theorem bitT_01 (i l : Int) : bitT i l = 0 ∨ bitT i l = 1 := by
  unfold bitT
  split
  · show IntKind.i64.wrap ((BitVec.ofInt 64 _ &&& BitVec.ofInt 64 1).toNat : Int) = 0 ∨ IntKind.i64.wrap ((BitVec.ofInt 64 _ &&& BitVec.ofInt 64 1).toNat : Int) = 1
    have h : (BitVec.ofInt 64 (i / 2 ^ (7 - l).toNat) &&& BitVec.ofInt 64 1).toNat ≤ 1 := by
      rw [BitVec.toNat_and]
      exact Nat.le_trans Nat.and_le_right (by decide)
    generalize (BitVec.ofInt 64 (i / 2 ^ (7 - l).toNat) &&& BitVec.ofInt 64 1).toNat = m at h ⊢
    have : m = 0 ∨ m = 1 := by omega
    rcases this with rfl | rfl
    · left; decide
    · right; decide
  · exact Or.inl rfl

theorem cell_new1 {w : World} {b o : Nat} {v : Value} {t : TypeId} {xs : Array Value} (h : w.cell? ⟨b, o, none⟩ = some v) (hb : b < w.heap.size) : (w.alloc (.cells xs t)).cell? ⟨b, o, none⟩ = some v :=
  (World.cell?_alloc_past (w := w) _ b o hb).trans h
/-- a pair in the order that a bit says -/
def pairOf (b : Int) (h s : ByteArray) : List ByteArray := if b = 1 then [s, h] else [h, s]
/-- the hash behind k steps up from level l -/
def foldSt (h : ByteArray) (i l wd : Int) (ss : List ByteArray) : Nat → ByteArray
  | 0 => h
  | k + 1 => tagH 3 (pairOf (bitT i (l - 1 - k)) (foldSt h i l wd ss k) (ss.getD k ⟨#[]⟩)) wd
/-- the text of step k -/
def foldTx (h : ByteArray) (i l wd : Int) (ss : List ByteArray) (k : Nat) : ByteArray := tagTx 3 (pairOf (bitT i (l - 1 - k)) (foldSt h i l wd ss k) (ss.getD k ⟨#[]⟩))
def foldTxs (h : ByteArray) (i l wd : Int) (ss : List ByteArray) (n : Nat) : List ByteArray := (List.range n).map (foldTx h i l wd ss)
theorem foldTxs_len (h : ByteArray) (i l wd : Int) (ss : List ByteArray) (n : Nat) : (foldTxs h i l wd ss n).length = n := by simp [foldTxs]
theorem foldTxs_succ (h : ByteArray) (i l wd : Int) (ss : List ByteArray) (n : Nat) : foldTxs h i l wd ss (n + 1) = foldTxs h i l wd ss n ++ [foldTx h i l wd ss n] := by simp [foldTxs, List.range_succ]
theorem foldSt_le (h : ByteArray) (i l wd : Int) (ss : List ByteArray) (hh : h.size ≤ maxLen) : ∀ k, (foldSt h i l wd ss k).size ≤ maxLen
  | 0 => hh
  | _ + 1 => le_max (tagH_le _ _ _) (by omega)
def foldH (h : ByteArray) (i l : Int) (ss : List ByteArray) (wd : Int) : ByteArray := if inB l 0 8 = true then (if (ss.length : Int) ≤ l then foldSt h i l wd ss ss.length else ⟨#[]⟩) else ⟨#[]⟩

theorem strs_pair0 (w : World) (B : Nat) (h s : ByteArray) (b : Int) (t : TypeId) (hb : b ≠ 1) (hB : B = w.heap.size) : Strs (w.alloc (.cells #[.string h, .string s] t)) (.slice (some ⟨B, 0, none⟩) 2 2) (pairOf b h s) := by
  subst hB
  rw [pairOf, if_neg hb]
  exact strs_lit2 _ _ _ _
theorem strs_pair1 (w : World) (B : Nat) (h s : ByteArray) (b : Int) (t : TypeId) (hb : b = 1) (hB : B = w.heap.size) : Strs (w.alloc (.cells #[.string s, .string h] t)) (.slice (some ⟨B, 0, none⟩) 2 2) (pairOf b h s) := by
  subst hB
  rw [pairOf, if_pos hb]
  exact strs_lit2 _ _ _ _
theorem fit_pair {b : Int} {h s : ByteArray} (hh : h.size ≤ maxLen) (hs : s.size ≤ maxLen) : ∀ x ∈ pairOf b h s, x.size ≤ maxLen := by
  unfold pairOf
  split
  · exact fit2 hs hh
  · exact fit2 hh hs

end Go.Proofs.YtckipgijfgeghaaDoor
