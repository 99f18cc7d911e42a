/- Signatures checked: the plain law. -/
import Derived.Test.YtniimhfelnjepaaDoorSig
import Derived.Test.YtniimhfelnjepaaDoorHash
import Derived.Test.YtniimhfelnjepaaDoorLits
import Derived.Test.YtniimhfelnjepaaDoorPad
import Derived.Deep.RegionHeld3
namespace Go.Proofs.YtniimhfelnjepaaDoor
open Go.RowKit

/-- the bits that are signed -/
def sgIdx (text : ByteArray) : Int := ((tagH 7 [text] 16).data.getD 0 0).toNat
def lkT (o : ByteArray) : ByteArray := tagTx 6 [o]
def lkH (o : ByteArray) : ByteArray := tagH 6 [o] 16
def lkPair (idx : Int) (s : SigV) (j : Nat) : List ByteArray := if bitT idx j = 0 then [lkH (s.op.getD j ⟨#[]⟩), s.sh.getD j ⟨#[]⟩] else [s.sh.getD j ⟨#[]⟩, lkH (s.op.getD j ⟨#[]⟩)]
def lkL (idx : Int) (s : SigV) (n : Nat) : List ByteArray := (List.range n).flatMap (lkPair idx s)
theorem lkPair_len (idx : Int) (s : SigV) (j : Nat) : (lkPair idx s j).length = 2 := by unfold lkPair; split <;> rfl
theorem lkL_succ (idx : Int) (s : SigV) (n : Nat) : lkL idx s (n + 1) = lkL idx s n ++ lkPair idx s n := by simp [lkL, List.range_succ]
theorem lkL_len (idx : Int) (s : SigV) : ∀ n, (lkL idx s n).length = n * 2
  | 0 => rfl
  | n + 1 => by rw [lkL_succ, List.length_append, lkL_len idx s n, lkPair_len]; omega
theorem getD_le {ss : List ByteArray} {m : Nat} (h : ∀ s ∈ ss, s.size ≤ m) (k : Nat) : (ss.getD k ⟨#[]⟩).size ≤ m := by
  rw [List.getD_eq_getElem?_getD]
  cases e : ss[k]? with
  | none => exact Nat.zero_le _
  | some s => exact h s (List.mem_of_getElem? e)
theorem lkL_fit (idx : Int) (s : SigV) (hs : ∀ x ∈ s.sh, x.size ≤ 32) (n : Nat) : ∀ x ∈ lkL idx s n, x.size ≤ 32 := by
  intro x hx
  rw [lkL, List.mem_flatMap] at hx
  obtain ⟨j, -, hx⟩ := hx
  have h1 : (lkH (s.op.getD j ⟨#[]⟩)).size ≤ 32 := tagH_le _ _ _
  have h2 := getD_le hs j
  unfold lkPair at hx
  split at hx <;> simp only [List.mem_cons, List.not_mem_nil, or_false] at hx <;> rcases hx with rfl | rfl <;> assumption
/-- the pair of a step, by a bit -/
def sgPair (b : Nat) (h s : ByteArray) : List ByteArray := if b = 0 then [h, s] else [s, h]
def sgSt (h : ByteArray) (a : Nat) (ss : List ByteArray) : Nat → ByteArray
  | 0 => h
  | k + 1 => tagH 3 (sgPair (a / 2 ^ k % 2) (sgSt h a ss k) (ss.getD k ⟨#[]⟩)) 16
theorem sgSt_le (h : ByteArray) (a : Nat) (ss : List ByteArray) (hh : h.size ≤ 32) : ∀ k, (sgSt h a ss k).size ≤ 32
  | 0 => hh
  | _ + 1 => tagH_le _ _ _
theorem sg_bits : ∀ a : Fin 16, ∀ k : Fin 4, bits .and .i64 ((a.val : Nat) / 2 ^ k.val : Nat) 1 = ((a.val / 2 ^ k.val % 2 : Nat) : Int) := by decide +kernel
/-- the root to which a signature leads -/
def sgRoot (text : ByteArray) (s : SigV) : ByteArray := sgSt (tagH 6 (lkL (sgIdx text) s 8) 16) s.at_.toNat s.si s.si.length
def sigOkB (root text : ByteArray) (s : SigV) : Bool := sigWell s && (decide (text.size ≤ 200) && decide (sgRoot text s = root))
theorem sgPair_well {b : Nat} {h s : ByteArray} (hh : h.size ≤ 32) (hs : s.size ≤ 32) : tagWell 3 (sgPair b h s) = true := by
  refine tag_yes (by decide) ?_ ?_
  · unfold sgPair; split <;> simp
  · intro p hp
    unfold sgPair at hp
    split at hp <;> simp only [List.mem_cons, List.not_mem_nil, or_false] at hp <;> rcases hp with rfl | rfl <;> omega
theorem one_well {o : ByteArray} (h : o.size ≤ 32) : tagWell 6 [o] = true := tag_yes (by decide) (by simp) (fun p hp => by simp at hp; rw [hp]; omega)
theorem lk_well (idx : Int) (s : SigV) (hs : ∀ x ∈ s.sh, x.size ≤ 32) : tagWell 6 (lkL idx s 8) = true :=
  tag_yes (by decide) (by rw [lkL_len]; decide) (fun p hp => by have := lkL_fit idx s hs 8 p hp; omega)
theorem tagH_cut {k : Int} {ps : List ByteArray} (h : tagWell k ps = true) (wd : Int) : cutT (tagTx k ps) wd = tagH k ps wd := by rw [tagH, if_pos h]
/-- the texts -/
def sgTx (text : ByteArray) (s : SigV) (k : Nat) : ByteArray := tagTx 3 (sgPair (s.at_.toNat / 2 ^ k % 2) (sgSt (tagH 6 (lkL (sgIdx text) s 8) 16) s.at_.toNat s.si k) (s.si.getD k ⟨#[]⟩))
def sgLow (s : SigV) (n : Nat) : List ByteArray := (List.range n).map fun j => lkT (s.op.getD j ⟨#[]⟩)
def sgMid (text : ByteArray) (s : SigV) : List ByteArray := sgLow s 8 ++ [tagTx 6 (lkL (sgIdx text) s 8)]
def sgUp (text : ByteArray) (s : SigV) (n : Nat) : List ByteArray := sgMid text s ++ (List.range n).map (sgTx text s)
theorem sgLow_succ (s : SigV) (n : Nat) : sgLow s (n + 1) = sgLow s n ++ [lkT (s.op.getD n ⟨#[]⟩)] := by simp [sgLow, List.range_succ]
theorem sgLow_len (s : SigV) (n : Nat) : (sgLow s n).length = n := by simp [sgLow]
theorem sgUp_succ (text : ByteArray) (s : SigV) (n : Nat) : sgUp text s (n + 1) = sgUp text s n ++ [sgTx text s n] := by simp [sgUp, List.range_succ]
theorem sgUp_len (text : ByteArray) (s : SigV) (n : Nat) : (sgUp text s n).length = 9 + n := by simp [sgUp, sgMid, sgLow]; omega
theorem sgUp_last (text : ByteArray) (s : SigV) (hs : ∀ x ∈ s.sh, x.size ≤ 32) (hi : ∀ x ∈ s.si, x.size ≤ 32) (n : Nat) : cutT ((sgUp text s n).getD (8 + n) ⟨#[]⟩) 16 = sgSt (tagH 6 (lkL (sgIdx text) s 8) 16) s.at_.toNat s.si n := by
  cases n with
  | zero =>
    have e : (sgUp text s 0).getD (8 + 0) ⟨#[]⟩ = tagTx 6 (lkL (sgIdx text) s 8) := by simp [sgUp, sgMid, sgLow]
    rw [e]
    exact tagH_cut (lk_well _ s hs) 16
  | succ n =>
    have e : (sgUp text s (n + 1)).getD (8 + (n + 1)) ⟨#[]⟩ = sgTx text s n := by
      rw [sgUp_succ, List.getD_eq_getElem?_getD, List.getElem?_append_right (by rw [sgUp_len]; omega), sgUp_len]
      simp [show 8 + (n + 1) - (9 + n) = 0 by omega]
    rw [e]
    exact tagH_cut (sgPair_well (sgSt_le _ _ _ (tagH_le _ _ _) n) (getD_le hi n)) 16
end Go.Proofs.YtniimhfelnjepaaDoor
