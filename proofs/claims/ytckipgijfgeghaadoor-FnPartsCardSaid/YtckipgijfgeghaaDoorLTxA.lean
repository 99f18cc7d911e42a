/- LText, LText2, Well, Proof in one text. -/
import Derived.Test.YtckipgijfgeghaaDoorLeafA
import Derived.Test.YtckipgijfgeghaaDoorStrA
import Derived.Test.YtckipgijfgeghaaDoorCore
import Derived.Deep.RegionHeld3
namespace Go.Proofs.YtckipgijfgeghaaDoor
open Go.RowKit

def leafT (l : Leaf) : ByteArray := varT l.name.size ++ l.name ++ (varT l.value.size ++ l.value)
def leavesUpto (xs : List Leaf) (k : Nat) : ByteArray := (xs.take k).foldl (fun a l => a ++ leafT l) (varT xs.length)
def leavesT (xs : List Leaf) : ByteArray := leavesUpto xs xs.length
theorem leavesUpto_succ (xs : List Leaf) (k : Nat) (h : k < xs.length) : leavesUpto xs (k + 1) = leavesUpto xs k ++ leafT xs[k] := by
  unfold leavesUpto
  rw [List.take_succ_eq_append_getElem h, List.foldl_append]
  rfl
/-- short leaves, not many -/
def LeafSmall (xs : List Leaf) : Prop := xs.length ≤ 1000 ∧ ∀ l ∈ xs, l.name.size ≤ 200 ∧ l.value.size ≤ 200
theorem leavesUpto_size {xs : List Leaf} (hs : LeafSmall xs) : ∀ k, k ≤ xs.length → (leavesUpto xs k).size ≤ 1001 + 1000 * k
  | 0, _ => by have := varT_size xs.length; have := hs.1; simp [leavesUpto]; omega
  | k + 1, h => by
    have h1 := leavesUpto_size hs k (by omega)
    obtain ⟨a, b⟩ := hs.2 xs[k] (List.getElem_mem (by omega))
    have c := varT_size xs[k].name.size
    have d := varT_size xs[k].value.size
    rw [leavesUpto_succ xs k (by omega)]
    simp only [leafT, ByteArray.size_append]
    omega
theorem leavesOk_small {xs : List Leaf} (h : leavesOk xs = true) : xs.length ≤ 24 ∧ ∀ l ∈ xs, (1 ≤ l.name.size ∧ l.name.size ≤ 12) ∧ (1 ≤ l.value.size ∧ l.value.size ≤ 12) := by
  rw [leavesOk, Bool.and_eq_true, decide_eq_true_eq, List.all_eq_true] at h
  refine ⟨h.1, fun l hl => ?_⟩
  obtain ⟨i, hi, rfl⟩ := List.getElem_of_mem hl
  have hg := h.2 i (List.mem_range.2 hi)
  have hd : xs.getD i noLeaf = xs[i] := by simp [hi]
  have hn : nameOk xs[i].name = true ∧ valueOk xs[i].value = true := by
    cases i with
    | zero => simp only [goodAt, hd, Bool.and_eq_true] at hg; exact hg
    | succ j => simp only [goodAt, hd, Bool.and_eq_true] at hg; exact ⟨hg.1, hg.2.1⟩
  have h1 := hn.1
  have h2 := hn.2
  simp only [nameOk, valueOk, Bool.and_eq_true, inB_true] at h1 h2
  omega
theorem leavesOk_LeafSmall {xs : List Leaf} (h : leavesOk xs = true) : LeafSmall xs := by
  obtain ⟨h1, h2⟩ := leavesOk_small h
  exact ⟨by omega, fun l hl => by have := h2 l hl; omega⟩

end Go.Proofs.YtckipgijfgeghaaDoor
namespace Go.Proofs.YtckipgijfgeghaaDoor
open Go.RowKit

def leavesTx (xs : List Leaf) : ByteArray := if leavesOk xs = true then leavesT xs else ⟨#[]⟩

end Go.Proofs.YtckipgijfgeghaaDoor
namespace Go.Proofs.YtckipgijfgeghaaDoor
open Go.RowKit

def proofWell (xs : List Leaf) (ss : List ByteArray) (wd : Int) : Bool := leavesOk xs && (decide (ss.length ≤ 8) && (inB wd 1 32 && wide ss wd))
theorem wide_small {ss : List ByteArray} {wd : Int} (h1 : ss.length ≤ 1000) (h2 : inB wd 1 32 = true) (h3 : wide ss wd = true) : StrSmall ss := by
  refine ⟨h1, fun s hs => ?_⟩
  rw [inB_true] at h2
  rw [wide, List.all_eq_true] at h3
  have := of_decide_eq_true (h3 s hs)
  omega
theorem proofWell_cases (xs : List Leaf) (ss : List ByteArray) (wd : Int) :
    (proofWell xs ss wd = false ∧ leavesOk xs = false) ∨ (proofWell xs ss wd = false ∧ leavesOk xs = true ∧ 8 < ss.length) ∨ (proofWell xs ss wd = false ∧ leavesOk xs = true ∧ ss.length ≤ 8 ∧ inB wd 1 32 = false) ∨ (proofWell xs ss wd = false ∧ leavesOk xs = true ∧ ss.length ≤ 8 ∧ inB wd 1 32 = true ∧ wide ss wd = false) ∨ (proofWell xs ss wd = true ∧ leavesOk xs = true ∧ ss.length ≤ 8 ∧ inB wd 1 32 = true ∧ wide ss wd = true) := by
  unfold proofWell
  by_cases h2 : ss.length ≤ 8
  · cases leavesOk xs <;> cases inB wd 1 32 <;> cases wide ss wd <;> simp [h2]
  · cases leavesOk xs <;> simp [h2]; omega
end Go.Proofs.YtckipgijfgeghaaDoor
namespace Go.Proofs.YtckipgijfgeghaaDoor
open Go.RowKit

/-- what is left of a bound behind two sizes -/
def szp (left : Int) (n m : Nat) : Int := if szr left n < 0 then -1 else szr (szr left n) m
theorem szp_neg {left : Int} {n m : Nat} (h : szr left n = -1) : szp left n m = -1 := by simp [szp, h]
theorem szp_pos {left z : Int} {n m : Nat} (h : szr left n = z) (hz : 0 ≤ z) : szp left n m = szr z m := by rw [szp, h, if_neg (by omega)]
theorem szp_cases (n m : Nat) : (szp 1048576 n m = -1) ∨ ∃ z : Int, szp 1048576 n m = z ∧ 0 ≤ z ∧ n ≤ 1048576 ∧ m ≤ 1048576 := by
  by_cases h : 1048576 < n
  · exact Or.inl (szp_neg (by simp only [szr]; rw [if_pos (by omega)]))
  · have hz : szr 1048576 n = 1048576 - n := by simp only [szr]; rw [if_neg (by omega)]
    by_cases h2 : 1048576 - n < m
    · exact Or.inl (by rw [szp_pos hz (by omega), szr, if_pos (by omega)])
    · exact Or.inr ⟨_, szp_pos hz (by omega), by rw [szr, if_neg (by omega)]; omega, by omega, by omega⟩

end Go.Proofs.YtckipgijfgeghaaDoor
