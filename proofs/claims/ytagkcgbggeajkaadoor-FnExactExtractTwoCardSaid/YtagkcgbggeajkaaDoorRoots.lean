/- Roots combined. -/
import Derived.Test.YtagkcgbggeajkaaDoorHash
import Derived.Test.YtagkcgbggeajkaaDoorLits
import Derived.Deep.RegionHeld3
import Derived.Deep.AppendLies
import Derived.Laws.AppendOwnNone
namespace Go.Proofs.YtagkcgbggeajkaaDoor
open Go.RowKit

/-- how many roots there may be -/
def cntOk (n : Nat) : Bool := (decide (n = 1) || decide (n = 2)) || decide (n = 4)
def rootsOk (xs : List ByteArray) (wd : Int) : Bool := cntOk xs.length && (inB wd 1 32 && wide xs wd)
theorem cnt_cases (n : Nat) : (cntOk n = true ∧ n = 1) ∨ (cntOk n = true ∧ n = 2) ∨ (cntOk n = true ∧ n = 4) ∨ (cntOk n = false ∧ n ≠ 1 ∧ n ≠ 2 ∧ n ≠ 4) := by
  unfold cntOk
  by_cases h1 : n = 1
  · subst h1; simp
  · by_cases h2 : n = 2
    · subst h2; simp
    · by_cases h4 : n = 4
      · subst h4; simp
      · simp [h1, h2, h4]
theorem rootsOk_true {xs : List ByteArray} {wd : Int} (h : rootsOk xs wd = true) : (xs.length = 1 ∨ xs.length = 2 ∨ xs.length = 4) ∧ inB wd 1 32 = true ∧ wide xs wd = true := by
  unfold rootsOk at h
  rw [Bool.and_eq_true, Bool.and_eq_true] at h
  refine ⟨?_, h.2⟩
  rcases cnt_cases xs.length with ⟨-, h1⟩ | ⟨-, h1⟩ | ⟨-, h1⟩ | ⟨h1, -⟩
  · exact Or.inl h1
  · exact Or.inr (Or.inl h1)
  · exact Or.inr (Or.inr h1)
  · rw [h1] at h; cases h.1
theorem wide_fit {xs : List ByteArray} {wd : Int} (h1 : inB wd 1 32 = true) (h2 : wide xs wd = true) : ∀ s ∈ xs, s.size ≤ 32 := by
  intro s hs
  rw [wide, List.all_eq_true] at h2
  have := of_decide_eq_true (h2 s hs)
  rw [inB_true] at h1
  omega

theorem cell_newp {w : World} {b o : Nat} {v : Value} {t : TypeId} {xs : Array Value} (h : w.cell? ⟨b, o, none⟩ = some v) (hb : b < w.heap.size) : (w.drew.alloc (.cells xs t)).cell? ⟨b, o, none⟩ = some v :=
  (World.cell?_alloc_past (w := w.drew) _ b o hb).trans h
/-- the hash of the pair at a place -/
def pairH (xs : List ByteArray) (wd : Int) (i : Nat) : ByteArray := tagH 3 [xs.getD (2 * i) ⟨#[]⟩, xs.getD (2 * i + 1) ⟨#[]⟩] wd
def upK (xs : List ByteArray) (wd : Int) (k : Nat) : List ByteArray := (List.range k).map (pairH xs wd)
/-- one level up -/
def upL (xs : List ByteArray) (wd : Int) : List ByteArray := upK xs wd (xs.length / 2)
theorem upK_length (xs : List ByteArray) (wd : Int) (k : Nat) : (upK xs wd k).length = k := by simp [upK]
theorem upL_length (xs : List ByteArray) (wd : Int) : (upL xs wd).length = xs.length / 2 := upK_length _ _ _
theorem ba_getD (xs : List ByteArray) (i : Nat) (h : i < xs.length) (d : ByteArray) : xs.getD i d = xs[i] := by simp [List.getD, h]
theorem upK_succ (xs : List ByteArray) (wd : Int) (k m : Nat) (hm : m = 2 * k) (h : m + 1 < xs.length) : upK xs wd (k + 1) = upK xs wd k ++ [tagH 3 [xs[m], xs[m + 1]] wd] := by
  subst hm
  unfold upK
  rw [List.range_succ, List.map_append]
  simp only [List.map_cons, List.map_nil, pairH]
  rw [ba_getD _ _ (by omega), ba_getD _ _ h]
theorem upK_fit (xs : List ByteArray) (wd : Int) (k : Nat) : ∀ s ∈ upK xs wd k, s.size ≤ 32 := by
  intro s hs
  unfold upK at hs
  rw [List.mem_map] at hs
  obtain ⟨i, -, rfl⟩ := hs
  exact tagH_le _ _ _
def topT (wd : Int) : Nat → List ByteArray → ByteArray
  | 0, xs => xs.getD 0 ⟨#[]⟩
  | n + 1, xs => topT wd n (upL xs wd)
def lvl (n : Nat) : Nat := if n = 4 then 2 else if n = 2 then 1 else 0
theorem lvl_pow {n : Nat} (h : n = 1 ∨ n = 2 ∨ n = 4) : n = 2 ^ lvl n := by rcases h with rfl | rfl | rfl <;> rfl
def combT (xs : List ByteArray) (wd : Int) : ByteArray := topT wd (lvl xs.length) xs
def combR (xs : List ByteArray) (wd : Int) : ByteArray := if rootsOk xs wd = true then combT xs wd else ⟨#[]⟩
def lenOf : Value → Nat
  | .slice _ n _ => n
  | _ => 0

end Go.Proofs.YtagkcgbggeajkaaDoor
