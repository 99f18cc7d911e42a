/- Files of a disk, operations on it: their cells. -/
import Derived.Test.YtckipgijfgeghaaStrA
import Derived.Test.YtckipgijfgeghaaFrP
import Derived.Test.YtckipgijfgeghaaFrT
namespace Go.Proofs.Ytckipgijfgeghaa
open Go.RowKit

structure Fil where
  name : ByteArray
  text : ByteArray
  kept : Int
  deriving DecidableEq
def Fil.cells (l : Fil) : List Value := [.string l.name, .string l.text, .int .i64 l.kept]
theorem Fil.cells_len (l : Fil) : l.cells.length = 3 := rfl
def Fls (w : World) (v : Value) (xs : List Fil) : Prop := Row w 3 v xs.length (xs.flatMap Fil.cells)
theorem Fls.ext {w w' : World} {v : Value} {xs : List Fil} (h : Fls w v xs) (hx : Ext w w') : Fls w' v xs := Row.ext h hx
theorem Fls.form {w : World} {v : Value} {xs : List Fil} (h : Fls w v xs) : ∃ a c, v = .slice a xs.length c := by
  obtain ⟨-, a, c, rfl, -⟩ := h
  exact ⟨a, c, rfl⟩
theorem fil_c0 (xs : List Fil) (k : Nat) (h : k < xs.length) : (xs.flatMap Fil.cells)[k * 3]? = some (.string xs[k].name) := flat_get Fil.cells_len xs k 0 h (by omega)
theorem fil_c1 (xs : List Fil) (k : Nat) (h : k < xs.length) : (xs.flatMap Fil.cells)[k * 3 + 1]? = some (.string xs[k].text) := flat_get Fil.cells_len xs k 1 h (by omega)
theorem fil_c2 (xs : List Fil) (k : Nat) (h : k < xs.length) : (xs.flatMap Fil.cells)[k * 3 + 2]? = some (.int .i64 xs[k].kept) := flat_get Fil.cells_len xs k 2 h (by omega)
theorem infoFil : (Try.prog.info? 113).map (fun i => (i.zero, i.size, i.bytes)) = some (some (.agg #[.string ⟨#[]⟩, .string ⟨#[]⟩, .int .i64 0]), 3, 40) := by kernel_rfl
def OwnFls (w : World) (base : Nat) (v : Value) (xs : List Fil) : Prop := w.ownsRow base 113 3 v xs.length (xs.flatMap Fil.cells)
theorem OwnFls.fls {w : World} {base : Nat} {v : Value} {xs : List Fil} (h : OwnFls w base v xs) : Fls w v xs := Row.of_owns h
theorem fil_one (xs : List Fil) : ∀ u ∈ xs.flatMap Fil.cells, u.oneCell' = true := by
  intro u hu
  rw [List.mem_flatMap] at hu
  obtain ⟨l, -, hl⟩ := hu
  simp [Fil.cells] at hl
  rcases hl with rfl | rfl | rfl <;> rfl

def fAt (xs : List Fil) (n : ByteArray) : Int := match xs.findIdx? (fun f => decide (f.name = n)) with | some k => k | none => -1
theorem fAt_some {xs : List Fil} {n : ByteArray} {k : Nat} (hk : k < xs.length) (h : ∀ f ∈ xs.take k, f.name ≠ n) (e : xs[k].name = n) : fAt xs n = k := by
  have h1 : xs.findIdx? (fun f => decide (f.name = n)) = some k := by
    rw [List.findIdx?_eq_some_iff_getElem]
    refine ⟨hk, by simpa using e, fun j hj => ?_⟩
    have := h xs[j] (by rw [List.mem_take_iff_getElem]; exact ⟨j, by omega, rfl⟩)
    simpa using this
  rw [fAt, h1]
theorem fAt_none {xs : List Fil} {n : ByteArray} (h : ∀ f ∈ xs, f.name ≠ n) : fAt xs n = -1 := by
  have h1 : xs.findIdx? (fun f => decide (f.name = n)) = none := by
    rw [List.findIdx?_eq_none_iff]
    intro f hf
    simpa using h f hf
  rw [fAt, h1]
theorem take_ne {xs : List Fil} {n : ByteArray} {k : Nat} (hk : k < xs.length) (h : ∀ f ∈ xs.take k, f.name ≠ n) (e : xs[k].name ≠ n) : ∀ f ∈ xs.take (k + 1), f.name ≠ n := by
  intro f hf
  rw [List.take_succ_eq_append_getElem hk, List.mem_append] at hf
  rcases hf with hf | hf
  · exact h f hf
  · simp at hf; rw [hf]; exact e

def noFil : Fil := ⟨⟨#[]⟩, ⟨#[]⟩, 0⟩
def fnOk (f : Fil) : Bool := inB f.name.size 1 8
def fkOk (f : Fil) : Bool := inB f.kept 0 f.text.size
def filOk (f : Fil) : Bool := fnOk f && (decide (f.text.size ≤ 20000) && fkOk f)
/-- is file k right, and behind the one ahead of it? -/
def filAt (xs : List Fil) : Nat → Bool
  | 0 => filOk (xs.getD 0 noFil)
  | j + 1 => filOk (xs.getD (j + 1) noFil) && Op.bytesLess (xs.getD j noFil).name.toList (xs.getD (j + 1) noFil).name.toList
def diskOk (xs : List Fil) : Bool := decide (xs.length ≤ 30) && (List.range xs.length).all (filAt xs)
theorem diskOk_true {xs : List Fil} (h : ∀ i, i < xs.length → filAt xs i = true) (hl : xs.length ≤ 30) : diskOk xs = true := by
  rw [diskOk, Bool.and_eq_true, decide_eq_true_eq, List.all_eq_true]
  exact ⟨hl, fun i hi => h i (List.mem_range.1 hi)⟩
theorem diskOk_bad {xs : List Fil} {i : Nat} (hi : i < xs.length) (h : filAt xs i = false) : diskOk xs = false := by
  cases hl : diskOk xs
  · rfl
  · rw [diskOk, Bool.and_eq_true, List.all_eq_true] at hl
    rw [hl.2 i (List.mem_range.2 hi)] at h
    cases h
theorem diskOk_long {xs : List Fil} (h : 30 < xs.length) : diskOk xs = false := by
  rw [diskOk, decide_eq_false (by omega)]; rfl
theorem fgood_succ {xs : List Fil} {k : Nat} (h : ∀ i, i < k → filAt xs i = true) (e : filAt xs k = true) : ∀ i, i < k + 1 → filAt xs i = true := by
  intro i hi
  rcases Nat.lt_or_eq_of_le (Nat.le_of_lt_succ hi) with h1 | rfl
  · exact h i h1
  · exact e
/-- each string of them fits -/
def FilFit (xs : List Fil) : Prop := ∀ l ∈ xs, l.name.size ≤ maxLen ∧ l.text.size ≤ maxLen

structure ActV where
  kind : Int
  name : ByteArray
  text : ByteArray
  to_ : ByteArray
  deriving DecidableEq
def ActV.cells (l : ActV) : List Value := [.int .i64 l.kind, .string l.name, .string l.text, .string l.to_]
theorem ActV.cells_len (l : ActV) : l.cells.length = 4 := rfl
def Acs (w : World) (v : Value) (xs : List ActV) : Prop := Row w 4 v xs.length (xs.flatMap ActV.cells)
theorem Acs.ext {w w' : World} {v : Value} {xs : List ActV} (h : Acs w v xs) (hx : Ext w w') : Acs w' v xs := Row.ext h hx
theorem act_c0 (xs : List ActV) (k : Nat) (h : k < xs.length) : (xs.flatMap ActV.cells)[k * 4]? = some (.int .i64 xs[k].kind) := flat_get ActV.cells_len xs k 0 h (by omega)
theorem act_c1 (xs : List ActV) (k : Nat) (h : k < xs.length) : (xs.flatMap ActV.cells)[k * 4 + 1]? = some (.string xs[k].name) := flat_get ActV.cells_len xs k 1 h (by omega)
theorem act_c2 (xs : List ActV) (k : Nat) (h : k < xs.length) : (xs.flatMap ActV.cells)[k * 4 + 2]? = some (.string xs[k].text) := flat_get ActV.cells_len xs k 2 h (by omega)
theorem act_c3 (xs : List ActV) (k : Nat) (h : k < xs.length) : (xs.flatMap ActV.cells)[k * 4 + 3]? = some (.string xs[k].to_) := flat_get ActV.cells_len xs k 3 h (by omega)

def logT : ByteArray := ⟨#[108, 111, 103]⟩
def newT : ByteArray := ⟨#[110, 101, 119]⟩
/-- the disk of a log of these records, all kept -/
def logD (L : List ByteArray) : List Fil := if L = [] then [] else [⟨logT, frsT L, (frsT L).size⟩]
/-- what a cut file of frames holds: the old records, or the new one too -/
theorem wr_cut {L ss : List ByteArray} {t : ByteArray} {m e : Nat} (hL : ∀ s ∈ L, recOk s = true) (ht : recOk t = true) (hm : (frsB L).length ≤ m) (hu : Unfr ((frsB (L ++ [t])).take m) ss e) :
    (ss = L ∨ ss = L ++ [t]) ∧ ((frsB (L ++ [t])).length ≤ m → ss = L ++ [t]) := by
  have hall : ∀ s ∈ L ++ [t], recOk s = true := by
    intro s hs
    rw [List.mem_append] at hs
    rcases hs with hs | hs
    · exact hL s hs
    · simp at hs; rw [hs]; exact ht
  constructor
  · obtain ⟨g1, g2⟩ := frsB_unfr hall
    obtain ⟨j, hj, rfl, hf, hk, ho⟩ := frs_cut g1 hu.1 hu.2 (Nat.zero_le _) g2
    rw [List.length_append, List.length_singleton] at hj ho
    rcases Nat.lt_or_ge j L.length with h1 | h1
    · rcases ho with h2 | h2
      · omega
      · rw [List.take_append_of_le_length (by omega), Nat.zero_add] at h2
        have h3 : (frsB (L.take (j + 1))).length ≤ (frsB L).length := by
          have h4 : frsB L = frsB (L.take (j + 1)) ++ frsB (L.drop (j + 1)) := by rw [frsB, frsB, frsB, ← List.flatMap_append, List.take_append_drop]
          rw [h4, List.length_append]; omega
        omega
    · rcases Nat.lt_or_ge L.length j with h2 | h2
      · right; rw [List.take_of_length_le (by rw [List.length_append, List.length_singleton]; omega)]
      · left; rw [List.take_append_of_le_length (by omega), List.take_of_length_le (by omega)]
  · intro hle
    rw [List.take_of_length_le hle] at hu
    exact (hu.one (frsB_unfr hall)).1
end Go.Proofs.Ytckipgijfgeghaa
