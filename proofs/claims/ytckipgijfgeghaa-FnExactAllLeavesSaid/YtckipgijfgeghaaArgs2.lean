/- The arguments' readings in the walks' own words: leaves, proofs. -/
import Derived.Test.YtckipgijfgeghaaLftA
import Derived.Test.YtckipgijfgeghaaLeafA
namespace Go.Proofs.Ytckipgijfgeghaa
open Go.ChangeShapes Go.WideShapes Go.ChangeAt Go.RowKit

def tyLeaf : Ty := .cons .str (.cons .str .nil)
def tyLeaves : Ty := .sl tyLeaf
theorem rd_leaf {w : World} {cs : List Value} (h : Rd w tyLeaf cs) : ∃ l : Leaf, cs = l.cells ∧ l.name.size ≤ maxLen ∧ l.value.size ≤ maxLen := by
  obtain ⟨c0, c1, rfl⟩ := list2 (Rd.length _ _ h)
  obtain ⟨h0, h⟩ := rd_one rfl h
  obtain ⟨h1, h⟩ := rd_one rfl h
  obtain ⟨a, rfl, ha⟩ := rd_str h0
  obtain ⟨b, rfl, hb⟩ := rd_str h1
  exact ⟨⟨a, b⟩, rfl, ha, hb⟩

/-- a slice's cells, element by element, put together again -/
theorem rows_flat {α : Type} [Inhabited α] {f : α → List Value} {n len : Nat} {flat : List Value} (hl : flat.length = len * n) {p : α → Prop}
    (h : ∀ i, i < len → ∃ a, (flat.drop (i * n)).take n = f a ∧ p a) : ∃ xs : List α, xs.length = len ∧ flat = xs.flatMap f ∧ ∀ a ∈ xs, p a := by
  induction len generalizing flat with
  | zero => exact ⟨[], rfl, by simpa using hl, by simp⟩
  | succ m ih =>
    obtain ⟨a, ha, hp⟩ := h 0 (by omega)
    simp only [Nat.zero_mul, List.drop_zero] at ha
    obtain ⟨xs, hx, hf, hall⟩ := ih (flat := flat.drop n) (by rw [List.length_drop, hl, Nat.add_mul]; omega) (fun i hi => by
      have := h (i + 1) (by omega)
      rwa [Nat.add_mul, Nat.one_mul, Nat.add_comm, ← List.drop_drop] at this)
    refine ⟨a :: xs, by simp [hx], ?_, by simpa using ⟨hp, hall⟩⟩
    rw [List.flatMap_cons, ← hf, ← ha, List.take_append_drop]

instance : Inhabited Leaf := ⟨⟨⟨#[]⟩, ⟨#[]⟩⟩⟩

theorem rd_leaves {w : World} {v : Value} (h : Rd w tyLeaves [v]) : ∃ xs, Lvs w v xs ∧ LeafFit xs := by
  obtain ⟨v', len, flat, hv, hrow, hel⟩ := h
  simp only [List.cons.injEq, and_true] at hv
  subst hv
  obtain ⟨xs, hx, hf, hall⟩ := rows_flat (f := Leaf.cells) (n := 2) hrow.1 (p := fun l => l.name.size ≤ maxLen ∧ l.value.size ≤ maxLen) (fun i hi => by
    obtain ⟨l, h1, h2⟩ := rd_leaf (hel i hi)
    exact ⟨l, h1, h2⟩)
  refine ⟨xs, ?_, hall⟩
  unfold Lvs
  rw [hx, ← hf]
  exact hrow

section
variable {P : Program} {W : World} {r : Reach} {base : Nat} {t : TypeId} {v : Value} {fs : Array Field}

theorem arg_leaves (hv : ∃ a len cap, v = .slice a len cap) (h : Rd W tyLeaves v.cells.toList) : ∃ xs, Lvs W v xs ∧ LeafFit xs := by
  obtain ⟨a, len, cap, rfl⟩ := hv
  exact rd_leaves h

def tyProof : Ty := .cons tyLeaves (.cons (.sl .str) .nil)
theorem arg_proof (hs : P.underlying t = some (.struct fs)) (hv : Value.okWide P W r base t v) (h : Rd W tyProof v.cells.toList) :
    ∃ (v1 v2 : Value) (xs : List Leaf) (ss : List ByteArray), v = .agg #[v1, v2] ∧ Lvs W v1 xs ∧ LeafFit xs ∧ Strs W v2 ss ∧ ∀ s ∈ ss, s.size ≤ maxLen := by
  obtain ⟨cs, rfl, -⟩ := okWide_struct hs hv
  obtain ⟨c0, c1, hc⟩ := list2 (Rd.length _ _ h)
  rw [hc] at h
  obtain ⟨h0, h⟩ := rd_one rfl h
  obtain ⟨h1, h⟩ := rd_one rfl h
  obtain ⟨xs, a1, a2⟩ := rd_leaves h0
  obtain ⟨ss, b1, b2⟩ := rd_strs h1
  exact ⟨c0, c1, xs, ss, congrArg Value.agg (of_toList hc), a1, a2, b1, b2⟩
end
end Go.Proofs.Ytckipgijfgeghaa
