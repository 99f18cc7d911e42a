/- The arguments' readings in the walks' own words: slices of strings, heads, trusts. -/
import Derived.Test.YtniimhfelnjepaaDoorLift
import Derived.Test.YtniimhfelnjepaaDoorStrs
namespace Go.Proofs.YtniimhfelnjepaaDoor
open Go.ChangeShapes Go.WideShapes Go.ChangeAt Go.RowKit

theorem list1 {α : Type} {l : List α} (h : l.length = 1) : ∃ a, l = [a] := by
  match l, h with | [a], _ => exact ⟨a, rfl⟩
theorem list2 {α : Type} {l : List α} (h : l.length = 2) : ∃ a b, l = [a, b] := by
  match l, h with | [a, b], _ => exact ⟨a, b, rfl⟩
theorem list3 {α : Type} {l : List α} (h : l.length = 3) : ∃ a b c, l = [a, b, c] := by
  match l, h with | [a, b, c], _ => exact ⟨a, b, c, rfl⟩
theorem list4 {α : Type} {l : List α} (h : l.length = 4) : ∃ a b c d, l = [a, b, c, d] := by
  match l, h with | [a, b, c, d], _ => exact ⟨a, b, c, d, rfl⟩

theorem of_toList {α : Type} {a : Array α} {l : List α} (h : a.toList = l) : a = l.toArray := by rw [← h]

theorem rd_one {w : World} {f r : Ty} {c : Value} {cs : List Value} (hf : f.n = 1) (h : Rd w (.cons f r) (c :: cs)) : Rd w f [c] ∧ Rd w r cs := by
  obtain ⟨-, h0, h1⟩ := h
  rw [hf] at h0 h1
  exact ⟨h0, h1⟩
theorem rd_int {w : World} {k : IntKind} {c : Value} (h : Rd w (.int k) [c]) : ∃ n, c = .int k n ∧ (Lit.int k n).wf = true := by
  obtain ⟨n, hn, hw⟩ := h
  simp only [List.cons.injEq, and_true] at hn
  exact ⟨n, hn, hw⟩
theorem rd_str {w : World} {c : Value} (h : Rd w .str [c]) : ∃ s, c = .string s ∧ s.size ≤ maxLen := by
  obtain ⟨n, hn, hw⟩ := h
  simp only [List.cons.injEq, and_true] at hn
  exact ⟨n, hn, hw⟩

theorem rd_strs {w : World} {v : Value} (h : Rd w (.sl .str) [v]) : ∃ xs, Strs w v xs ∧ ∀ s ∈ xs, s.size ≤ maxLen := by
  obtain ⟨v', len, flat, hv, hrow, hel⟩ := h
  simp only [List.cons.injEq, and_true] at hv
  subst hv
  simp only [Ty.n, Nat.mul_one] at hel hrow
  have hl : flat.length = len := by have := hrow.1; omega
  have hch : ∀ i, i < len → ∃ s : ByteArray, flat[i]? = some (.string s) ∧ s.size ≤ maxLen := by
    intro i hi
    obtain ⟨s, hs, hm⟩ := hel i hi
    refine ⟨s, ?_, hm⟩
    have : ((flat.drop i).take 1)[0]? = some (.string s) := by rw [hs]; rfl
    simpa using this
  obtain ⟨F, hF⟩ := Deep.choose_lt hch
  have hflat : flat = ((List.range len).map F).map Value.string := by
    apply List.ext_getElem?
    intro i
    by_cases hi : i < len
    · rw [(hF i hi).1]; simp [hi]
    · rw [List.getElem?_eq_none (by omega), List.getElem?_eq_none (by simp; omega)]
  refine ⟨(List.range len).map F, ?_, ?_⟩
  · unfold Strs
    rw [← hflat]
    simpa using hrow
  · intro s hs
    obtain ⟨i, hi, rfl⟩ := List.mem_map.1 hs
    exact (hF i (List.mem_range.1 hi)).2

section
variable {P : Program} {W : World} {r : Reach} {base : Nat} {t : TypeId} {v : Value} {fs : Array Field}

def tyHead : Ty := .cons (.int .i64) (.cons (.int .i64) (.cons .str (.cons .str .nil)))
theorem cells_head {w : World} {cs : List Value} (h : Rd w tyHead cs) : ∃ (n e : Int) (a b : ByteArray), cs = [.int .i64 n, .int .i64 e, .string a, .string b] ∧ a.size ≤ maxLen ∧ b.size ≤ maxLen := by
  obtain ⟨c0, c1, c2, c3, rfl⟩ := list4 (Rd.length _ _ h)
  obtain ⟨h0, h⟩ := rd_one rfl h
  obtain ⟨h1, h⟩ := rd_one rfl h
  obtain ⟨h2, h⟩ := rd_one rfl h
  obtain ⟨h3, h⟩ := rd_one rfl h
  obtain ⟨n, rfl, -⟩ := rd_int h0
  obtain ⟨e, rfl, -⟩ := rd_int h1
  obtain ⟨a, rfl, ha⟩ := rd_str h2
  obtain ⟨b, rfl, hb⟩ := rd_str h3
  exact ⟨n, e, a, b, rfl, ha, hb⟩
theorem arg_head (hs : P.underlying t = some (.struct fs)) (hv : Value.okWide P W r base t v) (h : Rd W tyHead v.cells.toList) :
    ∃ (n e : Int) (a b : ByteArray), v = .agg #[.int .i64 n, .int .i64 e, .string a, .string b] ∧ a.size ≤ maxLen ∧ b.size ≤ maxLen := by
  obtain ⟨cs, rfl, -⟩ := okWide_struct hs hv
  obtain ⟨n, e, a, b, hc, ha, hb⟩ := cells_head h
  exact ⟨n, e, a, b, congrArg Value.agg (of_toList hc), ha, hb⟩

def tyTrust : Ty := .cons (.sl .str) (.cons (.int .i64) (.cons (.int .i64) .nil))
theorem arg_trust (hs : P.underlying t = some (.struct fs)) (hv : Value.okWide P W r base t v) (h : Rd W tyTrust v.cells.toList) :
    ∃ (v1 : Value) (xs : List ByteArray) (k n : Int), v = .agg #[v1, .int .i64 k, .int .i64 n] ∧ Strs W v1 xs ∧ ∀ s ∈ xs, s.size ≤ maxLen := by
  obtain ⟨cs, rfl, -⟩ := okWide_struct hs hv
  have hl := Rd.length _ _ h
  obtain ⟨c0, c1, c2, hc⟩ := list3 hl
  rw [hc] at h
  obtain ⟨h0, h⟩ := rd_one rfl h
  obtain ⟨h1, h⟩ := rd_one rfl h
  obtain ⟨h2, h⟩ := rd_one rfl h
  obtain ⟨k, rfl, -⟩ := rd_int h1
  obtain ⟨n, rfl, -⟩ := rd_int h2
  obtain ⟨xs, h1, h2⟩ := rd_strs h0
  exact ⟨c0, xs, k, n, congrArg Value.agg (of_toList hc), h1, h2⟩
end
end Go.Proofs.YtniimhfelnjepaaDoor
