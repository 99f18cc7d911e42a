/- The arguments' readings in the walks' own words: whole proofs. -/
import Derived.Test.YtckipgijfgeghaaGreatDoorArgs2
import Derived.Test.YtckipgijfgeghaaGreatDoorArgs4
import Derived.Test.YtckipgijfgeghaaGreatDoorStm
namespace Go.Proofs.YtckipgijfgeghaaGreatDoor
open Go.ChangeShapes Go.WideShapes Go.ChangeAt Go.RowKit

def tyStamp : Ty := .cons (.int .i64) (.cons tySig .nil)
def tyWhole : Ty := .cons tyProof (.cons (.sl .str) (.cons tySeal (.cons (.sl tyStamp) .nil)))
theorem list5 {α : Type} {l : List α} (h : l.length = 5) : ∃ a b c d e, l = [a, b, c, d, e] := by
  match l, h with | [a, b, c, d, e], _ => exact ⟨a, b, c, d, e, rfl⟩
theorem list12 {α : Type} {l : List α} (h : l.length = 12) : ∃ a b c d e f g i j k m n, l = [a, b, c, d, e, f, g, i, j, k, m, n] := by
  match l, h with | [a, b, c, d, e, f, g, i, j, k, m, n], _ => exact ⟨a, b, c, d, e, f, g, i, j, k, m, n, rfl⟩
instance : Inhabited StW := ⟨⟨0, ⟨0, [], [], []⟩, .slice none 0 0, .slice none 0 0, .slice none 0 0⟩⟩
theorem rd_stamp {w : World} {cs : List Value} (h : Rd w tyStamp cs) : ∃ x : StW, cs = x.cells ∧ ((Strs w x.v1 x.s.op ∧ Strs w x.v2 x.s.sh ∧ Strs w x.v3 x.s.si) ∧ SigFit x.s) := by
  obtain ⟨c0, c1, c2, c3, c4, rfl⟩ := list5 (Rd.length _ _ h)
  obtain ⟨h0, h⟩ := rd_one rfl h
  obtain ⟨-, hB, -⟩ := h
  have hB' : Rd w tySig [c1, c2, c3, c4] := hB
  obtain ⟨n, rfl, -⟩ := rd_int h0
  obtain ⟨s, v1, v2, v3, he, h1, h2, h3, hf⟩ := cells_sig hB'
  exact ⟨⟨n, s, v1, v2, v3⟩, by rw [he]; rfl, ⟨h1, h2, h3⟩, hf⟩
theorem rd_stamps {w : World} {v : Value} (h : Rd w (.sl tyStamp) [v]) : ∃ xs, Sts w v xs ∧ ∀ x ∈ xs, SigFit x.s := by
  obtain ⟨v', len, flat, hv, hrow, hel⟩ := h
  simp only [List.cons.injEq, and_true] at hv
  subst hv
  obtain ⟨xs, hx, hf, hall⟩ := rows_flat (f := StW.cells) (n := 5) hrow.1 (p := fun x => (Strs w x.v1 x.s.op ∧ Strs w x.v2 x.s.sh ∧ Strs w x.v3 x.s.si) ∧ SigFit x.s) (fun i hi => by
    obtain ⟨l, h1, h2⟩ := rd_stamp (hel i hi)
    exact ⟨l, h1, h2⟩)
  refine ⟨xs, ⟨?_, fun x m => (hall x m).1⟩, fun x m => (hall x m).2⟩
  rw [hx, ← hf]
  exact hrow
section
variable {P : Program} {W : World} {r : Reach} {base : Nat} {t : TypeId} {v : Value} {fs : Array Field}
theorem arg_whole (hs : P.underlying t = some (.struct fs)) (hv : Value.okWide P W r base t v) (h : Rd W tyWhole v.cells.toList) :
    ∃ (v1 v2 v3 v4 v5 v6 v7 : Value) (lv : List Leaf) (ss tops : List ByteArray) (hh ep : Int) (ro pr : ByteArray) (S : SigV) (xs : List StW), v = .agg #[v1, v2, v3, .int .i64 hh, .int .i64 ep, .string ro, .string pr, .int .i64 S.at_, v4, v5, v6, v7] ∧ Lvs W v1 lv ∧ Strs W v2 ss ∧ Strs W v3 tops ∧ Strs W v4 S.op ∧ Strs W v5 S.sh ∧ Strs W v6 S.si ∧ Sts W v7 xs ∧ LeafFit lv ∧ (∀ s ∈ ss, s.size ≤ maxLen) ∧ (∀ s ∈ tops, s.size ≤ maxLen) ∧ ro.size ≤ maxLen ∧ pr.size ≤ maxLen ∧ SigFit S ∧ ∀ x ∈ xs, SigFit x.s := by
  obtain ⟨cs, rfl, -⟩ := okWide_struct hs hv
  obtain ⟨c0, c1, c2, c3, c4, c5, c6, c7, c8, c9, c10, c11, hc⟩ := list12 (Rd.length _ _ h)
  rw [hc] at h
  obtain ⟨-, hP, -, hT, -, hS, -, hX, -⟩ := h
  have hP' : Rd W tyProof [c0, c1] := hP
  have hT' : Rd W (.sl .str) [c2] := hT
  have hS' : Rd W tySeal [c3, c4, c5, c6, c7, c8, c9, c10] := hS
  have hX' : Rd W (.sl tyStamp) [c11] := hX
  obtain ⟨h0, hP2⟩ := rd_one rfl hP'
  obtain ⟨h1, -⟩ := rd_one rfl hP2
  obtain ⟨lv, a1, a2⟩ := rd_leaves h0
  obtain ⟨ss, b1, b2⟩ := rd_strs h1
  obtain ⟨tops, t1, t2⟩ := rd_strs hT'
  obtain ⟨-, hA, -, hB, -⟩ := hS'
  have hA' : Rd W tyHead [c3, c4, c5, c6] := hA
  have hB' : Rd W tySig [c7, c8, c9, c10] := hB
  obtain ⟨n, e, a, b, he, hr, hp⟩ := cells_head hA'
  obtain ⟨s, v1, v2, v3, hd, s1, s2, s3, hf⟩ := cells_sig hB'
  obtain ⟨xs, x1, x2⟩ := rd_stamps hX'
  simp only [List.cons.injEq, and_true] at he hd
  obtain ⟨rfl, rfl, rfl, rfl⟩ := he
  obtain ⟨rfl, rfl, rfl, rfl⟩ := hd
  exact ⟨c0, c1, c2, _, _, _, c11, lv, ss, tops, n, e, a, b, s, xs, congrArg Value.agg (of_toList hc), a1, b1, t1, s1, s2, s3, x1, a2, b2, t2, hr, hp, hf, x2⟩
end
end Go.Proofs.YtckipgijfgeghaaGreatDoor
