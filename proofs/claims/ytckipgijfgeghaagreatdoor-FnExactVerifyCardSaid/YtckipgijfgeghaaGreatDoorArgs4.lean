/- The arguments' readings in the walks' own words: signatures, seals. -/
import Derived.Test.YtckipgijfgeghaaGreatDoorLftA
import Derived.Test.YtckipgijfgeghaaGreatDoorSig
namespace Go.Proofs.YtckipgijfgeghaaGreatDoor
open Go.ChangeShapes Go.WideShapes Go.ChangeAt Go.RowKit

def tySig : Ty := .cons (.int .i64) (.cons (.sl .str) (.cons (.sl .str) (.cons (.sl .str) .nil)))
def tySeal : Ty := .cons tyHead (.cons tySig .nil)
theorem cells_sig {w : World} {cs : List Value} (h : Rd w tySig cs) : ∃ (s : SigV) (v1 v2 v3 : Value), cs = [.int .i64 s.at_, v1, v2, v3] ∧ Strs w v1 s.op ∧ Strs w v2 s.sh ∧ Strs w v3 s.si ∧ SigFit s := by
  obtain ⟨c0, c1, c2, c3, rfl⟩ := list4 (Rd.length _ _ h)
  obtain ⟨h0, h⟩ := rd_one rfl h
  obtain ⟨h1, h⟩ := rd_one rfl h
  obtain ⟨h2, h⟩ := rd_one rfl h
  obtain ⟨h3, h⟩ := rd_one rfl h
  obtain ⟨n, rfl, -⟩ := rd_int h0
  obtain ⟨a, ha, fa⟩ := rd_strs h1
  obtain ⟨b, hb, fb⟩ := rd_strs h2
  obtain ⟨c, hc, fc⟩ := rd_strs h3
  exact ⟨⟨n, a, b, c⟩, c1, c2, c3, rfl, ha, hb, hc, fa, fb, fc⟩
section
variable {P : Program} {W : World} {r : Reach} {base : Nat} {t : TypeId} {v : Value} {fs : Array Field}
theorem arg_sig (hs : P.underlying t = some (.struct fs)) (hv : Value.okWide P W r base t v) (h : Rd W tySig v.cells.toList) :
    ∃ (s : SigV) (v1 v2 v3 : Value), v = .agg #[.int .i64 s.at_, v1, v2, v3] ∧ Strs W v1 s.op ∧ Strs W v2 s.sh ∧ Strs W v3 s.si ∧ SigFit s := by
  obtain ⟨cs, rfl, -⟩ := okWide_struct hs hv
  obtain ⟨s, v1, v2, v3, hc, h1, h2, h3, hf⟩ := cells_sig h
  exact ⟨s, v1, v2, v3, congrArg Value.agg (of_toList hc), h1, h2, h3, hf⟩
theorem arg_seal (hs : P.underlying t = some (.struct fs)) (hv : Value.okWide P W r base t v) (h : Rd W tySeal v.cells.toList) :
    ∃ (hh ep : Int) (ro pr : ByteArray) (s : SigV) (v1 v2 v3 : Value), v = .agg #[.int .i64 hh, .int .i64 ep, .string ro, .string pr, .int .i64 s.at_, v1, v2, v3] ∧ ro.size ≤ maxLen ∧ pr.size ≤ maxLen ∧ Strs W v1 s.op ∧ Strs W v2 s.sh ∧ Strs W v3 s.si ∧ SigFit s := by
  obtain ⟨cs, rfl, -⟩ := okWide_struct hs hv
  obtain ⟨-, hA, -, hB, hC⟩ := h
  obtain ⟨n, e, a, b, hc, ha, hb⟩ := cells_head hA
  obtain ⟨s, v1, v2, v3, hd, h1, h2, h3, hf⟩ := cells_sig hB
  have he : cs.toList = [.int .i64 n, .int .i64 e, .string a, .string b, .int .i64 s.at_, v1, v2, v3] := by
    have k1 : (Value.agg cs).cells.toList = cs.toList := rfl
    rw [k1] at hc hd hC
    have k2 := List.take_append_drop tyHead.n cs.toList
    have k3 := List.take_append_drop tySig.n (cs.toList.drop tyHead.n)
    rw [hd, hC] at k3
    rw [hc, ← k3] at k2
    exact k2.symm
  exact ⟨n, e, a, b, s, v1, v2, v3, congrArg Value.agg (of_toList he), ha, hb, h1, h2, h3, hf⟩
end
end Go.Proofs.YtckipgijfgeghaaGreatDoor
