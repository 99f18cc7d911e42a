/- What a signature that is well formed keeps to. -/
import Derived.Test.YtliebkhfddmhjaaDoorSigU
import Derived.Test.YtliebkhfddmhjaaDoorSig2
namespace Go.Proofs.YtliebkhfddmhjaaDoor
open Go.RowKit

theorem sigWell_fit {s : SigV} (h : sigWell s = true) : (∀ x ∈ s.op, x.size ≤ 32) ∧ (∀ x ∈ s.sh, x.size ≤ 32) ∧ ∀ x ∈ s.si, x.size ≤ 32 := by
  obtain ⟨h1, h2, h3⟩ := sigWell_wide h
  exact ⟨wide16_32 h1, wide16_32 h2, wide16_32 h3⟩
theorem sig_fit {s : SigV} (h : sigWell s = true) : SigFit s := by
  obtain ⟨h1, h2, h3⟩ := sigWell_fit h
  exact ⟨fun x hx => le_max (h1 x hx) (by omega), fun x hx => le_max (h2 x hx) (by omega), fun x hx => le_max (h3 x hx) (by omega)⟩
theorem sigOk_parts {root text : ByteArray} {s : SigV} (h : sigOkB root text s = true) : sigWell s = true ∧ text.size ≤ 200 ∧ sgRoot text s = root := by
  simp only [sigOkB, Bool.and_eq_true, decide_eq_true_eq] at h
  exact h
theorem sigOk_other {root r2 text : ByteArray} {s : SigV} (h : sigOkB root text s = true) (hne : r2 ≠ root) : sigOkB r2 text s = false := by
  obtain ⟨h1, h2, h3⟩ := sigOk_parts h
  rw [sigOkB, h3, decide_eq_false (p := root = r2) (fun e => hne e.symm)]
  simp
end Go.Proofs.YtliebkhfddmhjaaDoor
