/- Signatures: their text. -/
import Derived.Test.YtckipgijfgeghaaSig
import Derived.Test.YtckipgijfgeghaaCore
import Derived.Deep.RegionHeld3
import Derived.Deep.RegionHeld
namespace Go.Proofs.Ytckipgijfgeghaa
open Go.RowKit

def sigT (s : SigV) : ByteArray := strOfNums [s.at_] ++ joinT s.op ++ joinT s.sh ++ joinT s.si
def sigTx (s : SigV) : ByteArray := if sigWell s = true then sigT s else ⟨#[]⟩
theorem wide_16 {xs : List ByteArray} (h1 : xs.length ≤ 1000) (h : wide xs 16 = true) : StrSmall xs := by
  refine ⟨h1, fun s hs => ?_⟩
  rw [wide, List.all_eq_true] at h
  have := of_decide_eq_true (h s hs)
  omega
theorem sigWell_true {s : SigV} (h : sigWell s = true) : (0 ≤ s.at_ ∧ s.at_ ≤ 15) ∧ (s.op.length = 8 ∧ StrSmall s.op) ∧ (s.sh.length = 8 ∧ StrSmall s.sh) ∧ (s.si.length = 4 ∧ StrSmall s.si) := by
  simp only [sigWell, Bool.and_eq_true, decide_eq_true_eq, inB_true] at h
  obtain ⟨h0, ⟨a1, a2⟩, ⟨b1, b2⟩, c1, c2⟩ := h
  exact ⟨h0, ⟨by omega, wide_16 (by omega) a1⟩, ⟨by omega, wide_16 (by omega) b1⟩, by omega, wide_16 (by omega) c1⟩
theorem joinT_size {xs : List ByteArray} (hs : StrSmall xs) : (joinT xs).size ≤ 200000 := by
  have h1 := joinOn_size ⟨#[]⟩ hs xs.length (Nat.le_refl _)
  have h2 := hs.1
  rw [ba_empty_size] at h1
  unfold joinT
  omega

theorem conv_one (x : Int) (W : World) (B : Nat) (h : W.cell? ⟨B, 0, none⟩ = some (.int .u8 x)) :
    (convert 34 9 (.slice (some ⟨B, 0, none⟩) 1 1)).run Try.prog W = .ok (.string (strOfNums [x])) W := by
  refine run_convert_bytes_arg W 34 5 Try.underlying34 Try.underlying5 B 0 1 1 [x] rfl (fun i hi => ?_) _ Try.underlying9
  obtain rfl : i = 0 := by omega
  simpa using h
end Go.Proofs.Ytckipgijfgeghaa
