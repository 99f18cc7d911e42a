/- The operations that write a record. -/
import Derived.Test.YtckipgijfgeghaaFil
import Derived.Test.YtckipgijfgeghaaCore
namespace Go.Proofs.Ytckipgijfgeghaa
open Go.RowKit

def logQ (t : ByteArray) : List ActV := [⟨1, logT, frT t, ⟨#[]⟩⟩, ⟨2, logT, ⟨#[]⟩, ⟨#[]⟩⟩]
theorem acs_of {w : World} {b n c : Nat} {cs : List Value} {qs : List ActV} (h : Bx w b cs) (hq : qs.length = n) (hc : qs.flatMap ActV.cells = cs) (hn : n ≤ c) (hm : c ≤ maxLen) : Acs w (.slice (some ⟨b, 0, none⟩) n c) qs := by
  subst hq
  refine ⟨flat_length ActV.cells_len qs, some ⟨b, 0, none⟩, c, rfl, hn, hm, Or.inr ⟨b, 0, rfl, h.1, fun j u hu => ?_⟩⟩
  rw [Nat.zero_add]
  rw [hc] at hu
  exact h.2.1 j u hu
end Go.Proofs.Ytckipgijfgeghaa
