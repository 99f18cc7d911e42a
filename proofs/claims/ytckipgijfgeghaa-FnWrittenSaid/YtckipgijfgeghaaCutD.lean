/- What a call that returns a disk leaves behind in two slots. -/
import Derived.Test.YtckipgijfgeghaaFil
import Derived.Test.YtckipgijfgeghaaCore
namespace Go.Proofs.Ytckipgijfgeghaa
open Go.RowKit

def CutD (W0 wx : World) (s8 s9 : Value) (ys : List Fil) (v9 : Value) : Prop := ∃ (qb : Nat) (a : Option Addr) (c : Nat), s8 = .pointer (some ⟨qb, 0, none⟩) ∧ s9 = v9 ∧ W0.heap.size ≤ qb ∧ Bx wx qb [.slice a ys.length c] ∧ OwnFls wx W0.heap.size (.slice a ys.length c) ys ∧ (Value.slice a ys.length c).ownBlock ≠ some qb ∧ Ext W0 wx
end Go.Proofs.Ytckipgijfgeghaa
