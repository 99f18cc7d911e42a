/- What a change of one block leaves. -/
import Derived.Test.YtckipgijfgeghaaSgO
import Derived.Test.YtckipgijfgeghaaStrA
namespace Go.Proofs.Ytckipgijfgeghaa
open Go.RowKit

theorem own_mut {w w' : World} {base b : Nat} {e : TypeId} {n len : Nat} {v : Value} {l : List Value} (h : w.ownsRow base e n v len l) (hb : b < base) (hm : Mut b w w') : w'.ownsRow base e n v len l := own_grown2 h hm (fun k hk hv => by cases hk; have := (own_lt h b hv).1; omega)
theorem Mut.grew {b : Nat} {w w' w'' : World} (h : Mut b w w') {row : Option Nat} (hg : w'.grownBy w'' row) (hr : ∀ k, row = some k → w.heap.size ≤ k) : Mut b w w'' :=
  ⟨hg.os.trans h.os, hg.tape.trans h.tape, hg.output.trans h.output, Nat.le_trans h.size hg.size, fun i hi hb => (hg.block i (Nat.lt_of_lt_of_le hi h.size) (fun e => by have := hr i e.symm; omega)).trans (h.block i hi hb)⟩
theorem mut_new {b : Nat} {w w' : World} {c : Nat} (h : Mut b w w') (o : Nat) (u : Value) (hc : w.heap.size ≤ c := by exact Nat.le_refl _) : Mut b w (w'.setCell ⟨c, o, none⟩ u) := h.grew (row := some c) ⟨rfl, rfl, rfl, by simp [World.setCell], fun k _ hk => Below.heap_setCell _ _ _ _ (by simpa using hk)⟩ (fun k hk => by cases hk; exact hc)
end Go.Proofs.Ytckipgijfgeghaa
