/- Signatures that own their rows. -/
import Derived.Test.YtckipgijfgeghaaSig
import Derived.Test.YtckipgijfgeghaaStrA
import Derived.Test.YtckipgijfgeghaaCore
import Derived.Test.YtckipgijfgeghaaFields
import Derived.Deep.AppendLies
namespace Go.Proofs.Ytckipgijfgeghaa
open Go.RowKit

def SigOwn (w : World) (base : Nat) (v1 v2 v3 : Value) (s : SigV) : Prop := OwnStrs w base v1 s.op ∧ OwnStrs w base v2 s.sh ∧ OwnStrs w base v3 s.si ∧ Off v1 v2 ∧ Off v1 v3 ∧ Off v2 v3
theorem SigOwn.ext {w w' : World} {base : Nat} {v1 v2 v3 : Value} {s : SigV} (h : SigOwn w base v1 v2 v3 s) (hx : Ext w w') : SigOwn w' base v1 v2 v3 s := ⟨h.1.ext hx, h.2.1.ext hx, h.2.2.1.ext hx, h.2.2.2⟩
theorem SigOwn.mono {w : World} {base b' : Nat} {v1 v2 v3 : Value} {s : SigV} (h : SigOwn w base v1 v2 v3 s) (hb : b' ≤ base) : SigOwn w b' v1 v2 v3 s := ⟨h.1.mono hb, h.2.1.mono hb, h.2.2.1.mono hb, h.2.2.2⟩
theorem off_nil (v : Value) : Off v (.slice none 0 0) := fun g _ e => by cases e
theorem nil_off (v : Value) : Off (.slice none 0 0) v := fun g e => by cases e
theorem sigOwn_nil (w : World) (base : Nat) : SigOwn w base (.slice none 0 0) (.slice none 0 0) (.slice none 0 0) ⟨0, [], [], []⟩ := ⟨World.ownsRow_nil _ _ _ _, World.ownsRow_nil _ _ _ _, World.ownsRow_nil _ _ _ _, off_nil _, off_nil _, off_nil _⟩
theorem SigOwn.below4 {w : World} {base b : Nat} {v1 v2 v3 : Value} {s : SigV} (h : SigOwn w base v1 v2 v3 s) (hb : b < base) (x0 x1 x2 x3 : Value) : SigOwn ((((w.setCell ⟨b, 0, none⟩ x0).setCell ⟨b, 1, none⟩ x1).setCell ⟨b, 2, none⟩ x2).setCell ⟨b, 3, none⟩ x3) base v1 v2 v3 s := by
  have b4 := fun (e : List Value) (v : Value) (n : Nat) (ho : w.ownsRow base 9 1 v n e) => own_below (own_below (own_below (own_below ho (p := ⟨b, 0, none⟩) (u := x0) hb) (p := ⟨b, 1, none⟩) (u := x1) hb) (p := ⟨b, 2, none⟩) (u := x2) hb) (p := ⟨b, 3, none⟩) (u := x3) hb
  exact ⟨b4 _ _ _ h.1, b4 _ _ _ h.2.1, b4 _ _ _ h.2.2.1, h.2.2.2⟩
theorem own_set {w : World} {base b o : Nat} {e : TypeId} {n len : Nat} {v : Value} {l : List Value} (h : w.ownsRow base e n v len l) (hb : b < base) (x : Value) : (w.setCell ⟨b, o, none⟩ x).ownsRow base e n v len l := own_below h (p := ⟨b, o, none⟩) (u := x) hb
theorem SigOwn.set {w : World} {base b : Nat} {v1 v2 v3 : Value} {s : SigV} (h : SigOwn w base v1 v2 v3 s) (hb : b < base) (o : Nat) (x : Value) : SigOwn (w.setCell ⟨b, o, none⟩ x) base v1 v2 v3 s := ⟨own_set h.1 hb x, own_set h.2.1 hb x, own_set h.2.2.1 hb x, h.2.2.2⟩
/-- a row that is read lies in no block from base on -/
theorem own_far {w : World} {base b o : Nat} {e : TypeId} {n len : Nat} {v : Value} {l : List Value} (h : w.ownsRow base e n v len l) (hb : ∀ k, v.ownBlock = some k → k ≠ b) (x : Value) : (w.setCell ⟨b, o, none⟩ x).ownsRow base e n v len l := own_grown2 h (row := some b) ⟨rfl, rfl, rfl, by simp [World.setCell], fun k _ hk => Below.heap_setCell _ _ _ _ (by simpa using hk)⟩ (fun k hk e => by cases hk; exact hb _ e rfl)
theorem SigOwn.far {w : World} {base b : Nat} {v1 v2 v3 : Value} {s : SigV} (h : SigOwn w base v1 v2 v3 s) (h1 : ∀ k, v1.ownBlock = some k → k ≠ b) (h2 : ∀ k, v2.ownBlock = some k → k ≠ b) (h3 : ∀ k, v3.ownBlock = some k → k ≠ b) (o : Nat) (x : Value) : SigOwn (w.setCell ⟨b, o, none⟩ x) base v1 v2 v3 s := ⟨own_far h.1 h1 x, own_far h.2.1 h2 x, own_far h.2.2.1 h3 x, h.2.2.2⟩
theorem Bx.mut {W W' : World} {c b : Nat} {cs : List Value} (h : Bx W c cs) (hm : Mut b W W') (hc : c ≠ b) : Bx W' c cs :=
  ⟨Nat.lt_of_lt_of_le h.1 hm.size, fun j v hj => (hm.cell _ _ h.1 hc).trans (h.2.1 j v hj), fun j => (hm.frozen _ _ h.1 hc).trans (h.2.2 j)⟩
theorem Bx.grew {W W' : World} {b : Nat} {cs : List Value} (h : Bx W b cs) {row : Option Nat} (hg : W.grownBy W' row) (hr : row ≠ some b) : Bx W' b cs := by
  have hne : ∀ o, some (⟨b, o, none⟩ : Addr).block ≠ row := fun o e => hr e.symm
  exact ⟨Nat.lt_of_lt_of_le h.1 hg.size, fun j v hj => (hg.cell_far _ h.1 (hne j)).trans (h.2.1 j v hj), fun j => (hg.frozen_far _ h.1 (hne j)).trans (h.2.2 j)⟩
end Go.Proofs.Ytckipgijfgeghaa
