/- The reader 'fields': a block of three cells (text, place, bad), read and written by its methods. -/
import Derived.Test.YtckipgijfgeghaaDoorStrA
namespace Go.Proofs.YtckipgijfgeghaaDoor
open Go.RowKit

/-- block b is a reader's: its text, its place, whether it is bad -/
structure Fld (w : World) (b : Nat) (t : ByteArray) (at_ : Int) (bad : Bool) : Prop where
  c0 : w.cell? ⟨b, 0, none⟩ = some (.string t)
  c1 : w.cell? ⟨b, 1, none⟩ = some (.int .i64 at_)
  c2 : w.cell? ⟨b, 2, none⟩ = some (.bool bad)
  fz : ∀ o, w.frozen? ⟨b, o, none⟩ = false

/-- only block b may have changed -/
def Mut (b : Nat) (w w' : World) : Prop := w.grownBy w' (some b)
theorem Mut.refl (b : Nat) (w : World) : Mut b w w := ⟨rfl, rfl, rfl, Nat.le_refl _, fun _ _ _ => rfl⟩
theorem Mut.size {b : Nat} {w w' : World} (h : Mut b w w') : w.heap.size ≤ w'.heap.size := World.grownBy.size h
theorem Mut.cell {b : Nat} {w w' : World} (h : Mut b w w') : ∀ k o, k < w.heap.size → k ≠ b → w'.cell? ⟨k, o, none⟩ = w.cell? ⟨k, o, none⟩ := fun k o hk hb => World.cell?_of_block (w := w) (a := ⟨k, o, none⟩) (h.block k hk (by simpa using hb))
theorem Mut.frozen {b : Nat} {w w' : World} (h : Mut b w w') : ∀ k o, k < w.heap.size → k ≠ b → w'.frozen? ⟨k, o, none⟩ = w.frozen? ⟨k, o, none⟩ := fun k o hk hb => World.frozen?_of_block (w := w) (a := ⟨k, o, none⟩) (h.block k hk (by simpa using hb))
theorem Ext.mut {a b c : World} {k : Nat} (h : Ext a b) (hm : Mut k b c) (hk : a.heap.size ≤ k) : Ext a c := h.grown hm (fun _ e => by cases e; exact hk)
theorem Mut.of_ext {b : Nat} {w w' : World} (h : Ext w w') : Mut b w w' := ⟨h.os, h.tape, h.output, h.size, fun k hk _ => h.block k hk⟩
theorem Mut.trans {b : Nat} {w w' w'' : World} (h : Mut b w w') (k : Mut b w' w'') : Mut b w w'' :=
  ⟨k.os.trans h.os, k.tape.trans h.tape, k.output.trans h.output, Nat.le_trans h.size k.size, fun i hi hb => (k.block i (Nat.lt_of_lt_of_le hi h.size) hb).trans (h.block i hi hb)⟩
theorem Mut.setCell {b : Nat} {w w' : World} (h : Mut b w w') (o : Nat) (u : Value) : Mut b w (w'.setCell ⟨b, o, none⟩ u) :=
  h.trans ⟨rfl, rfl, rfl, by simp [World.setCell], fun k _ hb => Below.heap_setCell _ _ _ _ (by simpa using hb)⟩
theorem Mut.drewN {b : Nat} {w w' : World} (h : Mut b w w') (n : Nat) : Mut b w (w'.drewN n) := ⟨h.os, h.tape, h.output, h.size, h.block⟩
theorem Mut.drew {b : Nat} {w w' : World} (h : Mut b w w') : Mut b w w'.drew := ⟨h.os, h.tape, h.output, h.size, h.block⟩
theorem Mut.alloc {b : Nat} {w w' : World} (h : Mut b w w') (o : Obj) : Mut b w (w'.alloc o) := h.trans (Mut.of_ext ((Ext.refl _).alloc o))

theorem cell_set_off {w : World} {b o o' : Nat} {u : Value} (h : o ≠ o') : (w.setCell ⟨b, o, none⟩ u).cell? ⟨b, o', none⟩ = w.cell? ⟨b, o', none⟩ := by
  apply World.cell?_setCell_other
  intro e
  exact h (congrArg Addr.off e)
theorem Fld.drewN {w : World} {b : Nat} {t : ByteArray} {a : Int} {x : Bool} (h : Fld w b t a x) (n : Nat) : Fld (w.drewN n) b t a x := ⟨h.c0, h.c1, h.c2, h.fz⟩
theorem Fld.drew {w : World} {b : Nat} {t : ByteArray} {a : Int} {x : Bool} (h : Fld w b t a x) : Fld w.drew b t a x := ⟨h.c0, h.c1, h.c2, h.fz⟩
theorem Fld.at {w : World} {b : Nat} {t : ByteArray} {a : Int} {x : Bool} (h : Fld w b t a x) (a' : Int) : Fld (w.setCell ⟨b, 1, none⟩ (.int .i64 a')) b t a' x :=
  ⟨(cell_set_off (by decide)).trans h.c0, World.cell?_setCell_same _ _ _ h.c1, (cell_set_off (by decide)).trans h.c2, fun o => by rw [World.frozen?_setCell]; exact h.fz o⟩
theorem Fld.bad {w : World} {b : Nat} {t : ByteArray} {a : Int} {x : Bool} (h : Fld w b t a x) (x' : Bool) : Fld (w.setCell ⟨b, 2, none⟩ (.bool x')) b t a x' :=
  ⟨(cell_set_off (by decide)).trans h.c0, (cell_set_off (by decide)).trans h.c1, World.cell?_setCell_same _ _ _ h.c2, fun o => by rw [World.frozen?_setCell]; exact h.fz o⟩
/-- what 'bytes(n)' hands back, and what it leaves: the place, whether it is bad -/
def bytesOf (t : ByteArray) (at_ : Int) (bad : Bool) (n : Int) : ByteArray := if bad = true ∨ n > t.size - at_ then ⟨#[]⟩ else t.extract at_.toNat (at_ + n).toNat
def bytesAt (t : ByteArray) (at_ : Int) (bad : Bool) (n : Int) : Int := if bad = true ∨ n > t.size - at_ then at_ else at_ + n
def bytesBad (t : ByteArray) (at_ : Int) (bad : Bool) (n : Int) : Bool := if bad = true ∨ n > t.size - at_ then true else false

theorem bytes_bad (t : ByteArray) (a n : Int) : bytesBad t a true n = true ∧ bytesAt t a true n = a ∧ bytesOf t a true n = ⟨#[]⟩ := by simp [bytesBad, bytesAt, bytesOf]
theorem bytes_yes {t : ByteArray} {a n : Int} (h : n ≤ t.size - a) : bytesBad t a false n = false ∧ bytesAt t a false n = a + n ∧ bytesOf t a false n = t.extract a.toNat (a + n).toNat := by
  have hc : ¬ (false = true ∨ n > t.size - a) := by simp; omega
  simp only [bytesBad, bytesAt, bytesOf, if_neg hc, and_self]
theorem bytes_no {t : ByteArray} {a n : Int} (h : n > t.size - a) : bytesBad t a false n = true ∧ bytesAt t a false n = a ∧ bytesOf t a false n = ⟨#[]⟩ := by
  have hc : (false = true ∨ n > t.size - a) := Or.inr h
  simp only [bytesBad, bytesAt, bytesOf, if_pos hc, and_self]
theorem bytesAt_bd {t : ByteArray} {a n : Int} {x : Bool} (ha : 0 ≤ a ∧ a ≤ t.size) (hn : 0 ≤ n) : 0 ≤ bytesAt t a x n ∧ bytesAt t a x n ≤ t.size := by
  unfold bytesAt; split <;> omega

def oneOf (t : ByteArray) (at_ : Int) (bad : Bool) : Int := if h : bad = false ∧ 0 ≤ at_ ∧ at_.toNat < t.size then (t[at_.toNat]'h.2.2).toNat else 0

end Go.Proofs.YtckipgijfgeghaaDoor
