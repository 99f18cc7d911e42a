/- Small words of this proof: 'Ext w w2' says that no block of w has changed in w2 and that w2 has at least the blocks of w. -/
import Derived.Test.YtniimhfelnjepaaDoorRows
import Derived.WalkKit
import Derived.WalkSpells
import Derived.WalkLawsBesides
import Derived.BigQuiet
import Derived.Deep.QuietTactic
import Derived.Lib.Hide
import Derived.Deep.RegionWith
import Derived.Deep.DeepFit
import Derived.Deep.DeepMust
namespace Go.Proofs.YtniimhfelnjepaaDoor
open Go.RowKit

/-- all blocks of w are in w' as they were -/
def Ext (w w' : World) : Prop := Below w.heap.size w w'

theorem Ext.refl (w : World) : Ext w w := Below.refl _ _
theorem Ext.trans {a b c : World} (h : Ext a b) (k : Ext b c) : Ext a c := Below.trans h (Below.mono k h.size)
theorem Ext.via {a b c d : World} (h : Ext a b) (l : Ext c d) (k : Ext b c) : Ext a d := (h.trans k).trans l
theorem Ext.alloc {a b : World} (h : Ext a b) (o : Obj) : Ext a (b.alloc o) := Below.alloc h h.size o
theorem Ext.drew {a b : World} (h : Ext a b) : Ext a b.drew := Below.drew h
theorem Ext.drewN {a b : World} (h : Ext a b) (n : Nat) : Ext a (b.drewN n) := ⟨h.os, h.tape, h.output, h.size, h.block⟩
theorem Ext.setCell {a b : World} (h : Ext a b) {p : Addr} (hp : a.heap.size ≤ p.block) (u : Value) : Ext a (b.setCell p u) := Below.setCell h hp u
theorem Ext.size {a b : World} (h : Ext a b) : a.heap.size ≤ b.heap.size := Below.size h
theorem Ext.cell {a b : World} (h : Ext a b) : ∀ k o, k < a.heap.size → b.cell? ⟨k, o, none⟩ = a.cell? ⟨k, o, none⟩ := fun k o hk => Below.cell (p := ⟨k, o, none⟩) h hk
theorem Ext.frozen {a b : World} (h : Ext a b) : ∀ k o, k < a.heap.size → b.frozen? ⟨k, o, none⟩ = a.frozen? ⟨k, o, none⟩ := fun k o hk => Below.frozen (p := ⟨k, o, none⟩) h hk

/-- the same, under a name that the search for 'Ext' does not meet: what the boxes of a frame read by -/
def Old (w w' : World) : Prop := Ext w w'
theorem Old.of {a b : World} (h : Ext a b) : Old a b := h
theorem Old.ext {a b : World} (h : Old a b) : Ext a b := h
theorem Old.via {a b c d : World} (h : Old a b) (l : Ext c d) (k : Ext b c) : Old a d := Ext.via h l k
theorem Old.undrew {a b : World} (h : Old a.drew b) : Old a b := ⟨h.os, h.tape, h.output, h.size, h.block⟩
theorem Old.undrewN {a b : World} {n : Nat} (h : Old (a.drewN n) b) : Old a b := ⟨h.os, h.tape, h.output, h.size, h.block⟩
theorem Old.size {a b : World} (h : Old a b) : a.heap.size ≤ b.heap.size := Ext.size h
theorem Old.cell {a b : World} (h : Old a b) : ∀ k o, k < a.heap.size → b.cell? ⟨k, o, none⟩ = a.cell? ⟨k, o, none⟩ := Ext.cell h
theorem Old.frozen {a b : World} (h : Old a b) : ∀ k o, k < a.heap.size → b.frozen? ⟨k, o, none⟩ = a.frozen? ⟨k, o, none⟩ := Ext.frozen h

/-- v is a slice of len elements of n cells each; the cells that it reads are flat. -/
def Row (w : World) (n : Nat) (v : Value) (len : Nat) (flat : List Value) : Prop :=
  flat.length = len * n ∧ ∃ a cap, v = .slice a len cap ∧ len ≤ cap ∧ cap ≤ maxLen ∧
    (len = 0 ∨ ∃ b o, a = some ⟨b, o, none⟩ ∧ b < w.heap.size ∧ ∀ j u, flat[j]? = some u → w.cell? ⟨b, o + j, none⟩ = some u)

theorem Row.ext {w w' : World} {n : Nat} {v : Value} {len : Nat} {flat : List Value} (h : Row w n v len flat) (hx : Ext w w') : Row w' n v len flat := by
  obtain ⟨hl, a, cap, hv, h1, h2, h3⟩ := h
  refine ⟨hl, a, cap, hv, h1, h2, ?_⟩
  rcases h3 with h0 | ⟨b, o, ha, hb, hc⟩
  · exact Or.inl h0
  · exact Or.inr ⟨b, o, ha, Nat.lt_of_lt_of_le hb hx.size, fun j u hu => (hx.cell b (o + j) hb).trans (hc j u hu)⟩

theorem Row.of_owns {w : World} {base : Nat} {e : TypeId} {n : Nat} {v : Value} {len : Nat} {flat : List Value} (h : w.ownsRow base e n v len flat) : Row w n v len flat := by
  obtain ⟨hl, h2⟩ := h
  rcases h2 with ⟨rfl, rfl⟩ | ⟨g, cap, cur, rfl, hb, hg, hc, hm, hs, ht⟩
  · exact ⟨hl, none, 0, rfl, Nat.le_refl _, Nat.zero_le _, Or.inl rfl⟩
  · refine ⟨hl, some ⟨g, 0, none⟩, cap, rfl, hc, hm, Or.inr ⟨g, 0, rfl, (Array.getElem?_eq_some_iff.1 hg).1, fun j u hu => ?_⟩⟩
    have hown : w.ownsRow base e n (.slice (some ⟨g, 0, none⟩) len cap) len flat := ⟨hl, Or.inr ⟨g, cap, cur, rfl, hb, hg, hc, hm, hs, ht⟩⟩
    have := hown.cells (g := g) rfl j u hu
    rwa [show (⟨g, 0, none⟩ : Addr).add j = ⟨g, 0 + j, none⟩ from by unfold Addr.add; split <;> simp_all] at this

theorem ret_int {k : IntKind} {a b : Int} (h : a = b) : Ending.returned (.int k a) = .returned (.int k b) := by rw [h]
theorem wrap64_byte (b : UInt8) : wrap64 (b.toNat : Int) = b.toNat := by have := b.toNat_lt; unfold wrap64; omega
theorem ret_str {a b : ByteArray} (h : a = b) : Ending.returned (.string a) = .returned (.string b) := by rw [h]
theorem ret_sb {a b : ByteArray} {c d : Bool} (h : a = b) (k : c = d) : Ending.returned (.tuple #[.string a, .bool c]) = .returned (.tuple #[.string b, .bool d]) := by rw [h, k]
theorem ret_bool {a b : Bool} (h : a = b) : Ending.returned (.bool a) = .returned (.bool b) := by rw [h]

theorem quiet_add_left {P : Program} {f : FuncId} {args : Array Value} {w : World} {a n : Nat} {v : Value}
    (h : Calls P f args (w.drewN (a + n)) fun e w' => e = .returned v ∧ w.drewN (a + n) = w') :
    Calls P f args (w.drewN (a + n)) fun e w'' => e = .returned v ∧ ∃ m, w'' = w.drewN (a + m) :=
  h.mono fun _ _ ⟨he, hm⟩ => ⟨he, n, hm.symm⟩
theorem quiet_left {P : Program} {f : FuncId} {args : Array Value} {w : World} {n : Nat} {v : Value}
    (h : Calls P f args (w.drewN n) fun e w' => e = .returned v ∧ w.drewN n = w') : Calls P f args (w.drewN n) fun e w'' => e = .returned v ∧ ∃ m, w'' = w.drewN m :=
  h.mono fun _ _ ⟨he, hm⟩ => ⟨he, n, hm.symm⟩

theorem flat_length {α : Type} {f : α → List Value} {n : Nat} (hf : ∀ a, (f a).length = n) (xs : List α) : (xs.flatMap f).length = xs.length * n := by
  induction xs with
  | nil => simp
  | cons a l ih => rw [List.flatMap_cons, List.length_append, hf, ih, List.length_cons, Nat.add_mul]; omega
/-- element i's j-th cell among all cells -/
theorem flat_get {α : Type} {f : α → List Value} {n : Nat} (hf : ∀ a, (f a).length = n) (xs : List α) (i j : Nat) (hi : i < xs.length) (hj : j < n) : (xs.flatMap f)[i * n + j]? = (f xs[i])[j]? := by
  induction xs generalizing i with
  | nil => simp at hi
  | cons a l ih =>
    rw [List.flatMap_cons]
    cases i with
    | zero => rw [List.getElem?_append_left (by rw [hf]; omega)]; simp
    | succ i =>
      rw [List.getElem?_append_right (by rw [hf, Nat.add_mul]; omega), hf]
      rw [show (i + 1) * n + j - n = i * n + j by rw [Nat.add_mul]; omega]
      simpa using ih i (by simpa using hi)

theorem toList_empty (s : ByteArray) : s.toList.isEmpty = decide (s.size = 0) := by
  rw [ByteArray.toList_eq, Bool.eq_iff_iff]
  cases s with | mk a => simp [ByteArray.size]
theorem toList_inj {a b : ByteArray} : a.toList = b.toList ↔ a = b := by
  rw [ByteArray.toList_eq, ByteArray.toList_eq]
  constructor
  · intro h; cases a; cases b; simp_all
  · intro h; rw [h]
theorem toList_beq (a b : ByteArray) : (a.toList == b.toList) = decide (a = b) := by
  rw [Bool.eq_iff_iff, beq_iff_eq, decide_eq_true_eq, toList_inj]
theorem size_beq (s : ByteArray) (n : Nat) : ((s.size : Int) == (n : Int)) = decide (s.size = n) := by
  rw [Bool.eq_iff_iff]; simp; omega

end Go.Proofs.YtniimhfelnjepaaDoor
