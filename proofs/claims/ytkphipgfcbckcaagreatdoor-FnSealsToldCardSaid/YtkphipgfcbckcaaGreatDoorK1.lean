/- Core, StrA, Sig, Sha3. -/
import Derived.Test.YtkphipgfcbckcaaGreatDoorRows
import Derived.WalkKit
import Derived.WalkSpells
import Derived.WalkLawsBesides
import Derived.BigQuiet
import Derived.Deep.QuietTactic
import Derived.Lib.Hide
import Derived.Deep.RegionWith
import Derived.Deep.DeepFit
import Derived.Deep.DeepMust
import Derived.Laws.BytesArg
import Derived.Lib.AppendStr
import Derived.Deep.WholeRow
import Derived.Deep.RegionHeld3
import Derived.StillTailTactics
import Derived.Deep.DrawnRows
namespace Go.Proofs.YtkphipgfcbckcaaGreatDoor
open Go.RowKit

theorem zk1 {α : Type} {xs : List α} {i : Nat} (h : i < xs.toArray.size) : xs.toArray[i] = xs[i]'(by simpa using h) := rfl
theorem zk2 {α : Type} (a : α) (xs : List α) (h : 0 < (a :: xs).length) : getElem (a :: xs) 0 h = a := rfl
theorem zk3 {α : Type} (a : α) (xs : List α) (i : Nat) (h : i + 1 < (a :: xs).length) : getElem (a :: xs) (i + 1) h = getElem xs i (Nat.lt_of_succ_lt_succ h) := rfl
theorem zk4 {α : Type} (xs : List α) (i : Nat) (a : α) : xs.toArray.setIfInBounds i a = (xs.set i a).toArray := List.setIfInBounds_toArray xs i a
theorem zk5 {α : Type} (a b : α) (xs : List α) : (a :: xs).set 0 b = b :: xs := rfl
theorem zk6 {α : Type} (a b : α) (xs : List α) (i : Nat) : (a :: xs).set (i + 1) b = a :: xs.set i b := rfl
/-- all blocks of w are in w' as they were -/
def Ext (w w' : World) : Prop := Below w.heap.size w w'

theorem Ext.refl (w : World) : Ext w w := Below.refl _ _
theorem Ext.trans {a b c : World} (h : Ext a b) (k : Ext b c) : Ext a c := Below.trans h (Below.mono k h.size)
theorem Ext.alloc {a b : World} (h : Ext a b) (o : Obj) : Ext a (b.alloc o) := Below.alloc h h.size o
theorem Ext.drew {a b : World} (h : Ext a b) : Ext a b.drew := Below.drew h
theorem Ext.drewN {a b : World} (h : Ext a b) (n : Nat) : Ext a (b.drewN n) := ⟨h.os, h.tape, h.output, h.size, h.block⟩
theorem Ext.setCell {a b : World} (h : Ext a b) {p : Addr} (hp : a.heap.size ≤ p.block) (u : Value) : Ext a (b.setCell p u) := Below.setCell h hp u
theorem Ext.size {a b : World} (h : Ext a b) : a.heap.size ≤ b.heap.size := Below.size h
theorem Ext.cell {a b : World} (h : Ext a b) : ∀ k o, k < a.heap.size → b.cell? ⟨k, o, none⟩ = a.cell? ⟨k, o, none⟩ := fun k o hk => Below.cell (p := ⟨k, o, none⟩) h hk
theorem Ext.frozen {a b : World} (h : Ext a b) : ∀ k o, k < a.heap.size → b.frozen? ⟨k, o, none⟩ = a.frozen? ⟨k, o, none⟩ := fun k o hk => Below.frozen (p := ⟨k, o, none⟩) h hk

/-- the same, under a name that the search for 'Ext' does not meet: what the boxes of a frame read by -/
def Old (w w' : World) : Prop := Ext w w'
theorem Old.of {a b : World} (h : Ext a b) : Old a b := h
theorem Old.ext {a b : World} (h : Old a b) : Ext a b := h
theorem Old.undrew {a b : World} (h : Old a.drew b) : Old a b := ⟨h.os, h.tape, h.output, h.size, h.block⟩
theorem Old.undrewN {a b : World} {n : Nat} (h : Old (a.drewN n) b) : Old a b := ⟨h.os, h.tape, h.output, h.size, h.block⟩
theorem Old.size {a b : World} (h : Old a b) : a.heap.size ≤ b.heap.size := Ext.size h
theorem Old.cell {a b : World} (h : Old a b) : ∀ k o, k < a.heap.size → b.cell? ⟨k, o, none⟩ = a.cell? ⟨k, o, none⟩ := Ext.cell h
theorem Old.frozen {a b : World} (h : Old a b) : ∀ k o, k < a.heap.size → b.frozen? ⟨k, o, none⟩ = a.frozen? ⟨k, o, none⟩ := Ext.frozen h

/-- v is a slice of len elements of n cells each; the cells that it reads are flat. -/
def Row (w : World) (n : Nat) (v : Value) (len : Nat) (flat : List Value) : Prop :=
  flat.length = len * n ∧ ∃ a cap, v = .slice a len cap ∧ len ≤ cap ∧ cap ≤ maxLen ∧
    (len = 0 ∨ ∃ b o, a = some ⟨b, o, none⟩ ∧ b < w.heap.size ∧ ∀ j u, flat[j]? = some u → w.cell? ⟨b, o + j, none⟩ = some u)

theorem Row.ext {w w' : World} {n : Nat} {v : Value} {len : Nat} {flat : List Value} (h : Row w n v len flat) (hx : Ext w w') : Row w' n v len flat := by
  obtain ⟨hl, a, cap, hv, h1, h2, h3⟩ := h
  refine ⟨hl, a, cap, hv, h1, h2, ?_⟩
  rcases h3 with h0 | ⟨b, o, ha, hb, hc⟩
  · exact Or.inl h0
  · exact Or.inr ⟨b, o, ha, Nat.lt_of_lt_of_le hb hx.size, fun j u hu => (hx.cell b (o + j) hb).trans (hc j u hu)⟩

theorem Row.of_owns {w : World} {base : Nat} {e : TypeId} {n : Nat} {v : Value} {len : Nat} {flat : List Value} (h : w.ownsRow base e n v len flat) : Row w n v len flat := by
  obtain ⟨hl, h2⟩ := h
  rcases h2 with ⟨rfl, rfl⟩ | ⟨g, cap, cur, rfl, hb, hg, hc, hm, hs, ht⟩
  · exact ⟨hl, none, 0, rfl, Nat.le_refl _, Nat.zero_le _, Or.inl rfl⟩
  · refine ⟨hl, some ⟨g, 0, none⟩, cap, rfl, hc, hm, Or.inr ⟨g, 0, rfl, (Array.getElem?_eq_some_iff.1 hg).1, fun j u hu => ?_⟩⟩
    have hown : w.ownsRow base e n (.slice (some ⟨g, 0, none⟩) len cap) len flat := ⟨hl, Or.inr ⟨g, cap, cur, rfl, hb, hg, hc, hm, hs, ht⟩⟩
    have := hown.cells (g := g) rfl j u hu
    rwa [show (⟨g, 0, none⟩ : Addr).add j = ⟨g, 0 + j, none⟩ from by unfold Addr.add; split <;> simp_all] at this

theorem ret_int {k : IntKind} {a b : Int} (h : a = b) : Ending.returned (.int k a) = .returned (.int k b) := by rw [h]
theorem wrap64_byte (b : UInt8) : wrap64 (b.toNat : Int) = b.toNat := by have := b.toNat_lt; unfold wrap64; omega
theorem ret_str {a b : ByteArray} (h : a = b) : Ending.returned (.string a) = .returned (.string b) := by rw [h]
theorem ret_sb {a b : ByteArray} {c d : Bool} (h : a = b) (k : c = d) : Ending.returned (.tuple #[.string a, .bool c]) = .returned (.tuple #[.string b, .bool d]) := by rw [h, k]
theorem ret_bool {a b : Bool} (h : a = b) : Ending.returned (.bool a) = .returned (.bool b) := by rw [h]

theorem quiet_add_left {P : Program} {f : FuncId} {args : Array Value} {w : World} {a n : Nat} {v : Value}
    (h : Calls P f args (w.drewN (a + n)) fun e w' => e = .returned v ∧ w.drewN (a + n) = w') :
    Calls P f args (w.drewN (a + n)) fun e w'' => e = .returned v ∧ ∃ m, w'' = w.drewN (a + m) :=
  h.mono fun _ _ ⟨he, hm⟩ => ⟨he, n, hm.symm⟩
theorem quiet_left {P : Program} {f : FuncId} {args : Array Value} {w : World} {n : Nat} {v : Value}
    (h : Calls P f args (w.drewN n) fun e w' => e = .returned v ∧ w.drewN n = w') : Calls P f args (w.drewN n) fun e w'' => e = .returned v ∧ ∃ m, w'' = w.drewN m :=
  h.mono fun _ _ ⟨he, hm⟩ => ⟨he, n, hm.symm⟩

theorem flat_length {α : Type} {f : α → List Value} {n : Nat} (hf : ∀ a, (f a).length = n) (xs : List α) : (xs.flatMap f).length = xs.length * n := by
  induction xs with
  | nil => simp
  | cons a l ih => rw [List.flatMap_cons, List.length_append, hf, ih, List.length_cons, Nat.add_mul]; omega
/-- element i's j-th cell among all cells -/
theorem flat_get {α : Type} {f : α → List Value} {n : Nat} (hf : ∀ a, (f a).length = n) (xs : List α) (i j : Nat) (hi : i < xs.length) (hj : j < n) : (xs.flatMap f)[i * n + j]? = (f xs[i])[j]? := by
  induction xs generalizing i with
  | nil => simp at hi
  | cons a l ih =>
    rw [List.flatMap_cons]
    cases i with
    | zero => rw [List.getElem?_append_left (by rw [hf]; omega)]; simp
    | succ i =>
      rw [List.getElem?_append_right (by rw [hf, Nat.add_mul]; omega), hf]
      rw [show (i + 1) * n + j - n = i * n + j by rw [Nat.add_mul]; omega]
      simpa using ih i (by simpa using hi)

theorem toList_empty (s : ByteArray) : s.toList.isEmpty = decide (s.size = 0) := by
  rw [ByteArray.toList_eq, Bool.eq_iff_iff]
  cases s with | mk a => simp [ByteArray.size]
theorem toList_inj {a b : ByteArray} : a.toList = b.toList ↔ a = b := by
  rw [ByteArray.toList_eq, ByteArray.toList_eq]
  constructor
  · intro h; cases a; cases b; simp_all
  · intro h; rw [h]
theorem toList_beq (a b : ByteArray) : (a.toList == b.toList) = decide (a = b) := by
  rw [Bool.eq_iff_iff, beq_iff_eq, decide_eq_true_eq, toList_inj]
theorem size_beq (s : ByteArray) (n : Nat) : ((s.size : Int) == (n : Int)) = decide (s.size = n) := by
  rw [Bool.eq_iff_iff]; simp; omega

end Go.Proofs.YtkphipgfcbckcaaGreatDoor
namespace Go.Proofs.YtkphipgfcbckcaaGreatDoor
open Go.RowKit

def inB (n lo hi : Int) : Bool := decide (lo ≤ n) && decide (n ≤ hi)
theorem inB_true {n lo hi : Int} : inB n lo hi = true ↔ lo ≤ n ∧ n ≤ hi := by simp [inB]
theorem inB_false {n lo hi : Int} : inB n lo hi = false ↔ n < lo ∨ hi < n := by
  cases h : inB n lo hi
  · simp only [true_iff]; simp [inB] at h; omega
  · simp only [Bool.true_eq_false, false_iff]; have := inB_true.1 h; omega

theorem impl_in (n lo hi : Int) (w : World) :
    Calls Tryz.prog 53 #[.int .i64 n, .int .i64 lo, .int .i64 hi] w fun e w' => e = .returned (.bool (inB n lo hi)) ∧ w = w' := by
  go_enter Tryz.func53, Tryz.ntmps53
  go_wp2
  all_goals go_ret
  all_goals exact ⟨ret_bool (by simp [inB]; try omega), rfl⟩
theorem spec_l01In (n lo hi : Int) (w : World) :
    Calls Tryz.prog 22 #[.int .i64 n, .int .i64 lo, .int .i64 hi] w fun e w' => e = .returned (.bool (inB n lo hi)) ∧ w = w' := by
  go_enter Tryz.func22, Tryz.ntmps22
  go_wp2
  all_goals go_ret
  all_goals exact ⟨ret_bool (by simp [inB]; try omega), rfl⟩
theorem impl_isEpoch (n : Int) (w : World) :
    Calls Tryz.prog 47 #[.int .i64 n] w fun e w' => e = .returned (.bool (inB n 1 4)) ∧ w = w' := by
  go_enter Tryz.func47, Tryz.ntmps47
  go_wp2_with (go_at_call 53; refine (impl_in _ _ _ _).mono ?_; rintro e w' ⟨rfl, rfl⟩)
  all_goals go_ret
  all_goals exact ⟨rfl, rfl⟩
theorem impl_isHouse (n : Int) (w : World) :
    Calls Tryz.prog 52 #[.int .i64 n] w fun e w' => e = .returned (.bool (inB n 0 2)) ∧ w = w' := by
  go_enter Tryz.func52, Tryz.ntmps52
  go_wp2_with (go_at_call 53; refine (impl_in _ _ _ _).mono ?_; rintro e w' ⟨rfl, rfl⟩)
  all_goals go_ret
  all_goals exact ⟨rfl, rfl⟩
end Go.Proofs.YtkphipgfcbckcaaGreatDoor
namespace Go.Proofs.YtkphipgfcbckcaaGreatDoor
open Go.RowKit

/-- 'string([]byte{..})' right behind the literal: the block b is the newest. -/
theorem conv_lit (w : World) (xs : List Int) (b n : Nat) (hb : b = w.heap.size) (hn : n = xs.length) :
    (convert 22 9 (.slice (some ⟨b, 0, none⟩) n n)).run Tryz.prog (w.alloc (.cells (xs.map (Value.int .u8)).toArray 5)) = .ok (.string (strOfNums xs)) (w.alloc (.cells (xs.map (Value.int .u8)).toArray 5)) := by
  subst hb
  subst hn
  refine run_convert_bytes_arg _ _ _ Tryz.underlying22 Tryz.underlying5 _ 0 _ _ xs rfl (fun i hi => ?_) _ Tryz.underlying9
  have hh : (w.alloc (.cells (xs.map (Value.int .u8)).toArray 5)).heap[w.heap.size]? = some (.cells (xs.map (Value.int .u8)).toArray 5 (0, 0)) := heap_alloc_new w _
  rw [cell_of_row _ _ _ _ _ _ hh]
  simp [hi]
theorem conv_lit1 (w : World) (x : Int) (b : Nat) (hb : b = w.heap.size) :
    (convert 22 9 (.slice (some ⟨b, 0, none⟩) 1 1)).run Tryz.prog (w.alloc (.cells #[.int .u8 x] 5)) = .ok (.string (strOfNums [x])) (w.alloc (.cells #[.int .u8 x] 5)) := conv_lit w [x] b 1 hb rfl
theorem conv_lit2 (w : World) (x y : Int) (b : Nat) (hb : b = w.heap.size) :
    (convert 22 9 (.slice (some ⟨b, 0, none⟩) 2 2)).run Tryz.prog (w.alloc (.cells #[.int .u8 x, .int .u8 y] 5)) = .ok (.string (strOfNums [x, y])) (w.alloc (.cells #[.int .u8 x, .int .u8 y] 5)) := conv_lit w [x, y] b 2 hb rfl
theorem conv_lit3 (w : World) (x y z : Int) (b : Nat) (hb : b = w.heap.size) :
    (convert 22 9 (.slice (some ⟨b, 0, none⟩) 3 3)).run Tryz.prog (w.alloc (.cells #[.int .u8 x, .int .u8 y, .int .u8 z] 5)) = .ok (.string (strOfNums [x, y, z])) (w.alloc (.cells #[.int .u8 x, .int .u8 y, .int .u8 z] 5)) := conv_lit w [x, y, z] b 3 hb rfl
theorem conv_lit4 (w : World) (x y z u : Int) (b : Nat) (hb : b = w.heap.size) :
    (convert 22 9 (.slice (some ⟨b, 0, none⟩) 4 4)).run Tryz.prog (w.alloc (.cells #[.int .u8 x, .int .u8 y, .int .u8 z, .int .u8 u] 5)) = .ok (.string (strOfNums [x, y, z, u])) (w.alloc (.cells #[.int .u8 x, .int .u8 y, .int .u8 z, .int .u8 u] 5)) := conv_lit w [x, y, z, u] b 4 hb rfl
end Go.Proofs.YtkphipgfcbckcaaGreatDoor
namespace Go.Proofs.YtkphipgfcbckcaaGreatDoor
open Go.RowKit

def nums8 (t : ByteArray) : List Int := t.data.toList.map fun x => (x.toNat : Int)
theorem nums8_length (t : ByteArray) : (nums8 t).length = t.size := by rw [nums8, List.length_map, Array.length_toList]; rfl
theorem strCells_nums8 (t : ByteArray) : Lib.strCells t = (nums8 t).map (Value.int .u8) := by simp [Lib.strCells, nums8]
theorem strOfNums_nums8 (t : ByteArray) : strOfNums (nums8 t) = t := by
  apply ByteArray.ext
  simp only [strOfNums, nums8, List.map_map]
  have : (List.map ((fun n : Int => UInt8.ofNat n.toNat) ∘ fun x : UInt8 => (x.toNat : Int)) t.data.toList) = t.data.toList := by
    conv => rhs; rw [← List.map_id t.data.toList]
    apply List.map_congr_left
    intro x _
    simp
  rw [this]
theorem strCells_one (k : Int) (h : 0 ≤ k ∧ k < 256) : Lib.strCells (strOfNums [k]) = [.int .u8 k] := by
  have h2 : k.toNat % 256 = k.toNat := Nat.mod_eq_of_lt (by omega)
  simp [Lib.strCells, strOfNums, h2]
  omega
theorem strCells_append (a b : ByteArray) : Lib.strCells (a ++ b) = Lib.strCells a ++ Lib.strCells b := by simp [Lib.strCells, ByteArray.data_append]
theorem strOfNums_append (a b : List Int) : strOfNums (a ++ b) = strOfNums a ++ strOfNums b := by
  apply ByteArray.ext
  simp [strOfNums, ByteArray.data_append]
end Go.Proofs.YtkphipgfcbckcaaGreatDoor
namespace Go.Proofs.YtkphipgfcbckcaaGreatDoor
open Go.RowKit

theorem impl_isWide (n : Int) (w : World) :
    Calls Tryz.prog 98 #[.int .i64 n] w fun e w' => e = .returned (.bool (inB n 1 32)) ∧ w = w' := by
  go_enter Tryz.func98, Tryz.ntmps98
  go_wp2_with (go_at_call 53; refine (impl_in _ _ _ _).mono ?_; rintro e w' ⟨rfl, rfl⟩)
  all_goals go_ret
  all_goals exact ⟨rfl, rfl⟩
end Go.Proofs.YtkphipgfcbckcaaGreatDoor
namespace Go.Proofs.YtkphipgfcbckcaaGreatDoor
open Go.RowKit

theorem ba_ext {a b : ByteArray} (h : a.data.toList = b.data.toList) : a = b := ByteArray.ext (Array.toList_inj.1 h)
theorem ba_extract (t : ByteArray) (i j : Nat) : (t.extract i j).data.toList = (t.data.toList.drop i).take (j - i) := by
  rw [ByteArray.data_extract, Array.toList_extract, List.extract_eq_take_drop]
theorem ba_append (a b : ByteArray) : (a ++ b).data.toList = a.data.toList ++ b.data.toList := by simp [ByteArray.data_append]
theorem ba_nums (xs : List Int) : (strOfNums xs).data.toList = xs.map fun n => UInt8.ofNat n.toNat := by simp [strOfNums]
theorem ba_len (t : ByteArray) : t.data.toList.length = t.size := by rw [Array.length_toList]; rfl
theorem ba_empty : (⟨#[]⟩ : ByteArray).data.toList = [] := rfl
end Go.Proofs.YtkphipgfcbckcaaGreatDoor
namespace Go.Proofs.YtkphipgfcbckcaaGreatDoor
open Go.RowKit

/-- a box -/
def Bx (W : World) (b : Nat) (cs : List Value) : Prop := b < W.heap.size ∧ (∀ j v, cs[j]? = some v → W.cell? ⟨b, j, none⟩ = some v) ∧ ∀ j, W.frozen? ⟨b, j, none⟩ = false
theorem Bx.ext {W W' : World} {b : Nat} {cs : List Value} (h : Bx W b cs) (hx : Ext W W') : Bx W' b cs :=
  ⟨Nat.lt_of_lt_of_le h.1 hx.size, fun j v hj => (hx.cell _ _ h.1).trans (h.2.1 j v hj), fun j => (hx.frozen _ _ h.1).trans (h.2.2 j)⟩
theorem Bx.set {W : World} {b : Nat} {cs : List Value} (h : Bx W b cs) (j : Nat) (u : Value) (hj : j < cs.length) : Bx (W.setCell ⟨b, j, none⟩ u) b (cs.set j u) := by
  have hc := h.2.1 j _ (List.getElem?_eq_getElem hj)
  refine ⟨by rw [World.size_setCell]; exact h.1, fun i v hi => ?_, fun i => by simp [go_sem, h.2.2]⟩
  rw [List.getElem?_set] at hi
  by_cases e : j = i
  · subst e
    rw [if_pos rfl, if_pos hj] at hi
    injection hi with hi
    subst hi
    simp [go_sem, hc]
  · rw [if_neg e] at hi
    rw [World.cell?_setCell_other _ _ _ _ (fun q => e (by injection q))]
    exact h.2.1 i v hi
theorem Bx.far {W : World} {b c : Nat} {cs : List Value} (h : Bx W b cs) (hc : c ≠ b) (o : Nat) (u : Value) : Bx (W.setCell ⟨c, o, none⟩ u) b cs := by
  have hn : ∀ i, (⟨b, i, none⟩ : Addr) ≠ ⟨c, o, none⟩ := fun i e => hc (by injection e with e1; exact e1.symm)
  exact ⟨by rw [World.size_setCell]; exact h.1, fun j v hj => by rw [World.cell?_setCell_other _ _ _ _ (fun e => hn j e.symm)]; exact h.2.1 j v hj, fun j => by simp [go_sem, h.2.2]⟩
theorem Bx.new (w : World) (cs : Array Value) (t : TypeId) : Bx (w.alloc (Obj.cells cs t)) w.heap.size cs.toList :=
  ⟨by simp, fun j v hj => by simpa [go_sem] using hj, fun j => by simp [go_sem]⟩
end Go.Proofs.YtkphipgfcbckcaaGreatDoor
namespace Go.Proofs.YtkphipgfcbckcaaGreatDoor
open Go.RowKit

/-- a word of 32 bits -/
structure W32 where
  v : BitVec 32
namespace W32
def i (x : W32) : Int := (x.v.toNat : Int)
def add (x y : W32) : W32 := ⟨x.v + y.v⟩
def xr (x y : W32) : W32 := ⟨x.v ^^^ y.v⟩
def an (x y : W32) : W32 := ⟨x.v &&& y.v⟩
def ro (x y : W32) : W32 := ⟨x.v ||| y.v⟩
def no (x : W32) : W32 := ⟨~~~x.v⟩
def shr (x : W32) (n : Nat) : W32 := ⟨x.v >>> n⟩
def shl (x : W32) (n : Nat) : W32 := ⟨x.v <<< n⟩
def rot (x : W32) (n : Nat) : W32 := ro (shr x n) (shl x (32 - n))
def ofB (b : UInt8) : W32 := ⟨BitVec.ofNat 32 b.toNat⟩
def ofN (n : Nat) : W32 := ⟨BitVec.ofNat 32 n⟩
/-- the last eight bits -/
def byt (x : W32) : Int := ((x.v.toNat % 256 : Nat) : Int)

theorem i_bd (x : W32) : 0 ≤ x.i ∧ x.i < 4294967296 := by
  have := x.v.isLt
  unfold i
  omega
theorem ofInt_i (x : W32) : BitVec.ofInt 32 x.i = x.v := by
  unfold i
  rw [BitVec.ofInt_natCast]
  simp
theorem wrap_nat (n : Nat) (h : n < 4294967296) : IntKind.u32.wrap (n : Int) = n := by rw [IntKind.wrap_u32]; omega
theorem add_i (x y : W32) : IntKind.u32.wrap (x.i + y.i) = (x.add y).i := by
  rw [IntKind.wrap_u32]
  unfold i add
  rw [BitVec.toNat_add]
  omega
theorem xr_i (x y : W32) : bits .xor .u32 x.i y.i = (x.xr y).i := by
  show IntKind.u32.wrap ((BitVec.ofInt 32 x.i ^^^ BitVec.ofInt 32 y.i).toNat : Int) = _
  rw [ofInt_i, ofInt_i]
  exact wrap_nat _ (BitVec.isLt _)
theorem an_i (x y : W32) : bits .and .u32 x.i y.i = (x.an y).i := by
  show IntKind.u32.wrap ((BitVec.ofInt 32 x.i &&& BitVec.ofInt 32 y.i).toNat : Int) = _
  rw [ofInt_i, ofInt_i]
  exact wrap_nat _ (BitVec.isLt _)
theorem ro_i (x y : W32) : bits .or .u32 x.i y.i = (x.ro y).i := by
  show IntKind.u32.wrap ((BitVec.ofInt 32 x.i ||| BitVec.ofInt 32 y.i).toNat : Int) = _
  rw [ofInt_i, ofInt_i]
  exact wrap_nat _ (BitVec.isLt _)
theorem ones : BitVec.ofInt 32 4294967295 = BitVec.allOnes 32 := by decide
theorem no_i (x : W32) : bits .xor .u32 x.i 4294967295 = x.no.i := by
  show IntKind.u32.wrap ((BitVec.ofInt 32 x.i ^^^ BitVec.ofInt 32 4294967295).toNat : Int) = _
  rw [ofInt_i, ones, BitVec.xor_allOnes]
  exact wrap_nat _ (BitVec.isLt _)
theorem no_i' (x : W32) : bits .xor .u32 4294967295 x.i = x.no.i := by
  show IntKind.u32.wrap ((BitVec.ofInt 32 4294967295 ^^^ BitVec.ofInt 32 x.i).toNat : Int) = _
  rw [ofInt_i, ones, BitVec.allOnes_xor]
  exact wrap_nat _ (BitVec.isLt _)
theorem shr_i (x : W32) (n : Nat) : x.i / 2 ^ n = (x.shr n).i := by
  unfold i shr
  rw [BitVec.toNat_ushiftRight, Nat.shiftRight_eq_div_pow, Int.natCast_ediv, Int.natCast_pow]
  rfl
theorem shl_i (x : W32) (n : Nat) : IntKind.u32.wrap (x.i * 2 ^ n) = (x.shl n).i := by
  rw [IntKind.wrap_u32]
  unfold i shl
  rw [BitVec.toNat_shiftLeft, Nat.shiftLeft_eq, Int.natCast_emod, Int.natCast_mul, Int.natCast_pow]
  rfl
theorem ofB_i (b : UInt8) : (b.toNat : Int) = (ofB b).i := by
  unfold i ofB
  rw [BitVec.toNat_ofNat]
  have := b.toNat_lt
  omega
theorem i_ofN (n : Nat) (h : n < 4294967296) : (ofN n).i = (n : Int) := by
  unfold i ofN
  rw [BitVec.toNat_ofNat]
  omega
theorem wr_i (x : W32) : IntKind.u32.wrap x.i = x.i := by
  have := x.i_bd
  rw [IntKind.wrap_u32]
  omega
theorem byt_i (x : W32) : IntKind.u8.wrap x.i = x.byt := by
  rw [IntKind.wrap_u8]
  unfold i byt
  omega
theorem ext {x y : W32} (h : x.v = y.v) : x = y := by cases x; cases y; simp_all
theorem ro_comm (x y : W32) : x.ro y = y.ro x := ext (BitVec.or_comm _ _)
end W32

/-- four bytes to a word -/
def wordOf (a b c d : UInt8) : W32 := (((W32.ofB a).shl 24).ro ((W32.ofB b).shl 16)).ro ((W32.ofB c).shl 8) |>.ro (W32.ofB d)
def sg0 (x : W32) : W32 := ((x.rot 7).xr (x.rot 18)).xr (x.shr 3)
def sg1 (x : W32) : W32 := ((x.rot 17).xr (x.rot 19)).xr (x.shr 10)
def bs0 (x : W32) : W32 := ((x.rot 2).xr (x.rot 13)).xr (x.rot 22)
def bs1 (x : W32) : W32 := ((x.rot 6).xr (x.rot 11)).xr (x.rot 25)
def chW (e f g : W32) : W32 := (e.an f).xr (e.no.an g)
def mjW (a b c : W32) : W32 := ((a.an b).xr (a.an c)).xr (b.an c)

instance : Inhabited W32 := ⟨W32.ofN 0⟩
/-- word k of a block -/
def blkW (s : ByteArray) (k : Nat) : W32 := wordOf (s.data.getD (4 * k) 0) (s.data.getD (4 * k + 1) 0) (s.data.getD (4 * k + 2) 0) (s.data.getD (4 * k + 3) 0)
/-- the first 16 + k words of the schedule -/
def sched (s : ByteArray) : Nat → List W32
  | 0 => (List.range 16).map (blkW s)
  | k + 1 => sched s k ++ [(((sched s k).getD k default).add (sg0 ((sched s k).getD (k + 1) default))).add ((sched s k).getD (k + 9) default) |>.add (sg1 ((sched s k).getD (k + 14) default))]
theorem sched_length (s : ByteArray) : ∀ k, (sched s k).length = 16 + k
  | 0 => by simp [sched]
  | k + 1 => by rw [sched, List.length_append, sched_length s k]; rfl

/-- the state: eight words -/
structure St where
  a : W32
  b : W32
  c : W32
  d : W32
  e : W32
  f : W32
  g : W32
  h : W32
def St.list (s : St) : List W32 := [s.a, s.b, s.c, s.d, s.e, s.f, s.g, s.h]
def St.t1 (s : St) (k w : W32) : W32 := (((s.h.add (bs1 s.e)).add (chW s.e s.f s.g)).add k).add w
def St.t2 (s : St) : W32 := (bs0 s.a).add (mjW s.a s.b s.c)
def St.next (s : St) (k w : W32) : St := ⟨(s.t1 k w).add s.t2, s.a, s.b, s.c, s.d.add (s.t1 k w), s.e, s.f, s.g⟩
def St.plus (s t : St) : St := ⟨s.a.add t.a, s.b.add t.b, s.c.add t.c, s.d.add t.d, s.e.add t.e, s.f.add t.f, s.g.add t.g, s.h.add t.h⟩

def keysN : List Nat := [0x428a2f98, 0x71374491, 0xb5c0fbcf, 0xe9b5dba5, 0x3956c25b, 0x59f111f1, 0x923f82a4, 0xab1c5ed5,
  0xd807aa98, 0x12835b01, 0x243185be, 0x550c7dc3, 0x72be5d74, 0x80deb1fe, 0x9bdc06a7, 0xc19bf174,
  0xe49b69c1, 0xefbe4786, 0x0fc19dc6, 0x240ca1cc, 0x2de92c6f, 0x4a7484aa, 0x5cb0a9dc, 0x76f988da,
  0x983e5152, 0xa831c66d, 0xb00327c8, 0xbf597fc7, 0xc6e00bf3, 0xd5a79147, 0x06ca6351, 0x14292967,
  0x27b70a85, 0x2e1b2138, 0x4d2c6dfc, 0x53380d13, 0x650a7354, 0x766a0abb, 0x81c2c92e, 0x92722c85,
  0xa2bfe8a1, 0xa81a664b, 0xc24b8b70, 0xc76c51a3, 0xd192e819, 0xd6990624, 0xf40e3585, 0x106aa070,
  0x19a4c116, 0x1e376c08, 0x2748774c, 0x34b0bcb5, 0x391c0cb3, 0x4ed8aa4a, 0x5b9cca4f, 0x682e6ff3,
  0x748f82ee, 0x78a5636f, 0x84c87814, 0x8cc70208, 0x90befffa, 0xa4506ceb, 0xbef9a3f7, 0xc67178f2]
def startN : List Nat := [0x6a09e667, 0xbb67ae85, 0x3c6ef372, 0xa54ff53a, 0x510e527f, 0x9b05688c, 0x1f83d9ab, 0x5be0cd19]
def keyW (k : Nat) : W32 := W32.ofN (keysN.getD k 0)
def st0 : St := ⟨W32.ofN 0x6a09e667, W32.ofN 0xbb67ae85, W32.ofN 0x3c6ef372, W32.ofN 0xa54ff53a, W32.ofN 0x510e527f, W32.ofN 0x9b05688c, W32.ofN 0x1f83d9ab, W32.ofN 0x5be0cd19⟩

/-- the state behind k rounds -/
def rnds (s : ByteArray) (t : St) : Nat → St
  | 0 => t
  | k + 1 => (rnds s t k).next (keyW k) ((sched s 48).getD k default)
/-- the state behind a block -/
def shaB (s : ByteArray) (t : St) : St := t.plus (rnds s t 64)
/-- the state behind k blocks -/
def shaN (s : ByteArray) : Nat → St
  | 0 => st0
  | k + 1 => shaB (s.extract (64 * k) (64 * k + 64)) (shaN s k)
/-- the padding -/
def zerosN (n : Nat) : Nat := (119 - n % 64) % 64
def padNums (n : Nat) : List Int := [128] ++ List.replicate (zerosN n) 0 ++ (List.range 8).map fun k => ((8 * n / 2 ^ (8 * (7 - k)) % 256 : Nat) : Int)
def padT (t : ByteArray) : ByteArray := t ++ strOfNums (padNums t.size)
def W32.nums (x : W32) : List Int := [(x.shr 24).byt, (x.shr 16).byt, (x.shr 8).byt, x.byt]
def St.nums (s : St) : List Int := s.list.flatMap W32.nums
/-- THE DIGEST -/
def digT (t : ByteArray) : ByteArray := strOfNums (shaN (padT t) ((padT t).size / 64)).nums

theorem sched_get {s : ByteArray} {k : Nat} : ∀ n, k < 16 + n → ∀ m, (sched s (n + m)).getD k default = (sched s n).getD k default
  | n, h, 0 => rfl
  | n, h, m + 1 => by
    rw [← Nat.add_assoc, sched, List.getD_eq_getElem?_getD, List.getElem?_append_left (by rw [sched_length]; omega), ← List.getD_eq_getElem?_getD, sched_get n h m]

/-- word i of a block's schedule -/
def wd (s : ByteArray) (i : Nat) : W32 := (sched s 48).getD i default
theorem wd_of (s : ByteArray) (n k : Nat) (hn : n ≤ 48) (h : k < 16 + n) : (sched s n).getD k default = wd s k := by
  have := sched_get (s := s) n h (48 - n)
  rw [show n + (48 - n) = 48 by omega] at this
  exact this.symm
theorem wd_lo (s : ByteArray) (i : Nat) (h : i < 16) : wd s i = blkW s i := by
  rw [← wd_of s 0 i (by omega) (by omega), sched]
  simp [h]
theorem wd_hi (s : ByteArray) (k : Nat) (h : 16 ≤ k ∧ k < 64) : wd s k = (((wd s (k - 16)).add (sg0 (wd s (k - 15)))).add (wd s (k - 7))).add (sg1 (wd s (k - 2))) := by
  obtain ⟨m, rfl⟩ : ∃ m, k = m + 16 := ⟨k - 16, by omega⟩
  rw [← wd_of s (m + 1) (m + 16) (by omega) (by omega), sched, List.getD_eq_getElem?_getD, List.getElem?_append_right (by rw [sched_length]; omega), sched_length,
    show m + 16 - (16 + m) = 0 by omega]
  simp only [List.getElem?_cons_zero, Option.getD_some]
  rw [wd_of s m m (by omega) (by omega), wd_of s m (m + 1) (by omega) (by omega), wd_of s m (m + 9) (by omega) (by omega), wd_of s m (m + 14) (by omega) (by omega)]
  rw [show m + 16 - 16 = m by omega, show m + 16 - 15 = m + 1 by omega, show m + 16 - 7 = m + 9 by omega, show m + 16 - 2 = m + 14 by omega]
/-- the words of the schedule that are laid, and noughts -/
def wArr (s : ByteArray) (i : Nat) : List W32 := (sched s 48).take i ++ List.replicate (64 - i) (W32.ofN 0)
theorem wArr_length (s : ByteArray) (i : Nat) (h : i ≤ 64) : (wArr s i).length = 64 := by
  rw [wArr, List.length_append, List.length_take, sched_length, List.length_replicate]
  omega
theorem wArr_get (s : ByteArray) (i j : Nat) (h : i ≤ 64) (hj : j < i) : (wArr s i).getD j default = wd s j := by
  rw [wArr, List.getD_eq_getElem?_getD, List.getElem?_append_left (by rw [List.length_take, sched_length]; omega), List.getElem?_take_of_lt hj, ← List.getD_eq_getElem?_getD]
  rfl
theorem getD_at (l : List W32) (i : Nat) (h : i < l.length) : l.getD i default = l[i] := by simp [List.getD_eq_getElem?_getD, h]
theorem wArr_set (s : ByteArray) (i : Nat) (h : i < 64) : (wArr s i).set i (wd s i) = wArr s (i + 1) := by
  have hl : ((sched s 48).take i).length = i := by rw [List.length_take, sched_length]; omega
  unfold wArr
  rw [List.set_append_right _ _ (by omega), hl, Nat.sub_self, show 64 - i = (64 - (i + 1)) + 1 by omega, List.replicate_succ, List.set_cons_zero]
  rw [List.take_succ_eq_append_getElem (by rw [sched_length]; omega), List.append_assoc, List.singleton_append, wd, getD_at _ _ (by rw [sched_length]; omega)]
theorem st_len (t : St) : t.list.length = 8 := rfl
end Go.Proofs.YtkphipgfcbckcaaGreatDoor
namespace Go.Proofs.YtkphipgfcbckcaaGreatDoor
open Go.RowKit

attribute [local go_sem ↓] W32.add_i W32.xr_i W32.an_i W32.ro_i W32.no_i W32.no_i' W32.shr_i W32.shl_i W32.byt_i

theorem rot_count (n : Nat) (h : 1 ≤ n ∧ n ≤ 31) : bits .and .u64 (IntKind.u64.wrap (-(n : Int))) 31 = 32 - (n : Int) := by
  obtain ⟨h1, h2⟩ := h
  have : n = 1 ∨ n = 2 ∨ n = 3 ∨ n = 4 ∨ n = 5 ∨ n = 6 ∨ n = 7 ∨ n = 8 ∨ n = 9 ∨ n = 10 ∨ n = 11 ∨ n = 12 ∨ n = 13 ∨ n = 14 ∨ n = 15 ∨ n = 16 ∨ n = 17 ∨ n = 18 ∨ n = 19 ∨ n = 20 ∨ n = 21 ∨ n = 22 ∨ n = 23 ∨ n = 24 ∨ n = 25 ∨ n = 26 ∨ n = 27 ∨ n = 28 ∨ n = 29 ∨ n = 30 ∨ n = 31 := by omega
  rcases this with rfl | rfl | rfl | rfl | rfl | rfl | rfl | rfl | rfl | rfl | rfl | rfl | rfl | rfl | rfl | rfl | rfl | rfl | rfl | rfl | rfl | rfl | rfl | rfl | rfl | rfl | rfl | rfl | rfl | rfl | rfl <;> decide

theorem bits_RotateLeft32 (x : W32) (n : Nat) (w : World) (h : 1 ≤ n ∧ n ≤ 31) :
    Calls Tryz.prog 115 #[.int .u32 x.i, .int .i64 (-(n : Int))] w fun e w' => e = .returned (.int .u32 (x.rot n).i) ∧ w = w' := by
  have hc := rot_count n h
  go_enter Tryz.func115, Tryz.ntmps115
  go_wp2
  go_ret
  exact ⟨ret_int (by rw [W32.ro_comm, show 32 - (32 - n) = n by omega]; rfl), rfl⟩
theorem impl_turn (x : W32) (n : Nat) (w : World) (h : 1 ≤ n ∧ n ≤ 31) :
    Calls Tryz.prog 114 #[.int .u32 x.i, .int .i64 n] w fun e w' => e = .returned (.int .u32 (x.rot n).i) ∧ w = w' := by
  go_enter Tryz.func114, Tryz.ntmps114
  go_wp2_with (go_at_call 115; refine (bits_RotateLeft32 x n _ h).mono ?_; rintro e w' ⟨rfl, rfl⟩)
  go_ret
  exact ⟨rfl, rfl⟩
theorem impl_turn_2 (x : W32) (w : World) : Calls Tryz.prog 114 #[.int .u32 x.i, .int .i64 2] w fun e w' => e = .returned (.int .u32 (x.rot 2).i) ∧ w = w' := impl_turn x 2 w (by omega)
theorem impl_turn_6 (x : W32) (w : World) : Calls Tryz.prog 114 #[.int .u32 x.i, .int .i64 6] w fun e w' => e = .returned (.int .u32 (x.rot 6).i) ∧ w = w' := impl_turn x 6 w (by omega)
theorem impl_turn_7 (x : W32) (w : World) : Calls Tryz.prog 114 #[.int .u32 x.i, .int .i64 7] w fun e w' => e = .returned (.int .u32 (x.rot 7).i) ∧ w = w' := impl_turn x 7 w (by omega)
theorem impl_turn_11 (x : W32) (w : World) : Calls Tryz.prog 114 #[.int .u32 x.i, .int .i64 11] w fun e w' => e = .returned (.int .u32 (x.rot 11).i) ∧ w = w' := impl_turn x 11 w (by omega)
theorem impl_turn_13 (x : W32) (w : World) : Calls Tryz.prog 114 #[.int .u32 x.i, .int .i64 13] w fun e w' => e = .returned (.int .u32 (x.rot 13).i) ∧ w = w' := impl_turn x 13 w (by omega)
theorem impl_turn_17 (x : W32) (w : World) : Calls Tryz.prog 114 #[.int .u32 x.i, .int .i64 17] w fun e w' => e = .returned (.int .u32 (x.rot 17).i) ∧ w = w' := impl_turn x 17 w (by omega)
theorem impl_turn_18 (x : W32) (w : World) : Calls Tryz.prog 114 #[.int .u32 x.i, .int .i64 18] w fun e w' => e = .returned (.int .u32 (x.rot 18).i) ∧ w = w' := impl_turn x 18 w (by omega)
theorem impl_turn_19 (x : W32) (w : World) : Calls Tryz.prog 114 #[.int .u32 x.i, .int .i64 19] w fun e w' => e = .returned (.int .u32 (x.rot 19).i) ∧ w = w' := impl_turn x 19 w (by omega)
theorem impl_turn_22 (x : W32) (w : World) : Calls Tryz.prog 114 #[.int .u32 x.i, .int .i64 22] w fun e w' => e = .returned (.int .u32 (x.rot 22).i) ∧ w = w' := impl_turn x 22 w (by omega)
theorem impl_turn_25 (x : W32) (w : World) : Calls Tryz.prog 114 #[.int .u32 x.i, .int .i64 25] w fun e w' => e = .returned (.int .u32 (x.rot 25).i) ∧ w = w' := impl_turn x 25 w (by omega)
theorem spec_l03Turn (x : W32) (n : Nat) (w : World) (h : 1 ≤ n ∧ n ≤ 31) :
    Calls Tryz.prog 116 #[.int .u32 x.i, .int .u64 n] w fun e w' => e = .returned (.int .u32 (x.rot n).i) ∧ w = w' := by
  go_enter Tryz.func116, Tryz.ntmps116
  go_wp2
  go_ret
  exact ⟨ret_int rfl, rfl⟩
theorem spec_turn_2 (x : W32) (w : World) : Calls Tryz.prog 116 #[.int .u32 x.i, .int .u64 2] w fun e w' => e = .returned (.int .u32 (x.rot 2).i) ∧ w = w' := spec_l03Turn x 2 w (by omega)
theorem spec_turn_6 (x : W32) (w : World) : Calls Tryz.prog 116 #[.int .u32 x.i, .int .u64 6] w fun e w' => e = .returned (.int .u32 (x.rot 6).i) ∧ w = w' := spec_l03Turn x 6 w (by omega)
theorem spec_turn_7 (x : W32) (w : World) : Calls Tryz.prog 116 #[.int .u32 x.i, .int .u64 7] w fun e w' => e = .returned (.int .u32 (x.rot 7).i) ∧ w = w' := spec_l03Turn x 7 w (by omega)
theorem spec_turn_11 (x : W32) (w : World) : Calls Tryz.prog 116 #[.int .u32 x.i, .int .u64 11] w fun e w' => e = .returned (.int .u32 (x.rot 11).i) ∧ w = w' := spec_l03Turn x 11 w (by omega)
theorem spec_turn_13 (x : W32) (w : World) : Calls Tryz.prog 116 #[.int .u32 x.i, .int .u64 13] w fun e w' => e = .returned (.int .u32 (x.rot 13).i) ∧ w = w' := spec_l03Turn x 13 w (by omega)
theorem spec_turn_17 (x : W32) (w : World) : Calls Tryz.prog 116 #[.int .u32 x.i, .int .u64 17] w fun e w' => e = .returned (.int .u32 (x.rot 17).i) ∧ w = w' := spec_l03Turn x 17 w (by omega)
theorem spec_turn_18 (x : W32) (w : World) : Calls Tryz.prog 116 #[.int .u32 x.i, .int .u64 18] w fun e w' => e = .returned (.int .u32 (x.rot 18).i) ∧ w = w' := spec_l03Turn x 18 w (by omega)
theorem spec_turn_19 (x : W32) (w : World) : Calls Tryz.prog 116 #[.int .u32 x.i, .int .u64 19] w fun e w' => e = .returned (.int .u32 (x.rot 19).i) ∧ w = w' := spec_l03Turn x 19 w (by omega)
theorem spec_turn_22 (x : W32) (w : World) : Calls Tryz.prog 116 #[.int .u32 x.i, .int .u64 22] w fun e w' => e = .returned (.int .u32 (x.rot 22).i) ∧ w = w' := spec_l03Turn x 22 w (by omega)
theorem spec_turn_25 (x : W32) (w : World) : Calls Tryz.prog 116 #[.int .u32 x.i, .int .u64 25] w fun e w' => e = .returned (.int .u32 (x.rot 25).i) ∧ w = w' := spec_l03Turn x 25 w (by omega)
/-- a word's four bytes -/
theorem impl_fourBytes (x : W32) (w : World) :
    Calls Tryz.prog 107 #[.int .u32 x.i] w fun e w' => e = .returned (.string (strOfNums x.nums)) ∧ Ext w w' := by
  have hcv := conv_lit4
  go_enter Tryz.func107, Tryz.ntmps107
  go_wp2
  go_ret
  exact ⟨rfl, (by repeat (first | (with_reducible first | exact Ext.refl _ | assumption | apply Ext.alloc | apply Ext.drew | apply Ext.drewN | refine Ext.setCell ?_ ?_ _ | refine Ext.trans ?_ (by assumption)) | (show _ ≤ _; first | omega | (dsimp only; omega) | (simp; done) | (simp; omega))))⟩
end Go.Proofs.YtkphipgfcbckcaaGreatDoor
namespace Go.Proofs.YtkphipgfcbckcaaGreatDoor
open Go.RowKit

/-- block b of w holds the words xs -/
def Arr (w : World) (b : Nat) (xs : List W32) : Prop := b < w.heap.size ∧ ∀ j, j < xs.length → w.cell? ⟨b, j, none⟩ = some (.int .u32 (xs.getD j default).i) ∧ w.frozen? ⟨b, j, none⟩ = false
/-- the program's tables: the rounds' words, the first words -/
def Tabs (w : World) : Prop := (1 < w.heap.size ∧ ∀ j, j < 64 → w.cell? ⟨1, j, none⟩ = some (.int .u32 (keyW j).i)) ∧
  (0 < w.heap.size ∧ ∀ j, j < 8 → w.cell? ⟨0, j, none⟩ = some (.int .u32 (st0.list.getD j default).i))

theorem Arr.new (w : World) (xs : List W32) (t : TypeId) : Arr (w.alloc (.cells (xs.map fun x => Value.int .u32 x.i).toArray t)) w.heap.size xs := by
  refine ⟨by simp, fun j hj => ⟨?_, World.frozen?_alloc_new _ _ _ _⟩⟩
  rw [World.cell?_alloc_new]
  simp [hj, List.getD_eq_getElem?_getD]
theorem Arr.newAt {w : World} {b : Nat} (xs : List W32) (t : TypeId) (h : b = w.heap.size) : Arr (w.alloc (.cells (xs.map fun x => Value.int .u32 x.i).toArray t)) b xs := by
  subst h
  exact Arr.new w xs t
theorem Arr.alloc {w : World} {b : Nat} {xs : List W32} (h : Arr w b xs) (o : Obj) : Arr (w.alloc o) b xs :=
  ⟨by have := h.1; simp; omega, fun j hj => ⟨(World.cell?_alloc_past (w := w) o b j h.1).trans (h.2 j hj).1, (World.frozen?_alloc_past (w := w) o b j h.1).trans (h.2 j hj).2⟩⟩
theorem Arr.drew {w : World} {b : Nat} {xs : List W32} (h : Arr w b xs) : Arr w.drew b xs := h
theorem Arr.drewN {w : World} {b : Nat} {xs : List W32} (h : Arr w b xs) (n : Nat) : Arr (w.drewN n) b xs := h
theorem Arr.ext {w w' : World} {b : Nat} {xs : List W32} (h : Arr w b xs) (hx : Ext w w') : Arr w' b xs :=
  ⟨Nat.lt_of_lt_of_le h.1 hx.size, fun j hj => ⟨(hx.cell b j h.1).trans (h.2 j hj).1, (hx.frozen b j h.1).trans (h.2 j hj).2⟩⟩
theorem Arr.other {w : World} {b : Nat} {xs : List W32} (h : Arr w b xs) {p : Addr} (v : Value) (hp : p.block ≠ b) : Arr (w.setCell p v) b xs := by
  refine ⟨by rw [World.size_setCell]; exact h.1, fun j hj => ⟨?_, ?_⟩⟩
  · rw [World.cell?_setCell_other _ _ _ _ (fun e => hp (by rw [e]))]
    exact (h.2 j hj).1
  · rw [World.frozen?_setCell]
    exact (h.2 j hj).2
theorem Arr.set {w : World} {b k : Nat} {xs : List W32} (h : Arr w b xs) (x : W32) : Arr (w.setCell ⟨b, k, none⟩ (.int .u32 x.i)) b (xs.set k x) := by
  refine ⟨by rw [World.size_setCell]; exact h.1, fun j hj => ⟨?_, ?_⟩⟩
  · rw [List.length_set] at hj
    by_cases e : k = j
    · subst e
      rw [World.cell?_setCell_same _ _ _ (h.2 k hj).1]
      simp [List.getD_eq_getElem?_getD, hj]
    · rw [World.cell?_setCell_other _ _ _ _ (fun q => e (by injection q)), (h.2 j hj).1]
      simp [List.getD_eq_getElem?_getD, e]
  · rw [World.frozen?_setCell]
    exact (h.2 j (by rwa [List.length_set] at hj)).2
theorem Arr.put {w : World} {b k : Nat} {xs ys : List W32} (h : Arr w b xs) (x : W32) (e : xs.set k x = ys) {p : Addr} (hp : p = ⟨b, k, none⟩) : Arr (w.setCell p (.int .u32 x.i)) b ys := by
  subst e hp
  exact h.set x
theorem Arr.cell {w : World} {b : Nat} {xs : List W32} (h : Arr w b xs) (j : Nat) (hj : j < xs.length) : w.cell? ⟨b, j, none⟩ = some (.int .u32 (xs.getD j default).i) := (h.2 j hj).1
theorem Arr.free {w : World} {b : Nat} {xs : List W32} (h : Arr w b xs) (j : Nat) (hj : j < xs.length) : w.frozen? ⟨b, j, none⟩ = false := (h.2 j hj).2
theorem Tabs.ext {w w' : World} (h : Tabs w) (hx : Ext w w') : Tabs w' :=
  ⟨⟨Nat.lt_of_lt_of_le h.1.1 hx.size, fun j hj => (hx.cell _ j h.1.1).trans (h.1.2 j hj)⟩, ⟨Nat.lt_of_lt_of_le h.2.1 hx.size, fun j hj => (hx.cell _ j h.2.1).trans (h.2.2 j hj)⟩⟩
theorem Tabs.drew {w : World} (h : Tabs w) : Tabs w.drew := h
theorem Tabs.drewN {w : World} (h : Tabs w) (n : Nat) : Tabs (w.drewN n) := h

theorem un_no (x : W32) : Op.unary .xor (.int .u32 x.i) = pure (.int .u32 x.no.i) := by
  rw [unary_xor, intBits_xor, ← W32.no_i']
  rfl
theorem no_max : (if IntKind.u32.signed = true then (-1 : Int) else IntKind.u32.max) = 4294967295 := by decide
theorem heap_alloc_at {w : World} {n : Nat} (o : Obj) (h : n = w.heap.size) : (w.alloc o).heap[n]? = some o := by
  subst h
  exact heap_alloc_last w o
theorem setRow_alloc_at {w : World} {n : Nat} (c c' : Array Value) (t : TypeId) (h : n = w.heap.size) : (w.alloc (.cells c t)).setRow n c' = w.alloc (.cells c' t) := by
  subst h
  exact World.setRow_alloc_new w c c' t
theorem still_of {P : Program} {f : FuncId} {args : Array Value} {w : World} {v : Value}
    (h : Calls P f args w fun e w' => e = .returned v ∧ w = w') : Calls P f args w fun e w'' => e = .returned v ∧ w'' = w :=
  h.mono fun _ _ ⟨he, hm⟩ => ⟨he, hm.symm⟩
theorem byte_getD (s : ByteArray) (i : Nat) (h : i < s.size) : s.data.getD i 0 = s[i] := by
  have : s.data.getD i 0 = s.data[i]'h := Array.getElem_eq_getD 0 |>.symm
  exact this
/-- the word that a round of the first loop lays -/
theorem blk_word (s : ByteArray) (k : Nat) (h : 4 * k + 3 < s.size) :
    ((((W32.ofB (s[4 * k]'(by omega))).shl 24).ro ((W32.ofB (s[4 * k + 1]'(by omega))).shl 16)).ro ((W32.ofB (s[4 * k + 2]'(by omega))).shl 8)).ro (W32.ofB (s[4 * k + 3]'h)) = blkW s k := by
  unfold blkW wordOf
  rw [byte_getD, byte_getD, byte_getD, byte_getD]
/-- eight words stored one after the other -/
def oct (w : World) (b : Nat) (x0 x1 x2 x3 x4 x5 x6 x7 : Value) : World :=
  (((((((w.setCell ⟨b, 0, none⟩ x0).setCell ⟨b, 1, none⟩ x1).setCell ⟨b, 2, none⟩ x2).setCell ⟨b, 3, none⟩ x3).setCell ⟨b, 4, none⟩ x4).setCell ⟨b, 5, none⟩ x5).setCell ⟨b, 6, none⟩ x6).setCell ⟨b, 7, none⟩ x7
theorem oct_other {w : World} {b g : Nat} {xs : List W32} {x0 x1 x2 x3 x4 x5 x6 x7 : Value} (h : Arr w g xs) (hb : b ≠ g) : Arr (oct w b x0 x1 x2 x3 x4 x5 x6 x7) g xs :=
  (((((((h.other _ hb).other _ hb).other _ hb).other _ hb).other _ hb).other _ hb).other _ hb).other _ hb
theorem oct_put {w : World} {b : Nat} {t : St} (u : St) (h : Arr w b t.list) :
    Arr (oct w b (.int .u32 u.a.i) (.int .u32 u.b.i) (.int .u32 u.c.i) (.int .u32 u.d.i) (.int .u32 u.e.i) (.int .u32 u.f.i) (.int .u32 u.g.i) (.int .u32 u.h.i)) b u.list :=
  (((((((h.set (k := 0) u.a).set (k := 1) u.b).set (k := 2) u.c).set (k := 3) u.d).set (k := 4) u.e).set (k := 5) u.f).set (k := 6) u.g).set (k := 7) u.h
/-- the first k words are added -/
def plusL (s r : St) (k : Nat) : List W32 := ((s.plus r).list.take k) ++ s.list.drop k
theorem lt8 {k : Nat} (h : k < 8) : k = 0 ∨ k = 1 ∨ k = 2 ∨ k = 3 ∨ k = 4 ∨ k = 5 ∨ k = 6 ∨ k = 7 := by omega
theorem plusL_len (s r : St) (k : Nat) (h : k ≤ 8) : (plusL s r k).length = 8 := by
  rw [plusL, List.length_append, List.length_take, List.length_drop, st_len, st_len]
  omega
theorem plusL_get (s r : St) (k : Nat) (h : k < 8) : (plusL s r k).getD k default = s.list.getD k default := by
  rcases lt8 h with rfl | rfl | rfl | rfl | rfl | rfl | rfl | rfl <;> rfl
theorem plusL_set (s r : St) (k : Nat) (h : k < 8) : (plusL s r k).set k ((s.list.getD k default).add (r.list.getD k default)) = plusL s r (k + 1) := by
  rcases lt8 h with rfl | rfl | rfl | rfl | rfl | rfl | rfl | rfl <;> rfl
theorem plusL_all (s r : St) : plusL s r 8 = (s.plus r).list := rfl
def stZ : St := ⟨W32.ofN 0, W32.ofN 0, W32.ofN 0, W32.ofN 0, W32.ofN 0, W32.ofN 0, W32.ofN 0, W32.ofN 0⟩
def zero8 : List W32 := stZ.list
/-- the state as Go's value -/
def St.val (s : St) : Value := .agg #[.int .u32 s.a.i, .int .u32 s.b.i, .int .u32 s.c.i, .int .u32 s.d.i, .int .u32 s.e.i, .int .u32 s.f.i, .int .u32 s.g.i, .int .u32 s.h.i]
/-- the same, stored from the last to the first -/
def octR (w : World) (b : Nat) (x0 x1 x2 x3 x4 x5 x6 x7 : Value) : World :=
  (((((((w.setCell ⟨b, 7, none⟩ x7).setCell ⟨b, 6, none⟩ x6).setCell ⟨b, 5, none⟩ x5).setCell ⟨b, 4, none⟩ x4).setCell ⟨b, 3, none⟩ x3).setCell ⟨b, 2, none⟩ x2).setCell ⟨b, 1, none⟩ x1).setCell ⟨b, 0, none⟩ x0
theorem octR_other {w : World} {b g : Nat} {xs : List W32} {x0 x1 x2 x3 x4 x5 x6 x7 : Value} (h : Arr w g xs) (hb : b ≠ g) : Arr (octR w b x0 x1 x2 x3 x4 x5 x6 x7) g xs :=
  (((((((h.other _ hb).other _ hb).other _ hb).other _ hb).other _ hb).other _ hb).other _ hb).other _ hb
theorem octR_put {w : World} {b : Nat} {t : St} (u : St) (h : Arr w b t.list) :
    Arr (octR w b (.int .u32 u.a.i) (.int .u32 u.b.i) (.int .u32 u.c.i) (.int .u32 u.d.i) (.int .u32 u.e.i) (.int .u32 u.f.i) (.int .u32 u.g.i) (.int .u32 u.h.i)) b u.list :=
  (((((((h.set (k := 7) u.h).set (k := 6) u.g).set (k := 5) u.f).set (k := 4) u.e).set (k := 3) u.d).set (k := 2) u.c).set (k := 1) u.b).set (k := 0) u.a
def keysL : List W32 := (List.range 64).map keyW
theorem keysL_len : keysL.length = 64 := by simp [keysL]
theorem keysL_get (k : Nat) (h : k < 64) : keysL.getD k default = keyW k := by simp [keysL, List.getD_eq_getElem?_getD, h]
/-- the rounds' words as Go's array -/
def keysV : Array Value := (keysL.map fun x => Value.int .u32 x.i).toArray
theorem zero64_one : (List.replicate 64 (Value.int .u32 0)).toArray.all (·.oneCell') = true := by
  rw [Array.all_eq_true_iff_forall_mem]
  intro v hv
  rw [List.mem_toArray] at hv
  rw [List.eq_of_mem_replicate hv]
  rfl
end Go.Proofs.YtkphipgfcbckcaaGreatDoor

namespace Go.Proofs.YtkphipgfcbckcaaGreatDoor
open Go.RowKit

def sealAt (n : Int) : Int := if inB n 1 4 then n - 1 else -1
def stampAt (h n : Int) : Int := if inB h 0 2 && inB n 1 4 then 4 * (h + 1) + n - 1 else -1
def headOk (h ep : Int) (r p : ByteArray) : Bool := inB h 0 2 && (inB ep 1 4 && (decide (r.size = 16) && (if ep = 1 then decide (p.size = 0) else decide (p.size = 16))))

theorem impl_SealAt (n : Int) (w : World) :
    Calls Tryz.prog 18 #[.int .i64 n] w fun e w' => e = .returned (.int .i64 (sealAt n)) ∧ w = w' := by
  cases h : inB n 1 4
  · go_enter Tryz.func18, Tryz.ntmps18
    go_wp2_with (go_at_call 47; refine (impl_isEpoch _ _).mono ?_; rintro e w' ⟨rfl, rfl⟩)
    go_ret
    exact ⟨ret_int (by simp [sealAt, h]), rfl⟩
  · have := inB_true.1 h
    have H := Lib.hid h
    go_enter Tryz.func18, Tryz.ntmps18
    go_wp2_with (go_at_call 47; refine (impl_isEpoch _ _).mono ?_; rintro e w' ⟨rfl, rfl⟩)
    go_ret
    exact ⟨ret_int (by simp [sealAt, H.out]), rfl⟩
theorem spec_SealAt (n : Int) (w : World) :
    Calls Tryz.prog 30 #[.int .i64 n] w fun e w' => e = .returned (.int .i64 (sealAt n)) ∧ w = w' := by
  cases h : inB n 1 4
  · go_enter Tryz.func30, Tryz.ntmps30
    go_wp2_with (go_at_call 22; refine (spec_l01In _ _ _ _).mono ?_; rintro e w' ⟨rfl, rfl⟩)
    go_ret
    exact ⟨ret_int (by simp [sealAt, h]), rfl⟩
  · have := inB_true.1 h
    have H := Lib.hid h
    go_enter Tryz.func30, Tryz.ntmps30
    go_wp2_with (go_at_call 22; refine (spec_l01In _ _ _ _).mono ?_; rintro e w' ⟨rfl, rfl⟩)
    go_ret
    exact ⟨ret_int (by simp [sealAt, H.out]), rfl⟩
theorem impl_StampAt (h n : Int) (w : World) :
    Calls Tryz.prog 32 #[.int .i64 h, .int .i64 n] w fun e w' => e = .returned (.int .i64 (stampAt h n)) ∧ w = w' := by
  by_cases hh : inB h 0 2 = true ∧ inB n 1 4 = true
  · obtain ⟨h1, h2⟩ := hh
    have a1 := inB_true.1 h1
    have a2 := inB_true.1 h2
    have H := Lib.hid h1
    go_enter Tryz.func32, Tryz.ntmps32
    go_wp2_with (first | (go_at_call 47; refine (impl_isEpoch _ _).mono ?_; rintro e w' ⟨rfl, rfl⟩) | (go_at_call 52; refine (impl_isHouse _ _).mono ?_; rintro e w' ⟨rfl, rfl⟩))
    go_ret
    exact ⟨ret_int (by simp [stampAt, h1, h2]), rfl⟩
  · have H := Lib.hid hh
    clear hh
    go_enter Tryz.func32, Tryz.ntmps32
    go_wp2_with (first | (go_at_call 47; refine (impl_isEpoch _ _).mono ?_; rintro e w' ⟨rfl, rfl⟩) | (go_at_call 52; refine (impl_isHouse _ _).mono ?_; rintro e w' ⟨rfl, rfl⟩))
    all_goals go_ret
    all_goals exact ⟨ret_int (by have hh := H.out; simp only [stampAt]; rw [if_neg (by simpa using hh)] <;> simp_all), rfl⟩
set_option maxHeartbeats 400000 in
theorem impl_HeadOk (h ep : Int) (r p : ByteArray) (w : World) :
    Calls Tryz.prog 25 #[.agg #[.int .i64 h, .int .i64 ep, .string r, .string p]] w fun e w' => e = .returned (.bool (headOk h ep r p)) ∧ Ext w w' := by
  go_enter Tryz.func25, Tryz.ntmps25
  go_wp2_with (first | (go_at_call 47; refine (impl_isEpoch _ _).mono ?_; rintro e w' ⟨rfl, rfl⟩) | (go_at_call 52; refine (impl_isHouse _ _).mono ?_; rintro e w' ⟨rfl, rfl⟩))
  all_goals go_ret
  all_goals refine ⟨ret_bool ?_, (by repeat (first | (with_reducible first | exact Ext.refl _ | assumption | apply Ext.alloc | apply Ext.drew | apply Ext.drewN | refine Ext.setCell ?_ ?_ _ | refine Ext.trans ?_ (by assumption)) | (show _ ≤ _; first | omega | (dsimp only; omega) | (simp; done) | (simp; omega))))⟩
  all_goals simp_all [headOk, toList_empty, ← size_beq]
theorem spec_StampAt (h n : Int) (w : World) :
    Calls Tryz.prog 34 #[.int .i64 h, .int .i64 n] w fun e w' => e = .returned (.int .i64 (stampAt h n)) ∧ w = w' := by
  by_cases hh : inB h 0 2 = true ∧ inB n 1 4 = true
  · obtain ⟨h1, h2⟩ := hh
    have a1 := inB_true.1 h1
    have a2 := inB_true.1 h2
    have H := Lib.hid h1
    go_enter Tryz.func34, Tryz.ntmps34
    go_wp2_with (go_at_call 22; refine (spec_l01In _ _ _ _).mono ?_; rintro e w' ⟨rfl, rfl⟩)
    go_ret
    exact ⟨ret_int (by simp [stampAt, h1, h2]), rfl⟩
  · have H := Lib.hid hh
    clear hh
    go_enter Tryz.func34, Tryz.ntmps34
    go_wp2_with (go_at_call 22; refine (spec_l01In _ _ _ _).mono ?_; rintro e w' ⟨rfl, rfl⟩)
    all_goals go_ret
    all_goals exact ⟨ret_int (by have hh := H.out; simp only [stampAt]; rw [if_neg (by simpa using hh)] <;> simp_all), rfl⟩
theorem spec_HeadOk (h ep : Int) (r p : ByteArray) (w : World) :
    Calls Tryz.prog 28 #[.agg #[.int .i64 h, .int .i64 ep, .string r, .string p]] w fun e w' => e = .returned (.bool (headOk h ep r p)) ∧ Ext w w' := by
  go_enter Tryz.func28, Tryz.ntmps28
  go_wp2_with (go_at_call 22; refine (spec_l01In _ _ _ _).mono ?_; rintro e w' ⟨rfl, rfl⟩)
  all_goals go_ret
  all_goals refine ⟨ret_bool ?_, (by repeat (first | (with_reducible first | exact Ext.refl _ | assumption | apply Ext.alloc | apply Ext.drew | apply Ext.drewN | refine Ext.setCell ?_ ?_ _ | refine Ext.trans ?_ (by assumption)) | (show _ ≤ _; first | omega | (dsimp only; omega) | (simp; done) | (simp; omega))))⟩
  all_goals simp_all [headOk, toList_empty, ← size_beq]
end Go.Proofs.YtkphipgfcbckcaaGreatDoor
namespace Go.Proofs.YtkphipgfcbckcaaGreatDoor
open Go.RowKit

def Strs (w : World) (v : Value) (xs : List ByteArray) : Prop := Row w 1 v xs.length (xs.map Value.string)
def sizes (xs : List ByteArray) : Nat := (xs.map ByteArray.size).sum

theorem take_eq_succ {α : Type} {xs ys : List α} {k : Nat} (h1 : k < xs.length) (h2 : k < ys.length) (h : xs.take k = ys.take k) (e : xs[k] = ys[k]) : xs.take (k + 1) = ys.take (k + 1) := by
  rw [List.take_succ_eq_append_getElem h1, List.take_succ_eq_append_getElem h2, h, e]

/-- v owns the strings xs, in blocks from base on -/
def OwnStrs (w : World) (base : Nat) (v : Value) (xs : List ByteArray) : Prop := w.ownsRow base 9 1 v xs.length (xs.map Value.string)
theorem OwnStrs.strs {w : World} {base : Nat} {v : Value} {xs : List ByteArray} (h : OwnStrs w base v xs) : Strs w v xs := Row.of_owns h
theorem own_mono {w : World} {b b' : Nat} {e : TypeId} {n : Nat} {v : Value} {len : Nat} {flat : List Value} (h : w.ownsRow b e n v len flat) (hb : b' ≤ b) : w.ownsRow b' e n v len flat := by
  refine ⟨h.1, ?_⟩
  rcases h.2 with h2 | ⟨g, cap, cur, hv, hg, r⟩
  · exact Or.inl h2
  · exact Or.inr ⟨g, cap, cur, hv, Nat.le_trans hb hg, r⟩
theorem own_ext {w w' : World} {b : Nat} {e : TypeId} {n : Nat} {v : Value} {len : Nat} {flat : List Value} (h : w.ownsRow b e n v len flat) (hx : Ext w w') : w'.ownsRow b e n v len flat := by
  refine ⟨h.1, ?_⟩
  rcases h.2 with h2 | ⟨g, cap, cur, hv, hg, hh, r⟩
  · exact Or.inl h2
  · exact Or.inr ⟨g, cap, cur, hv, hg, (hx.block g (Array.getElem?_eq_some_iff.1 hh).1).trans hh, r⟩
theorem own_below {w : World} {b : Nat} {e : TypeId} {n : Nat} {v : Value} {len : Nat} {flat : List Value} (h : w.ownsRow b e n v len flat) {p : Addr} {u : Value} (hp : p.block < b) : (w.setCell p u).ownsRow b e n v len flat := ownsRow_setCell_below h hp u
theorem own_alloc {w : World} {b : Nat} {e : TypeId} {n : Nat} {v : Value} {len : Nat} {flat : List Value} (h : w.ownsRow b e n v len flat) (o : Obj) : (w.alloc o).ownsRow b e n v len flat := h.alloc o
theorem own_drew {w : World} {b : Nat} {e : TypeId} {n : Nat} {v : Value} {len : Nat} {flat : List Value} (h : w.ownsRow b e n v len flat) : w.drew.ownsRow b e n v len flat := h
theorem OwnStrs.mono {w : World} {b b' : Nat} {v : Value} {xs : List ByteArray} (h : OwnStrs w b v xs) (hb : b' ≤ b) : OwnStrs w b' v xs := own_mono h hb
theorem OwnStrs.ext {w w' : World} {b : Nat} {v : Value} {xs : List ByteArray} (h : OwnStrs w b v xs) (hx : Ext w w') : OwnStrs w' b v xs := own_ext h hx
theorem Strs.form {w : World} {v : Value} {xs : List ByteArray} (h : Strs w v xs) : ∃ a c, v = .slice a xs.length c := by
  obtain ⟨-, a, c, rfl, -⟩ := h
  exact ⟨a, c, rfl⟩
theorem Strs.ext {w w' : World} {v : Value} {xs : List ByteArray} (h : Strs w v xs) (hx : Ext w w') : Strs w' v xs := Row.ext h hx

theorem infoString : (Tryz.prog.info? 9).map (fun i => (i.zero, i.size, i.bytes)) = some (some (.string ⟨#[]⟩), 1, 16) := by kernel_rfl

theorem Ext.grown {a b c : World} {row : Option Nat} (h : Ext a b) (hg : b.grownBy c row) (hr : ∀ k, row = some k → a.heap.size ≤ k) : Ext a c := Below.grown h hg h.size hr

def wide (xs : List ByteArray) (wd : Int) : Bool := xs.all fun s => decide ((s.size : Int) = wd)
theorem wide_take {xs : List ByteArray} {wd : Int} {k : Nat} (hk : k < xs.length) (h : ∀ s ∈ xs.take k, (s.size : Int) = wd) (e : (xs[k].size : Int) = wd) : ∀ s ∈ xs.take (k + 1), (s.size : Int) = wd := by
  intro s hs
  rw [List.take_succ_eq_append_getElem hk, List.mem_append] at hs
  rcases hs with hs | hs
  · exact h s hs
  · simp at hs; rw [hs]; exact e

theorem impl_haveWidth (v : Value) (xs : List ByteArray) (n wd : Int) (w : World) (h : Strs w v xs) (hs : ∀ s ∈ xs, s.size ≤ maxLen) :
    Calls Tryz.prog 94 #[v, .int .i64 n, .int .i64 wd] w fun e w' => e = .returned (.bool (wide xs wd && decide ((xs.length : Int) = n))) ∧ w = w' := by
  obtain ⟨-, a1, c1, rfl, hc1, hm1, g1⟩ := h
  unfold maxLen at hm1 hs
  go_enter Tryz.func94, Tryz.ntmps94
  go_wp2
  go_loop [8, 11] (fun _ i => ∃ k : Nat, k ≤ xs.length ∧ i = .int .i64 k ∧ ∀ s ∈ xs.take k, (s.size : Int) = wd) (fun _ i => xs.length - (intOf i).toNat)
  case atStart => exact ⟨0, Nat.zero_le _, rfl, by simp⟩
  case round =>
    obtain ⟨k, hk, rfl, hall⟩ := hrel
    have HA := Lib.hid hall
    clear hall
    by_cases hlt : k < xs.length
    · rcases g1 with g1 | ⟨b1, o1, rfl, hb1, g1⟩
      · omega
      have e1 : w.cell? ⟨b1, o1 + k, none⟩ = some (.string xs[k]) := g1 k _ (by simp [hlt])
      have hsk := hs xs[k] (List.getElem_mem hlt)
      clear g1 hs
      by_cases hq : (xs[k].size : Int) = wd
      · have hqb : ((xs[k].size : Int) != wd) = false := by simp [hq]
        have HQ := Lib.hid hq
        clear hq
        go_wp2
        go_round
        case rel => exact ⟨k + 1, by omega, by go_num, wide_take hlt HA.out HQ.out⟩
        case measure => simp [intOf]; omega
      · have hqb : ((xs[k].size : Int) != wd) = true := by simp [hq]
        have hne : wide xs wd = false := by
          rw [wide, List.all_eq_false]
          exact ⟨xs[k], List.getElem_mem hlt, by simpa using hq⟩
        have HN := Lib.hid hne
        clear hq hne
        go_wp2
        go_ret
        exact ⟨ret_bool (by rw [HN.out]; rfl), rfl⟩
    · have he : wide xs wd = true := by
        have h1 := HA.out
        rw [List.take_of_length_le (by omega)] at h1
        rw [wide, List.all_eq_true]
        intro s hs'
        exact decide_eq_true (h1 s hs')
      have HE := Lib.hid he
      clear g1 hs he
      go_wp2
      go_ret
      exact ⟨ret_bool (by rw [HE.out, Bool.true_and, Bool.eq_iff_iff]; simp), rfl⟩

end Go.Proofs.YtkphipgfcbckcaaGreatDoor
namespace Go.Proofs.YtkphipgfcbckcaaGreatDoor
open Go.RowKit

/-- a literal slice of strings, its block the newest -/
theorem strs_lit (w : World) (xs : List ByteArray) (n b : Nat) (t : TypeId) (hn : n = xs.length) (hb : b = w.heap.size) (hm : n ≤ 1000) : Strs (w.alloc (.cells (xs.map Value.string).toArray t)) (.slice (some ⟨b, 0, none⟩) n n) xs := by
  subst hb
  subst hn
  refine ⟨by simp, _, _, rfl, Nat.le_refl _, by unfold maxLen; omega, Or.inr ⟨w.heap.size, 0, rfl, by simp, fun j u hu => ?_⟩⟩
  rw [Nat.zero_add, World.cell?_alloc_new]
  simpa using hu
theorem strs_lit1 (w : World) (a : ByteArray) (t : TypeId) : Strs (w.alloc (.cells #[.string a] t)) (.slice (some ⟨w.heap.size, 0, none⟩) 1 1) [a] := strs_lit w [a] 1 _ t rfl rfl (by omega)
theorem strs_lit2 (w : World) (a b : ByteArray) (t : TypeId) : Strs (w.alloc (.cells #[.string a, .string b] t)) (.slice (some ⟨w.heap.size, 0, none⟩) 2 2) [a, b] := strs_lit w [a, b] 2 _ t rfl rfl (by omega)
theorem fit1 {a : ByteArray} (h : a.size ≤ maxLen) : ∀ s ∈ [a], s.size ≤ maxLen := by
  intro s hs
  rw [List.mem_singleton] at hs
  rw [hs]; exact h
theorem fit2 {a b : ByteArray} (h : a.size ≤ maxLen) (k : b.size ≤ maxLen) : ∀ s ∈ [a, b], s.size ≤ maxLen := by
  intro s hs
  rw [List.mem_cons, List.mem_singleton] at hs
  rcases hs with rfl | rfl <;> assumption
theorem le_max {a : ByteArray} {n : Nat} (h : a.size ≤ n) (hn : n ≤ 1099511627776) : a.size ≤ maxLen := by unfold maxLen; omega
end Go.Proofs.YtkphipgfcbckcaaGreatDoor
namespace Go.Proofs.YtkphipgfcbckcaaGreatDoor
open Go.RowKit

def joinOn (a : ByteArray) (xs : List ByteArray) (k : Nat) : ByteArray := (xs.take k).foldl (· ++ ·) a
/-- strings behind a text -/
def joinT (xs : List ByteArray) : ByteArray := joinOn ⟨#[]⟩ xs xs.length
theorem joinOn_zero (a : ByteArray) (xs : List ByteArray) : joinOn a xs 0 = a := by simp [joinOn]
theorem joinOn_succ (a : ByteArray) (xs : List ByteArray) (k : Nat) (h : k < xs.length) : joinOn a xs (k + 1) = joinOn a xs k ++ xs[k] := by
  unfold joinOn
  rw [List.take_succ_eq_append_getElem h, List.foldl_append]
  rfl
theorem ba_empty_size : (⟨#[]⟩ : ByteArray).size = 0 := rfl
theorem ba_append_empty (a : ByteArray) : a ++ (⟨#[]⟩ : ByteArray) = a := by apply ByteArray.ext; simp [ByteArray.data_append]
theorem joinOn_eq (a : ByteArray) (xs : List ByteArray) : ∀ k, k ≤ xs.length → joinOn a xs k = a ++ joinOn ⟨#[]⟩ xs k
  | 0, _ => by rw [joinOn_zero, joinOn_zero, ba_append_empty]
  | k + 1, h => by rw [joinOn_succ a xs k (by omega), joinOn_succ _ xs k (by omega), joinOn_eq a xs k (by omega), ByteArray.append_assoc]
theorem joinOn_all (a : ByteArray) (xs : List ByteArray) : joinOn a xs xs.length = a ++ joinT xs := joinOn_eq a xs _ (Nat.le_refl _)
/-- short strings, not many -/
def StrSmall (xs : List ByteArray) : Prop := xs.length ≤ 1000 ∧ ∀ s ∈ xs, s.size ≤ 200
theorem joinOn_size (a : ByteArray) {xs : List ByteArray} (hs : StrSmall xs) : ∀ k, k ≤ xs.length → (joinOn a xs k).size ≤ a.size + 200 * k
  | 0, _ => by simp [joinOn]
  | k + 1, h => by
    have h1 := joinOn_size a hs k (by omega)
    have h2 := hs.2 xs[k] (List.getElem_mem (by omega))
    rw [joinOn_succ a xs k (by omega), ByteArray.size_append]
    omega

end Go.Proofs.YtkphipgfcbckcaaGreatDoor
namespace Go.Proofs.YtkphipgfcbckcaaGreatDoor
open Go.RowKit

theorem own_lt {w : World} {base : Nat} {e : TypeId} {size n : Nat} {v : Value} {xs : List Value} (h : w.ownsRow base e size v n xs) : ∀ k, v.ownBlock = some k → base ≤ k ∧ k < w.heap.size := fun k hk => h.lt k hk
/-- a row of its own, behind writes to another, elder one -/
theorem own_grown {w w' : World} {base : Nat} {e : TypeId} {size n : Nat} {v : Value} {xs : List Value} (h : w.ownsRow base e size v n xs) {row : Option Nat} (hg : w.grownBy w' row) (hr : ∀ k, row = some k → k < base) : w'.ownsRow base e size v n xs := by
  refine ⟨h.1, ?_⟩
  rcases h.2 with h2 | ⟨g, cap, cur, hv, hb, hh, r⟩
  · exact Or.inl h2
  · exact Or.inr ⟨g, cap, cur, hv, hb, (hg.block g (Array.getElem?_eq_some_iff.1 hh).1 (fun e => by have := hr g e.symm; omega)).trans hh, r⟩

end Go.Proofs.YtkphipgfcbckcaaGreatDoor
namespace Go.Proofs.YtkphipgfcbckcaaGreatDoor
open Go.RowKit

/-- two slices lie in blocks of their own -/
def Off (v r : Value) : Prop := ∀ g, v.ownBlock = some g → r.ownBlock ≠ some g
theorem off_next {v v' r : Value} {H : Nat} (h : Off v r) (hat : v'.ownBlock = v.ownBlock ∨ v'.ownBlock = some H) (hb : ∀ g, r.ownBlock = some g → g < H) : Off v' r := by
  intro g hg hr
  rcases hat with hat | hat
  · exact h g (hat ▸ hg) hr
  · rw [hat] at hg
    injection hg with hg
    have := hb g hr
    omega
theorem row_grown {w w' : World} {n : Nat} {v : Value} {len : Nat} {flat : List Value} {row : Option Nat} (h : Row w n v len flat) (hg : w.grownBy w' row) (hne : ∀ g, row = some g → v.ownBlock ≠ some g) : Row w' n v len flat := by
  obtain ⟨h1, a, cap, rfl, h2, h3, h4⟩ := h
  refine ⟨h1, a, cap, rfl, h2, h3, ?_⟩
  rcases h4 with h4 | ⟨b, o, rfl, hb, hc⟩
  · exact Or.inl h4
  · exact Or.inr ⟨b, o, rfl, Nat.lt_of_lt_of_le hb hg.size, fun j u hu => (World.cell?_of_block (w := w) (a := ⟨b, o + j, none⟩) (hg.block b hb (fun e => hne b e.symm rfl))).trans (hc j u hu)⟩
theorem own_grown2 {w w' : World} {base : Nat} {e : TypeId} {size n : Nat} {v : Value} {xs : List Value} (h : w.ownsRow base e size v n xs) {row : Option Nat} (hg : w.grownBy w' row) (hr : ∀ k, row = some k → v.ownBlock ≠ some k) : w'.ownsRow base e size v n xs := by
  refine ⟨h.1, ?_⟩
  rcases h.2 with h2 | ⟨g, cap, cur, hv, hb, hh, r⟩
  · exact Or.inl h2
  · exact Or.inr ⟨g, cap, cur, hv, hb, (hg.block g (Array.getElem?_eq_some_iff.1 hh).1 (fun e => hr g e.symm (by rw [hv]; rfl))).trans hh, r⟩
theorem off_new {w : World} {base b : Nat} {e e' : TypeId} {n m size size' : Nat} {v r : Value} {xs ys : List Value} (h : w.ownsRow base e size v n xs) {w' : World} (h' : w'.ownsRow b e' size' r m ys) (hb : w.heap.size ≤ b) : Off v r := by
  intro g hg hr
  have h1 := (own_lt h g hg).2
  have h2 := (own_lt h' g hr).1
  omega
end Go.Proofs.YtkphipgfcbckcaaGreatDoor
namespace Go.Proofs.YtkphipgfcbckcaaGreatDoor
open Go.RowKit

def varL (n : Nat) : List Int := if 127 < n then (128 + (n : Int) % 128) :: varL (n / 128) else [(n : Int)]
termination_by n
theorem varL_more {n : Nat} (h : 127 < n) : varL n = (128 + (n : Int) % 128) :: varL (n / 128) := by rw [varL, if_pos h]
theorem varL_last {n : Nat} (h : ¬ 127 < n) : varL n = [(n : Int)] := by rw [varL, if_neg h]
theorem varL_le (n : Nat) : (varL n).length ≤ n + 1 := by
  induction n using Nat.strongRecOn with
  | ind n ih =>
    rw [varL]
    split
    · have := ih (n / 128) (by omega)
      simp only [List.length_cons]
      omega
    · simp
/-- a number's text -/
def varT (n : Nat) : ByteArray := strOfNums (varL n)
theorem varT_size (n : Nat) : (varT n).size ≤ n + 1 := by rw [varT, strOfNums_size]; exact varL_le n

theorem infoByte : (Tryz.prog.info? 5).map (fun i => (i.zero, i.size, i.bytes)) = some (some (.int .u8 0), 1, 1) := by kernel_rfl

theorem own_form {w : World} {base : Nat} {e : TypeId} {size n : Nat} {v : Value} {xs : List Value} (h : w.ownsRow base e size v n xs) (hn : 0 < n) : ∃ g cap, v = .slice (some ⟨g, 0, none⟩) n cap := by
  rcases h.2 with ⟨-, h0⟩ | ⟨g, cap, cur, hv, -⟩
  · omega
  · exact ⟨g, cap, hv⟩
theorem own_any {w : World} {base : Nat} {e : TypeId} {size n : Nat} {v : Value} {xs : List Value} (h : w.ownsRow base e size v n xs) : ∃ a cap, v = .slice a n cap := by
  rcases h.2 with ⟨rfl, rfl⟩ | ⟨g, cap, cur, rfl, -⟩
  · exact ⟨none, 0, rfl⟩
  · exact ⟨_, cap, rfl⟩
theorem conv_own {w : World} {base g cap n : Nat} {ys : List Int} (h : w.ownsRow base 5 1 (.slice (some ⟨g, 0, none⟩) n cap) n (ys.map (Value.int .u8))) :
    (convert 22 9 (.slice (some ⟨g, 0, none⟩) n cap)).run Tryz.prog w = .ok (.string (strOfNums ys)) w := by
  have hl : ys.length = n := by simpa using h.1
  refine run_convert_bytes_arg _ _ _ Tryz.underlying22 Tryz.underlying5 _ 0 _ _ ys hl (fun i hi => ?_) _ Tryz.underlying9
  rw [show (0 : Nat) + i = i by omega, h.cellAt i (by omega)]
  simp [List.getD, show i < ys.length by omega]
theorem own_ext_of {w0 w w' : World} {base : Nat} {e : TypeId} {size n : Nat} {v : Value} {xs : List Value} (hx : Ext w0 w) (hown : w.ownsRow base e size v n xs) (hg : w.grownBy w' v.ownBlock) (hb : w0.heap.size ≤ base) : Ext w0 w' :=
  hx.grown hg (fun k hk => Nat.le_trans hb (hown.lt k hk).1)

set_option maxRecDepth 100000 in
set_option maxHeartbeats 800000 in
theorem impl_varText (n : Nat) (w : World) (hn : n ≤ 1099511627776) :
    Calls Tryz.prog 113 #[.int .i64 n] w fun e w' => e = .returned (.string (varT n)) ∧ Ext w w' := by
  obtain ⟨i0, hi, hz0, hz1, hz2⟩ := info_parts infoByte
  go_enter Tryz.func113, Tryz.ntmps113
  go_wp2
  go_loopw [0, 3] (fun c v wr => ∃ (m : Nat) (ys : List Int), c = .int .i64 m ∧ wr.ownsRow w.heap.size 5 1 v ys.length (ys.map (Value.int .u8)) ∧ varL n = ys ++ varL m ∧ ys.length + m ≤ n ∧ Ext w wr) (fun c _ _ => (intOf c).toNat)
  case atStart => exact ⟨n, [], rfl, World.ownsRow_nil _ _ _ _, rfl, by simp, Ext.refl _⟩
  case round =>
    obtain ⟨m, ys, rfl, hown, hv, hle, hx⟩ := hrel
    have HV := Lib.hid hv
    obtain ⟨a, c, rfl⟩ := own_any hown
    have hsz := hx.size
    clear hv
    by_cases hm : 127 < m
    · go_wp2_with (at_builtin; refine wpList_append_own _ rfl (.tmp 6) (.tmp 11) 22 rfl w.heap.size 5 i0 (.int .u8 0) 1 1 Tryz.underlying22 hi hz0 hz1 hz2 rfl (by decide) _ _ _ rfl (hown.alloc _) ⟨wr.heap.size, 0, none⟩ 1 1 [.int .u8 (128 + (m : Int) % 128)] rfl rfl ?c1 ?c2 ?c3 ?c4 ?c5 ?_)
      case c1 =>
        intro j u hj
        match j, hj with
        | 0, hj => simp at hj; subst hj; simp [Addr.add]
      case c2 => intro u hu; simp at hu; subst hu; rfl
      case c3 => unfold maxLen; omega
      case c4 => omega
      case c5 => simp; omega
      intro v' w1 hown' hgrow _
      have hx1 : Ext w w1 := own_ext_of (hx.alloc _) (hown.alloc _) hgrow (Nat.le_refl _)
      obtain ⟨a', c', rfl⟩ := own_any hown'
      have HO := Lib.hid hown'
      clear hown' hgrow hown
      go_wp2
      go_roundw
      case rel => exact ⟨m / 128, ys ++ [128 + (m : Int) % 128], by go_num, by simpa using HO.out, by rw [HV.out, varL_more hm]; simp, by simp; omega, hx1⟩
      case measure => simp [intOf]; omega
    · go_wp2_with (at_builtin; refine wpList_append_own _ rfl (.tmp 15) (.tmp 18) 22 rfl w.heap.size 5 i0 (.int .u8 0) 1 1 Tryz.underlying22 hi hz0 hz1 hz2 rfl (by decide) _ _ _ rfl (hown.alloc _) ⟨wr.heap.size, 0, none⟩ 1 1 [.int .u8 (m : Int)] rfl rfl ?c1 ?c2 ?c3 ?c4 ?c5 ?_)
      case c1 =>
        intro j u hj
        match j, hj with
        | 0, hj => simp at hj; subst hj; simp [Addr.add]
      case c2 => intro u hu; simp at hu; subst hu; rfl
      case c3 => unfold maxLen; omega
      case c4 => omega
      case c5 => simp; omega
      intro v' w1 hown' hgrow _
      obtain ⟨g, cap, rfl⟩ := own_form hown' (by omega)
      have hx1 : Ext w w1 := own_ext_of (hx.alloc _) (hown.alloc _) hgrow (Nat.le_refl _)
      have hl : ys.map (Value.int .u8) ++ [Value.int .u8 (m : Int)] = (ys ++ [(m : Int)]).map (Value.int .u8) := by simp
      rw [hl] at hown'
      have hcv := conv_own hown'
      clear hown' hown hgrow hl
      go_wp2
      go_ret
      exact ⟨ret_str (by rw [varT, HV.out, varL_last hm]), hx1⟩
set_option maxRecDepth 100000 in
set_option maxHeartbeats 800000 in
theorem spec_l01Var (n : Nat) (w : World) (hn : n ≤ 1099511627776) :
    Calls Tryz.prog 73 #[.int .i64 n] w fun e w' => e = .returned (.string (varT n)) ∧ Ext w w' := by
  obtain ⟨i0, hi, hz0, hz1, hz2⟩ := info_parts infoByte
  go_enter Tryz.func73, Tryz.ntmps73
  go_wp2
  go_loopw [0, 3] (fun c v wr => ∃ (m : Nat) (ys : List Int), c = .int .i64 m ∧ wr.ownsRow w.heap.size 5 1 v ys.length (ys.map (Value.int .u8)) ∧ varL n = ys ++ varL m ∧ ys.length + m ≤ n ∧ Ext w wr) (fun c _ _ => (intOf c).toNat)
  case atStart => exact ⟨n, [], rfl, World.ownsRow_lit w #[] 0 (Nat.le_refl _) (Nat.zero_le _) rfl, rfl, by simp, (by repeat (first | (with_reducible first | exact Ext.refl _ | assumption | apply Ext.alloc | apply Ext.drew | apply Ext.drewN | refine Ext.setCell ?_ ?_ _ | refine Ext.trans ?_ (by assumption)) | (show _ ≤ _; first | omega | (dsimp only; omega) | (simp; done) | (simp; omega))))⟩
  case round =>
    obtain ⟨m, ys, rfl, hown, hv, hle, hx⟩ := hrel
    have HV := Lib.hid hv
    obtain ⟨a, c, rfl⟩ := own_any hown
    have hsz := hx.size
    clear hv
    by_cases hm : 127 < m
    · go_wp2_with (at_builtin; refine wpList_append_own _ rfl (.tmp 7) (.tmp 12) 22 rfl w.heap.size 5 i0 (.int .u8 0) 1 1 Tryz.underlying22 hi hz0 hz1 hz2 rfl (by decide) _ _ _ rfl (hown.alloc _) ⟨wr.heap.size, 0, none⟩ 1 1 [.int .u8 ((m : Int) % 128 + 128)] rfl rfl ?c1 ?c2 ?c3 ?c4 ?c5 ?_)
      case c1 =>
        intro j u hj
        match j, hj with
        | 0, hj => simp at hj; subst hj; simp [Addr.add]
      case c2 => intro u hu; simp at hu; subst hu; rfl
      case c3 => unfold maxLen; omega
      case c4 => omega
      case c5 => simp; omega
      intro v' w1 hown' hgrow _
      have hx1 : Ext w w1 := own_ext_of (hx.alloc _) (hown.alloc _) hgrow (Nat.le_refl _)
      obtain ⟨a', c', rfl⟩ := own_any hown'
      have HO := Lib.hid hown'
      clear hown' hgrow hown
      go_wp2
      go_roundw
      case rel => exact ⟨m / 128, ys ++ [(m : Int) % 128 + 128], by go_num, by simpa using HO.out, by rw [HV.out, varL_more hm]; simp; omega, by simp; omega, hx1⟩
      case measure => simp [intOf]; omega
    · go_wp2_with (at_builtin; refine wpList_append_own _ rfl (.tmp 16) (.tmp 19) 22 rfl w.heap.size 5 i0 (.int .u8 0) 1 1 Tryz.underlying22 hi hz0 hz1 hz2 rfl (by decide) _ _ _ rfl (hown.alloc _) ⟨wr.heap.size, 0, none⟩ 1 1 [.int .u8 (m : Int)] rfl rfl ?c1 ?c2 ?c3 ?c4 ?c5 ?_)
      case c1 =>
        intro j u hj
        match j, hj with
        | 0, hj => simp at hj; subst hj; simp [Addr.add]
      case c2 => intro u hu; simp at hu; subst hu; rfl
      case c3 => unfold maxLen; omega
      case c4 => omega
      case c5 => simp; omega
      intro v' w1 hown' hgrow _
      obtain ⟨g, cap, rfl⟩ := own_form hown' (by omega)
      have hx1 : Ext w w1 := own_ext_of (hx.alloc _) (hown.alloc _) hgrow (Nat.le_refl _)
      have hl : ys.map (Value.int .u8) ++ [Value.int .u8 (m : Int)] = (ys ++ [(m : Int)]).map (Value.int .u8) := by simp
      rw [hl] at hown'
      have hcv := conv_own hown'
      clear hown' hown hgrow hl
      go_wp2
      go_ret
      exact ⟨ret_str (by rw [varT, HV.out, varL_last hm]), hx1⟩

theorem impl_shortText (s : ByteArray) (w : World) (hs : s.size ≤ 1099511627776) :
    Calls Tryz.prog 104 #[.string s] w fun e w' => e = .returned (.string (varT s.size ++ s)) ∧ Ext w w' := by
  have hz := varT_size s.size
  go_enter Tryz.func104, Tryz.ntmps104
  go_wp2_with (go_at_call 113; refine (impl_varText _ _ hs).mono ?_; rintro e w1 ⟨rfl, x1⟩)
  go_ret
  exact ⟨rfl, (by repeat (first | (with_reducible first | exact Ext.refl _ | assumption | apply Ext.alloc | apply Ext.drew | apply Ext.drewN | refine Ext.setCell ?_ ?_ _ | refine Ext.trans ?_ (by assumption)) | (show _ ≤ _; first | omega | (dsimp only; omega) | (simp; done) | (simp; omega))))⟩
end Go.Proofs.YtkphipgfcbckcaaGreatDoor

namespace Go.Proofs.YtkphipgfcbckcaaGreatDoor
open Go.RowKit

/-- a signature -/
structure SigV where
  at_ : Int
  op : List ByteArray
  sh : List ByteArray
  si : List ByteArray
def SigFit (s : SigV) : Prop := (∀ x ∈ s.op, x.size ≤ maxLen) ∧ (∀ x ∈ s.sh, x.size ≤ maxLen) ∧ ∀ x ∈ s.si, x.size ≤ maxLen
def sigWell (s : SigV) : Bool := inB s.at_ 0 15 && ((wide s.op 16 && decide ((s.op.length : Int) = 8)) && ((wide s.sh 16 && decide ((s.sh.length : Int) = 8)) && (wide s.si 16 && decide ((s.si.length : Int) = 4))))

set_option maxHeartbeats 800000 in
theorem spec_l05Wide (v : Value) (xs : List ByteArray) (n : Int) (w : World) (h : Strs w v xs) (hs : ∀ s ∈ xs, s.size ≤ maxLen) :
    Calls Tryz.prog 100 #[v, .int .i64 n] w fun e w' => e = .returned (.bool (wide xs 16 && decide ((xs.length : Int) = n))) ∧ w = w' := by
  obtain ⟨-, a1, c1, rfl, hc1, hm1, g1⟩ := h
  unfold maxLen at hm1 hs
  go_enter Tryz.func100, Tryz.ntmps100
  go_wp2
  go_loop [5] (fun i => ∃ k : Nat, k ≤ xs.length ∧ i = .int .i64 k ∧ ∀ s ∈ xs.take k, (s.size : Int) = 16) (fun i => xs.length - (intOf i).toNat)
  case atStart => exact ⟨0, Nat.zero_le _, rfl, by simp⟩
  case round =>
    obtain ⟨k, hk, rfl, hall⟩ := hrel
    have HA := Lib.hid hall
    clear hall
    by_cases hlt : k < xs.length
    · rcases g1 with g1 | ⟨b1, o1, rfl, hb1, g1⟩
      · omega
      have e1 : w.cell? ⟨b1, o1 + k, none⟩ = some (.string xs[k]) := g1 k _ (by simp [hlt])
      have hsk := hs xs[k] (List.getElem_mem hlt)
      clear g1 hs
      by_cases hq : (xs[k].size : Int) = 16
      · have hqb : ((xs[k].size : Int) != 16) = false := by simp [hq]
        have HQ := Lib.hid hq
        clear hq
        go_wp2
        go_round
        case rel => exact ⟨k + 1, by omega, by go_num, wide_take hlt HA.out HQ.out⟩
        case measure => simp [intOf]; omega
      · have hqb : ((xs[k].size : Int) != 16) = true := by simp [hq]
        have hne : wide xs 16 = false := by
          rw [wide, List.all_eq_false]
          exact ⟨xs[k], List.getElem_mem hlt, by simpa using hq⟩
        have HN := Lib.hid hne
        clear hq hne
        go_wp2
        go_ret
        exact ⟨ret_bool (by rw [HN.out]; rfl), rfl⟩
    · have he : wide xs 16 = true := by
        have h1 := HA.out
        rw [List.take_of_length_le (by omega)] at h1
        rw [wide, List.all_eq_true]
        intro s hs'
        exact decide_eq_true (h1 s hs')
      have HE := Lib.hid he
      clear g1 hs he
      go_wp2
      go_ret
      exact ⟨ret_bool (by rw [HE.out, Bool.true_and, Bool.eq_iff_iff]; simp), rfl⟩

set_option maxHeartbeats 800000 in
theorem impl_formed (v1 v2 v3 : Value) (s : SigV) (w : World) (h1 : Strs w v1 s.op) (h2 : Strs w v2 s.sh) (h3 : Strs w v3 s.si) (hs : SigFit s) :
    Calls Tryz.prog 78 #[.agg #[.int .i64 s.at_, v1, v2, v3]] w fun e w' => e = .returned (.bool (sigWell s)) ∧ Ext w w' := by
  obtain ⟨a1, c1, rfl⟩ := h1.form
  obtain ⟨a2, c2, rfl⟩ := h2.form
  obtain ⟨a3, c3, rfl⟩ := h3.form
  obtain ⟨f1, f2, f3⟩ := hs
  go_enter Tryz.func78, Tryz.ntmps78
  go_wp2_with (first | (go_at_call 53; refine (impl_in _ _ _ _).mono ?_; rintro e w' ⟨rfl, rfl⟩) | (go_at_call_of 94 (Value.slice a1 s.op.length c1); refine (impl_haveWidth _ s.op _ _ _ (h1.ext (by repeat (first | (with_reducible first | exact Ext.refl _ | assumption | apply Ext.alloc | apply Ext.drew | apply Ext.drewN | refine Ext.setCell ?_ ?_ _ | refine Ext.trans ?_ (by assumption)) | (show _ ≤ _; first | omega | (dsimp only; omega) | (simp; done) | (simp; omega))))) f1).mono ?_; rintro e w' ⟨rfl, rfl⟩) | (go_at_call_of 94 (Value.slice a2 s.sh.length c2); refine (impl_haveWidth _ s.sh _ _ _ (h2.ext (by repeat (first | (with_reducible first | exact Ext.refl _ | assumption | apply Ext.alloc | apply Ext.drew | apply Ext.drewN | refine Ext.setCell ?_ ?_ _ | refine Ext.trans ?_ (by assumption)) | (show _ ≤ _; first | omega | (dsimp only; omega) | (simp; done) | (simp; omega))))) f2).mono ?_; rintro e w' ⟨rfl, rfl⟩) | (go_at_call_of 94 (Value.slice a3 s.si.length c3); refine (impl_haveWidth _ s.si _ _ _ (h3.ext (by repeat (first | (with_reducible first | exact Ext.refl _ | assumption | apply Ext.alloc | apply Ext.drew | apply Ext.drewN | refine Ext.setCell ?_ ?_ _ | refine Ext.trans ?_ (by assumption)) | (show _ ≤ _; first | omega | (dsimp only; omega) | (simp; done) | (simp; omega))))) f3).mono ?_; rintro e w' ⟨rfl, rfl⟩))
  all_goals go_ret
  all_goals refine ⟨ret_bool ?_, (by repeat (first | (with_reducible first | exact Ext.refl _ | assumption | apply Ext.alloc | apply Ext.drew | apply Ext.drewN | refine Ext.setCell ?_ ?_ _ | refine Ext.trans ?_ (by assumption)) | (show _ ≤ _; first | omega | (dsimp only; omega) | (simp; done) | (simp; omega))))⟩
  all_goals simp_all [sigWell]

set_option maxHeartbeats 800000 in
theorem spec_l05Form (v1 v2 v3 : Value) (s : SigV) (w : World) (h1 : Strs w v1 s.op) (h2 : Strs w v2 s.sh) (h3 : Strs w v3 s.si) (hs : SigFit s) :
    Calls Tryz.prog 83 #[.agg #[.int .i64 s.at_, v1, v2, v3]] w fun e w' => e = .returned (.bool (sigWell s)) ∧ Ext w w' := by
  obtain ⟨a1, c1, rfl⟩ := h1.form
  obtain ⟨a2, c2, rfl⟩ := h2.form
  obtain ⟨a3, c3, rfl⟩ := h3.form
  obtain ⟨f1, f2, f3⟩ := hs
  go_enter Tryz.func83, Tryz.ntmps83
  go_wp2_with (first | (go_at_call 22; refine (spec_l01In _ _ _ _).mono ?_; rintro e w' ⟨rfl, rfl⟩) | (go_at_call_of 100 (Value.slice a1 s.op.length c1); refine (spec_l05Wide _ s.op _ _ (h1.ext (by repeat (first | (with_reducible first | exact Ext.refl _ | assumption | apply Ext.alloc | apply Ext.drew | apply Ext.drewN | refine Ext.setCell ?_ ?_ _ | refine Ext.trans ?_ (by assumption)) | (show _ ≤ _; first | omega | (dsimp only; omega) | (simp; done) | (simp; omega))))) f1).mono ?_; rintro e w' ⟨rfl, rfl⟩) | (go_at_call_of 100 (Value.slice a2 s.sh.length c2); refine (spec_l05Wide _ s.sh _ _ (h2.ext (by repeat (first | (with_reducible first | exact Ext.refl _ | assumption | apply Ext.alloc | apply Ext.drew | apply Ext.drewN | refine Ext.setCell ?_ ?_ _ | refine Ext.trans ?_ (by assumption)) | (show _ ≤ _; first | omega | (dsimp only; omega) | (simp; done) | (simp; omega))))) f2).mono ?_; rintro e w' ⟨rfl, rfl⟩) | (go_at_call_of 100 (Value.slice a3 s.si.length c3); refine (spec_l05Wide _ s.si _ _ (h3.ext (by repeat (first | (with_reducible first | exact Ext.refl _ | assumption | apply Ext.alloc | apply Ext.drew | apply Ext.drewN | refine Ext.setCell ?_ ?_ _ | refine Ext.trans ?_ (by assumption)) | (show _ ≤ _; first | omega | (dsimp only; omega) | (simp; done) | (simp; omega))))) f3).mono ?_; rintro e w' ⟨rfl, rfl⟩))
  all_goals go_ret
  all_goals refine ⟨ret_bool ?_, (by repeat (first | (with_reducible first | exact Ext.refl _ | assumption | apply Ext.alloc | apply Ext.drew | apply Ext.drewN | refine Ext.setCell ?_ ?_ _ | refine Ext.trans ?_ (by assumption)) | (show _ ≤ _; first | omega | (dsimp only; omega) | (simp; done) | (simp; omega))))⟩
  all_goals simp_all [sigWell]
end Go.Proofs.YtkphipgfcbckcaaGreatDoor

namespace Go.Proofs.YtkphipgfcbckcaaGreatDoor
open Go.RowKit

attribute [local go_sem ↓] W32.add_i W32.xr_i W32.an_i W32.ro_i W32.no_i W32.no_i' W32.shr_i W32.shl_i W32.ofB_i W32.wr_i un_no no_max

set_option maxRecDepth 100000 in
set_option maxHeartbeats 2000000 in
theorem impl_compress (st : St) (s : ByteArray) (w : World) (h : s.size = 64) (hT : Tabs w) :
    Calls Tryz.prog 106 #[.agg #[.int .u32 st.a.i, .int .u32 st.b.i, .int .u32 st.c.i, .int .u32 st.d.i, .int .u32 st.e.i, .int .u32 st.f.i, .int .u32 st.g.i, .int .u32 st.h.i], .string s] w fun e w' => e = .returned (shaB s st).val ∧ Ext w w' := by
  have H := Lib.hid h
  have hsz : 64 ≤ s.size := by omega
  have HT := Lib.hid hT
  clear h hT
  go_enter Tryz.func106, Tryz.ntmps106
  go_wp2
  go_loopw [18] (fun i wr => ∃ k : Nat, k ≤ 16 ∧ i = .int .i64 k ∧ Ext w wr ∧ Arr wr w.heap.size st.list ∧ Arr wr (w.heap.size + 1 + 1) (wArr s k) ∧ Arr wr (w.heap.size + 1) zero8) (fun i _ => 16 - (intOf i).toNat)
  case atStart =>
    refine ⟨0, by omega, rfl, (by repeat (first | (with_reducible first | exact Ext.refl _ | assumption | apply Ext.alloc | apply Ext.drew | apply Ext.drewN | refine Ext.setCell ?_ ?_ _ | refine Ext.trans ?_ (by assumption)) | (show _ ≤ _; first | omega | (dsimp only; omega) | (simp; done) | (simp; omega)))), ?_, ?_, ?_⟩
    · exact ((Arr.new w st.list _).alloc _).alloc _
    · exact Arr.newAt (wArr s 0) _ (by simp)
    · exact (Arr.newAt zero8 _ (by simp)).alloc _
  case round =>
    obtain ⟨k, hk, rfl, hx, a1, a2, az⟩ := hrel
    by_cases hlt : k < 16
    · have i1 : (0 : Int) ≤ (k : Int) := by omega
      have i3 : (0 : Int) ≤ 4 * (k : Int) + 1 := by omega
      have i4 : (0 : Int) ≤ 4 * (k : Int) + 2 := by omega
      have i5 : (0 : Int) ≤ 4 * (k : Int) + 3 := by omega
      have i6 : (k : Int) < 64 := by omega
      have j0 : (0 : Int) ≤ 4 * (k : Int) := by omega
      have j1 : (4 * (k : Int)) < s.size := by omega
      have j2 : (4 * (k : Int) + 1) < s.size := by omega
      have j3 : (4 * (k : Int) + 2) < s.size := by omega
      have j4 : (4 * (k : Int) + 3) < s.size := by omega
      have w0 : IntKind.i64.wrap (4 * (k : Int)) = 4 * (k : Int) := IntWalk.i64_in _ (by omega)
      have w1 : IntKind.i64.wrap (4 * (k : Int) + 1) = 4 * (k : Int) + 1 := IntWalk.i64_in _ (by omega)
      have w2 : IntKind.i64.wrap (4 * (k : Int) + 2) = 4 * (k : Int) + 2 := IntWalk.i64_in _ (by omega)
      have w3 : IntKind.i64.wrap (4 * (k : Int) + 3) = 4 * (k : Int) + 3 := IntWalk.i64_in _ (by omega)
      have t0 : (4 * (k : Int)).toNat = 4 * k := by omega
      have t1 : (4 * (k : Int) + 1).toNat = 4 * k + 1 := by omega
      have t2 : (4 * (k : Int) + 2).toNat = 4 * k + 2 := by omega
      have t3 : (4 * (k : Int) + 3).toNat = 4 * k + 3 := by omega
      have l2 : k < (wArr s k).length := by rw [wArr_length _ _ (by omega)]; omega
      have e1 := a2.cell k l2
      have e2 := a2.free k l2
      have A1 := Lib.hid a1
      have A2 := Lib.hid a2
      have AZ := Lib.hid az
      clear a1 a2 az l2
      go_wp2
      go_still_tail 31, (by kernel_rfl)
      change wpList _ _ _ _ _ wr.drew
      go_wp2
      go_roundw
      case rel =>
        refine ⟨k + 1, by omega, by go_num, (by repeat (first | (with_reducible first | exact Ext.refl _ | assumption | apply Ext.alloc | apply Ext.drew | apply Ext.drewN | refine Ext.setCell ?_ ?_ _ | refine Ext.trans ?_ (by assumption)) | (show _ ≤ _; first | omega | (dsimp only; omega) | (simp; done) | (simp; omega)))), A1.out.other _ (by simp; omega), ?_, AZ.out.other _ (by simp)⟩
        refine A2.out.put (k := k) _ ?_ rfl
        rw [blk_word, ← wd_lo s k (by omega)]
        exact wArr_set s k (by omega)
      case measure => simp [intOf]; omega
    · have hkn : k = 16 := by omega
      subst hkn
      have A1 := Lib.hid a1
      have A2 := Lib.hid a2
      have AZ := Lib.hid az
      clear a1 a2 az
      rw [show ((16 : Nat) : Int) = 16 from rfl]
      go_wp2
      go_loopw [8] (fun i wr => ∃ k : Nat, 16 ≤ k ∧ k ≤ 64 ∧ i = .int .i64 k ∧ Ext w wr ∧ Arr wr w.heap.size st.list ∧ Arr wr (w.heap.size + 1 + 1) (wArr s k) ∧ Arr wr (w.heap.size + 1) zero8) (fun i _ => 64 - (intOf i).toNat)
      case atStart => exact ⟨16, by omega, by omega, rfl, hx, A1.out, A2.out, AZ.out⟩
      case round =>
        clear hx A1 A2 AZ
        rename_i wr0 wr
        obtain ⟨k, hk0, hk, rfl, hx, a1, a2, az⟩ := hrel
        by_cases hlt : k < 64
        · have w1 : IntKind.i64.wrap ((k : Int) - 15) = (k : Int) - 15 := IntWalk.i64_in _ (by omega)
          have w2 : IntKind.i64.wrap ((k : Int) - 2) = (k : Int) - 2 := IntWalk.i64_in _ (by omega)
          have w3 : IntKind.i64.wrap ((k : Int) - 16) = (k : Int) - 16 := IntWalk.i64_in _ (by omega)
          have w4 : IntKind.i64.wrap ((k : Int) - 7) = (k : Int) - 7 := IntWalk.i64_in _ (by omega)
          have t1 : ((k : Int) - 15).toNat = k - 15 := by omega
          have t2 : ((k : Int) - 2).toNat = k - 2 := by omega
          have t3 : ((k : Int) - 16).toNat = k - 16 := by omega
          have t4 : ((k : Int) - 7).toNat = k - 7 := by omega
          have i0 : (0 : Int) ≤ (k : Int) := by omega
          have i1 : (0 : Int) ≤ (k : Int) - 15 := by omega
          have i2 : (0 : Int) ≤ (k : Int) - 2 := by omega
          have i3 : (0 : Int) ≤ (k : Int) - 16 := by omega
          have i4 : (0 : Int) ≤ (k : Int) - 7 := by omega
          have k1 : (15 : Int) ≤ (k : Int) := by omega
          have k2 : (2 : Int) ≤ (k : Int) := by omega
          have k3 : (16 : Int) ≤ (k : Int) := by omega
          have k4 : (7 : Int) ≤ (k : Int) := by omega
          have j0 : (k : Int) < 64 := by omega
          have j1 : (k : Int) - 15 < 64 := by omega
          have j2 : (k : Int) - 2 < 64 := by omega
          have j3 : (k : Int) - 16 < 64 := by omega
          have j4 : (k : Int) - 7 < 64 := by omega
          have l0 : (wArr s k).length = 64 := wArr_length _ _ (by omega)
          have e0 := a2.cell k (by omega)
          have f0 := a2.free k (by omega)
          have e1 := a2.cell (k - 15) (by omega)
          have e2 := a2.cell (k - 2) (by omega)
          have e3 := a2.cell (k - 16) (by omega)
          have e4 := a2.cell (k - 7) (by omega)
          rw [wArr_get s k _ hk (by omega)] at e1 e2 e3 e4
          have A1 := Lib.hid a1
          have A2 := Lib.hid a2
          have AZ := Lib.hid az
          clear a1 a2 az l0
          go_wp2
          go_quiet (fail)
          go_wp2
          rename_i nq
          generalize hW : wr.drewN nq = W2
          have hx2 : Ext w W2 := by rw [← hW]; exact hx.drewN _
          have B1 := Lib.hid (show Arr W2 w.heap.size st.list by rw [← hW]; exact A1.out)
          have B2 := Lib.hid (show Arr W2 (w.heap.size + 1 + 1) (wArr s k) by rw [← hW]; exact A2.out)
          have BZ := Lib.hid (show Arr W2 (w.heap.size + 1) zero8 by rw [← hW]; exact AZ.out)
          clear A1 A2 AZ hW hx e0 f0 e1 e2 e3 e4
          have l0 : k < (wArr s k).length := by rw [wArr_length _ _ (by omega)]; omega
          have e0 := B2.out.cell k l0
          have f0 := B2.out.free k l0
          have e3 := B2.out.cell (k - 16) (by omega)
          have e4 := B2.out.cell (k - 7) (by omega)
          rw [wArr_get s k _ hk (by omega)] at e3 e4
          clear l0
          go_still_tail 33, (by kernel_rfl)
          still_call (still_of (impl_turn_7 _ _))
          repeat still_step
          still_call (still_of (impl_turn_18 _ _))
          repeat still_step
          still_call (still_of (impl_turn_17 _ _))
          repeat still_step
          still_call (still_of (impl_turn_19 _ _))
          repeat still_step
          refine wpStill_nil ?_
          change wpList _ _ _ _ _ W2.drew
          go_wp2
          go_roundw
          case rel =>
            refine ⟨k + 1, by omega, by omega, by go_num, (by repeat (first | (with_reducible first | exact Ext.refl _ | assumption | apply Ext.alloc | apply Ext.drew | apply Ext.drewN | refine Ext.setCell ?_ ?_ _ | refine Ext.trans ?_ (by assumption)) | (show _ ≤ _; first | omega | (dsimp only; omega) | (simp; done) | (simp; omega)))), B1.out.other _ (by simp; omega), ?_, BZ.out.other _ (by simp)⟩
            refine B2.out.put (k := k) _ ?_ rfl
            have e := wArr_set s k (by omega)
            rw [wd_hi s k (by omega)] at e
            exact e
          case measure => simp [intOf]; omega
        · have hkn : k = 64 := by omega
          subst hkn
          have b0 := a1.cell 0 (by rw [st_len]; omega)
          have b1 := a1.cell 1 (by rw [st_len]; omega)
          have b2 := a1.cell 2 (by rw [st_len]; omega)
          have b3 := a1.cell 3 (by rw [st_len]; omega)
          have b4 := a1.cell 4 (by rw [st_len]; omega)
          have b5 := a1.cell 5 (by rw [st_len]; omega)
          have b6 := a1.cell 6 (by rw [st_len]; omega)
          have b7 := a1.cell 7 (by rw [st_len]; omega)
          have lz1 := a1.1
          have lz2 := a2.1
          have A1 := Lib.hid a1
          have A2 := Lib.hid a2
          have AZ := Lib.hid az
          have lz3 := az.1
          clear a1 a2 az
          rw [show ((64 : Nat) : Int) = 64 from rfl]
          simp only [St.list, List.getD_cons_zero, List.getD_cons_succ] at b0 b1 b2 b3 b4 b5 b6 b7
          go_wp2
          obtain ⟨wo, rfl⟩ : ∃ wo : World, wo = wr := ⟨_, rfl⟩
          go_loopw [99] (fun i wr => ∃ k : Nat, k ≤ 64 ∧ i = .int .i64 k ∧ Ext w wr ∧ Arr wr w.heap.size st.list ∧ Arr wr (w.heap.size + 1 + 1) (wArr s 64) ∧ Arr wr wo.heap.size (rnds s st k).list ∧ Arr wr (w.heap.size + 1) zero8) (fun i _ => 64 - (intOf i).toNat)
          case atStart =>
            refine ⟨0, by omega, rfl, (by repeat (first | (with_reducible first | exact Ext.refl _ | assumption | apply Ext.alloc | apply Ext.drew | apply Ext.drewN | refine Ext.setCell ?_ ?_ _ | refine Ext.trans ?_ (by assumption)) | (show _ ≤ _; first | omega | (dsimp only; omega) | (simp; done) | (simp; omega)))), ?_, ?_, ?_, ?_⟩
            · exact A1.out.alloc _
            · exact A2.out.alloc _
            · exact Arr.new _ st.list _
            · exact AZ.out.alloc _
          case round =>
            obtain ⟨k, hk, rfl, hx3, a1, a2, a3, az⟩ := hrel
            by_cases hlt3 : k < 64
            · have HT3 := HT.out.ext hx3
              have i0 : (0 : Int) ≤ (k : Int) := by omega
              have j0 : (k : Int) < 64 := by omega
              have e0 := HT3.1.2 k hlt3
              have e1 := a2.cell k (by rw [wArr_length _ _ (by omega)]; omega)
              rw [wArr_get s 64 k (by omega) hlt3] at e1
              generalize hR : rnds s st k = t at a3
              have HR := Lib.hid hR
              have v0 := a3.cell 0 (by rw [st_len]; omega)
              have v1 := a3.cell 1 (by rw [st_len]; omega)
              have v2 := a3.cell 2 (by rw [st_len]; omega)
              have v3 := a3.cell 3 (by rw [st_len]; omega)
              have v4 := a3.cell 4 (by rw [st_len]; omega)
              have v5 := a3.cell 5 (by rw [st_len]; omega)
              have v6 := a3.cell 6 (by rw [st_len]; omega)
              have v7 := a3.cell 7 (by rw [st_len]; omega)
              have u0 := a3.free 0 (by rw [st_len]; omega)
              have u1 := a3.free 1 (by rw [st_len]; omega)
              have u2 := a3.free 2 (by rw [st_len]; omega)
              have u3 := a3.free 3 (by rw [st_len]; omega)
              have u4 := a3.free 4 (by rw [st_len]; omega)
              have u5 := a3.free 5 (by rw [st_len]; omega)
              have u6 := a3.free 6 (by rw [st_len]; omega)
              have u7 := a3.free 7 (by rw [st_len]; omega)
              simp only [St.list, List.getD_cons_zero, List.getD_cons_succ] at v0 v1 v2 v3 v4 v5 v6 v7
              have B1 := Lib.hid a1
              have B2 := Lib.hid a2
              have B3 := Lib.hid a3
              have BZ := Lib.hid az
              clear a1 a2 a3 az hR HT3 A1 A2 AZ b0 b1 b2 b3 b4 b5 b6 b7
              go_wp2
              go_quiet (fail)
              go_wp2
              go_quiet (first | (go_at_call_of 114 (Value.int .i64 6); exact quiet_add_left (impl_turn_6 _ _)) | (go_at_call_of 114 (Value.int .i64 11); exact quiet_add_left (impl_turn_11 _ _)) | (go_at_call_of 114 (Value.int .i64 25); exact quiet_add_left (impl_turn_25 _ _)))
              go_wp2
              go_quiet (first | (go_at_call_of 114 (Value.int .i64 2); exact quiet_add_left (impl_turn_2 _ _)) | (go_at_call_of 114 (Value.int .i64 13); exact quiet_add_left (impl_turn_13 _ _)) | (go_at_call_of 114 (Value.int .i64 22); exact quiet_add_left (impl_turn_22 _ _)))
              go_wp2
              go_roundw
              case rel =>
                refine ⟨k + 1, by omega, by go_num, (by repeat (first | (with_reducible first | exact Ext.refl _ | assumption | apply Ext.alloc | apply Ext.drew | apply Ext.drewN | refine Ext.setCell ?_ ?_ _ | refine Ext.trans ?_ (by assumption)) | (show _ ≤ _; first | omega | (dsimp only; omega) | (simp; done) | (simp; omega)))), ?_, ?_, ?_, ?_⟩
                · exact oct_other B1.out (by omega)
                · exact oct_other B2.out (by omega)
                · rw [rnds, HR.out]
                  exact oct_put (t := t) (t.next (keyW k) (wd s k)) B3.out
                · exact oct_other BZ.out (by omega)
              case measure => simp [intOf]; omega
            · have hkn : k = 64 := by omega
              subst hkn
              generalize hR : rnds s st 64 = r at a3
              have HR := Lib.hid hR
              have lz4 := a3.1
              have B1 := Lib.hid a1
              have B3 := Lib.hid a3
              have BZ := Lib.hid az
              clear a1 a2 a3 az hR A1 A2 AZ b0 b1 b2 b3 b4 b5 b6 b7
              rw [show ((64 : Nat) : Int) = 64 from rfl]
              go_wp2
              obtain ⟨w3, rfl⟩ : ∃ w3 : World, w3 = wr := ⟨_, rfl⟩
              go_loopw [185] (fun i wr => ∃ k : Nat, k ≤ 8 ∧ i = .int .i64 k ∧ Ext w wr ∧ Arr wr w.heap.size (plusL st r k) ∧ Arr wr wo.heap.size r.list ∧ Arr wr (w.heap.size + 1) zero8) (fun i _ => 8 - (intOf i).toNat)
              case atStart => exact ⟨0, by omega, rfl, hx3, B1.out, B3.out, BZ.out⟩
              case round =>
                clear hx3 B1 B3 BZ
                obtain ⟨k, hk, rfl, hx3, a1, a3, az⟩ := hrel
                by_cases hlt4 : k < 8
                · have i0 : (0 : Int) ≤ (k : Int) := by omega
                  have j0 : (k : Int) < 8 := by omega
                  have e1 := a1.cell k (by rw [plusL_len _ _ _ hk]; omega)
                  have f1 := a1.free k (by rw [plusL_len _ _ _ hk]; omega)
                  rw [plusL_get _ _ _ hlt4] at e1
                  have e3 := a3.cell k (by rw [st_len]; omega)
                  have B1 := Lib.hid a1
                  have B3 := Lib.hid a3
                  have BZ := Lib.hid az
                  clear a1 a3 az
                  go_wp2
                  go_still_tail 8, (by kernel_rfl)
                  change wpList _ _ _ _ _ wr.drew
                  go_wp2
                  go_roundw
                  case rel =>
                    refine ⟨k + 1, by omega, by go_num, (by repeat (first | (with_reducible first | exact Ext.refl _ | assumption | apply Ext.alloc | apply Ext.drew | apply Ext.drewN | refine Ext.setCell ?_ ?_ _ | refine Ext.trans ?_ (by assumption)) | (show _ ≤ _; first | omega | (dsimp only; omega) | (simp; done) | (simp; omega)))), ?_, B3.out.other _ (by simp; omega), BZ.out.other _ (by simp)⟩
                    exact B1.out.put (k := k) _ (plusL_set _ _ _ hlt4) rfl
                  case measure => simp [intOf]; omega
                · have hkn : k = 8 := by omega
                  subst hkn
                  rw [plusL_all] at a1
                  generalize hq : st.plus r = q at a1
                  have HQ := Lib.hid hq
                  have v0 := a1.cell 0 (by rw [st_len]; omega)
                  have v1 := a1.cell 1 (by rw [st_len]; omega)
                  have v2 := a1.cell 2 (by rw [st_len]; omega)
                  have v3 := a1.cell 3 (by rw [st_len]; omega)
                  have v4 := a1.cell 4 (by rw [st_len]; omega)
                  have v5 := a1.cell 5 (by rw [st_len]; omega)
                  have v6 := a1.cell 6 (by rw [st_len]; omega)
                  have v7 := a1.cell 7 (by rw [st_len]; omega)
                  simp only [St.list, List.getD_cons_zero, List.getD_cons_succ] at v0 v1 v2 v3 v4 v5 v6 v7
                  have z0 := az.cell 0 (by decide)
                  have z1 := az.cell 1 (by decide)
                  have z2 := az.cell 2 (by decide)
                  have z3 := az.cell 3 (by decide)
                  have z4 := az.cell 4 (by decide)
                  have z5 := az.cell 5 (by decide)
                  have z6 := az.cell 6 (by decide)
                  have z7 := az.cell 7 (by decide)
                  have u0 := az.free 0 (by decide)
                  have u1 := az.free 1 (by decide)
                  have u2 := az.free 2 (by decide)
                  have u3 := az.free 3 (by decide)
                  have u4 := az.free 4 (by decide)
                  have u5 := az.free 5 (by decide)
                  have u6 := az.free 6 (by decide)
                  have u7 := az.free 7 (by decide)
                  have BZ := Lib.hid az
                  clear a1 a3 az hq
                  go_wp2
                  have o := oct_put (t := stZ) q BZ.out
                  have c0 := o.cell 0 (by rw [st_len]; omega)
                  have c1 := o.cell 1 (by rw [st_len]; omega)
                  have c2 := o.cell 2 (by rw [st_len]; omega)
                  have c3 := o.cell 3 (by rw [st_len]; omega)
                  have c4 := o.cell 4 (by rw [st_len]; omega)
                  have c5 := o.cell 5 (by rw [st_len]; omega)
                  have c6 := o.cell 6 (by rw [st_len]; omega)
                  have c7 := o.cell 7 (by rw [st_len]; omega)
                  have hxo : Ext w (oct wr (w.heap.size + 1) (.int .u32 q.a.i) (.int .u32 q.b.i) (.int .u32 q.c.i) (.int .u32 q.d.i) (.int .u32 q.e.i) (.int .u32 q.f.i) (.int .u32 q.g.i) (.int .u32 q.h.i)) := by
                    unfold oct
                    exact (by repeat (first | (with_reducible first | exact Ext.refl _ | assumption | apply Ext.alloc | apply Ext.drew | apply Ext.drewN | refine Ext.setCell ?_ ?_ _ | refine Ext.trans ?_ (by assumption)) | (show _ ≤ _; first | omega | (dsimp only; omega) | (simp; done) | (simp; omega))))
                  have hfin : (shaB s st).val = q.val := by rw [shaB, HR.out, HQ.out]
                  simp only [St.list, List.getD_cons_zero, List.getD_cons_succ] at c0 c1 c2 c3 c4 c5 c6 c7
                  rw [hfin]
                  clear o hfin
                  change bodyPost _ _ _ _ _ (oct wr (w.heap.size + 1) (.int .u32 q.a.i) (.int .u32 q.b.i) (.int .u32 q.c.i) (.int .u32 q.d.i) (.int .u32 q.e.i) (.int .u32 q.f.i) (.int .u32 q.g.i) (.int .u32 q.h.i))
                  refine bodyPost_ret (v := q.val) ?_ rfl ⟨rfl, hxo⟩
                  simp [results, Tryz.results106, go_sem, c0, c1, c2, c3, c4, c5, c6, c7, St.val]
end Go.Proofs.YtkphipgfcbckcaaGreatDoor
