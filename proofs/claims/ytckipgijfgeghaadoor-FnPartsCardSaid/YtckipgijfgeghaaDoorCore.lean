/- Base, In, Conv, Nums, Wide, Ba, Bx, Sha, Sha2, Arr in one text. -/
import Derived.Test.YtckipgijfgeghaaDoorRows
import Derived.WalkKit
import Derived.WalkSpells
import Derived.WalkLawsBesides
import Derived.BigQuiet
import Derived.Deep.QuietTactic
import Derived.Lib.Hide
import Derived.Deep.RegionWith
import Derived.Deep.DeepFit
import Derived.Deep.DeepMust
import Derived.Laws.BytesArg
import Derived.Lib.AppendStr
import Derived.Deep.WholeRow
namespace Go.Proofs.YtckipgijfgeghaaDoor
open Go.RowKit

theorem zk1 {α : Type} {xs : List α} {i : Nat} (h : i < xs.toArray.size) : xs.toArray[i] = xs[i]'(by simpa using h) := rfl
theorem zk2 {α : Type} (a : α) (xs : List α) (h : 0 < (a :: xs).length) : getElem (a :: xs) 0 h = a := rfl
theorem zk3 {α : Type} (a : α) (xs : List α) (i : Nat) (h : i + 1 < (a :: xs).length) : getElem (a :: xs) (i + 1) h = getElem xs i (Nat.lt_of_succ_lt_succ h) := rfl
theorem zk4 {α : Type} (xs : List α) (i : Nat) (a : α) : xs.toArray.setIfInBounds i a = (xs.set i a).toArray := List.setIfInBounds_toArray xs i a
theorem zk5 {α : Type} (a b : α) (xs : List α) : (a :: xs).set 0 b = b :: xs := rfl
theorem zk6 {α : Type} (a b : α) (xs : List α) (i : Nat) : (a :: xs).set (i + 1) b = a :: xs.set i b := rfl
/-- all blocks of w are in w' as they were -/
def Ext (w w' : World) : Prop := Below w.heap.size w w'

theorem Ext.refl (w : World) : Ext w w := Below.refl _ _
theorem Ext.trans {a b c : World} (h : Ext a b) (k : Ext b c) : Ext a c := Below.trans h (Below.mono k h.size)
theorem Ext.via {a b c d : World} (h : Ext a b) (l : Ext c d) (k : Ext b c) : Ext a d := (h.trans k).trans l
theorem Ext.alloc {a b : World} (h : Ext a b) (o : Obj) : Ext a (b.alloc o) := Below.alloc h h.size o
theorem Ext.drew {a b : World} (h : Ext a b) : Ext a b.drew := Below.drew h
theorem Ext.drewN {a b : World} (h : Ext a b) (n : Nat) : Ext a (b.drewN n) := ⟨h.os, h.tape, h.output, h.size, h.block⟩
theorem Ext.setCell {a b : World} (h : Ext a b) {p : Addr} (hp : a.heap.size ≤ p.block) (u : Value) : Ext a (b.setCell p u) := Below.setCell h hp u
theorem Ext.size {a b : World} (h : Ext a b) : a.heap.size ≤ b.heap.size := Below.size h
theorem Ext.cell {a b : World} (h : Ext a b) : ∀ k o, k < a.heap.size → b.cell? ⟨k, o, none⟩ = a.cell? ⟨k, o, none⟩ := fun k o hk => Below.cell (p := ⟨k, o, none⟩) h hk
theorem Ext.frozen {a b : World} (h : Ext a b) : ∀ k o, k < a.heap.size → b.frozen? ⟨k, o, none⟩ = a.frozen? ⟨k, o, none⟩ := fun k o hk => Below.frozen (p := ⟨k, o, none⟩) h hk

/-- the same, under a name that the search for 'Ext' does not meet: what the boxes of a frame read by -/
def Old (w w' : World) : Prop := Ext w w'
theorem Old.of {a b : World} (h : Ext a b) : Old a b := h
theorem Old.ext {a b : World} (h : Old a b) : Ext a b := h
theorem Old.via {a b c d : World} (h : Old a b) (l : Ext c d) (k : Ext b c) : Old a d := Ext.via h l k
theorem Old.undrew {a b : World} (h : Old a.drew b) : Old a b := ⟨h.os, h.tape, h.output, h.size, h.block⟩
theorem Old.undrewN {a b : World} {n : Nat} (h : Old (a.drewN n) b) : Old a b := ⟨h.os, h.tape, h.output, h.size, h.block⟩
theorem Old.size {a b : World} (h : Old a b) : a.heap.size ≤ b.heap.size := Ext.size h
theorem Old.cell {a b : World} (h : Old a b) : ∀ k o, k < a.heap.size → b.cell? ⟨k, o, none⟩ = a.cell? ⟨k, o, none⟩ := Ext.cell h
theorem Old.frozen {a b : World} (h : Old a b) : ∀ k o, k < a.heap.size → b.frozen? ⟨k, o, none⟩ = a.frozen? ⟨k, o, none⟩ := Ext.frozen h

/-- v is a slice of len elements of n cells each; the cells that it reads are flat. -/
def Row (w : World) (n : Nat) (v : Value) (len : Nat) (flat : List Value) : Prop :=
  flat.length = len * n ∧ ∃ a cap, v = .slice a len cap ∧ len ≤ cap ∧ cap ≤ maxLen ∧
    (len = 0 ∨ ∃ b o, a = some ⟨b, o, none⟩ ∧ b < w.heap.size ∧ ∀ j u, flat[j]? = some u → w.cell? ⟨b, o + j, none⟩ = some u)

theorem Row.ext {w w' : World} {n : Nat} {v : Value} {len : Nat} {flat : List Value} (h : Row w n v len flat) (hx : Ext w w') : Row w' n v len flat := by
  obtain ⟨hl, a, cap, hv, h1, h2, h3⟩ := h
  refine ⟨hl, a, cap, hv, h1, h2, ?_⟩
  rcases h3 with h0 | ⟨b, o, ha, hb, hc⟩
  · exact Or.inl h0
  · exact Or.inr ⟨b, o, ha, Nat.lt_of_lt_of_le hb hx.size, fun j u hu => (hx.cell b (o + j) hb).trans (hc j u hu)⟩

theorem Row.of_owns {w : World} {base : Nat} {e : TypeId} {n : Nat} {v : Value} {len : Nat} {flat : List Value} (h : w.ownsRow base e n v len flat) : Row w n v len flat := by
  obtain ⟨hl, h2⟩ := h
  rcases h2 with ⟨rfl, rfl⟩ | ⟨g, cap, cur, rfl, hb, hg, hc, hm, hs, ht⟩
  · exact ⟨hl, none, 0, rfl, Nat.le_refl _, Nat.zero_le _, Or.inl rfl⟩
  · refine ⟨hl, some ⟨g, 0, none⟩, cap, rfl, hc, hm, Or.inr ⟨g, 0, rfl, (Array.getElem?_eq_some_iff.1 hg).1, fun j u hu => ?_⟩⟩
    have hown : w.ownsRow base e n (.slice (some ⟨g, 0, none⟩) len cap) len flat := ⟨hl, Or.inr ⟨g, cap, cur, rfl, hb, hg, hc, hm, hs, ht⟩⟩
    have := hown.cells (g := g) rfl j u hu
    rwa [show (⟨g, 0, none⟩ : Addr).add j = ⟨g, 0 + j, none⟩ from by unfold Addr.add; split <;> simp_all] at this

theorem ret_int {k : IntKind} {a b : Int} (h : a = b) : Ending.returned (.int k a) = .returned (.int k b) := by rw [h]
theorem wrap64_byte (b : UInt8) : wrap64 (b.toNat : Int) = b.toNat := by have := b.toNat_lt; unfold wrap64; omega
theorem ret_str {a b : ByteArray} (h : a = b) : Ending.returned (.string a) = .returned (.string b) := by rw [h]
theorem ret_sb {a b : ByteArray} {c d : Bool} (h : a = b) (k : c = d) : Ending.returned (.tuple #[.string a, .bool c]) = .returned (.tuple #[.string b, .bool d]) := by rw [h, k]
theorem ret_bool {a b : Bool} (h : a = b) : Ending.returned (.bool a) = .returned (.bool b) := by rw [h]

theorem quiet_add_left {P : Program} {f : FuncId} {args : Array Value} {w : World} {a n : Nat} {v : Value}
    (h : Calls P f args (w.drewN (a + n)) fun e w' => e = .returned v ∧ w.drewN (a + n) = w') :
    Calls P f args (w.drewN (a + n)) fun e w'' => e = .returned v ∧ ∃ m, w'' = w.drewN (a + m) :=
  h.mono fun _ _ ⟨he, hm⟩ => ⟨he, n, hm.symm⟩
theorem quiet_left {P : Program} {f : FuncId} {args : Array Value} {w : World} {n : Nat} {v : Value}
    (h : Calls P f args (w.drewN n) fun e w' => e = .returned v ∧ w.drewN n = w') : Calls P f args (w.drewN n) fun e w'' => e = .returned v ∧ ∃ m, w'' = w.drewN m :=
  h.mono fun _ _ ⟨he, hm⟩ => ⟨he, n, hm.symm⟩

theorem flat_length {α : Type} {f : α → List Value} {n : Nat} (hf : ∀ a, (f a).length = n) (xs : List α) : (xs.flatMap f).length = xs.length * n := by
  induction xs with
  | nil => simp
  | cons a l ih => rw [List.flatMap_cons, List.length_append, hf, ih, List.length_cons, Nat.add_mul]; omega
/-- element i's j-th cell among all cells -/
theorem flat_get {α : Type} {f : α → List Value} {n : Nat} (hf : ∀ a, (f a).length = n) (xs : List α) (i j : Nat) (hi : i < xs.length) (hj : j < n) : (xs.flatMap f)[i * n + j]? = (f xs[i])[j]? := by
  induction xs generalizing i with
  | nil => simp at hi
  | cons a l ih =>
    rw [List.flatMap_cons]
    cases i with
    | zero => rw [List.getElem?_append_left (by rw [hf]; omega)]; simp
    | succ i =>
      rw [List.getElem?_append_right (by rw [hf, Nat.add_mul]; omega), hf]
      rw [show (i + 1) * n + j - n = i * n + j by rw [Nat.add_mul]; omega]
      simpa using ih i (by simpa using hi)

theorem toList_empty (s : ByteArray) : s.toList.isEmpty = decide (s.size = 0) := by
  rw [ByteArray.toList_eq, Bool.eq_iff_iff]
  cases s with | mk a => simp [ByteArray.size]
theorem toList_inj {a b : ByteArray} : a.toList = b.toList ↔ a = b := by
  rw [ByteArray.toList_eq, ByteArray.toList_eq]
  constructor
  · intro h; cases a; cases b; simp_all
  · intro h; rw [h]
theorem toList_beq (a b : ByteArray) : (a.toList == b.toList) = decide (a = b) := by
  rw [Bool.eq_iff_iff, beq_iff_eq, decide_eq_true_eq, toList_inj]
theorem size_beq (s : ByteArray) (n : Nat) : ((s.size : Int) == (n : Int)) = decide (s.size = n) := by
  rw [Bool.eq_iff_iff]; simp; omega

end Go.Proofs.YtckipgijfgeghaaDoor
namespace Go.Proofs.YtckipgijfgeghaaDoor
open Go.RowKit

def inB (n lo hi : Int) : Bool := decide (lo ≤ n) && decide (n ≤ hi)
theorem inB_true {n lo hi : Int} : inB n lo hi = true ↔ lo ≤ n ∧ n ≤ hi := by simp [inB]
theorem inB_false {n lo hi : Int} : inB n lo hi = false ↔ n < lo ∨ hi < n := by
  cases h : inB n lo hi
  · simp only [true_iff]; simp [inB] at h; omega
  · simp only [Bool.true_eq_false, false_iff]; have := inB_true.1 h; omega

theorem impl_in (n lo hi : Int) (w : World) :
    Calls Tryd.prog 30 #[.int .i64 n, .int .i64 lo, .int .i64 hi] w fun e w' => e = .returned (.bool (inB n lo hi)) ∧ w = w' := by
  go_enter Tryd.func30, Tryd.ntmps30
  go_wp2
  all_goals go_ret
  all_goals exact ⟨ret_bool (by simp [inB]; try omega), rfl⟩
theorem spec_l01In (n lo hi : Int) (w : World) :
    Calls Tryd.prog 44 #[.int .i64 n, .int .i64 lo, .int .i64 hi] w fun e w' => e = .returned (.bool (inB n lo hi)) ∧ w = w' := by
  go_enter Tryd.func44, Tryd.ntmps44
  go_wp2
  all_goals go_ret
  all_goals exact ⟨ret_bool (by simp [inB]; try omega), rfl⟩
end Go.Proofs.YtckipgijfgeghaaDoor
namespace Go.Proofs.YtckipgijfgeghaaDoor
open Go.RowKit

/-- 'string([]byte{..})' right behind the literal: the block b is the newest. -/
theorem conv_lit (w : World) (xs : List Int) (b n : Nat) (hb : b = w.heap.size) (hn : n = xs.length) :
    (convert 22 9 (.slice (some ⟨b, 0, none⟩) n n)).run Tryd.prog (w.alloc (.cells (xs.map (Value.int .u8)).toArray 5)) = .ok (.string (strOfNums xs)) (w.alloc (.cells (xs.map (Value.int .u8)).toArray 5)) := by
  subst hb
  subst hn
  refine run_convert_bytes_arg _ _ _ Tryd.underlying22 Tryd.underlying5 _ 0 _ _ xs rfl (fun i hi => ?_) _ Tryd.underlying9
  have hh : (w.alloc (.cells (xs.map (Value.int .u8)).toArray 5)).heap[w.heap.size]? = some (.cells (xs.map (Value.int .u8)).toArray 5 (0, 0)) := heap_alloc_new w _
  rw [cell_of_row _ _ _ _ _ _ hh]
  simp [hi]
theorem conv_lit1 (w : World) (x : Int) (b : Nat) (hb : b = w.heap.size) :
    (convert 22 9 (.slice (some ⟨b, 0, none⟩) 1 1)).run Tryd.prog (w.alloc (.cells #[.int .u8 x] 5)) = .ok (.string (strOfNums [x])) (w.alloc (.cells #[.int .u8 x] 5)) := conv_lit w [x] b 1 hb rfl
theorem conv_lit2 (w : World) (x y : Int) (b : Nat) (hb : b = w.heap.size) :
    (convert 22 9 (.slice (some ⟨b, 0, none⟩) 2 2)).run Tryd.prog (w.alloc (.cells #[.int .u8 x, .int .u8 y] 5)) = .ok (.string (strOfNums [x, y])) (w.alloc (.cells #[.int .u8 x, .int .u8 y] 5)) := conv_lit w [x, y] b 2 hb rfl
theorem conv_lit3 (w : World) (x y z : Int) (b : Nat) (hb : b = w.heap.size) :
    (convert 22 9 (.slice (some ⟨b, 0, none⟩) 3 3)).run Tryd.prog (w.alloc (.cells #[.int .u8 x, .int .u8 y, .int .u8 z] 5)) = .ok (.string (strOfNums [x, y, z])) (w.alloc (.cells #[.int .u8 x, .int .u8 y, .int .u8 z] 5)) := conv_lit w [x, y, z] b 3 hb rfl
theorem conv_lit4 (w : World) (x y z u : Int) (b : Nat) (hb : b = w.heap.size) :
    (convert 22 9 (.slice (some ⟨b, 0, none⟩) 4 4)).run Tryd.prog (w.alloc (.cells #[.int .u8 x, .int .u8 y, .int .u8 z, .int .u8 u] 5)) = .ok (.string (strOfNums [x, y, z, u])) (w.alloc (.cells #[.int .u8 x, .int .u8 y, .int .u8 z, .int .u8 u] 5)) := conv_lit w [x, y, z, u] b 4 hb rfl
end Go.Proofs.YtckipgijfgeghaaDoor
namespace Go.Proofs.YtckipgijfgeghaaDoor
open Go.RowKit

def nums8 (t : ByteArray) : List Int := t.data.toList.map fun x => (x.toNat : Int)
theorem nums8_length (t : ByteArray) : (nums8 t).length = t.size := by rw [nums8, List.length_map, Array.length_toList]; rfl
theorem strCells_nums8 (t : ByteArray) : Lib.strCells t = (nums8 t).map (Value.int .u8) := by simp [Lib.strCells, nums8]
theorem strOfNums_nums8 (t : ByteArray) : strOfNums (nums8 t) = t := by
  apply ByteArray.ext
  simp only [strOfNums, nums8, List.map_map]
  have : (List.map ((fun n : Int => UInt8.ofNat n.toNat) ∘ fun x : UInt8 => (x.toNat : Int)) t.data.toList) = t.data.toList := by
    conv => rhs; rw [← List.map_id t.data.toList]
    apply List.map_congr_left
    intro x _
    simp
  rw [this]
theorem strCells_one (k : Int) (h : 0 ≤ k ∧ k < 256) : Lib.strCells (strOfNums [k]) = [.int .u8 k] := by
  have h2 : k.toNat % 256 = k.toNat := Nat.mod_eq_of_lt (by omega)
  simp [Lib.strCells, strOfNums, h2]
  omega
theorem strCells_append (a b : ByteArray) : Lib.strCells (a ++ b) = Lib.strCells a ++ Lib.strCells b := by simp [Lib.strCells, ByteArray.data_append]
theorem strOfNums_append (a b : List Int) : strOfNums (a ++ b) = strOfNums a ++ strOfNums b := by
  apply ByteArray.ext
  simp [strOfNums, ByteArray.data_append]
end Go.Proofs.YtckipgijfgeghaaDoor
namespace Go.Proofs.YtckipgijfgeghaaDoor
open Go.RowKit

theorem impl_isWide (n : Int) (w : World) :
    Calls Tryd.prog 32 #[.int .i64 n] w fun e w' => e = .returned (.bool (inB n 1 32)) ∧ w = w' := by
  go_enter Tryd.func32, Tryd.ntmps32
  go_wp2_with (go_at_call 30; refine (impl_in _ _ _ _).mono ?_; rintro e w' ⟨rfl, rfl⟩)
  all_goals go_ret
  all_goals exact ⟨rfl, rfl⟩
end Go.Proofs.YtckipgijfgeghaaDoor
namespace Go.Proofs.YtckipgijfgeghaaDoor
open Go.RowKit

theorem ba_ext {a b : ByteArray} (h : a.data.toList = b.data.toList) : a = b := ByteArray.ext (Array.toList_inj.1 h)
theorem ba_extract (t : ByteArray) (i j : Nat) : (t.extract i j).data.toList = (t.data.toList.drop i).take (j - i) := by
  rw [ByteArray.data_extract, Array.toList_extract, List.extract_eq_take_drop]
theorem ba_append (a b : ByteArray) : (a ++ b).data.toList = a.data.toList ++ b.data.toList := by simp [ByteArray.data_append]
theorem ba_nums (xs : List Int) : (strOfNums xs).data.toList = xs.map fun n => UInt8.ofNat n.toNat := by simp [strOfNums]
theorem ba_len (t : ByteArray) : t.data.toList.length = t.size := by rw [Array.length_toList]; rfl
theorem nat8 {n : Int} (h : 0 ≤ n ∧ n ≤ 255) : (((UInt8.ofNat n.toNat).toNat : Nat) : Int) = n := by
  have : n.toNat % 256 = n.toNat := Nat.mod_eq_of_lt (by omega)
  simp [this]
  omega
theorem ba_nil {t : ByteArray} (h : t.size = 0) : t = ⟨#[]⟩ := by
  apply ba_ext
  have := ba_len t
  rw [h] at this
  rw [List.eq_nil_of_length_eq_zero this]
theorem ba_empty : (⟨#[]⟩ : ByteArray).data.toList = [] := rfl
end Go.Proofs.YtckipgijfgeghaaDoor
namespace Go.Proofs.YtckipgijfgeghaaDoor
open Go.RowKit

/-- a box -/
def Bx (W : World) (b : Nat) (cs : List Value) : Prop := b < W.heap.size ∧ (∀ j v, cs[j]? = some v → W.cell? ⟨b, j, none⟩ = some v) ∧ ∀ j, W.frozen? ⟨b, j, none⟩ = false
theorem Bx.ext {W W' : World} {b : Nat} {cs : List Value} (h : Bx W b cs) (hx : Ext W W') : Bx W' b cs :=
  ⟨Nat.lt_of_lt_of_le h.1 hx.size, fun j v hj => (hx.cell _ _ h.1).trans (h.2.1 j v hj), fun j => (hx.frozen _ _ h.1).trans (h.2.2 j)⟩
theorem Bx.set {W : World} {b : Nat} {cs : List Value} (h : Bx W b cs) (j : Nat) (u : Value) (hj : j < cs.length) : Bx (W.setCell ⟨b, j, none⟩ u) b (cs.set j u) := by
  have hc := h.2.1 j _ (List.getElem?_eq_getElem hj)
  refine ⟨by rw [World.size_setCell]; exact h.1, fun i v hi => ?_, fun i => by simp [go_sem, h.2.2]⟩
  rw [List.getElem?_set] at hi
  by_cases e : j = i
  · subst e
    rw [if_pos rfl, if_pos hj] at hi
    injection hi with hi
    subst hi
    simp [go_sem, hc]
  · rw [if_neg e] at hi
    rw [World.cell?_setCell_other _ _ _ _ (fun q => e (by injection q))]
    exact h.2.1 i v hi
theorem Bx.far {W : World} {b c : Nat} {cs : List Value} (h : Bx W b cs) (hc : c ≠ b) (o : Nat) (u : Value) : Bx (W.setCell ⟨c, o, none⟩ u) b cs := by
  have hn : ∀ i, (⟨b, i, none⟩ : Addr) ≠ ⟨c, o, none⟩ := fun i e => hc (by injection e with e1; exact e1.symm)
  exact ⟨by rw [World.size_setCell]; exact h.1, fun j v hj => by rw [World.cell?_setCell_other _ _ _ _ (fun e => hn j e.symm)]; exact h.2.1 j v hj, fun j => by simp [go_sem, h.2.2]⟩
theorem Bx.new (w : World) (cs : Array Value) (t : TypeId) : Bx (w.alloc (Obj.cells cs t)) w.heap.size cs.toList :=
  ⟨by simp, fun j v hj => by simpa [go_sem] using hj, fun j => by simp [go_sem]⟩
end Go.Proofs.YtckipgijfgeghaaDoor
namespace Go.Proofs.YtckipgijfgeghaaDoor
open Go.RowKit

/-- a word of 32 bits -/
structure W32 where
  v : BitVec 32
namespace W32
def i (x : W32) : Int := (x.v.toNat : Int)
def add (x y : W32) : W32 := ⟨x.v + y.v⟩
def xr (x y : W32) : W32 := ⟨x.v ^^^ y.v⟩
def an (x y : W32) : W32 := ⟨x.v &&& y.v⟩
def ro (x y : W32) : W32 := ⟨x.v ||| y.v⟩
def no (x : W32) : W32 := ⟨~~~x.v⟩
def shr (x : W32) (n : Nat) : W32 := ⟨x.v >>> n⟩
def shl (x : W32) (n : Nat) : W32 := ⟨x.v <<< n⟩
def rot (x : W32) (n : Nat) : W32 := ro (shr x n) (shl x (32 - n))
def ofB (b : UInt8) : W32 := ⟨BitVec.ofNat 32 b.toNat⟩
def ofN (n : Nat) : W32 := ⟨BitVec.ofNat 32 n⟩
/-- the last eight bits -/
def byt (x : W32) : Int := ((x.v.toNat % 256 : Nat) : Int)

theorem i_bd (x : W32) : 0 ≤ x.i ∧ x.i < 4294967296 := by
  have := x.v.isLt
  unfold i
  omega
theorem ofInt_i (x : W32) : BitVec.ofInt 32 x.i = x.v := by
  unfold i
  rw [BitVec.ofInt_natCast]
  simp
theorem wrap_nat (n : Nat) (h : n < 4294967296) : IntKind.u32.wrap (n : Int) = n := by rw [IntKind.wrap_u32]; omega
theorem add_i (x y : W32) : IntKind.u32.wrap (x.i + y.i) = (x.add y).i := by
  rw [IntKind.wrap_u32]
  unfold i add
  rw [BitVec.toNat_add]
  omega
theorem xr_i (x y : W32) : bits .xor .u32 x.i y.i = (x.xr y).i := by
  show IntKind.u32.wrap ((BitVec.ofInt 32 x.i ^^^ BitVec.ofInt 32 y.i).toNat : Int) = _
  rw [ofInt_i, ofInt_i]
  exact wrap_nat _ (BitVec.isLt _)
theorem an_i (x y : W32) : bits .and .u32 x.i y.i = (x.an y).i := by
  show IntKind.u32.wrap ((BitVec.ofInt 32 x.i &&& BitVec.ofInt 32 y.i).toNat : Int) = _
  rw [ofInt_i, ofInt_i]
  exact wrap_nat _ (BitVec.isLt _)
theorem ro_i (x y : W32) : bits .or .u32 x.i y.i = (x.ro y).i := by
  show IntKind.u32.wrap ((BitVec.ofInt 32 x.i ||| BitVec.ofInt 32 y.i).toNat : Int) = _
  rw [ofInt_i, ofInt_i]
  exact wrap_nat _ (BitVec.isLt _)
theorem ones : BitVec.ofInt 32 4294967295 = BitVec.allOnes 32 := by decide
theorem no_i (x : W32) : bits .xor .u32 x.i 4294967295 = x.no.i := by
  show IntKind.u32.wrap ((BitVec.ofInt 32 x.i ^^^ BitVec.ofInt 32 4294967295).toNat : Int) = _
  rw [ofInt_i, ones, BitVec.xor_allOnes]
  exact wrap_nat _ (BitVec.isLt _)
theorem no_i' (x : W32) : bits .xor .u32 4294967295 x.i = x.no.i := by
  show IntKind.u32.wrap ((BitVec.ofInt 32 4294967295 ^^^ BitVec.ofInt 32 x.i).toNat : Int) = _
  rw [ofInt_i, ones, BitVec.allOnes_xor]
  exact wrap_nat _ (BitVec.isLt _)
theorem shr_i (x : W32) (n : Nat) : x.i / 2 ^ n = (x.shr n).i := by
  unfold i shr
  rw [BitVec.toNat_ushiftRight, Nat.shiftRight_eq_div_pow, Int.natCast_ediv, Int.natCast_pow]
  rfl
theorem shl_i (x : W32) (n : Nat) : IntKind.u32.wrap (x.i * 2 ^ n) = (x.shl n).i := by
  rw [IntKind.wrap_u32]
  unfold i shl
  rw [BitVec.toNat_shiftLeft, Nat.shiftLeft_eq, Int.natCast_emod, Int.natCast_mul, Int.natCast_pow]
  rfl
theorem ofB_i (b : UInt8) : (b.toNat : Int) = (ofB b).i := by
  unfold i ofB
  rw [BitVec.toNat_ofNat]
  have := b.toNat_lt
  omega
theorem i_ofN (n : Nat) (h : n < 4294967296) : (ofN n).i = (n : Int) := by
  unfold i ofN
  rw [BitVec.toNat_ofNat]
  omega
theorem wr_i (x : W32) : IntKind.u32.wrap x.i = x.i := by
  have := x.i_bd
  rw [IntKind.wrap_u32]
  omega
theorem byt_i (x : W32) : IntKind.u8.wrap x.i = x.byt := by
  rw [IntKind.wrap_u8]
  unfold i byt
  omega
theorem byt_bd (x : W32) : 0 ≤ x.byt ∧ x.byt < 256 := by
  unfold byt
  omega
theorem ext {x y : W32} (h : x.v = y.v) : x = y := by cases x; cases y; simp_all
theorem ro_comm (x y : W32) : x.ro y = y.ro x := ext (BitVec.or_comm _ _)
end W32

/-- four bytes to a word -/
def wordOf (a b c d : UInt8) : W32 := (((W32.ofB a).shl 24).ro ((W32.ofB b).shl 16)).ro ((W32.ofB c).shl 8) |>.ro (W32.ofB d)
def sg0 (x : W32) : W32 := ((x.rot 7).xr (x.rot 18)).xr (x.shr 3)
def sg1 (x : W32) : W32 := ((x.rot 17).xr (x.rot 19)).xr (x.shr 10)
def bs0 (x : W32) : W32 := ((x.rot 2).xr (x.rot 13)).xr (x.rot 22)
def bs1 (x : W32) : W32 := ((x.rot 6).xr (x.rot 11)).xr (x.rot 25)
def chW (e f g : W32) : W32 := (e.an f).xr (e.no.an g)
def mjW (a b c : W32) : W32 := ((a.an b).xr (a.an c)).xr (b.an c)

instance : Inhabited W32 := ⟨W32.ofN 0⟩
/-- word k of a block -/
def blkW (s : ByteArray) (k : Nat) : W32 := wordOf (s.data.getD (4 * k) 0) (s.data.getD (4 * k + 1) 0) (s.data.getD (4 * k + 2) 0) (s.data.getD (4 * k + 3) 0)
/-- the first 16 + k words of the schedule -/
def sched (s : ByteArray) : Nat → List W32
  | 0 => (List.range 16).map (blkW s)
  | k + 1 => sched s k ++ [(((sched s k).getD k default).add (sg0 ((sched s k).getD (k + 1) default))).add ((sched s k).getD (k + 9) default) |>.add (sg1 ((sched s k).getD (k + 14) default))]
theorem sched_length (s : ByteArray) : ∀ k, (sched s k).length = 16 + k
  | 0 => by simp [sched]
  | k + 1 => by rw [sched, List.length_append, sched_length s k]; rfl

/-- the state: eight words -/
structure St where
  a : W32
  b : W32
  c : W32
  d : W32
  e : W32
  f : W32
  g : W32
  h : W32
def St.list (s : St) : List W32 := [s.a, s.b, s.c, s.d, s.e, s.f, s.g, s.h]
def St.t1 (s : St) (k w : W32) : W32 := (((s.h.add (bs1 s.e)).add (chW s.e s.f s.g)).add k).add w
def St.t2 (s : St) : W32 := (bs0 s.a).add (mjW s.a s.b s.c)
def St.next (s : St) (k w : W32) : St := ⟨(s.t1 k w).add s.t2, s.a, s.b, s.c, s.d.add (s.t1 k w), s.e, s.f, s.g⟩
def St.plus (s t : St) : St := ⟨s.a.add t.a, s.b.add t.b, s.c.add t.c, s.d.add t.d, s.e.add t.e, s.f.add t.f, s.g.add t.g, s.h.add t.h⟩

def keysN : List Nat := [0x428a2f98, 0x71374491, 0xb5c0fbcf, 0xe9b5dba5, 0x3956c25b, 0x59f111f1, 0x923f82a4, 0xab1c5ed5,
  0xd807aa98, 0x12835b01, 0x243185be, 0x550c7dc3, 0x72be5d74, 0x80deb1fe, 0x9bdc06a7, 0xc19bf174,
  0xe49b69c1, 0xefbe4786, 0x0fc19dc6, 0x240ca1cc, 0x2de92c6f, 0x4a7484aa, 0x5cb0a9dc, 0x76f988da,
  0x983e5152, 0xa831c66d, 0xb00327c8, 0xbf597fc7, 0xc6e00bf3, 0xd5a79147, 0x06ca6351, 0x14292967,
  0x27b70a85, 0x2e1b2138, 0x4d2c6dfc, 0x53380d13, 0x650a7354, 0x766a0abb, 0x81c2c92e, 0x92722c85,
  0xa2bfe8a1, 0xa81a664b, 0xc24b8b70, 0xc76c51a3, 0xd192e819, 0xd6990624, 0xf40e3585, 0x106aa070,
  0x19a4c116, 0x1e376c08, 0x2748774c, 0x34b0bcb5, 0x391c0cb3, 0x4ed8aa4a, 0x5b9cca4f, 0x682e6ff3,
  0x748f82ee, 0x78a5636f, 0x84c87814, 0x8cc70208, 0x90befffa, 0xa4506ceb, 0xbef9a3f7, 0xc67178f2]
def startN : List Nat := [0x6a09e667, 0xbb67ae85, 0x3c6ef372, 0xa54ff53a, 0x510e527f, 0x9b05688c, 0x1f83d9ab, 0x5be0cd19]
def keyW (k : Nat) : W32 := W32.ofN (keysN.getD k 0)
def st0 : St := ⟨W32.ofN 0x6a09e667, W32.ofN 0xbb67ae85, W32.ofN 0x3c6ef372, W32.ofN 0xa54ff53a, W32.ofN 0x510e527f, W32.ofN 0x9b05688c, W32.ofN 0x1f83d9ab, W32.ofN 0x5be0cd19⟩

/-- the state behind k rounds -/
def rnds (s : ByteArray) (t : St) : Nat → St
  | 0 => t
  | k + 1 => (rnds s t k).next (keyW k) ((sched s 48).getD k default)
/-- the state behind a block -/
def shaB (s : ByteArray) (t : St) : St := t.plus (rnds s t 64)
/-- the state behind k blocks -/
def shaN (s : ByteArray) : Nat → St
  | 0 => st0
  | k + 1 => shaB (s.extract (64 * k) (64 * k + 64)) (shaN s k)
/-- the padding -/
def zerosN (n : Nat) : Nat := (119 - n % 64) % 64
def padNums (n : Nat) : List Int := [128] ++ List.replicate (zerosN n) 0 ++ (List.range 8).map fun k => ((8 * n / 2 ^ (8 * (7 - k)) % 256 : Nat) : Int)
def padT (t : ByteArray) : ByteArray := t ++ strOfNums (padNums t.size)
def W32.nums (x : W32) : List Int := [(x.shr 24).byt, (x.shr 16).byt, (x.shr 8).byt, x.byt]
def St.nums (s : St) : List Int := s.list.flatMap W32.nums
/-- THE DIGEST -/
def digT (t : ByteArray) : ByteArray := strOfNums (shaN (padT t) ((padT t).size / 64)).nums

theorem sched_get {s : ByteArray} {k : Nat} : ∀ n, k < 16 + n → ∀ m, (sched s (n + m)).getD k default = (sched s n).getD k default
  | n, h, 0 => rfl
  | n, h, m + 1 => by
    rw [← Nat.add_assoc, sched, List.getD_eq_getElem?_getD, List.getElem?_append_left (by rw [sched_length]; omega), ← List.getD_eq_getElem?_getD, sched_get n h m]

/-- word i of a block's schedule -/
def wd (s : ByteArray) (i : Nat) : W32 := (sched s 48).getD i default
theorem wd_of (s : ByteArray) (n k : Nat) (hn : n ≤ 48) (h : k < 16 + n) : (sched s n).getD k default = wd s k := by
  have := sched_get (s := s) n h (48 - n)
  rw [show n + (48 - n) = 48 by omega] at this
  exact this.symm
theorem wd_lo (s : ByteArray) (i : Nat) (h : i < 16) : wd s i = blkW s i := by
  rw [← wd_of s 0 i (by omega) (by omega), sched]
  simp [h]
theorem wd_hi (s : ByteArray) (k : Nat) (h : 16 ≤ k ∧ k < 64) : wd s k = (((wd s (k - 16)).add (sg0 (wd s (k - 15)))).add (wd s (k - 7))).add (sg1 (wd s (k - 2))) := by
  obtain ⟨m, rfl⟩ : ∃ m, k = m + 16 := ⟨k - 16, by omega⟩
  rw [← wd_of s (m + 1) (m + 16) (by omega) (by omega), sched, List.getD_eq_getElem?_getD, List.getElem?_append_right (by rw [sched_length]; omega), sched_length,
    show m + 16 - (16 + m) = 0 by omega]
  simp only [List.getElem?_cons_zero, Option.getD_some]
  rw [wd_of s m m (by omega) (by omega), wd_of s m (m + 1) (by omega) (by omega), wd_of s m (m + 9) (by omega) (by omega), wd_of s m (m + 14) (by omega) (by omega)]
  rw [show m + 16 - 16 = m by omega, show m + 16 - 15 = m + 1 by omega, show m + 16 - 7 = m + 9 by omega, show m + 16 - 2 = m + 14 by omega]
/-- the words of the schedule that are laid, and noughts -/
def wArr (s : ByteArray) (i : Nat) : List W32 := (sched s 48).take i ++ List.replicate (64 - i) (W32.ofN 0)
theorem wArr_length (s : ByteArray) (i : Nat) (h : i ≤ 64) : (wArr s i).length = 64 := by
  rw [wArr, List.length_append, List.length_take, sched_length, List.length_replicate]
  omega
theorem wArr_get (s : ByteArray) (i j : Nat) (h : i ≤ 64) (hj : j < i) : (wArr s i).getD j default = wd s j := by
  rw [wArr, List.getD_eq_getElem?_getD, List.getElem?_append_left (by rw [List.length_take, sched_length]; omega), List.getElem?_take_of_lt hj, ← List.getD_eq_getElem?_getD]
  rfl
theorem getD_at (l : List W32) (i : Nat) (h : i < l.length) : l.getD i default = l[i] := by simp [List.getD_eq_getElem?_getD, h]
theorem wArr_set (s : ByteArray) (i : Nat) (h : i < 64) : (wArr s i).set i (wd s i) = wArr s (i + 1) := by
  have hl : ((sched s 48).take i).length = i := by rw [List.length_take, sched_length]; omega
  unfold wArr
  rw [List.set_append_right _ _ (by omega), hl, Nat.sub_self, show 64 - i = (64 - (i + 1)) + 1 by omega, List.replicate_succ, List.set_cons_zero]
  rw [List.take_succ_eq_append_getElem (by rw [sched_length]; omega), List.append_assoc, List.singleton_append, wd, getD_at _ _ (by rw [sched_length]; omega)]
theorem st_len (t : St) : t.list.length = 8 := rfl
end Go.Proofs.YtckipgijfgeghaaDoor
namespace Go.Proofs.YtckipgijfgeghaaDoor
open Go.RowKit

attribute [local go_sem ↓] W32.add_i W32.xr_i W32.an_i W32.ro_i W32.no_i W32.no_i' W32.shr_i W32.shl_i W32.byt_i

theorem rot_count (n : Nat) (h : 1 ≤ n ∧ n ≤ 31) : bits .and .u64 (IntKind.u64.wrap (-(n : Int))) 31 = 32 - (n : Int) := by
  obtain ⟨h1, h2⟩ := h
  have : n = 1 ∨ n = 2 ∨ n = 3 ∨ n = 4 ∨ n = 5 ∨ n = 6 ∨ n = 7 ∨ n = 8 ∨ n = 9 ∨ n = 10 ∨ n = 11 ∨ n = 12 ∨ n = 13 ∨ n = 14 ∨ n = 15 ∨ n = 16 ∨ n = 17 ∨ n = 18 ∨ n = 19 ∨ n = 20 ∨ n = 21 ∨ n = 22 ∨ n = 23 ∨ n = 24 ∨ n = 25 ∨ n = 26 ∨ n = 27 ∨ n = 28 ∨ n = 29 ∨ n = 30 ∨ n = 31 := by omega
  rcases this with rfl | rfl | rfl | rfl | rfl | rfl | rfl | rfl | rfl | rfl | rfl | rfl | rfl | rfl | rfl | rfl | rfl | rfl | rfl | rfl | rfl | rfl | rfl | rfl | rfl | rfl | rfl | rfl | rfl | rfl | rfl <;> decide

theorem bits_RotateLeft32 (x : W32) (n : Nat) (w : World) (h : 1 ≤ n ∧ n ≤ 31) :
    Calls Tryd.prog 74 #[.int .u32 x.i, .int .i64 (-(n : Int))] w fun e w' => e = .returned (.int .u32 (x.rot n).i) ∧ w = w' := by
  have hc := rot_count n h
  go_enter Tryd.func74, Tryd.ntmps74
  go_wp2
  go_ret
  exact ⟨ret_int (by rw [W32.ro_comm, show 32 - (32 - n) = n by omega]; rfl), rfl⟩
theorem impl_turn (x : W32) (n : Nat) (w : World) (h : 1 ≤ n ∧ n ≤ 31) :
    Calls Tryd.prog 73 #[.int .u32 x.i, .int .i64 n] w fun e w' => e = .returned (.int .u32 (x.rot n).i) ∧ w = w' := by
  go_enter Tryd.func73, Tryd.ntmps73
  go_wp2_with (go_at_call 74; refine (bits_RotateLeft32 x n _ h).mono ?_; rintro e w' ⟨rfl, rfl⟩)
  go_ret
  exact ⟨rfl, rfl⟩
theorem impl_turn_2 (x : W32) (w : World) : Calls Tryd.prog 73 #[.int .u32 x.i, .int .i64 2] w fun e w' => e = .returned (.int .u32 (x.rot 2).i) ∧ w = w' := impl_turn x 2 w (by omega)
theorem impl_turn_6 (x : W32) (w : World) : Calls Tryd.prog 73 #[.int .u32 x.i, .int .i64 6] w fun e w' => e = .returned (.int .u32 (x.rot 6).i) ∧ w = w' := impl_turn x 6 w (by omega)
theorem impl_turn_7 (x : W32) (w : World) : Calls Tryd.prog 73 #[.int .u32 x.i, .int .i64 7] w fun e w' => e = .returned (.int .u32 (x.rot 7).i) ∧ w = w' := impl_turn x 7 w (by omega)
theorem impl_turn_11 (x : W32) (w : World) : Calls Tryd.prog 73 #[.int .u32 x.i, .int .i64 11] w fun e w' => e = .returned (.int .u32 (x.rot 11).i) ∧ w = w' := impl_turn x 11 w (by omega)
theorem impl_turn_13 (x : W32) (w : World) : Calls Tryd.prog 73 #[.int .u32 x.i, .int .i64 13] w fun e w' => e = .returned (.int .u32 (x.rot 13).i) ∧ w = w' := impl_turn x 13 w (by omega)
theorem impl_turn_17 (x : W32) (w : World) : Calls Tryd.prog 73 #[.int .u32 x.i, .int .i64 17] w fun e w' => e = .returned (.int .u32 (x.rot 17).i) ∧ w = w' := impl_turn x 17 w (by omega)
theorem impl_turn_18 (x : W32) (w : World) : Calls Tryd.prog 73 #[.int .u32 x.i, .int .i64 18] w fun e w' => e = .returned (.int .u32 (x.rot 18).i) ∧ w = w' := impl_turn x 18 w (by omega)
theorem impl_turn_19 (x : W32) (w : World) : Calls Tryd.prog 73 #[.int .u32 x.i, .int .i64 19] w fun e w' => e = .returned (.int .u32 (x.rot 19).i) ∧ w = w' := impl_turn x 19 w (by omega)
theorem impl_turn_22 (x : W32) (w : World) : Calls Tryd.prog 73 #[.int .u32 x.i, .int .i64 22] w fun e w' => e = .returned (.int .u32 (x.rot 22).i) ∧ w = w' := impl_turn x 22 w (by omega)
theorem impl_turn_25 (x : W32) (w : World) : Calls Tryd.prog 73 #[.int .u32 x.i, .int .i64 25] w fun e w' => e = .returned (.int .u32 (x.rot 25).i) ∧ w = w' := impl_turn x 25 w (by omega)
theorem spec_l03Turn (x : W32) (n : Nat) (w : World) (h : 1 ≤ n ∧ n ≤ 31) :
    Calls Tryd.prog 89 #[.int .u32 x.i, .int .u64 n] w fun e w' => e = .returned (.int .u32 (x.rot n).i) ∧ w = w' := by
  go_enter Tryd.func89, Tryd.ntmps89
  go_wp2
  go_ret
  exact ⟨ret_int rfl, rfl⟩
theorem spec_turn_2 (x : W32) (w : World) : Calls Tryd.prog 89 #[.int .u32 x.i, .int .u64 2] w fun e w' => e = .returned (.int .u32 (x.rot 2).i) ∧ w = w' := spec_l03Turn x 2 w (by omega)
theorem spec_turn_6 (x : W32) (w : World) : Calls Tryd.prog 89 #[.int .u32 x.i, .int .u64 6] w fun e w' => e = .returned (.int .u32 (x.rot 6).i) ∧ w = w' := spec_l03Turn x 6 w (by omega)
theorem spec_turn_7 (x : W32) (w : World) : Calls Tryd.prog 89 #[.int .u32 x.i, .int .u64 7] w fun e w' => e = .returned (.int .u32 (x.rot 7).i) ∧ w = w' := spec_l03Turn x 7 w (by omega)
theorem spec_turn_11 (x : W32) (w : World) : Calls Tryd.prog 89 #[.int .u32 x.i, .int .u64 11] w fun e w' => e = .returned (.int .u32 (x.rot 11).i) ∧ w = w' := spec_l03Turn x 11 w (by omega)
theorem spec_turn_13 (x : W32) (w : World) : Calls Tryd.prog 89 #[.int .u32 x.i, .int .u64 13] w fun e w' => e = .returned (.int .u32 (x.rot 13).i) ∧ w = w' := spec_l03Turn x 13 w (by omega)
theorem spec_turn_17 (x : W32) (w : World) : Calls Tryd.prog 89 #[.int .u32 x.i, .int .u64 17] w fun e w' => e = .returned (.int .u32 (x.rot 17).i) ∧ w = w' := spec_l03Turn x 17 w (by omega)
theorem spec_turn_18 (x : W32) (w : World) : Calls Tryd.prog 89 #[.int .u32 x.i, .int .u64 18] w fun e w' => e = .returned (.int .u32 (x.rot 18).i) ∧ w = w' := spec_l03Turn x 18 w (by omega)
theorem spec_turn_19 (x : W32) (w : World) : Calls Tryd.prog 89 #[.int .u32 x.i, .int .u64 19] w fun e w' => e = .returned (.int .u32 (x.rot 19).i) ∧ w = w' := spec_l03Turn x 19 w (by omega)
theorem spec_turn_22 (x : W32) (w : World) : Calls Tryd.prog 89 #[.int .u32 x.i, .int .u64 22] w fun e w' => e = .returned (.int .u32 (x.rot 22).i) ∧ w = w' := spec_l03Turn x 22 w (by omega)
theorem spec_turn_25 (x : W32) (w : World) : Calls Tryd.prog 89 #[.int .u32 x.i, .int .u64 25] w fun e w' => e = .returned (.int .u32 (x.rot 25).i) ∧ w = w' := spec_l03Turn x 25 w (by omega)
/-- a word's four bytes -/
theorem impl_fourBytes (x : W32) (w : World) :
    Calls Tryd.prog 52 #[.int .u32 x.i] w fun e w' => e = .returned (.string (strOfNums x.nums)) ∧ Ext w w' := by
  have hcv := conv_lit4
  go_enter Tryd.func52, Tryd.ntmps52
  go_wp2
  go_ret
  exact ⟨rfl, (by repeat (first | (with_reducible first | exact Ext.refl _ | assumption | apply Ext.alloc | apply Ext.drew | apply Ext.drewN | refine Ext.setCell ?_ ?_ _ | refine Ext.trans ?_ (by assumption)) | (show _ ≤ _; first | omega | (dsimp only; omega) | (simp; done) | (simp; omega))))⟩
end Go.Proofs.YtckipgijfgeghaaDoor
namespace Go.Proofs.YtckipgijfgeghaaDoor
open Go.RowKit

/-- block b of w holds the words xs -/
def Arr (w : World) (b : Nat) (xs : List W32) : Prop := b < w.heap.size ∧ ∀ j, j < xs.length → w.cell? ⟨b, j, none⟩ = some (.int .u32 (xs.getD j default).i) ∧ w.frozen? ⟨b, j, none⟩ = false
/-- the program's tables: the rounds' words, the first words -/
def Tabs (w : World) : Prop := (1 < w.heap.size ∧ ∀ j, j < 64 → w.cell? ⟨1, j, none⟩ = some (.int .u32 (keyW j).i)) ∧
  (0 < w.heap.size ∧ ∀ j, j < 8 → w.cell? ⟨0, j, none⟩ = some (.int .u32 (st0.list.getD j default).i))

theorem Arr.new (w : World) (xs : List W32) (t : TypeId) : Arr (w.alloc (.cells (xs.map fun x => Value.int .u32 x.i).toArray t)) w.heap.size xs := by
  refine ⟨by simp, fun j hj => ⟨?_, World.frozen?_alloc_new _ _ _ _⟩⟩
  rw [World.cell?_alloc_new]
  simp [hj, List.getD_eq_getElem?_getD]
theorem Arr.newAt {w : World} {b : Nat} (xs : List W32) (t : TypeId) (h : b = w.heap.size) : Arr (w.alloc (.cells (xs.map fun x => Value.int .u32 x.i).toArray t)) b xs := by
  subst h
  exact Arr.new w xs t
theorem Arr.alloc {w : World} {b : Nat} {xs : List W32} (h : Arr w b xs) (o : Obj) : Arr (w.alloc o) b xs :=
  ⟨by have := h.1; simp; omega, fun j hj => ⟨(World.cell?_alloc_past (w := w) o b j h.1).trans (h.2 j hj).1, (World.frozen?_alloc_past (w := w) o b j h.1).trans (h.2 j hj).2⟩⟩
theorem Arr.drew {w : World} {b : Nat} {xs : List W32} (h : Arr w b xs) : Arr w.drew b xs := h
theorem Arr.drewN {w : World} {b : Nat} {xs : List W32} (h : Arr w b xs) (n : Nat) : Arr (w.drewN n) b xs := h
theorem Arr.ext {w w' : World} {b : Nat} {xs : List W32} (h : Arr w b xs) (hx : Ext w w') : Arr w' b xs :=
  ⟨Nat.lt_of_lt_of_le h.1 hx.size, fun j hj => ⟨(hx.cell b j h.1).trans (h.2 j hj).1, (hx.frozen b j h.1).trans (h.2 j hj).2⟩⟩
theorem Arr.other {w : World} {b : Nat} {xs : List W32} (h : Arr w b xs) {p : Addr} (v : Value) (hp : p.block ≠ b) : Arr (w.setCell p v) b xs := by
  refine ⟨by rw [World.size_setCell]; exact h.1, fun j hj => ⟨?_, ?_⟩⟩
  · rw [World.cell?_setCell_other _ _ _ _ (fun e => hp (by rw [e]))]
    exact (h.2 j hj).1
  · rw [World.frozen?_setCell]
    exact (h.2 j hj).2
theorem Arr.set {w : World} {b k : Nat} {xs : List W32} (h : Arr w b xs) (x : W32) : Arr (w.setCell ⟨b, k, none⟩ (.int .u32 x.i)) b (xs.set k x) := by
  refine ⟨by rw [World.size_setCell]; exact h.1, fun j hj => ⟨?_, ?_⟩⟩
  · rw [List.length_set] at hj
    by_cases e : k = j
    · subst e
      rw [World.cell?_setCell_same _ _ _ (h.2 k hj).1]
      simp [List.getD_eq_getElem?_getD, hj]
    · rw [World.cell?_setCell_other _ _ _ _ (fun q => e (by injection q)), (h.2 j hj).1]
      simp [List.getD_eq_getElem?_getD, e]
  · rw [World.frozen?_setCell]
    exact (h.2 j (by rwa [List.length_set] at hj)).2
theorem Arr.put {w : World} {b k : Nat} {xs ys : List W32} (h : Arr w b xs) (x : W32) (e : xs.set k x = ys) {p : Addr} (hp : p = ⟨b, k, none⟩) : Arr (w.setCell p (.int .u32 x.i)) b ys := by
  subst e hp
  exact h.set x
theorem Arr.cell {w : World} {b : Nat} {xs : List W32} (h : Arr w b xs) (j : Nat) (hj : j < xs.length) : w.cell? ⟨b, j, none⟩ = some (.int .u32 (xs.getD j default).i) := (h.2 j hj).1
theorem Arr.free {w : World} {b : Nat} {xs : List W32} (h : Arr w b xs) (j : Nat) (hj : j < xs.length) : w.frozen? ⟨b, j, none⟩ = false := (h.2 j hj).2
theorem Tabs.ext {w w' : World} (h : Tabs w) (hx : Ext w w') : Tabs w' :=
  ⟨⟨Nat.lt_of_lt_of_le h.1.1 hx.size, fun j hj => (hx.cell _ j h.1.1).trans (h.1.2 j hj)⟩, ⟨Nat.lt_of_lt_of_le h.2.1 hx.size, fun j hj => (hx.cell _ j h.2.1).trans (h.2.2 j hj)⟩⟩
theorem Tabs.drew {w : World} (h : Tabs w) : Tabs w.drew := h
theorem Tabs.drewN {w : World} (h : Tabs w) (n : Nat) : Tabs (w.drewN n) := h

theorem un_no (x : W32) : Op.unary .xor (.int .u32 x.i) = pure (.int .u32 x.no.i) := by
  rw [unary_xor, intBits_xor, ← W32.no_i']
  rfl
theorem no_max : (if IntKind.u32.signed = true then (-1 : Int) else IntKind.u32.max) = 4294967295 := by decide
theorem heap_alloc_at {w : World} {n : Nat} (o : Obj) (h : n = w.heap.size) : (w.alloc o).heap[n]? = some o := by
  subst h
  exact heap_alloc_last w o
theorem setRow_alloc_at {w : World} {n : Nat} (c c' : Array Value) (t : TypeId) (h : n = w.heap.size) : (w.alloc (.cells c t)).setRow n c' = w.alloc (.cells c' t) := by
  subst h
  exact World.setRow_alloc_new w c c' t
theorem still_of {P : Program} {f : FuncId} {args : Array Value} {w : World} {v : Value}
    (h : Calls P f args w fun e w' => e = .returned v ∧ w = w') : Calls P f args w fun e w'' => e = .returned v ∧ w'' = w :=
  h.mono fun _ _ ⟨he, hm⟩ => ⟨he, hm.symm⟩
theorem byte_getD (s : ByteArray) (i : Nat) (h : i < s.size) : s.data.getD i 0 = s[i] := by
  have : s.data.getD i 0 = s.data[i]'h := Array.getElem_eq_getD 0 |>.symm
  exact this
/-- the word that a round of the first loop lays -/
theorem blk_word (s : ByteArray) (k : Nat) (h : 4 * k + 3 < s.size) :
    ((((W32.ofB (s[4 * k]'(by omega))).shl 24).ro ((W32.ofB (s[4 * k + 1]'(by omega))).shl 16)).ro ((W32.ofB (s[4 * k + 2]'(by omega))).shl 8)).ro (W32.ofB (s[4 * k + 3]'h)) = blkW s k := by
  unfold blkW wordOf
  rw [byte_getD, byte_getD, byte_getD, byte_getD]
/-- eight words stored one after the other -/
def oct (w : World) (b : Nat) (x0 x1 x2 x3 x4 x5 x6 x7 : Value) : World :=
  (((((((w.setCell ⟨b, 0, none⟩ x0).setCell ⟨b, 1, none⟩ x1).setCell ⟨b, 2, none⟩ x2).setCell ⟨b, 3, none⟩ x3).setCell ⟨b, 4, none⟩ x4).setCell ⟨b, 5, none⟩ x5).setCell ⟨b, 6, none⟩ x6).setCell ⟨b, 7, none⟩ x7
theorem oct_other {w : World} {b g : Nat} {xs : List W32} {x0 x1 x2 x3 x4 x5 x6 x7 : Value} (h : Arr w g xs) (hb : b ≠ g) : Arr (oct w b x0 x1 x2 x3 x4 x5 x6 x7) g xs :=
  (((((((h.other _ hb).other _ hb).other _ hb).other _ hb).other _ hb).other _ hb).other _ hb).other _ hb
theorem oct_put {w : World} {b : Nat} {t : St} (u : St) (h : Arr w b t.list) :
    Arr (oct w b (.int .u32 u.a.i) (.int .u32 u.b.i) (.int .u32 u.c.i) (.int .u32 u.d.i) (.int .u32 u.e.i) (.int .u32 u.f.i) (.int .u32 u.g.i) (.int .u32 u.h.i)) b u.list :=
  (((((((h.set (k := 0) u.a).set (k := 1) u.b).set (k := 2) u.c).set (k := 3) u.d).set (k := 4) u.e).set (k := 5) u.f).set (k := 6) u.g).set (k := 7) u.h
/-- the first k words are added -/
def plusL (s r : St) (k : Nat) : List W32 := ((s.plus r).list.take k) ++ s.list.drop k
theorem lt8 {k : Nat} (h : k < 8) : k = 0 ∨ k = 1 ∨ k = 2 ∨ k = 3 ∨ k = 4 ∨ k = 5 ∨ k = 6 ∨ k = 7 := by omega
theorem plusL_len (s r : St) (k : Nat) (h : k ≤ 8) : (plusL s r k).length = 8 := by
  rw [plusL, List.length_append, List.length_take, List.length_drop, st_len, st_len]
  omega
theorem plusL_get (s r : St) (k : Nat) (h : k < 8) : (plusL s r k).getD k default = s.list.getD k default := by
  rcases lt8 h with rfl | rfl | rfl | rfl | rfl | rfl | rfl | rfl <;> rfl
theorem plusL_set (s r : St) (k : Nat) (h : k < 8) : (plusL s r k).set k ((s.list.getD k default).add (r.list.getD k default)) = plusL s r (k + 1) := by
  rcases lt8 h with rfl | rfl | rfl | rfl | rfl | rfl | rfl | rfl <;> rfl
theorem plusL_all (s r : St) : plusL s r 8 = (s.plus r).list := rfl
def stZ : St := ⟨W32.ofN 0, W32.ofN 0, W32.ofN 0, W32.ofN 0, W32.ofN 0, W32.ofN 0, W32.ofN 0, W32.ofN 0⟩
def zero8 : List W32 := stZ.list
/-- the state as Go's value -/
def St.val (s : St) : Value := .agg #[.int .u32 s.a.i, .int .u32 s.b.i, .int .u32 s.c.i, .int .u32 s.d.i, .int .u32 s.e.i, .int .u32 s.f.i, .int .u32 s.g.i, .int .u32 s.h.i]
/-- the same, stored from the last to the first -/
def octR (w : World) (b : Nat) (x0 x1 x2 x3 x4 x5 x6 x7 : Value) : World :=
  (((((((w.setCell ⟨b, 7, none⟩ x7).setCell ⟨b, 6, none⟩ x6).setCell ⟨b, 5, none⟩ x5).setCell ⟨b, 4, none⟩ x4).setCell ⟨b, 3, none⟩ x3).setCell ⟨b, 2, none⟩ x2).setCell ⟨b, 1, none⟩ x1).setCell ⟨b, 0, none⟩ x0
theorem octR_other {w : World} {b g : Nat} {xs : List W32} {x0 x1 x2 x3 x4 x5 x6 x7 : Value} (h : Arr w g xs) (hb : b ≠ g) : Arr (octR w b x0 x1 x2 x3 x4 x5 x6 x7) g xs :=
  (((((((h.other _ hb).other _ hb).other _ hb).other _ hb).other _ hb).other _ hb).other _ hb).other _ hb
theorem octR_put {w : World} {b : Nat} {t : St} (u : St) (h : Arr w b t.list) :
    Arr (octR w b (.int .u32 u.a.i) (.int .u32 u.b.i) (.int .u32 u.c.i) (.int .u32 u.d.i) (.int .u32 u.e.i) (.int .u32 u.f.i) (.int .u32 u.g.i) (.int .u32 u.h.i)) b u.list :=
  (((((((h.set (k := 7) u.h).set (k := 6) u.g).set (k := 5) u.f).set (k := 4) u.e).set (k := 3) u.d).set (k := 2) u.c).set (k := 1) u.b).set (k := 0) u.a
def keysL : List W32 := (List.range 64).map keyW
theorem keysL_len : keysL.length = 64 := by simp [keysL]
theorem keysL_get (k : Nat) (h : k < 64) : keysL.getD k default = keyW k := by simp [keysL, List.getD_eq_getElem?_getD, h]
/-- the rounds' words as Go's array -/
def keysV : Array Value := (keysL.map fun x => Value.int .u32 x.i).toArray
theorem zero64_one : (List.replicate 64 (Value.int .u32 0)).toArray.all (·.oneCell') = true := by
  rw [Array.all_eq_true_iff_forall_mem]
  intro v hv
  rw [List.mem_toArray] at hv
  rw [List.eq_of_mem_replicate hv]
  rfl
end Go.Proofs.YtckipgijfgeghaaDoor
