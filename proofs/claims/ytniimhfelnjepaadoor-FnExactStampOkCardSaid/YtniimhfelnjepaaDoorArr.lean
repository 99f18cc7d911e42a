/- Arrays of words in blocks; the program's table. -/
import Derived.Test.YtniimhfelnjepaaDoorSha2
import Derived.Deep.WholeRow
namespace Go.Proofs.YtniimhfelnjepaaDoor
open Go.RowKit

/-- block b of w holds the words xs -/
def Arr (w : World) (b : Nat) (xs : List W32) : Prop := b < w.heap.size ∧ ∀ j, j < xs.length → w.cell? ⟨b, j, none⟩ = some (.int .u32 (xs.getD j default).i) ∧ w.frozen? ⟨b, j, none⟩ = false
/-- the program's tables: the rounds' words, the first words -/
def Tabs (w : World) : Prop := (1 < w.heap.size ∧ ∀ j, j < 64 → w.cell? ⟨1, j, none⟩ = some (.int .u32 (keyW j).i)) ∧
  (0 < w.heap.size ∧ ∀ j, j < 8 → w.cell? ⟨0, j, none⟩ = some (.int .u32 (st0.list.getD j default).i))

theorem Arr.new (w : World) (xs : List W32) (t : TypeId) : Arr (w.alloc (.cells (xs.map fun x => Value.int .u32 x.i).toArray t)) w.heap.size xs := by
  refine ⟨by simp, fun j hj => ⟨?_, World.frozen?_alloc_new _ _ _ _⟩⟩
  rw [World.cell?_alloc_new]
  simp [hj, List.getD_eq_getElem?_getD]
theorem Arr.newAt {w : World} {b : Nat} (xs : List W32) (t : TypeId) (h : b = w.heap.size) : Arr (w.alloc (.cells (xs.map fun x => Value.int .u32 x.i).toArray t)) b xs := by
  subst h
  exact Arr.new w xs t
theorem Arr.alloc {w : World} {b : Nat} {xs : List W32} (h : Arr w b xs) (o : Obj) : Arr (w.alloc o) b xs :=
  ⟨by have := h.1; simp; omega, fun j hj => ⟨(World.cell?_alloc_past (w := w) o b j h.1).trans (h.2 j hj).1, (World.frozen?_alloc_past (w := w) o b j h.1).trans (h.2 j hj).2⟩⟩
theorem Arr.drew {w : World} {b : Nat} {xs : List W32} (h : Arr w b xs) : Arr w.drew b xs := h
theorem Arr.drewN {w : World} {b : Nat} {xs : List W32} (h : Arr w b xs) (n : Nat) : Arr (w.drewN n) b xs := h
theorem Arr.ext {w w' : World} {b : Nat} {xs : List W32} (h : Arr w b xs) (hx : Ext w w') : Arr w' b xs :=
  ⟨Nat.lt_of_lt_of_le h.1 hx.size, fun j hj => ⟨(hx.cell b j h.1).trans (h.2 j hj).1, (hx.frozen b j h.1).trans (h.2 j hj).2⟩⟩
theorem Arr.other {w : World} {b : Nat} {xs : List W32} (h : Arr w b xs) {p : Addr} (v : Value) (hp : p.block ≠ b) : Arr (w.setCell p v) b xs := by
  refine ⟨by rw [World.size_setCell]; exact h.1, fun j hj => ⟨?_, ?_⟩⟩
  · rw [World.cell?_setCell_other _ _ _ _ (fun e => hp (by rw [e]))]
    exact (h.2 j hj).1
  · rw [World.frozen?_setCell]
    exact (h.2 j hj).2
theorem Arr.set {w : World} {b k : Nat} {xs : List W32} (h : Arr w b xs) (x : W32) : Arr (w.setCell ⟨b, k, none⟩ (.int .u32 x.i)) b (xs.set k x) := by
  refine ⟨by rw [World.size_setCell]; exact h.1, fun j hj => ⟨?_, ?_⟩⟩
  · rw [List.length_set] at hj
    by_cases e : k = j
    · subst e
      rw [World.cell?_setCell_same _ _ _ (h.2 k hj).1]
      simp [List.getD_eq_getElem?_getD, hj]
    · rw [World.cell?_setCell_other _ _ _ _ (fun q => e (by injection q)), (h.2 j hj).1]
      simp [List.getD_eq_getElem?_getD, e]
  · rw [World.frozen?_setCell]
    exact (h.2 j (by rwa [List.length_set] at hj)).2
theorem Arr.put {w : World} {b k : Nat} {xs ys : List W32} (h : Arr w b xs) (x : W32) (e : xs.set k x = ys) {p : Addr} (hp : p = ⟨b, k, none⟩) : Arr (w.setCell p (.int .u32 x.i)) b ys := by
  subst e hp
  exact h.set x
theorem Arr.cell {w : World} {b : Nat} {xs : List W32} (h : Arr w b xs) (j : Nat) (hj : j < xs.length) : w.cell? ⟨b, j, none⟩ = some (.int .u32 (xs.getD j default).i) := (h.2 j hj).1
theorem Arr.free {w : World} {b : Nat} {xs : List W32} (h : Arr w b xs) (j : Nat) (hj : j < xs.length) : w.frozen? ⟨b, j, none⟩ = false := (h.2 j hj).2
theorem Tabs.ext {w w' : World} (h : Tabs w) (hx : Ext w w') : Tabs w' :=
  ⟨⟨Nat.lt_of_lt_of_le h.1.1 hx.size, fun j hj => (hx.cell _ j h.1.1).trans (h.1.2 j hj)⟩, ⟨Nat.lt_of_lt_of_le h.2.1 hx.size, fun j hj => (hx.cell _ j h.2.1).trans (h.2.2 j hj)⟩⟩
theorem Tabs.drew {w : World} (h : Tabs w) : Tabs w.drew := h
theorem Tabs.drewN {w : World} (h : Tabs w) (n : Nat) : Tabs (w.drewN n) := h

theorem un_no (x : W32) : Op.unary .xor (.int .u32 x.i) = pure (.int .u32 x.no.i) := by
  rw [unary_xor, intBits_xor, ← W32.no_i']
  rfl
theorem no_max : (if IntKind.u32.signed = true then (-1 : Int) else IntKind.u32.max) = 4294967295 := by decide
theorem heap_alloc_at {w : World} {n : Nat} (o : Obj) (h : n = w.heap.size) : (w.alloc o).heap[n]? = some o := by
  subst h
  exact heap_alloc_last w o
theorem setRow_alloc_at {w : World} {n : Nat} (c c' : Array Value) (t : TypeId) (h : n = w.heap.size) : (w.alloc (.cells c t)).setRow n c' = w.alloc (.cells c' t) := by
  subst h
  exact World.setRow_alloc_new w c c' t
theorem still_of {P : Program} {f : FuncId} {args : Array Value} {w : World} {v : Value}
    (h : Calls P f args w fun e w' => e = .returned v ∧ w = w') : Calls P f args w fun e w'' => e = .returned v ∧ w'' = w :=
  h.mono fun _ _ ⟨he, hm⟩ => ⟨he, hm.symm⟩
theorem byte_getD (s : ByteArray) (i : Nat) (h : i < s.size) : s.data.getD i 0 = s[i] := by
  have : s.data.getD i 0 = s.data[i]'h := Array.getElem_eq_getD 0 |>.symm
  exact this
/-- the word that a round of the first loop lays -/
theorem blk_word (s : ByteArray) (k : Nat) (h : 4 * k + 3 < s.size) :
    ((((W32.ofB (s[4 * k]'(by omega))).shl 24).ro ((W32.ofB (s[4 * k + 1]'(by omega))).shl 16)).ro ((W32.ofB (s[4 * k + 2]'(by omega))).shl 8)).ro (W32.ofB (s[4 * k + 3]'h)) = blkW s k := by
  unfold blkW wordOf
  rw [byte_getD, byte_getD, byte_getD, byte_getD]
/-- eight words stored one after the other -/
def oct (w : World) (b : Nat) (x0 x1 x2 x3 x4 x5 x6 x7 : Value) : World :=
  (((((((w.setCell ⟨b, 0, none⟩ x0).setCell ⟨b, 1, none⟩ x1).setCell ⟨b, 2, none⟩ x2).setCell ⟨b, 3, none⟩ x3).setCell ⟨b, 4, none⟩ x4).setCell ⟨b, 5, none⟩ x5).setCell ⟨b, 6, none⟩ x6).setCell ⟨b, 7, none⟩ x7
theorem oct_other {w : World} {b g : Nat} {xs : List W32} {x0 x1 x2 x3 x4 x5 x6 x7 : Value} (h : Arr w g xs) (hb : b ≠ g) : Arr (oct w b x0 x1 x2 x3 x4 x5 x6 x7) g xs :=
  (((((((h.other _ hb).other _ hb).other _ hb).other _ hb).other _ hb).other _ hb).other _ hb).other _ hb
theorem oct_put {w : World} {b : Nat} {t : St} (u : St) (h : Arr w b t.list) :
    Arr (oct w b (.int .u32 u.a.i) (.int .u32 u.b.i) (.int .u32 u.c.i) (.int .u32 u.d.i) (.int .u32 u.e.i) (.int .u32 u.f.i) (.int .u32 u.g.i) (.int .u32 u.h.i)) b u.list :=
  (((((((h.set (k := 0) u.a).set (k := 1) u.b).set (k := 2) u.c).set (k := 3) u.d).set (k := 4) u.e).set (k := 5) u.f).set (k := 6) u.g).set (k := 7) u.h
/-- the first k words are added -/
def plusL (s r : St) (k : Nat) : List W32 := ((s.plus r).list.take k) ++ s.list.drop k
theorem lt8 {k : Nat} (h : k < 8) : k = 0 ∨ k = 1 ∨ k = 2 ∨ k = 3 ∨ k = 4 ∨ k = 5 ∨ k = 6 ∨ k = 7 := by omega
theorem plusL_len (s r : St) (k : Nat) (h : k ≤ 8) : (plusL s r k).length = 8 := by
  rw [plusL, List.length_append, List.length_take, List.length_drop, st_len, st_len]
  omega
theorem plusL_get (s r : St) (k : Nat) (h : k < 8) : (plusL s r k).getD k default = s.list.getD k default := by
  rcases lt8 h with rfl | rfl | rfl | rfl | rfl | rfl | rfl | rfl <;> rfl
theorem plusL_set (s r : St) (k : Nat) (h : k < 8) : (plusL s r k).set k ((s.list.getD k default).add (r.list.getD k default)) = plusL s r (k + 1) := by
  rcases lt8 h with rfl | rfl | rfl | rfl | rfl | rfl | rfl | rfl <;> rfl
theorem plusL_all (s r : St) : plusL s r 8 = (s.plus r).list := rfl
def stZ : St := ⟨W32.ofN 0, W32.ofN 0, W32.ofN 0, W32.ofN 0, W32.ofN 0, W32.ofN 0, W32.ofN 0, W32.ofN 0⟩
def zero8 : List W32 := stZ.list
/-- the state as Go's value -/
def St.val (s : St) : Value := .agg #[.int .u32 s.a.i, .int .u32 s.b.i, .int .u32 s.c.i, .int .u32 s.d.i, .int .u32 s.e.i, .int .u32 s.f.i, .int .u32 s.g.i, .int .u32 s.h.i]
/-- the same, stored from the last to the first -/
def octR (w : World) (b : Nat) (x0 x1 x2 x3 x4 x5 x6 x7 : Value) : World :=
  (((((((w.setCell ⟨b, 7, none⟩ x7).setCell ⟨b, 6, none⟩ x6).setCell ⟨b, 5, none⟩ x5).setCell ⟨b, 4, none⟩ x4).setCell ⟨b, 3, none⟩ x3).setCell ⟨b, 2, none⟩ x2).setCell ⟨b, 1, none⟩ x1).setCell ⟨b, 0, none⟩ x0
theorem octR_other {w : World} {b g : Nat} {xs : List W32} {x0 x1 x2 x3 x4 x5 x6 x7 : Value} (h : Arr w g xs) (hb : b ≠ g) : Arr (octR w b x0 x1 x2 x3 x4 x5 x6 x7) g xs :=
  (((((((h.other _ hb).other _ hb).other _ hb).other _ hb).other _ hb).other _ hb).other _ hb).other _ hb
theorem octR_put {w : World} {b : Nat} {t : St} (u : St) (h : Arr w b t.list) :
    Arr (octR w b (.int .u32 u.a.i) (.int .u32 u.b.i) (.int .u32 u.c.i) (.int .u32 u.d.i) (.int .u32 u.e.i) (.int .u32 u.f.i) (.int .u32 u.g.i) (.int .u32 u.h.i)) b u.list :=
  (((((((h.set (k := 7) u.h).set (k := 6) u.g).set (k := 5) u.f).set (k := 4) u.e).set (k := 3) u.d).set (k := 2) u.c).set (k := 1) u.b).set (k := 0) u.a
def keysL : List W32 := (List.range 64).map keyW
theorem keysL_len : keysL.length = 64 := by simp [keysL]
theorem keysL_get (k : Nat) (h : k < 64) : keysL.getD k default = keyW k := by simp [keysL, List.getD_eq_getElem?_getD, h]
/-- the rounds' words as Go's array -/
def keysV : Array Value := (keysL.map fun x => Value.int .u32 x.i).toArray
theorem zero64_one : (List.replicate 64 (Value.int .u32 0)).toArray.all (·.oneCell') = true := by
  rw [Array.all_eq_true_iff_forall_mem]
  intro v hv
  rw [List.mem_toArray] at hv
  rw [List.eq_of_mem_replicate hv]
  rfl
end Go.Proofs.YtniimhfelnjepaaDoor
