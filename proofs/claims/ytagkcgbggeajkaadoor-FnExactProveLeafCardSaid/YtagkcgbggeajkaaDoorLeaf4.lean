/- Leaves: the value of a name. -/
import Derived.Test.YtagkcgbggeajkaaDoorLeaf3
namespace Go.Proofs.YtagkcgbggeajkaaDoor
open Go.RowKit

def leafFind (xs : List Leaf) (n : ByteArray) : Option Leaf := xs.find? fun l => decide (l.name = n)
def leafVal (xs : List Leaf) (n : ByteArray) : ByteArray := match leafFind xs n with | some l => l.value | none => ⟨#[]⟩
def leafHas (xs : List Leaf) (n : ByteArray) : Bool := (leafFind xs n).isSome
theorem leaf_hit {xs : List Leaf} {n : ByteArray} {k : Nat} (hk : k < xs.length) (h : ∀ l ∈ xs.take k, l.name ≠ n) (e : xs[k].name = n) : leafVal xs n = xs[k].value ∧ leafHas xs n = true := by
  have hf : leafFind xs n = some xs[k] := by
    have hsplit : leafFind xs n = leafFind (xs.take k ++ xs[k] :: xs.drop (k + 1)) n := by rw [← List.drop_eq_getElem_cons hk, List.take_append_drop]
    rw [hsplit, leafFind, List.find?_append, List.find?_eq_none.2 (fun l hl => by simpa using h l hl), List.find?_cons_of_pos (by simpa using e)]
    rfl
  simp [leafVal, leafHas, hf]
theorem leaf_miss {xs : List Leaf} {n : ByteArray} (h : ∀ l ∈ xs, l.name ≠ n) : leafVal xs n = ⟨#[]⟩ ∧ leafHas xs n = false := by
  have hf : leafFind xs n = none := List.find?_eq_none.2 (fun l hl => by simpa using h l hl)
  simp [leafVal, leafHas, hf]
theorem ne_succ {xs : List Leaf} {n : ByteArray} {k : Nat} (hk : k < xs.length) (h : ∀ l ∈ xs.take k, l.name ≠ n) (e : xs[k].name ≠ n) : ∀ l ∈ xs.take (k + 1), l.name ≠ n := by
  intro l hl
  rw [List.take_succ_eq_append_getElem hk, List.mem_append] at hl
  rcases hl with hl | hl
  · exact h l hl
  · simp at hl; rw [hl]; exact e

set_option maxHeartbeats 800000 in
theorem impl_LeafGet (v : Value) (xs : List Leaf) (n : ByteArray) (w : World) (h : Lvs w v xs) :
    Calls Tryd.prog 109 #[v, .string n] w fun e w' => e = .returned (.tuple #[.string (leafVal xs n), .bool (leafHas xs n)]) ∧ Ext w w' := by
  obtain ⟨-, a1, c1, rfl, hc1, hm1, g1⟩ := h
  unfold maxLen at hm1
  go_enter Tryd.func109, Tryd.ntmps109
  go_wp2
  go_loopw [10] (fun i wr => ∃ k : Nat, k ≤ xs.length ∧ i = .int .i64 k ∧ (∀ l ∈ xs.take k, l.name ≠ n) ∧ Ext w wr) (fun i _ => xs.length - (intOf i).toNat)
  case atStart => exact ⟨0, Nat.zero_le _, rfl, by simp, Ext.refl _⟩
  case round =>
    obtain ⟨k, hk, rfl, hall, hx⟩ := hrel
    have HA := Lib.hid hall
    clear hall
    by_cases hlt : k < xs.length
    · rcases g1 with g1 | ⟨b1, o1, rfl, hb1, g1⟩
      · omega
      have e1 : wr.cell? ⟨b1, o1 + k * 2, none⟩ = some (.string xs[k].name) := (hx.cell b1 _ hb1).trans (g1 _ _ (leaf_c0 xs k hlt))
      have e2 : wr.cell? ⟨b1, o1 + k * 2 + 1, none⟩ = some (.string xs[k].value) := (hx.cell b1 _ hb1).trans (g1 _ _ (leaf_c1 xs k hlt))
      by_cases hq : xs[k].name = n
      · have hqb : (xs[k].name.toList == n.toList) = true := by rw [toList_beq]; simp [hq]
        obtain ⟨r1, r2⟩ := leaf_hit hlt HA.out hq
        have R1 := Lib.hid r1
        have R2 := Lib.hid r2
        clear g1 hq r1 r2
        go_wp2
        go_ret2
        exact ⟨ret_sb R1.out.symm R2.out.symm, (by repeat (first | (with_reducible first | exact Ext.refl _ | assumption | apply Ext.alloc | apply Ext.drew | apply Ext.drewN | refine Ext.setCell ?_ ?_ _ | refine Ext.trans ?_ (by assumption)) | (show _ ≤ _; first | omega | (dsimp only; omega) | (simp; done) | (simp; omega))))⟩
      · have hqb : (xs[k].name.toList == n.toList) = false := by rw [toList_beq]; simp [hq]
        have HQ := Lib.hid hq
        clear g1 hq
        go_wp2
        go_roundw
        case rel => exact ⟨k + 1, by omega, by go_num, ne_succ hlt HA.out HQ.out, (by repeat (first | (with_reducible first | exact Ext.refl _ | assumption | apply Ext.alloc | apply Ext.drew | apply Ext.drewN | refine Ext.setCell ?_ ?_ _ | refine Ext.trans ?_ (by assumption)) | (show _ ≤ _; first | omega | (dsimp only; omega) | (simp; done) | (simp; omega))))⟩
        case measure => simp [intOf]; omega
    · have hall := HA.out
      rw [List.take_of_length_le (by omega)] at hall
      obtain ⟨r1, r2⟩ := leaf_miss hall
      have R1 := Lib.hid r1
      have R2 := Lib.hid r2
      clear hall r1 r2
      go_wp2
      go_ret2
      exact ⟨ret_sb R1.out.symm R2.out.symm, (by repeat (first | (with_reducible first | exact Ext.refl _ | assumption | apply Ext.alloc | apply Ext.drew | apply Ext.drewN | refine Ext.setCell ?_ ?_ _ | refine Ext.trans ?_ (by assumption)) | (show _ ≤ _; first | omega | (dsimp only; omega) | (simp; done) | (simp; omega))))⟩
set_option maxHeartbeats 800000 in
theorem spec_LeafGet (v : Value) (xs : List Leaf) (n : ByteArray) (w : World) (h : Lvs w v xs) :
    Calls Tryd.prog 108 #[v, .string n] w fun e w' => e = .returned (.tuple #[.string (leafVal xs n), .bool (leafHas xs n)]) ∧ Ext w w' := by
  obtain ⟨-, a1, c1, rfl, hc1, hm1, g1⟩ := h
  unfold maxLen at hm1
  go_enter Tryd.func108, Tryd.ntmps108
  go_wp2
  go_loopw [6] (fun i wr => ∃ k : Nat, k ≤ xs.length ∧ i = .int .i64 k ∧ (∀ l ∈ xs.take k, l.name ≠ n) ∧ Ext w wr) (fun i _ => xs.length - (intOf i).toNat)
  case atStart => exact ⟨0, Nat.zero_le _, rfl, by simp, Ext.refl _⟩
  case round =>
    obtain ⟨k, hk, rfl, hall, hx⟩ := hrel
    have HA := Lib.hid hall
    clear hall
    by_cases hlt : k < xs.length
    · rcases g1 with g1 | ⟨b1, o1, rfl, hb1, g1⟩
      · omega
      have e1 : wr.cell? ⟨b1, o1 + k * 2, none⟩ = some (.string xs[k].name) := (hx.cell b1 _ hb1).trans (g1 _ _ (leaf_c0 xs k hlt))
      have e2 : wr.cell? ⟨b1, o1 + k * 2 + 1, none⟩ = some (.string xs[k].value) := (hx.cell b1 _ hb1).trans (g1 _ _ (leaf_c1 xs k hlt))
      by_cases hq : xs[k].name = n
      · have hqb : (xs[k].name.toList == n.toList) = true := by rw [toList_beq]; simp [hq]
        obtain ⟨r1, r2⟩ := leaf_hit hlt HA.out hq
        have R1 := Lib.hid r1
        have R2 := Lib.hid r2
        clear g1 hq r1 r2
        go_wp2
        go_ret2
        exact ⟨ret_sb R1.out.symm R2.out.symm, (by repeat (first | (with_reducible first | exact Ext.refl _ | assumption | apply Ext.alloc | apply Ext.drew | apply Ext.drewN | refine Ext.setCell ?_ ?_ _ | refine Ext.trans ?_ (by assumption)) | (show _ ≤ _; first | omega | (dsimp only; omega) | (simp; done) | (simp; omega))))⟩
      · have hqb : (xs[k].name.toList == n.toList) = false := by rw [toList_beq]; simp [hq]
        have HQ := Lib.hid hq
        clear g1 hq
        go_wp2
        go_roundw
        case rel => exact ⟨k + 1, by omega, by go_num, ne_succ hlt HA.out HQ.out, (by repeat (first | (with_reducible first | exact Ext.refl _ | assumption | apply Ext.alloc | apply Ext.drew | apply Ext.drewN | refine Ext.setCell ?_ ?_ _ | refine Ext.trans ?_ (by assumption)) | (show _ ≤ _; first | omega | (dsimp only; omega) | (simp; done) | (simp; omega))))⟩
        case measure => simp [intOf]; omega
    · have hall := HA.out
      rw [List.take_of_length_le (by omega)] at hall
      obtain ⟨r1, r2⟩ := leaf_miss hall
      have R1 := Lib.hid r1
      have R2 := Lib.hid r2
      clear hall r1 r2
      go_wp2
      go_ret2
      exact ⟨ret_sb R1.out.symm R2.out.symm, (by repeat (first | (with_reducible first | exact Ext.refl _ | assumption | apply Ext.alloc | apply Ext.drew | apply Ext.drewN | refine Ext.setCell ?_ ?_ _ | refine Ext.trans ?_ (by assumption)) | (show _ ≤ _; first | omega | (dsimp only; omega) | (simp; done) | (simp; omega))))⟩

/-- a proof's cells: its bucket, its sides -/
theorem impl_ProofSays (n : ByteArray) (v u : Value) (xs : List Leaf) (w : World) (h : Lvs w v xs) (hu : ∃ a m c, u = .slice a m c) :
    Calls Tryd.prog 90 #[.string n, .agg #[v, u]] w fun e w' => e = .returned (.tuple #[.string (leafVal xs n), .bool (leafHas xs n)]) ∧ Ext w w' := by
  obtain ⟨a, c, rfl⟩ := h.form
  obtain ⟨a2, m2, c2, rfl⟩ := hu
  go_enter Tryd.func90, Tryd.ntmps90
  go_wp2_with (go_at_call 109; refine (impl_LeafGet _ xs _ _ (h.ext (by repeat (first | (with_reducible first | exact Ext.refl _ | assumption | apply Ext.alloc | apply Ext.drew | apply Ext.drewN | refine Ext.setCell ?_ ?_ _ | refine Ext.trans ?_ (by assumption)) | (show _ ≤ _; first | omega | (dsimp only; omega) | (simp; done) | (simp; omega)))))).mono ?_; rintro e w1 ⟨rfl, x1⟩)
  go_ret2
  exact ⟨rfl, (by repeat (first | (with_reducible first | exact Ext.refl _ | assumption | apply Ext.alloc | apply Ext.drew | apply Ext.drewN | refine Ext.setCell ?_ ?_ _ | refine Ext.trans ?_ (by assumption)) | (show _ ≤ _; first | omega | (dsimp only; omega) | (simp; done) | (simp; omega))))⟩
theorem spec_ProofSays (n : ByteArray) (v u : Value) (xs : List Leaf) (w : World) (h : Lvs w v xs) (hu : ∃ a m c, u = .slice a m c) :
    Calls Tryd.prog 89 #[.string n, .agg #[v, u]] w fun e w' => e = .returned (.tuple #[.string (leafVal xs n), .bool (leafHas xs n)]) ∧ Ext w w' := by
  obtain ⟨a, c, rfl⟩ := h.form
  obtain ⟨a2, m2, c2, rfl⟩ := hu
  go_enter Tryd.func89, Tryd.ntmps89
  go_wp2_with (go_at_call 108; refine (spec_LeafGet _ xs _ _ (h.ext (by repeat (first | (with_reducible first | exact Ext.refl _ | assumption | apply Ext.alloc | apply Ext.drew | apply Ext.drewN | refine Ext.setCell ?_ ?_ _ | refine Ext.trans ?_ (by assumption)) | (show _ ≤ _; first | omega | (dsimp only; omega) | (simp; done) | (simp; omega)))))).mono ?_; rintro e w1 ⟨rfl, x1⟩)
  go_ret2
  exact ⟨rfl, (by repeat (first | (with_reducible first | exact Ext.refl _ | assumption | apply Ext.alloc | apply Ext.drew | apply Ext.drewN | refine Ext.setCell ?_ ?_ _ | refine Ext.trans ?_ (by assumption)) | (show _ ≤ _; first | omega | (dsimp only; omega) | (simp; done) | (simp; omega))))⟩

end Go.Proofs.YtagkcgbggeajkaaDoor
