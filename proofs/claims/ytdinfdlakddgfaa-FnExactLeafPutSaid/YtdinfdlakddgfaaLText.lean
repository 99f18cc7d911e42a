/- Leaves: their text. -/
import Derived.Test.YtdinfdlakddgfaaLeaf4
import Derived.Test.YtdinfdlakddgfaaVar
namespace Go.Proofs.Ytdinfdlakddgfaa
open Go.RowKit

def leafT (l : Leaf) : ByteArray := varT l.name.size ++ l.name ++ (varT l.value.size ++ l.value)
def leavesUpto (xs : List Leaf) (k : Nat) : ByteArray := (xs.take k).foldl (fun a l => a ++ leafT l) (varT xs.length)
def leavesT (xs : List Leaf) : ByteArray := leavesUpto xs xs.length
theorem leavesUpto_succ (xs : List Leaf) (k : Nat) (h : k < xs.length) : leavesUpto xs (k + 1) = leavesUpto xs k ++ leafT xs[k] := by
  unfold leavesUpto
  rw [List.take_succ_eq_append_getElem h, List.foldl_append]
  rfl
/-- short leaves, not many -/
def LeafSmall (xs : List Leaf) : Prop := xs.length ≤ 1000 ∧ ∀ l ∈ xs, l.name.size ≤ 200 ∧ l.value.size ≤ 200
theorem leavesUpto_size {xs : List Leaf} (hs : LeafSmall xs) : ∀ k, k ≤ xs.length → (leavesUpto xs k).size ≤ 1001 + 1000 * k
  | 0, _ => by have := varT_size xs.length; have := hs.1; simp [leavesUpto]; omega
  | k + 1, h => by
    have h1 := leavesUpto_size hs k (by omega)
    obtain ⟨a, b⟩ := hs.2 xs[k] (List.getElem_mem (by omega))
    have c := varT_size xs[k].name.size
    have d := varT_size xs[k].value.size
    rw [leavesUpto_succ xs k (by omega)]
    simp only [leafT, ByteArray.size_append]
    omega
theorem leavesOk_small {xs : List Leaf} (h : leavesOk xs = true) : xs.length ≤ 24 ∧ ∀ l ∈ xs, (1 ≤ l.name.size ∧ l.name.size ≤ 12) ∧ (1 ≤ l.value.size ∧ l.value.size ≤ 12) := by
  rw [leavesOk, Bool.and_eq_true, decide_eq_true_eq, List.all_eq_true] at h
  refine ⟨h.1, fun l hl => ?_⟩
  obtain ⟨i, hi, rfl⟩ := List.getElem_of_mem hl
  have hg := h.2 i (List.mem_range.2 hi)
  have hd : xs.getD i noLeaf = xs[i] := by simp [hi]
  have hn : nameOk xs[i].name = true ∧ valueOk xs[i].value = true := by
    cases i with
    | zero => simp only [goodAt, hd, Bool.and_eq_true] at hg; exact hg
    | succ j => simp only [goodAt, hd, Bool.and_eq_true] at hg; exact ⟨hg.1, hg.2.1⟩
  have h1 := hn.1
  have h2 := hn.2
  simp only [nameOk, valueOk, Bool.and_eq_true, inB_true] at h1 h2
  omega
theorem leavesOk_LeafSmall {xs : List Leaf} (h : leavesOk xs = true) : LeafSmall xs := by
  obtain ⟨h1, h2⟩ := leavesOk_small h
  exact ⟨by omega, fun l hl => by have := h2 l hl; omega⟩

set_option maxHeartbeats 800000 in
theorem impl_leavesText (v : Value) (xs : List Leaf) (w : World) (h : Lvs w v xs) (hs : LeafSmall xs) :
    Calls Try.prog 51 #[v] w fun e w' => e = .returned (.string (leavesT xs)) ∧ Ext w w' := by
  obtain ⟨-, a1, c1, rfl, hc1, hm1, g1⟩ := h
  unfold maxLen at hm1
  have hl := hs.1
  have HS := Lib.hid hs
  clear hs
  go_enter Try.func51, Try.ntmps51
  go_wp2_with fail
  refine (impl_varText _ _ (by omega)).mono ?_
  rintro e w1 ⟨rfl, x1⟩
  go_wp2_with fail
  go_loopw [3, 11] (fun s i wr => ∃ k : Nat, k ≤ xs.length ∧ i = .int .i64 k ∧ s = .string (leavesUpto xs k) ∧ Ext w wr) (fun _ i _ => xs.length - (intOf i).toNat)
  case atStart => exact ⟨0, Nat.zero_le _, rfl, rfl, x1⟩
  case round =>
    obtain ⟨k, hk, rfl, rfl, hx⟩ := hrel
    by_cases hlt : k < xs.length
    · rcases g1 with g1 | ⟨b1, o1, rfl, hb1, g1⟩
      · omega
      have e1 : wr.cell? ⟨b1, o1 + k * 2, none⟩ = some (.string xs[k].name) := (hx.cell b1 _ hb1).trans (g1 _ _ (leaf_c0 xs k hlt))
      have e2 : wr.cell? ⟨b1, o1 + k * 2 + 1, none⟩ = some (.string xs[k].value) := (hx.cell b1 _ hb1).trans (g1 _ _ (leaf_c1 xs k hlt))
      have l1 : b1 < wr.heap.size := Nat.lt_of_lt_of_le hb1 hx.size
      obtain ⟨s1, s2⟩ := HS.out.2 xs[k] (List.getElem_mem hlt)
      have z0 := leavesUpto_size HS.out k hk
      have z1 := varT_size xs[k].name.size
      have z2 := varT_size xs[k].value.size
      have hsucc := leavesUpto_succ xs k hlt
      have HU := Lib.hid hsucc
      clear hsucc g1
      have a1 : ¬ (9223372036854775807 < (varT xs[k].name.size).size + xs[k].name.size + ((varT xs[k].value.size).size + xs[k].value.size)) := by omega
      have a2 : ¬ (9223372036854775807 < (leavesUpto xs k).size + ((varT xs[k].name.size).size + xs[k].name.size + ((varT xs[k].value.size).size + xs[k].value.size))) := by omega
      have m1 : xs[k].name.size ≤ 1099511627776 := by omega
      have m2 : xs[k].value.size ≤ 1099511627776 := by omega
      clear z0 z1 z2
      go_wp2_with fail
      generalize hW : wr.alloc (Obj.cells #[Value.string xs[k].name, Value.string xs[k].value] 68) = W0
      have y0 : Ext w W0 := by subst hW; exact hx.alloc _
      have p0 : W0.cell? ⟨wr.heap.size, 0, none⟩ = some (.string xs[k].name) := by subst hW; simp [go_sem]
      have p1 : W0.cell? ⟨wr.heap.size, 1, none⟩ = some (.string xs[k].value) := by subst hW; simp [go_sem]
      have l0 : wr.heap.size < W0.heap.size := by subst hW; simp [go_sem]
      clear hW e1 e2 l1
      go_region_held3 (fun W => W.cell? ⟨wr.heap.size, 0, none⟩ = some (.string xs[k].name) ∧ W.cell? ⟨wr.heap.size, 1, none⟩ = some (.string xs[k].value)) (first | exact ⟨p0, p1⟩ | exact ⟨(ya.cell _ _ l0).trans p0, (ya.cell _ _ l0).trans p1⟩) ((go_at_call 66; refine (impl_shortText _ _ (by first | exact m1 | exact m2)).mono ?_; rintro e wa ⟨rfl, xa⟩; have ya : Ext W0 wa := (by repeat (first | (with_reducible first | exact Ext.refl _ | assumption | apply Ext.alloc | apply Ext.drew | apply Ext.drewN | refine Ext.setCell ?_ ?_ _ | refine Ext.trans ?_ (by assumption)) | (show _ ≤ _; first | omega | (dsimp only; omega) | (simp; done) | (simp; omega))))))
      all_goals
        go_wp2
        go_roundw
        case rel => exact ⟨k + 1, by omega, by go_num, by rw [HU.out]; rfl, (by repeat (first | (with_reducible first | exact Ext.refl _ | assumption | apply Ext.alloc | apply Ext.drew | apply Ext.drewN | refine Ext.setCell ?_ ?_ _ | refine Ext.trans ?_ (by assumption)) | (show _ ≤ _; first | omega | (dsimp only; omega) | (simp; done) | (simp; omega))))⟩
        case measure => simp [intOf]; omega
    · have hkn : k = xs.length := by omega
      subst hkn
      clear g1
      go_wp2
      go_ret
      exact ⟨rfl, hx⟩

set_option maxHeartbeats 800000 in
theorem spec_l09Text (v : Value) (xs : List Leaf) (w : World) (h : Lvs w v xs) (hs : LeafSmall xs) :
    Calls Try.prog 50 #[v] w fun e w' => e = .returned (.string (leavesT xs)) ∧ Ext w w' := by
  obtain ⟨-, a1, c1, rfl, hc1, hm1, g1⟩ := h
  unfold maxLen at hm1
  have hl := hs.1
  have HS := Lib.hid hs
  clear hs
  go_enter Try.func50, Try.ntmps50
  go_wp2_with fail
  refine (spec_l01Var _ _ (by omega)).mono ?_
  rintro e w1 ⟨rfl, x1⟩
  go_wp2_with fail
  go_loopw [3, 4] (fun s i wr => ∃ k : Nat, k ≤ xs.length ∧ i = .int .i64 k ∧ s = .string (leavesUpto xs k) ∧ Ext w wr) (fun _ i _ => xs.length - (intOf i).toNat)
  case atStart => exact ⟨0, Nat.zero_le _, rfl, rfl, x1⟩
  case round =>
    obtain ⟨k, hk, rfl, rfl, hx⟩ := hrel
    by_cases hlt : k < xs.length
    · rcases g1 with g1 | ⟨b1, o1, rfl, hb1, g1⟩
      · omega
      have e1 : wr.cell? ⟨b1, o1 + k * 2, none⟩ = some (.string xs[k].name) := (hx.cell b1 _ hb1).trans (g1 _ _ (leaf_c0 xs k hlt))
      have e2 : wr.cell? ⟨b1, o1 + k * 2 + 1, none⟩ = some (.string xs[k].value) := (hx.cell b1 _ hb1).trans (g1 _ _ (leaf_c1 xs k hlt))
      have l1 : b1 < wr.heap.size := Nat.lt_of_lt_of_le hb1 hx.size
      obtain ⟨s1, s2⟩ := HS.out.2 xs[k] (List.getElem_mem hlt)
      have z0 := leavesUpto_size HS.out k hk
      have z1 := varT_size xs[k].name.size
      have z2 := varT_size xs[k].value.size
      have hsucc := leavesUpto_succ xs k hlt
      have HU := Lib.hid hsucc
      clear hsucc g1
      have a1 : ¬ (9223372036854775807 < (leavesUpto xs k).size + (varT xs[k].name.size).size) := by omega
      have a2 : ¬ (9223372036854775807 < (leavesUpto xs k).size + (varT xs[k].name.size).size + xs[k].name.size) := by omega
      have a3 : ¬ (9223372036854775807 < (leavesUpto xs k).size + (varT xs[k].name.size).size + xs[k].name.size + (varT xs[k].value.size).size) := by omega
      have a4 : ¬ (9223372036854775807 < (leavesUpto xs k).size + (varT xs[k].name.size).size + xs[k].name.size + (varT xs[k].value.size).size + xs[k].value.size) := by omega
      have m1 : xs[k].name.size ≤ 1099511627776 := by omega
      have m2 : xs[k].value.size ≤ 1099511627776 := by omega
      clear z0 z1 z2
      go_wp2_with fail
      go_region_held3 (fun W => W.cell? ⟨b1, o1 + k * 2, none⟩ = some (.string xs[k].name) ∧ W.cell? ⟨b1, o1 + k * 2 + 1, none⟩ = some (.string xs[k].value)) (first | exact ⟨e1, e2⟩ | exact ⟨(ya.cell _ _ l1).trans e1, (ya.cell _ _ l1).trans e2⟩) ((go_at_call 61; refine (spec_l01Var _ _ (by first | exact m1 | exact m2)).mono ?_; rintro e wa ⟨rfl, xa⟩; have ya : Ext wr wa := (by repeat (first | (with_reducible first | exact Ext.refl _ | assumption | apply Ext.alloc | apply Ext.drew | apply Ext.drewN | refine Ext.setCell ?_ ?_ _ | refine Ext.trans ?_ (by assumption)) | (show _ ≤ _; first | omega | (dsimp only; omega) | (simp; done) | (simp; omega))))))
      all_goals
        go_wp2
        go_roundw
        case rel => exact ⟨k + 1, by omega, by go_num, by rw [HU.out]; simp only [leafT, ByteArray.append_assoc], (by repeat (first | (with_reducible first | exact Ext.refl _ | assumption | apply Ext.alloc | apply Ext.drew | apply Ext.drewN | refine Ext.setCell ?_ ?_ _ | refine Ext.trans ?_ (by assumption)) | (show _ ≤ _; first | omega | (dsimp only; omega) | (simp; done) | (simp; omega))))⟩
        case measure => simp [intOf]; omega
    · have hkn : k = xs.length := by omega
      subst hkn
      clear g1
      go_wp2
      go_ret
      exact ⟨rfl, hx⟩
end Go.Proofs.Ytdinfdlakddgfaa
