/- Leaves: slices of pairs of strings. -/
import Derived.Test.YtagkcgbggeajkaaDoorNames
import Derived.Test.YtagkcgbggeajkaaDoorStrs
import Derived.Deep.RegionHeld3
namespace Go.Proofs.YtagkcgbggeajkaaDoor
open Go.RowKit

structure Leaf where
  name : ByteArray
  value : ByteArray
  deriving DecidableEq

def Leaf.cells (l : Leaf) : List Value := [.string l.name, .string l.value]
theorem Leaf.cells_len (l : Leaf) : l.cells.length = 2 := rfl
def Lvs (w : World) (v : Value) (xs : List Leaf) : Prop := Row w 2 v xs.length (xs.flatMap Leaf.cells)
theorem Lvs.ext {w w' : World} {v : Value} {xs : List Leaf} (h : Lvs w v xs) (hx : Ext w w') : Lvs w' v xs := Row.ext h hx
theorem Lvs.form {w : World} {v : Value} {xs : List Leaf} (h : Lvs w v xs) : ∃ a c, v = .slice a xs.length c := by
  obtain ⟨-, a, c, rfl, -⟩ := h
  exact ⟨a, c, rfl⟩
theorem leaf_c0 (xs : List Leaf) (k : Nat) (h : k < xs.length) : (xs.flatMap Leaf.cells)[k * 2]? = some (.string xs[k].name) := flat_get Leaf.cells_len xs k 0 h (by omega)
theorem leaf_c1 (xs : List Leaf) (k : Nat) (h : k < xs.length) : (xs.flatMap Leaf.cells)[k * 2 + 1]? = some (.string xs[k].value) := flat_get Leaf.cells_len xs k 1 h (by omega)
/-- the bytes of leaves -/
def leafBytes (xs : List Leaf) : Nat := (xs.map fun l => l.name.size + l.value.size).sum
theorem leafBytes_succ (xs : List Leaf) (k : Nat) (hk : k < xs.length) : leafBytes (xs.take (k + 1)) = leafBytes (xs.take k) + (xs[k].name.size + xs[k].value.size) := by
  unfold leafBytes
  rw [List.take_succ_eq_append_getElem hk, List.map_append, List.sum_append]
  simp
theorem leafBytes_take (xs : List Leaf) (k : Nat) : leafBytes (xs.take k) ≤ leafBytes xs := by
  have h : leafBytes xs = leafBytes (xs.take k) + leafBytes (xs.drop k) := by
    unfold leafBytes
    rw [← List.sum_append, ← List.map_append, List.take_append_drop]
  omega
/-- each string of them fits -/
def LeafFit (xs : List Leaf) : Prop := ∀ l ∈ xs, l.name.size ≤ maxLen ∧ l.value.size ≤ maxLen

theorem laws_toLeaf (n v : ByteArray) (w : World) :
    Calls Tryd.prog 61 #[.agg #[.string n, .string v]] w fun e w' => e = .returned (.agg #[.string n, .string v]) ∧ Ext w w' := by
  go_enter Tryd.func61, Tryd.ntmps61
  go_wp2
  refine bodyPost_ret (v := .agg #[.string n, .string v]) (by simp [results, Tryd.results61, go_sem]) rfl ⟨rfl, (by repeat (first | (with_reducible first | exact Ext.refl _ | assumption | apply Ext.alloc | apply Ext.drew | apply Ext.drewN | refine Ext.setCell ?_ ?_ _ | refine Ext.trans ?_ (by assumption)) | (show _ ≤ _; first | omega | (dsimp only; omega) | (simp; done) | (simp; omega))))⟩
theorem laws_szLeaf (n v : ByteArray) (left : Int) (w : World) (hl : 0 ≤ left ∧ left ≤ 1048576) (hn : n.size ≤ maxLen) (hv : v.size ≤ maxLen) :
    Calls Tryd.prog 55 #[.agg #[.string n, .string v], .int .i64 left] w fun e w' => e = .returned (.int .i64 (szr left (n.size + v.size))) ∧ Ext w w' := by
  unfold maxLen at hn hv
  obtain ⟨h1, h2⟩ := hl
  go_enter Tryd.func55, Tryd.ntmps55
  go_wp2
  all_goals go_ret
  all_goals refine ⟨ret_int ?_, (by repeat (first | (with_reducible first | exact Ext.refl _ | assumption | apply Ext.alloc | apply Ext.drew | apply Ext.drewN | refine Ext.setCell ?_ ?_ _ | refine Ext.trans ?_ (by assumption)) | (show _ ≤ _; first | omega | (dsimp only; omega) | (simp; done) | (simp; omega))))⟩
  all_goals simp only [szr]; split <;> omega
theorem laws_eqLeaf (n1 v1 n2 v2 : ByteArray) (w : World) :
    Calls Tryd.prog 67 #[.agg #[.string n1, .string v1], .agg #[.string n2, .string v2]] w fun e w' => e = .returned (.bool (decide (n1 = n2) && decide (v1 = v2))) ∧ Ext w w' := by
  go_enter Tryd.func67, Tryd.ntmps67
  go_wp2
  all_goals go_ret
  all_goals refine ⟨ret_bool ?_, (by repeat (first | (with_reducible first | exact Ext.refl _ | assumption | apply Ext.alloc | apply Ext.drew | apply Ext.drewN | refine Ext.setCell ?_ ?_ _ | refine Ext.trans ?_ (by assumption)) | (show _ ≤ _; first | omega | (dsimp only; omega) | (simp; done) | (simp; omega))))⟩
  all_goals simp_all [toList_inj]

set_option maxHeartbeats 400000 in
theorem laws_szLeafS (v : Value) (xs : List Leaf) (left : Int) (w : World) (h : Lvs w v xs) (hl : 0 ≤ left ∧ left ≤ 1048576) (hs : LeafFit xs) :
    Calls Tryd.prog 21 #[v, .int .i64 left] w fun e w' => e = .returned (.int .i64 (szr left (xs.length + leafBytes xs))) ∧ Ext w w' := by
  obtain ⟨-, a1, c1, rfl, hc1, hm1, g1⟩ := h
  unfold maxLen at hm1
  obtain ⟨h1, h2⟩ := hl
  by_cases hneg : left < xs.length
  · go_enter Tryd.func21, Tryd.ntmps21
    go_wp2
    go_ret
    exact ⟨ret_int (by simp only [szr]; rw [if_pos (by omega)]), (by repeat (first | (with_reducible first | exact Ext.refl _ | assumption | apply Ext.alloc | apply Ext.drew | apply Ext.drewN | refine Ext.setCell ?_ ?_ _ | refine Ext.trans ?_ (by assumption)) | (show _ ≤ _; first | omega | (dsimp only; omega) | (simp; done) | (simp; omega))))⟩
  · go_enter Tryd.func21, Tryd.ntmps21
    go_wp2
    go_loopw [1, 5] (fun l i wr => ∃ k : Nat, k ≤ xs.length ∧ i = .int .i64 k ∧ l = .int .i64 (left - xs.length - leafBytes (xs.take k)) ∧ 0 ≤ left - xs.length - leafBytes (xs.take k) ∧ Ext w wr) (fun _ i _ => xs.length - (intOf i).toNat)
    case atStart => exact ⟨0, Nat.zero_le _, rfl, by simp [leafBytes], by simp [leafBytes]; omega, Ext.refl _⟩
    case round =>
      obtain ⟨k, hk, rfl, rfl, hge, hx⟩ := hrel
      by_cases hlt : k < xs.length
      · rcases g1 with g1 | ⟨b1, o1, rfl, hb1, g1⟩
        · omega
        have e1 : wr.cell? ⟨b1, o1 + k * 2, none⟩ = some (.string xs[k].name) := (hx.cell b1 _ hb1).trans (g1 _ _ (leaf_c0 xs k hlt))
        have e2 : wr.cell? ⟨b1, o1 + k * 2 + 1, none⟩ = some (.string xs[k].value) := (hx.cell b1 _ hb1).trans (g1 _ _ (leaf_c1 xs k hlt))
        obtain ⟨s1, s2⟩ := hs xs[k] (List.getElem_mem hlt)
        have hsucc := leafBytes_succ xs k hlt
        have hle := leafBytes_take xs (k + 1)
        have HS := Lib.hid hsucc
        clear g1 hsucc hs
        generalize leafBytes (xs.take k) = S at *
        have hz : (szr (left - xs.length - S) (xs[k].name.size + xs[k].value.size) = -1 ∧ left - xs.length - (S + (xs[k].name.size + xs[k].value.size)) < 0) ∨ (szr (left - xs.length - S) (xs[k].name.size + xs[k].value.size) = left - xs.length - (S + (xs[k].name.size + xs[k].value.size) : Nat) ∧ 0 ≤ left - xs.length - (S + (xs[k].name.size + xs[k].value.size) : Nat)) := by
          simp only [szr]; split <;> omega
        generalize hzz : szr (left - xs.length - S) (xs[k].name.size + xs[k].value.size) = z at *
        have HZ := Lib.hid hzz
        clear hzz
        rcases hz with ⟨rfl, hz⟩ | ⟨hz1, hz⟩
        · go_wp2_with (go_at_call 55; refine (laws_szLeaf _ _ _ _ (by omega) s1 s2).mono ?_; rw [HZ.out]; rintro e w1 ⟨rfl, x1⟩)
          go_ret
          exact ⟨ret_int (by have := HS.out; simp only [szr]; rw [if_pos (by omega)]), (by repeat (first | (with_reducible first | exact Ext.refl _ | assumption | apply Ext.alloc | apply Ext.drew | apply Ext.drewN | refine Ext.setCell ?_ ?_ _ | refine Ext.trans ?_ (by assumption)) | (show _ ≤ _; first | omega | (dsimp only; omega) | (simp; done) | (simp; omega))))⟩
        · have hz0 : 0 ≤ z := by omega
          have HZ1 := Lib.hid hz1
          clear hz1
          go_wp2_with (go_at_call 55; refine (laws_szLeaf _ _ _ _ (by omega) s1 s2).mono ?_; rw [HZ.out]; rintro e w1 ⟨rfl, x1⟩)
          go_roundw
          case rel => exact ⟨k + 1, by omega, by go_num, by rw [HS.out, HZ1.out], by rw [HS.out]; omega, (by repeat (first | (with_reducible first | exact Ext.refl _ | assumption | apply Ext.alloc | apply Ext.drew | apply Ext.drewN | refine Ext.setCell ?_ ?_ _ | refine Ext.trans ?_ (by assumption)) | (show _ ≤ _; first | omega | (dsimp only; omega) | (simp; done) | (simp; omega))))⟩
          case measure => simp [intOf]; omega
      · have hkn : k = xs.length := by omega
        subst hkn
        rw [List.take_length] at *
        go_wp2
        go_ret
        exact ⟨ret_int (by simp only [szr]; rw [if_neg (by omega)]; omega), hx⟩
end Go.Proofs.YtagkcgbggeajkaaDoor
