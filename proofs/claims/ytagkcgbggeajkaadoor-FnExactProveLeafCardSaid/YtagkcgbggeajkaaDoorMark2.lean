/- The laws' marks on leaves. -/
import Derived.Test.YtagkcgbggeajkaaDoorMark
import Derived.Test.YtagkcgbggeajkaaDoorLeaf
import Derived.Test.YtagkcgbggeajkaaDoorVar
import Derived.Deep.RegionHeld3
namespace Go.Proofs.YtagkcgbggeajkaaDoor
open Go.RowKit

theorem own_lt {w : World} {base : Nat} {e : TypeId} {size n : Nat} {v : Value} {xs : List Value} (h : w.ownsRow base e size v n xs) : ∀ k, v.ownBlock = some k → base ≤ k ∧ k < w.heap.size := fun k hk => h.lt k hk
/-- a row of its own, behind writes to another, elder one -/
theorem own_grown {w w' : World} {base : Nat} {e : TypeId} {size n : Nat} {v : Value} {xs : List Value} (h : w.ownsRow base e size v n xs) {row : Option Nat} (hg : w.grownBy w' row) (hr : ∀ k, row = some k → k < base) : w'.ownsRow base e size v n xs := by
  refine ⟨h.1, ?_⟩
  rcases h.2 with h2 | ⟨g, cap, cur, hv, hb, hh, r⟩
  · exact Or.inl h2
  · exact Or.inr ⟨g, cap, cur, hv, hb, (hg.block g (Array.getElem?_eq_some_iff.1 hh).1 (fun e => by have := hr g e.symm; omega)).trans hh, r⟩

def markLeaf (k : Int) (i : Nat) : Leaf := ⟨markI (k + 2 * (i : Int)), markI (k + 2 * (i : Int) + 1)⟩
def marksL (n : Nat) (k : Int) : List Leaf := (List.range n).map (markLeaf k)
/-- the first i are marked -/
def markOn (xs : List Leaf) (k : Int) : Nat → List Leaf
  | 0 => xs
  | i + 1 => (markOn xs k i).set i (markLeaf k i)
theorem markOn_length (xs : List Leaf) (k : Int) : ∀ i, (markOn xs k i).length = xs.length
  | 0 => rfl
  | i + 1 => by rw [markOn, List.length_set, markOn_length xs k i]
theorem markOn_get (xs : List Leaf) (k : Int) (j : Nat) : ∀ i, i ≤ xs.length → (markOn xs k i)[j]? = if j < i then some (markLeaf k j) else xs[j]?
  | 0, _ => by simp [markOn]
  | i + 1, h => by
    rw [markOn, List.getElem?_set, markOn_get xs k j i (by omega), markOn_length]
    by_cases hj : i = j
    · subst hj; simp; omega
    · rw [if_neg hj]
      by_cases h2 : j < i
      · rw [if_pos h2, if_pos (by omega)]
      · rw [if_neg h2, if_neg (by omega)]
theorem markOn_all (xs : List Leaf) (k : Int) : markOn xs k xs.length = marksL xs.length k := by
  apply List.ext_getElem?
  intro j
  rw [markOn_get xs k j _ (Nat.le_refl _), marksL, List.getElem?_map]
  by_cases hj : j < xs.length
  · simp [hj]
  · simp [hj]
theorem leaf_flat_set (l : Leaf) : ∀ (xs : List Leaf) (i : Nat), i < xs.length → ((xs.flatMap Leaf.cells).set (i * 2) (.string l.name)).set (i * 2 + 1) (.string l.value) = (xs.set i l).flatMap Leaf.cells
  | [], i, h => by simp at h
  | x :: t, 0, _ => by simp [Leaf.cells]
  | x :: t, i + 1, h => by
    have ih := leaf_flat_set l t i (by simpa using h)
    rw [show (i + 1) * 2 = i * 2 + 1 + 1 by omega]
    simp only [List.flatMap_cons, Leaf.cells, List.cons_append, List.nil_append, List.set_cons_succ] at ih ⊢
    rw [ih]

set_option maxHeartbeats 800000 in
theorem laws_markLeafS (v : Value) (xs : List Leaf) (k : Int) (base : Nat) (w : World) (h : OwnLvs w base v xs) (hk : 1 ≤ k ∧ k + 2 * xs.length ≤ 1099511627776) :
    Calls Tryd.prog 33 #[v, .int .i64 k] w fun e w' => e = .returned (.int .i64 (k + 2 * xs.length)) ∧ OwnLvs w' base v (marksL xs.length k) ∧ w.grownBy w' v.ownBlock := by
  obtain ⟨a, c, rfl⟩ := own_any h
  have H := Lib.hid h
  clear h
  go_enter Tryd.func33, Tryd.ntmps33
  go_wp2
  go_loopw [1, 5] (fun q i wr => ∃ j : Nat, j ≤ xs.length ∧ i = .int .i64 j ∧ q = .int .i64 (k + 2 * (j : Int)) ∧ wr.ownsRow base 82 2 (.slice a xs.length c) xs.length ((markOn xs k j).flatMap Leaf.cells) ∧ w.grownBy wr (Value.slice a xs.length c).ownBlock) (fun _ i _ => xs.length - (intOf i).toNat)
  case atStart => exact ⟨0, Nat.zero_le _, rfl, by simp, H.out, ⟨rfl, rfl, rfl, Nat.le_refl _, fun _ _ _ => rfl⟩⟩
  case round =>
    obtain ⟨j, hj, rfl, rfl, hown, hx⟩ := hrel
    by_cases hlt : j < xs.length
    · obtain ⟨g, cap, hv⟩ := own_form hown (by omega)
      injection hv with e1 e2 e3
      subst e1 e3
      have hgb := (own_lt hown g rfl).2
      have hlen : ((markOn xs k j).flatMap Leaf.cells).length = xs.length * 2 := by rw [flat_length Leaf.cells_len, markOn_length]
      have hls : j < (markOn xs k j).length := by rw [markOn_length]; exact hlt
      have hg0 := leaf_c0 (markOn xs k j) j hls
      have hg1 := leaf_c1 (markOn xs k j) j hls
      have HX : Mut g w wr := hx
      have HO := Lib.hid hown
      have hset := leaf_flat_set (markLeaf k j) (markOn xs k j) j hls
      have HS := Lib.hid hset
      clear hx hset
      have m1 : 1 ≤ k + 2 * (j : Int) ∧ k + 2 * (j : Int) ≤ 1099511627776 := by omega
      have m2 : 1 ≤ k + 2 * (j : Int) + 1 ∧ k + 2 * (j : Int) + 1 ≤ 1099511627776 := by omega
      clear hown
      go_wp2_with fail
      refine (laws_markText _ _ m1).mono ?_
      rintro e w2 ⟨rfl, x2⟩
      have hown2 := own_ext HO.out x2
      have c2 : w2.cell? ⟨g, j * 2, none⟩ = some (.string (markOn xs k j)[j].name) := by rw [hown2.cellAt _ (by omega)]; exact hg0
      have f2 : w2.frozen? ⟨g, j * 2, none⟩ = false := hown2.frozenAt _
      have S2 := (hown2.stored (j * 2) (.string (markI (k + 2 * (j : Int))))).1
      have HS2 := Lib.hid S2
      clear S2 hown2
      go_wp2_with fail
      refine (laws_markText _ _ m2).mono ?_
      rintro e w4 ⟨rfl, x4⟩
      have hown4 := own_ext HS2.out x4
      have c4 : w4.cell? ⟨g, j * 2 + 1, none⟩ = some (.string (markOn xs k j)[j].value) := by rw [hown4.cellAt _ (by omega), List.getElem?_set_ne (by omega)]; exact hg1
      have f4 : w4.frozen? ⟨g, j * 2 + 1, none⟩ = false := hown4.frozenAt _
      have S4 := (hown4.stored (j * 2 + 1) (.string (markI (k + 2 * (j : Int) + 1)))).1
      have M4 : Mut g w (w4.setCell ⟨g, j * 2 + 1, none⟩ (.string (markI (k + 2 * (j : Int) + 1)))) := Mut.setCell (((HX.trans (Mut.of_ext x2)).setCell _ _).trans (Mut.of_ext x4)) _ _
      have HS4 := Lib.hid S4
      clear S4 hown4
      go_wp2
      go_roundw
      case rel => exact ⟨j + 1, by omega, by go_num, by go_num, by rw [markOn, ← HS.out]; exact HS4.out, M4⟩
      case measure => simp [intOf]; omega
    · have hjn : j = xs.length := by omega
      subst hjn
      rw [markOn_all] at hown
      have HO := Lib.hid hown
      clear hown
      go_wp2
      go_ret
      exact ⟨rfl, by unfold OwnLvs; rw [show (marksL xs.length k).length = xs.length by simp [marksL]]; exact HO.out, hx⟩

theorem marksL_length (n : Nat) (k : Int) : (marksL n k).length = n := by simp [marksL]
theorem marksL_get (n : Nat) (k : Int) (j : Nat) (h : j < (marksL n k).length) : (marksL n k)[j] = markLeaf k j := by simp [marksL]

set_option maxHeartbeats 800000 in
theorem laws_heldLeafS (v : Value) (n : Nat) (k : Int) (w : World) (h : Lvs w v (marksL n k)) (hk : 1 ≤ k ∧ k + 2 * n ≤ 1099511627776) :
    Calls Tryd.prog 77 #[v, .int .i64 k] w fun e w' => e = .returned (.int .i64 (k + 2 * n)) ∧ Ext w w' := by
  obtain ⟨-, a1, c1, rfl, hc1, hm1, g1⟩ := h
  rw [marksL_length] at *
  unfold maxLen at hm1
  go_enter Tryd.func77, Tryd.ntmps77
  go_wp2
  go_loopw [1, 5] (fun q i wr => ∃ j : Nat, j ≤ n ∧ i = .int .i64 j ∧ q = .int .i64 (k + 2 * (j : Int)) ∧ Ext w wr) (fun _ i _ => n - (intOf i).toNat)
  case atStart => exact ⟨0, Nat.zero_le _, rfl, by simp, (by repeat (first | (with_reducible first | exact Ext.refl _ | assumption | apply Ext.alloc | apply Ext.drew | apply Ext.drewN | refine Ext.setCell ?_ ?_ _ | refine Ext.trans ?_ (by assumption)) | (show _ ≤ _; first | omega | (dsimp only; omega) | (simp; done) | (simp; omega))))⟩
  case round =>
    obtain ⟨j, hj, rfl, rfl, hx⟩ := hrel
    by_cases hlt : j < n
    · rcases g1 with g1 | ⟨b1, o1, rfl, hb1, g1⟩
      · omega
      have hls : j < (marksL n k).length := by rw [marksL_length]; exact hlt
      have d1 := g1 _ _ (leaf_c0 (marksL n k) j hls)
      have d2 := g1 _ _ (leaf_c1 (marksL n k) j hls)
      rw [marksL_get] at d1 d2
      have l1 : b1 < wr.heap.size := Nat.lt_of_lt_of_le hb1 hx.size
      have e1 : wr.cell? ⟨b1, o1 + j * 2, none⟩ = some (.string (markI (k + 2 * (j : Int)))) := (hx.cell b1 _ hb1).trans d1
      have e2 : wr.cell? ⟨b1, o1 + j * 2 + 1, none⟩ = some (.string (markI (k + 2 * (j : Int) + 1))) := (hx.cell b1 _ hb1).trans d2
      have m1 : 1 ≤ k + 2 * (j : Int) ∧ k + 2 * (j : Int) ≤ 1099511627776 := by omega
      have m2 : 1 ≤ k + 2 * (j : Int) + 1 ∧ k + 2 * (j : Int) + 1 ≤ 1099511627776 := by omega
      clear g1 d1 d2
      go_wp2_with fail
      go_region_held3 (fun W => W.cell? ⟨b1, o1 + j * 2, none⟩ = some (.string (markI (k + 2 * (j : Int))))) (first | exact e1 | exact (ya.cell _ _ l1).trans e1) ((go_at_call 70; refine (laws_markText _ _ m1).mono ?_; rintro e wa ⟨rfl, xa⟩; have ya : Ext wr wa := (by repeat (first | (with_reducible first | exact Ext.refl _ | assumption | apply Ext.alloc | apply Ext.drew | apply Ext.drewN | refine Ext.setCell ?_ ?_ _ | refine Ext.trans ?_ (by assumption)) | (show _ ≤ _; first | omega | (dsimp only; omega) | (simp; done) | (simp; omega))))))
      all_goals
        have e3 := (ya.cell _ _ l1).trans e2
        have l2 : b1 < wa.heap.size := Nat.lt_of_lt_of_le l1 ya.size
        go_wp2_with fail
        go_region_held3 (fun W => W.cell? ⟨b1, o1 + j * 2 + 1, none⟩ = some (.string (markI (k + 2 * (j : Int) + 1)))) (first | exact e3 | exact (yb.cell _ _ l2).trans e3) ((go_at_call 70; refine (laws_markText _ _ m2).mono ?_; rintro e wb ⟨rfl, xb⟩; have yb : Ext wa wb := (by repeat (first | (with_reducible first | exact Ext.refl _ | assumption | apply Ext.alloc | apply Ext.drew | apply Ext.drewN | refine Ext.setCell ?_ ?_ _ | refine Ext.trans ?_ (by assumption)) | (show _ ≤ _; first | omega | (dsimp only; omega) | (simp; done) | (simp; omega))))))
        all_goals
          go_wp2
          go_roundw
          case rel => exact ⟨j + 1, by omega, by go_num, by go_num, (by repeat (first | (with_reducible first | exact Ext.refl _ | assumption | apply Ext.alloc | apply Ext.drew | apply Ext.drewN | refine Ext.setCell ?_ ?_ _ | refine Ext.trans ?_ (by assumption)) | (show _ ≤ _; first | omega | (dsimp only; omega) | (simp; done) | (simp; omega))))⟩
          case measure => simp [intOf]; omega
    · have hjn : j = n := by omega
      subst hjn
      clear g1
      go_wp2
      go_ret
      exact ⟨rfl, hx⟩
end Go.Proofs.YtagkcgbggeajkaaDoor
