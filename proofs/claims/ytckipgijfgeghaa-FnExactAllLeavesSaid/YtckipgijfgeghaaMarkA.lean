/- Mark, Mark2 in one text. -/
import Derived.Test.YtckipgijfgeghaaLeafA
import Derived.Test.YtckipgijfgeghaaCore
import Derived.Test.YtckipgijfgeghaaFields
import Derived.Test.YtckipgijfgeghaaStrA
import Derived.Deep.RegionHeld3
namespace Go.Proofs.Ytckipgijfgeghaa
open Go.RowKit

def digits (n : Nat) (acc : ByteArray) : ByteArray := if n = 0 then acc else digits (n / 10) (strOfNums [48 + (n : Int) % 10] ++ acc)
termination_by n
theorem digits_zero (acc : ByteArray) : digits 0 acc = acc := by rw [digits, if_pos rfl]
theorem digits_more {n : Nat} (acc : ByteArray) (h : n ≠ 0) : digits n acc = digits (n / 10) (strOfNums [48 + (n : Int) % 10] ++ acc) := by rw [digits, if_neg h]
/-- a mark -/
def markI (k : Int) : ByteArray := ⟨#[109]⟩ ++ digits k.toNat ⟨#[]⟩

set_option maxHeartbeats 400000 in
theorem laws_markText (k : Int) (w : World) (hk : 1 ≤ k ∧ k ≤ 1099511627776) :
    Calls Try.prog 36 #[.int .i64 k] w fun e w' => e = .returned (.string (markI k)) ∧ Ext w w' := by
  obtain ⟨n, rfl⟩ := Int.eq_ofNat_of_zero_le (show 0 ≤ k by omega)
  have hcv := conv_lit1
  go_enter Try.func36, Try.ntmps36
  go_wp2
  go_loopw [0, 3] (fun c v wr => ∃ (m : Nat) (acc : ByteArray), c = .int .i64 m ∧ v = .string acc ∧ digits m acc = digits n ⟨#[]⟩ ∧ acc.size + m ≤ n ∧ Ext w wr) (fun c _ _ => (intOf c).toNat)
  case atStart => exact ⟨n, ⟨#[]⟩, rfl, rfl, rfl, by simp [ByteArray.size], (by repeat (first | (with_reducible first | exact Ext.refl _ | assumption | apply Ext.alloc | apply Ext.drew | apply Ext.drewN | refine Ext.setCell ?_ ?_ _ | refine Ext.trans ?_ (by assumption)) | (show _ ≤ _; first | omega | (dsimp only; omega) | (simp; done) | (simp; omega))))⟩
  case round =>
    obtain ⟨m, acc, rfl, rfl, hd, hle, hx⟩ := hrel
    have HD := Lib.hid hd
    clear hd
    by_cases hm : 0 < m
    · have hz : (strOfNums [48 + (m : Int) % 10]).size = 1 := strOfNums_size _
      have e1 : (48 + (m : Int) % 10) % 256 = 48 + (m : Int) % 10 := by omega
      have HM := Lib.hid (digits_more acc (show m ≠ 0 by omega))
      go_wp2
      go_roundw
      case rel => exact ⟨m / 10, _, by go_num, rfl, by rw [← HM.out, HD.out], by rw [ByteArray.size_append, hz]; omega, (by repeat (first | (with_reducible first | exact Ext.refl _ | assumption | apply Ext.alloc | apply Ext.drew | apply Ext.drewN | refine Ext.setCell ?_ ?_ _ | refine Ext.trans ?_ (by assumption)) | (show _ ≤ _; first | omega | (dsimp only; omega) | (simp; done) | (simp; omega))))⟩
      case measure => simp [intOf]; omega
    · have h0 : m = 0 := by omega
      subst h0
      have hz : (ByteArray.mk #[109]).size = 1 := rfl
      go_wp2
      go_ret
      exact ⟨ret_str (by rw [markI, Int.toNat_natCast, ← HD.out, digits_zero]), hx⟩
end Go.Proofs.Ytckipgijfgeghaa
namespace Go.Proofs.Ytckipgijfgeghaa
open Go.RowKit

def markLeaf (k : Int) (i : Nat) : Leaf := ⟨markI (k + 2 * (i : Int)), markI (k + 2 * (i : Int) + 1)⟩
def marksL (n : Nat) (k : Int) : List Leaf := (List.range n).map (markLeaf k)
/-- the first i are marked -/
def markOn (xs : List Leaf) (k : Int) : Nat → List Leaf
  | 0 => xs
  | i + 1 => (markOn xs k i).set i (markLeaf k i)
theorem markOn_length (xs : List Leaf) (k : Int) : ∀ i, (markOn xs k i).length = xs.length
  | 0 => rfl
  | i + 1 => by rw [markOn, List.length_set, markOn_length xs k i]
theorem markOn_get (xs : List Leaf) (k : Int) (j : Nat) : ∀ i, i ≤ xs.length → (markOn xs k i)[j]? = if j < i then some (markLeaf k j) else xs[j]?
  | 0, _ => by simp [markOn]
  | i + 1, h => by
    rw [markOn, List.getElem?_set, markOn_get xs k j i (by omega), markOn_length]
    by_cases hj : i = j
    · subst hj; simp; omega
    · rw [if_neg hj]
      by_cases h2 : j < i
      · rw [if_pos h2, if_pos (by omega)]
      · rw [if_neg h2, if_neg (by omega)]
theorem markOn_all (xs : List Leaf) (k : Int) : markOn xs k xs.length = marksL xs.length k := by
  apply List.ext_getElem?
  intro j
  rw [markOn_get xs k j _ (Nat.le_refl _), marksL, List.getElem?_map]
  by_cases hj : j < xs.length
  · simp [hj]
  · simp [hj]
theorem leaf_flat_set (l : Leaf) : ∀ (xs : List Leaf) (i : Nat), i < xs.length → ((xs.flatMap Leaf.cells).set (i * 2) (.string l.name)).set (i * 2 + 1) (.string l.value) = (xs.set i l).flatMap Leaf.cells
  | [], i, h => by simp at h
  | x :: t, 0, _ => by simp [Leaf.cells]
  | x :: t, i + 1, h => by
    have ih := leaf_flat_set l t i (by simpa using h)
    rw [show (i + 1) * 2 = i * 2 + 1 + 1 by omega]
    simp only [List.flatMap_cons, Leaf.cells, List.cons_append, List.nil_append, List.set_cons_succ] at ih ⊢
    rw [ih]

set_option maxHeartbeats 800000 in
theorem laws_markLeafS (v : Value) (xs : List Leaf) (k : Int) (base : Nat) (w : World) (h : OwnLvs w base v xs) (hk : 1 ≤ k ∧ k + 2 * xs.length ≤ 1099511627776) :
    Calls Try.prog 13 #[v, .int .i64 k] w fun e w' => e = .returned (.int .i64 (k + 2 * xs.length)) ∧ OwnLvs w' base v (marksL xs.length k) ∧ w.grownBy w' v.ownBlock := by
  obtain ⟨a, c, rfl⟩ := own_any h
  have H := Lib.hid h
  clear h
  go_enter Try.func13, Try.ntmps13
  go_wp2
  go_loopw [1, 5] (fun q i wr => ∃ j : Nat, j ≤ xs.length ∧ i = .int .i64 j ∧ q = .int .i64 (k + 2 * (j : Int)) ∧ wr.ownsRow base 60 2 (.slice a xs.length c) xs.length ((markOn xs k j).flatMap Leaf.cells) ∧ w.grownBy wr (Value.slice a xs.length c).ownBlock) (fun _ i _ => xs.length - (intOf i).toNat)
  case atStart => exact ⟨0, Nat.zero_le _, rfl, by simp, H.out, ⟨rfl, rfl, rfl, Nat.le_refl _, fun _ _ _ => rfl⟩⟩
  case round =>
    obtain ⟨j, hj, rfl, rfl, hown, hx⟩ := hrel
    by_cases hlt : j < xs.length
    · obtain ⟨g, cap, hv⟩ := own_form hown (by omega)
      injection hv with e1 e2 e3
      subst e1 e3
      have hgb := (own_lt hown g rfl).2
      have hlen : ((markOn xs k j).flatMap Leaf.cells).length = xs.length * 2 := by rw [flat_length Leaf.cells_len, markOn_length]
      have hls : j < (markOn xs k j).length := by rw [markOn_length]; exact hlt
      have hg0 := leaf_c0 (markOn xs k j) j hls
      have hg1 := leaf_c1 (markOn xs k j) j hls
      have HX : Mut g w wr := hx
      have HO := Lib.hid hown
      have hset := leaf_flat_set (markLeaf k j) (markOn xs k j) j hls
      have HS := Lib.hid hset
      clear hx hset
      have m1 : 1 ≤ k + 2 * (j : Int) ∧ k + 2 * (j : Int) ≤ 1099511627776 := by omega
      have m2 : 1 ≤ k + 2 * (j : Int) + 1 ∧ k + 2 * (j : Int) + 1 ≤ 1099511627776 := by omega
      clear hown
      go_wp2_with fail
      refine (laws_markText _ _ m1).mono ?_
      rintro e w2 ⟨rfl, x2⟩
      have hown2 := own_ext HO.out x2
      have c2 : w2.cell? ⟨g, j * 2, none⟩ = some (.string (markOn xs k j)[j].name) := by rw [hown2.cellAt _ (by omega)]; exact hg0
      have f2 : w2.frozen? ⟨g, j * 2, none⟩ = false := hown2.frozenAt _
      have S2 := (hown2.stored (j * 2) (.string (markI (k + 2 * (j : Int))))).1
      have HS2 := Lib.hid S2
      clear S2 hown2
      go_wp2_with fail
      refine (laws_markText _ _ m2).mono ?_
      rintro e w4 ⟨rfl, x4⟩
      have hown4 := own_ext HS2.out x4
      have c4 : w4.cell? ⟨g, j * 2 + 1, none⟩ = some (.string (markOn xs k j)[j].value) := by rw [hown4.cellAt _ (by omega), List.getElem?_set_ne (by omega)]; exact hg1
      have f4 : w4.frozen? ⟨g, j * 2 + 1, none⟩ = false := hown4.frozenAt _
      have S4 := (hown4.stored (j * 2 + 1) (.string (markI (k + 2 * (j : Int) + 1)))).1
      have M4 : Mut g w (w4.setCell ⟨g, j * 2 + 1, none⟩ (.string (markI (k + 2 * (j : Int) + 1)))) := Mut.setCell (((HX.trans (Mut.of_ext x2)).setCell _ _).trans (Mut.of_ext x4)) _ _
      have HS4 := Lib.hid S4
      clear S4 hown4
      go_wp2
      go_roundw
      case rel => exact ⟨j + 1, by omega, by go_num, by go_num, by rw [markOn, ← HS.out]; exact HS4.out, M4⟩
      case measure => simp [intOf]; omega
    · have hjn : j = xs.length := by omega
      subst hjn
      rw [markOn_all] at hown
      have HO := Lib.hid hown
      clear hown
      go_wp2
      go_ret
      exact ⟨rfl, by unfold OwnLvs; rw [show (marksL xs.length k).length = xs.length by simp [marksL]]; exact HO.out, hx⟩

theorem marksL_length (n : Nat) (k : Int) : (marksL n k).length = n := by simp [marksL]
theorem marksL_get (n : Nat) (k : Int) (j : Nat) (h : j < (marksL n k).length) : (marksL n k)[j] = markLeaf k j := by simp [marksL]

set_option maxHeartbeats 800000 in
theorem laws_heldLeafS (v : Value) (n : Nat) (k : Int) (w : World) (h : Lvs w v (marksL n k)) (hk : 1 ≤ k ∧ k + 2 * n ≤ 1099511627776) :
    Calls Try.prog 14 #[v, .int .i64 k] w fun e w' => e = .returned (.int .i64 (k + 2 * n)) ∧ Ext w w' := by
  obtain ⟨-, a1, c1, rfl, hc1, hm1, g1⟩ := h
  rw [marksL_length] at *
  unfold maxLen at hm1
  go_enter Try.func14, Try.ntmps14
  go_wp2
  go_loopw [1, 5] (fun q i wr => ∃ j : Nat, j ≤ n ∧ i = .int .i64 j ∧ q = .int .i64 (k + 2 * (j : Int)) ∧ Ext w wr) (fun _ i _ => n - (intOf i).toNat)
  case atStart => exact ⟨0, Nat.zero_le _, rfl, by simp, (by repeat (first | (with_reducible first | exact Ext.refl _ | assumption | apply Ext.alloc | apply Ext.drew | apply Ext.drewN | refine Ext.setCell ?_ ?_ _ | refine Ext.trans ?_ (by assumption)) | (show _ ≤ _; first | omega | (dsimp only; omega) | (simp; done) | (simp; omega))))⟩
  case round =>
    obtain ⟨j, hj, rfl, rfl, hx⟩ := hrel
    by_cases hlt : j < n
    · rcases g1 with g1 | ⟨b1, o1, rfl, hb1, g1⟩
      · omega
      have hls : j < (marksL n k).length := by rw [marksL_length]; exact hlt
      have d1 := g1 _ _ (leaf_c0 (marksL n k) j hls)
      have d2 := g1 _ _ (leaf_c1 (marksL n k) j hls)
      rw [marksL_get] at d1 d2
      have l1 : b1 < wr.heap.size := Nat.lt_of_lt_of_le hb1 hx.size
      have e1 : wr.cell? ⟨b1, o1 + j * 2, none⟩ = some (.string (markI (k + 2 * (j : Int)))) := (hx.cell b1 _ hb1).trans d1
      have e2 : wr.cell? ⟨b1, o1 + j * 2 + 1, none⟩ = some (.string (markI (k + 2 * (j : Int) + 1))) := (hx.cell b1 _ hb1).trans d2
      have m1 : 1 ≤ k + 2 * (j : Int) ∧ k + 2 * (j : Int) ≤ 1099511627776 := by omega
      have m2 : 1 ≤ k + 2 * (j : Int) + 1 ∧ k + 2 * (j : Int) + 1 ≤ 1099511627776 := by omega
      clear g1 d1 d2
      go_wp2_with fail
      go_region_held3 (fun W => W.cell? ⟨b1, o1 + j * 2, none⟩ = some (.string (markI (k + 2 * (j : Int))))) (first | exact e1 | exact (ya.cell _ _ l1).trans e1) ((go_at_call 36; refine (laws_markText _ _ m1).mono ?_; rintro e wa ⟨rfl, xa⟩; have ya : Ext wr wa := (by repeat (first | (with_reducible first | exact Ext.refl _ | assumption | apply Ext.alloc | apply Ext.drew | apply Ext.drewN | refine Ext.setCell ?_ ?_ _ | refine Ext.trans ?_ (by assumption)) | (show _ ≤ _; first | omega | (dsimp only; omega) | (simp; done) | (simp; omega))))))
      all_goals
        have e3 := (ya.cell _ _ l1).trans e2
        have l2 : b1 < wa.heap.size := Nat.lt_of_lt_of_le l1 ya.size
        go_wp2_with fail
        go_region_held3 (fun W => W.cell? ⟨b1, o1 + j * 2 + 1, none⟩ = some (.string (markI (k + 2 * (j : Int) + 1)))) (first | exact e3 | exact (yb.cell _ _ l2).trans e3) ((go_at_call 36; refine (laws_markText _ _ m2).mono ?_; rintro e wb ⟨rfl, xb⟩; have yb : Ext wa wb := (by repeat (first | (with_reducible first | exact Ext.refl _ | assumption | apply Ext.alloc | apply Ext.drew | apply Ext.drewN | refine Ext.setCell ?_ ?_ _ | refine Ext.trans ?_ (by assumption)) | (show _ ≤ _; first | omega | (dsimp only; omega) | (simp; done) | (simp; omega))))))
        all_goals
          go_wp2
          go_roundw
          case rel => exact ⟨j + 1, by omega, by go_num, by go_num, (by repeat (first | (with_reducible first | exact Ext.refl _ | assumption | apply Ext.alloc | apply Ext.drew | apply Ext.drewN | refine Ext.setCell ?_ ?_ _ | refine Ext.trans ?_ (by assumption)) | (show _ ≤ _; first | omega | (dsimp only; omega) | (simp; done) | (simp; omega))))⟩
          case measure => simp [intOf]; omega
    · have hjn : j = n := by omega
      subst hjn
      clear g1
      go_wp2
      go_ret
      exact ⟨rfl, hx⟩
end Go.Proofs.Ytckipgijfgeghaa
