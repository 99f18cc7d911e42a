/- Leaves: validity; the value of a name. -/
import Derived.Test.YtagkcgbggeajkaaDoorLeaf2
namespace Go.Proofs.YtagkcgbggeajkaaDoor
open Go.RowKit

def noLeaf : Leaf := ⟨⟨#[]⟩, ⟨#[]⟩⟩
/-- is leaf k right, and behind the one ahead of it? -/
def goodAt (xs : List Leaf) : Nat → Bool
  | 0 => nameOk (xs.getD 0 noLeaf).name && valueOk (xs.getD 0 noLeaf).value
  | j + 1 => nameOk (xs.getD (j + 1) noLeaf).name && (valueOk (xs.getD (j + 1) noLeaf).value && Op.bytesLess (xs.getD j noLeaf).name.toList (xs.getD (j + 1) noLeaf).name.toList)
def leavesOk (xs : List Leaf) : Bool := decide (xs.length ≤ 24) && (List.range xs.length).all (goodAt xs)
theorem leavesOk_true {xs : List Leaf} (h : ∀ i, i < xs.length → goodAt xs i = true) (hl : xs.length ≤ 24) : leavesOk xs = true := by
  rw [leavesOk, Bool.and_eq_true, decide_eq_true_eq, List.all_eq_true]
  exact ⟨hl, fun i hi => h i (List.mem_range.1 hi)⟩
theorem leavesOk_bad {xs : List Leaf} {i : Nat} (hi : i < xs.length) (h : goodAt xs i = false) : leavesOk xs = false := by
  cases hl : leavesOk xs
  · rfl
  · rw [leavesOk, Bool.and_eq_true, List.all_eq_true] at hl
    rw [hl.2 i (List.mem_range.2 hi)] at h
    cases h
theorem leavesOk_long {xs : List Leaf} (h : 24 < xs.length) : leavesOk xs = false := by
  rw [leavesOk, decide_eq_false (by omega)]; rfl
theorem good_succ {xs : List Leaf} {k : Nat} (h : ∀ i, i < k → goodAt xs i = true) (e : goodAt xs k = true) : ∀ i, i < k + 1 → goodAt xs i = true := by
  intro i hi
  rcases Nat.lt_or_eq_of_le (Nat.le_of_lt_succ hi) with h1 | rfl
  · exact h i h1
  · exact e

set_option maxHeartbeats 1600000 in
theorem impl_LeavesOk (v : Value) (xs : List Leaf) (w : World) (h : Lvs w v xs) (hs : LeafFit xs) :
    Calls Tryd.prog 62 #[v] w fun e w' => e = .returned (.bool (leavesOk xs)) ∧ Ext w w' := by
  obtain ⟨-, a1, c1, rfl, hc1, hm1, g1⟩ := h
  unfold maxLen at hm1
  go_enter Tryd.func62, Tryd.ntmps62
  go_wp2
  go_loopw [7] (fun i wr => ∃ k : Nat, k ≤ xs.length ∧ k ≤ 24 ∧ i = .int .i64 k ∧ (∀ i, i < k → goodAt xs i = true) ∧ Ext w wr) (fun i _ => 30 - (intOf i).toNat)
  case atStart => exact ⟨0, Nat.zero_le _, by omega, rfl, by omega, Ext.refl _⟩
  case round =>
    obtain ⟨k, hk, hk24, rfl, hall, hx⟩ := hrel
    have HA := Lib.hid hall
    clear hall
    by_cases hlt : k < xs.length
    · rcases g1 with g1 | ⟨b1, o1, rfl, hb1, g1⟩
      · omega
      have e1 : wr.cell? ⟨b1, o1 + k * 2, none⟩ = some (.string xs[k].name) := (hx.cell b1 _ hb1).trans (g1 _ _ (leaf_c0 xs k hlt))
      have e2 : wr.cell? ⟨b1, o1 + k * 2 + 1, none⟩ = some (.string xs[k].value) := (hx.cell b1 _ hb1).trans (g1 _ _ (leaf_c1 xs k hlt))
      obtain ⟨s1, s2⟩ := hs xs[k] (List.getElem_mem hlt)
      have l1 : b1 < wr.heap.size := Nat.lt_of_lt_of_le hb1 hx.size
      have hgd : xs.getD k noLeaf = xs[k] := by simp [hlt]
      by_cases h24 : 24 ≤ k
      · have hr : leavesOk xs = false := leavesOk_long (by omega)
        have HR := Lib.hid hr
        have d1 : decide ((24 : Int) ≤ (k : Int)) = true := by simp; omega
        clear hr g1 hs hgd
        go_wp2
        go_quiet (fail)
        go_wp2
        go_ret
        exact ⟨ret_bool HR.out.symm, (by repeat (first | (with_reducible first | exact Ext.refl _ | assumption | apply Ext.alloc | apply Ext.drew | apply Ext.drewN | refine Ext.setCell ?_ ?_ _ | refine Ext.trans ?_ (by assumption)) | (show _ ≤ _; first | omega | (dsimp only; omega) | (simp; done) | (simp; omega))))⟩
      have d1 : decide ((24 : Int) ≤ (k : Int)) = false := by simp; omega
      cases hn : nameOk xs[k].name
      · have hr : leavesOk xs = false := leavesOk_bad hlt (by cases k <;> simp only [goodAt, hgd, hn, Bool.false_and])
        have HR := Lib.hid hr
        have HN : ∀ W, Calls Tryd.prog 74 #[.string xs[k].name] W fun e w' => e = .returned (.bool false) ∧ W = w' := fun W => by rw [← hn]; exact impl_NameOk _ W s1
        have HC := Lib.hid HN
        clear hr g1 hs hgd hn HN
        go_wp2
        go_quiet ((go_at_call 74; exact quiet_left (HC.out _)))
        go_wp2
        go_ret
        exact ⟨ret_bool HR.out.symm, (by repeat (first | (with_reducible first | exact Ext.refl _ | assumption | apply Ext.alloc | apply Ext.drew | apply Ext.drewN | refine Ext.setCell ?_ ?_ _ | refine Ext.trans ?_ (by assumption)) | (show _ ≤ _; first | omega | (dsimp only; omega) | (simp; done) | (simp; omega))))⟩
      have HN : ∀ W, Calls Tryd.prog 74 #[.string xs[k].name] W fun e w' => e = .returned (.bool true) ∧ W = w' := fun W => by rw [← hn]; exact impl_NameOk _ W s1
      have HC := Lib.hid HN
      have HNn := Lib.hid hn
      clear hn HN
      cases hv : valueOk xs[k].value
      · have hr : leavesOk xs = false := leavesOk_bad hlt (by cases k <;> simp only [goodAt, hgd, hv, Bool.false_and, Bool.and_false])
        have HR := Lib.hid hr
        have HV : ∀ W, Calls Tryd.prog 98 #[.string xs[k].value] W fun e w' => e = .returned (.bool false) ∧ W = w' := fun W => by rw [← hv]; exact impl_ValueOk _ W s2
        have HD := Lib.hid HV
        clear hr g1 hs hgd hv HV
        go_wp2
        go_quiet ((first | (go_at_call 74; exact quiet_left (HC.out _)) | (go_at_call 98; exact quiet_left (HD.out _))))
        go_wp2
        go_ret
        exact ⟨ret_bool HR.out.symm, (by repeat (first | (with_reducible first | exact Ext.refl _ | assumption | apply Ext.alloc | apply Ext.drew | apply Ext.drewN | refine Ext.setCell ?_ ?_ _ | refine Ext.trans ?_ (by assumption)) | (show _ ≤ _; first | omega | (dsimp only; omega) | (simp; done) | (simp; omega))))⟩
      have HV : ∀ W, Calls Tryd.prog 98 #[.string xs[k].value] W fun e w' => e = .returned (.bool true) ∧ W = w' := fun W => by rw [← hv]; exact impl_ValueOk _ W s2
      have HD := Lib.hid HV
      have HVv := Lib.hid hv
      clear hv HV
      by_cases hk0 : k = 0
      · subst hk0
        have hgood : goodAt xs 0 = true := by simp only [goodAt, hgd, HNn.out, HVv.out, Bool.and_self]
        have HG := Lib.hid hgood
        rw [Nat.zero_mul, Nat.add_zero] at e1 e2
        clear g1 hs hgd hgood d1
        go_wp2
        go_quiet ((first | (go_at_call 74; exact quiet_left (HC.out _)) | (go_at_call 98; exact quiet_left (HD.out _))))
        go_wp2
        go_roundw
        case rel => exact ⟨0 + 1, by omega, by omega, by go_num, good_succ HA.out HG.out, (by repeat (first | (with_reducible first | exact Ext.refl _ | assumption | apply Ext.alloc | apply Ext.drew | apply Ext.drewN | refine Ext.setCell ?_ ?_ _ | refine Ext.trans ?_ (by assumption)) | (show _ ≤ _; first | omega | (dsimp only; omega) | (simp; done) | (simp; omega))))⟩
        case measure => simp [intOf]
      obtain ⟨j, hj⟩ : ∃ j, k = j + 1 := ⟨k - 1, by omega⟩
      have hlj : j < xs.length := by omega
      have e3 : wr.cell? ⟨b1, o1 + j * 2, none⟩ = some (.string xs[j].name) := (hx.cell b1 _ hb1).trans (g1 _ _ (leaf_c0 xs j hlj))
      have hgj : xs.getD j noLeaf = xs[j] := by simp [hlj]
      have d2 : decide (0 < k) = true := by simp; omega
      have w1 : IntKind.i64.wrap ((k : Int) - 1) = (j : Int) := by rw [IntKind.wrap_i64]; omega
      have hgood : goodAt xs k = Op.bytesLess xs[j].name.toList xs[k].name.toList := by
        subst hj
        simp only [goodAt, hgd, hgj, HNn.out, HVv.out, Bool.true_and]
      clear g1 hs hj
      cases hls : Op.bytesLess xs[j].name.toList xs[k].name.toList
      · rw [hls] at hgood
        have hr : leavesOk xs = false := leavesOk_bad hlt hgood
        have HR := Lib.hid hr
        clear hr hgood hgd hgj
        go_wp2
        go_quiet ((first | (go_at_call 74; exact quiet_left (HC.out _)) | (go_at_call 98; exact quiet_left (HD.out _))))
        go_wp2
        go_ret
        exact ⟨ret_bool HR.out.symm, (by repeat (first | (with_reducible first | exact Ext.refl _ | assumption | apply Ext.alloc | apply Ext.drew | apply Ext.drewN | refine Ext.setCell ?_ ?_ _ | refine Ext.trans ?_ (by assumption)) | (show _ ≤ _; first | omega | (dsimp only; omega) | (simp; done) | (simp; omega))))⟩
      · rw [hls] at hgood
        have HG := Lib.hid hgood
        clear hgood hgd hgj
        go_wp2
        go_quiet ((first | (go_at_call 74; exact quiet_left (HC.out _)) | (go_at_call 98; exact quiet_left (HD.out _))))
        go_wp2
        go_roundw
        case rel => exact ⟨k + 1, by omega, by omega, by go_num, good_succ HA.out HG.out, (by repeat (first | (with_reducible first | exact Ext.refl _ | assumption | apply Ext.alloc | apply Ext.drew | apply Ext.drewN | refine Ext.setCell ?_ ?_ _ | refine Ext.trans ?_ (by assumption)) | (show _ ≤ _; first | omega | (dsimp only; omega) | (simp; done) | (simp; omega))))⟩
        case measure => simp [intOf]; omega
    · have hlen : xs.length ≤ 24 := by omega
      have he : leavesOk xs = true := leavesOk_true (fun i hi => HA.out i (by omega)) hlen
      have HE := Lib.hid he
      clear he
      go_wp2
      go_ret
      exact ⟨ret_bool HE.out.symm, (by repeat (first | (with_reducible first | exact Ext.refl _ | assumption | apply Ext.alloc | apply Ext.drew | apply Ext.drewN | refine Ext.setCell ?_ ?_ _ | refine Ext.trans ?_ (by assumption)) | (show _ ≤ _; first | omega | (dsimp only; omega) | (simp; done) | (simp; omega))))⟩
set_option maxHeartbeats 1600000 in
theorem spec_LeavesOk (v : Value) (xs : List Leaf) (w : World) (h : Lvs w v xs) (hs : LeafFit xs) :
    Calls Tryd.prog 56 #[v] w fun e w' => e = .returned (.bool (leavesOk xs)) ∧ Ext w w' := by
  obtain ⟨-, a1, c1, rfl, hc1, hm1, g1⟩ := h
  unfold maxLen at hm1
  go_enter Tryd.func56, Tryd.ntmps56
  go_wp2
  go_loopw [3] (fun i wr => ∃ k : Nat, k ≤ xs.length ∧ i = .int .i64 k ∧ (∀ i, i < k → goodAt xs i = true) ∧ Ext w wr) (fun i _ => xs.length - (intOf i).toNat)
  case atStart => exact ⟨0, Nat.zero_le _, rfl, by omega, Ext.refl _⟩
  case round =>
    obtain ⟨k, hk, rfl, hall, hx⟩ := hrel
    have HA := Lib.hid hall
    clear hall
    by_cases hlt : k < xs.length
    · rcases g1 with g1 | ⟨b1, o1, rfl, hb1, g1⟩
      · omega
      have e1 : wr.cell? ⟨b1, o1 + k * 2, none⟩ = some (.string xs[k].name) := (hx.cell b1 _ hb1).trans (g1 _ _ (leaf_c0 xs k hlt))
      have e2 : wr.cell? ⟨b1, o1 + k * 2 + 1, none⟩ = some (.string xs[k].value) := (hx.cell b1 _ hb1).trans (g1 _ _ (leaf_c1 xs k hlt))
      obtain ⟨s1, s2⟩ := hs xs[k] (List.getElem_mem hlt)
      have l1 : b1 < wr.heap.size := Nat.lt_of_lt_of_le hb1 hx.size
      have hgd : xs.getD k noLeaf = xs[k] := by simp [hlt]
      cases hn : nameOk xs[k].name
      · have hr : leavesOk xs = false := leavesOk_bad hlt (by cases k <;> simp only [goodAt, hgd, hn, Bool.false_and])
        have HR := Lib.hid hr
        have HN : ∀ W, Calls Tryd.prog 71 #[.string xs[k].name] W fun e w' => e = .returned (.bool false) ∧ W = w' := fun W => by rw [← hn]; exact spec_NameOk _ W s1
        have HC := Lib.hid HN
        clear hr g1 hs hgd hn HN
        go_wp2
        go_quiet ((go_at_call 71; exact quiet_left (HC.out _)))
        go_wp2
        go_ret
        exact ⟨ret_bool HR.out.symm, (by repeat (first | (with_reducible first | exact Ext.refl _ | assumption | apply Ext.alloc | apply Ext.drew | apply Ext.drewN | refine Ext.setCell ?_ ?_ _ | refine Ext.trans ?_ (by assumption)) | (show _ ≤ _; first | omega | (dsimp only; omega) | (simp; done) | (simp; omega))))⟩
      have HN : ∀ W, Calls Tryd.prog 71 #[.string xs[k].name] W fun e w' => e = .returned (.bool true) ∧ W = w' := fun W => by rw [← hn]; exact spec_NameOk _ W s1
      have HC := Lib.hid HN
      have HNn := Lib.hid hn
      clear hn HN
      cases hv : valueOk xs[k].value
      · have hr : leavesOk xs = false := leavesOk_bad hlt (by cases k <;> simp only [goodAt, hgd, hv, Bool.false_and, Bool.and_false])
        have HR := Lib.hid hr
        have HV : ∀ W, Calls Tryd.prog 96 #[.string xs[k].value] W fun e w' => e = .returned (.bool false) ∧ W = w' := fun W => by rw [← hv]; exact spec_ValueOk _ W s2
        have HD := Lib.hid HV
        clear hr g1 hs hgd hv HV
        go_wp2
        go_quiet ((first | (go_at_call 71; exact quiet_left (HC.out _)) | (go_at_call 96; exact quiet_left (HD.out _))))
        go_wp2
        go_ret
        exact ⟨ret_bool HR.out.symm, (by repeat (first | (with_reducible first | exact Ext.refl _ | assumption | apply Ext.alloc | apply Ext.drew | apply Ext.drewN | refine Ext.setCell ?_ ?_ _ | refine Ext.trans ?_ (by assumption)) | (show _ ≤ _; first | omega | (dsimp only; omega) | (simp; done) | (simp; omega))))⟩
      have HV : ∀ W, Calls Tryd.prog 96 #[.string xs[k].value] W fun e w' => e = .returned (.bool true) ∧ W = w' := fun W => by rw [← hv]; exact spec_ValueOk _ W s2
      have HD := Lib.hid HV
      have HVv := Lib.hid hv
      clear hv HV
      by_cases hk0 : k = 0
      · subst hk0
        have hgood : goodAt xs 0 = true := by simp only [goodAt, hgd, HNn.out, HVv.out, Bool.and_self]
        have HG := Lib.hid hgood
        rw [Nat.zero_mul, Nat.add_zero] at e1 e2
        clear g1 hs hgd hgood
        go_wp2
        go_quiet ((first | (go_at_call 71; exact quiet_left (HC.out _)) | (go_at_call 96; exact quiet_left (HD.out _))))
        go_wp2
        go_roundw
        case rel => exact ⟨0 + 1, by omega, by go_num, good_succ HA.out HG.out, (by repeat (first | (with_reducible first | exact Ext.refl _ | assumption | apply Ext.alloc | apply Ext.drew | apply Ext.drewN | refine Ext.setCell ?_ ?_ _ | refine Ext.trans ?_ (by assumption)) | (show _ ≤ _; first | omega | (dsimp only; omega) | (simp; done) | (simp; omega))))⟩
        case measure => simp [intOf]; omega
      obtain ⟨j, hj⟩ : ∃ j, k = j + 1 := ⟨k - 1, by omega⟩
      have hlj : j < xs.length := by omega
      have e3 : wr.cell? ⟨b1, o1 + j * 2, none⟩ = some (.string xs[j].name) := (hx.cell b1 _ hb1).trans (g1 _ _ (leaf_c0 xs j hlj))
      have hgj : xs.getD j noLeaf = xs[j] := by simp [hlj]
      have d2 : decide (0 < k) = true := by simp; omega
      have w1 : IntKind.i64.wrap ((k : Int) - 1) = (j : Int) := by rw [IntKind.wrap_i64]; omega
      have hgood : goodAt xs k = Op.bytesLess xs[j].name.toList xs[k].name.toList := by
        subst hj
        simp only [goodAt, hgd, hgj, HNn.out, HVv.out, Bool.true_and]
      clear g1 hs hj
      cases hls : Op.bytesLess xs[j].name.toList xs[k].name.toList
      · rw [hls] at hgood
        have hr : leavesOk xs = false := leavesOk_bad hlt hgood
        have HR := Lib.hid hr
        clear hr hgood hgd hgj
        go_wp2
        go_quiet ((first | (go_at_call 71; exact quiet_left (HC.out _)) | (go_at_call 96; exact quiet_left (HD.out _))))
        go_wp2
        go_ret
        exact ⟨ret_bool HR.out.symm, (by repeat (first | (with_reducible first | exact Ext.refl _ | assumption | apply Ext.alloc | apply Ext.drew | apply Ext.drewN | refine Ext.setCell ?_ ?_ _ | refine Ext.trans ?_ (by assumption)) | (show _ ≤ _; first | omega | (dsimp only; omega) | (simp; done) | (simp; omega))))⟩
      · rw [hls] at hgood
        have HG := Lib.hid hgood
        clear hgood hgd hgj
        go_wp2
        go_quiet ((first | (go_at_call 71; exact quiet_left (HC.out _)) | (go_at_call 96; exact quiet_left (HD.out _))))
        go_wp2
        go_roundw
        case rel => exact ⟨k + 1, by omega, by go_num, good_succ HA.out HG.out, (by repeat (first | (with_reducible first | exact Ext.refl _ | assumption | apply Ext.alloc | apply Ext.drew | apply Ext.drewN | refine Ext.setCell ?_ ?_ _ | refine Ext.trans ?_ (by assumption)) | (show _ ≤ _; first | omega | (dsimp only; omega) | (simp; done) | (simp; omega))))⟩
        case measure => simp [intOf]; omega
    · have hall2 : ∀ i, i < xs.length → goodAt xs i = true := fun i hi => HA.out i (by omega)
      have he : leavesOk xs = decide (xs.length ≤ 24) := by
        by_cases h : xs.length ≤ 24
        · rw [leavesOk_true hall2 h]; simp [h]
        · rw [leavesOk_long (by omega)]; simp [h]
      have HE := Lib.hid he
      clear he hall2
      go_wp2
      go_ret
      exact ⟨ret_bool (by rw [HE.out, Bool.eq_iff_iff]; simp; omega), (by repeat (first | (with_reducible first | exact Ext.refl _ | assumption | apply Ext.alloc | apply Ext.drew | apply Ext.drewN | refine Ext.setCell ?_ ?_ _ | refine Ext.trans ?_ (by assumption)) | (show _ ≤ _; first | omega | (dsimp only; omega) | (simp; done) | (simp; omega))))⟩
end Go.Proofs.YtagkcgbggeajkaaDoor
