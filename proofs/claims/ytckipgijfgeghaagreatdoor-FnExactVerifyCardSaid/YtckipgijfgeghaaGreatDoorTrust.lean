/- Trusts. -/
import Derived.Test.YtckipgijfgeghaaGreatDoorStrA
import Derived.Deep.RegionHeld3
namespace Go.Proofs.YtckipgijfgeghaaGreatDoor
open Go.RowKit

def trustOk (roots : List ByteArray) (k need : Int) : Bool := inB roots.length 1 3 && (wide roots 16 && (inB k 0 2 && inB need 0 2))

set_option maxHeartbeats 400000 in
theorem laws_toTrust (v : Value) (xs : List ByteArray) (k need : Int) (w : World) (h : Strs w v xs) (hb : xs.length ≤ 1099511627776) :
    Calls Tryz.prog 8 #[.agg #[v, .int .i64 k, .int .i64 need]] w fun e w' => ∃ a c, e = .returned (.agg #[.slice a xs.length c, .int .i64 k, .int .i64 need]) ∧ OwnStrs w' w.heap.size (.slice a xs.length c) xs ∧ Ext w w' := by
  go_enter Tryz.func8, Tryz.ntmps8
  go_wp2_with fail
  refine (laws_toStringS _ xs _ (h.ext (by repeat (first | (with_reducible first | exact Ext.refl _ | assumption | apply Ext.alloc | apply Ext.drew | apply Ext.drewN | refine Ext.setCell ?_ ?_ _ | refine Ext.trans ?_ (by assumption)) | (show _ ≤ _; first | omega | (dsimp only; omega) | (simp; done) | (simp; omega))))) hb).mono ?_
  rintro e w1 ⟨a1, c1, rfl, ho, hx⟩
  have hc := hx.cell
  have hf := hx.frozen
  have hz := hx.size
  simp only [World.size_alloc] at hz hc hf
  have HO := Lib.hid ho
  clear ho
  go_wp2
  refine bodyPost_ret (v := .agg #[.slice a1 xs.length c1, .int .i64 k, .int .i64 need]) (by simp [results, Tryz.results8, go_sem, hc]) rfl ⟨_, _, rfl, ?_, (by repeat (first | (with_reducible first | exact Ext.refl _ | assumption | apply Ext.alloc | apply Ext.drew | apply Ext.drewN | refine Ext.setCell ?_ ?_ _ | refine Ext.trans ?_ (by assumption)) | (show _ ≤ _; first | omega | (dsimp only; omega) | (simp; done) | (simp; omega))))⟩
  have ho := HO.out
  clear hc hf HO
  simp only [World.size_alloc] at ho
  exact (by show World.ownsRow _ _ _ _ _ _ _; apply own_mono; (repeat (with_reducible first | apply own_below | apply own_alloc | apply own_drew | apply own_drewN | refine own_ext ?_ (by assumption))); exact ho; all_goals (first | omega | (dsimp only; omega) | (simp; done) | (simp; omega)))

theorem laws_szTrust (v : Value) (xs : List ByteArray) (k need left : Int) (w : World) (h : Strs w v xs) (hl : 0 ≤ left ∧ left ≤ 1048576) (hs : ∀ s ∈ xs, s.size ≤ maxLen) :
    Calls Tryz.prog 5 #[.agg #[v, .int .i64 k, .int .i64 need], .int .i64 left] w fun e w' => e = .returned (.int .i64 (szr left (xs.length + sizes xs))) ∧ Ext w w' := by
  have hcase : szr left (xs.length + sizes xs) = -1 ∨ 0 ≤ szr left (xs.length + sizes xs) := by simp only [szr]; split <;> omega
  generalize hz : szr left (xs.length + sizes xs) = z at *
  have HZ := Lib.hid hz
  clear hz
  rcases hcase with rfl | hcase
  all_goals
    go_enter Tryz.func5, Tryz.ntmps5
    go_wp2_with (go_at_call 18; refine (laws_szStringS _ xs _ _ (h.ext (by repeat (first | (with_reducible first | exact Ext.refl _ | assumption | apply Ext.alloc | apply Ext.drew | apply Ext.drewN | refine Ext.setCell ?_ ?_ _ | refine Ext.trans ?_ (by assumption)) | (show _ ≤ _; first | omega | (dsimp only; omega) | (simp; done) | (simp; omega))))) hl hs).mono ?_; rw [HZ.out]; rintro e w' ⟨rfl, rfl⟩)
    go_ret
    exact ⟨rfl, (by repeat (first | (with_reducible first | exact Ext.refl _ | assumption | apply Ext.alloc | apply Ext.drew | apply Ext.drewN | refine Ext.setCell ?_ ?_ _ | refine Ext.trans ?_ (by assumption)) | (show _ ≤ _; first | omega | (dsimp only; omega) | (simp; done) | (simp; omega))))⟩

set_option maxHeartbeats 400000 in
theorem laws_eqTrust (v1 v2 : Value) (xs ys : List ByteArray) (k1 n1 k2 n2 : Int) (w : World) (h1 : Strs w v1 xs) (h2 : Strs w v2 ys) :
    Calls Tryz.prog 11 #[.agg #[v1, .int .i64 k1, .int .i64 n1], .agg #[v2, .int .i64 k2, .int .i64 n2]] w fun e w' => e = .returned (.bool (decide (xs = ys) && (decide (k1 = k2) && decide (n1 = n2)))) ∧ Ext w w' := by
  go_enter Tryz.func11, Tryz.ntmps11
  go_wp2_with (go_at_call 42; refine (laws_eqStringS _ _ xs ys _ (h1.ext (by repeat (first | (with_reducible first | exact Ext.refl _ | assumption | apply Ext.alloc | apply Ext.drew | apply Ext.drewN | refine Ext.setCell ?_ ?_ _ | refine Ext.trans ?_ (by assumption)) | (show _ ≤ _; first | omega | (dsimp only; omega) | (simp; done) | (simp; omega))))) (h2.ext (by repeat (first | (with_reducible first | exact Ext.refl _ | assumption | apply Ext.alloc | apply Ext.drew | apply Ext.drewN | refine Ext.setCell ?_ ?_ _ | refine Ext.trans ?_ (by assumption)) | (show _ ≤ _; first | omega | (dsimp only; omega) | (simp; done) | (simp; omega)))))).mono ?_; rintro e w1 ⟨rfl, hx⟩; have hc := hx.cell; have hz := hx.size; simp only [World.size_alloc] at hz hc)
  all_goals go_ret
  all_goals refine ⟨ret_bool ?_, (by repeat (first | (with_reducible first | exact Ext.refl _ | assumption | apply Ext.alloc | apply Ext.drew | apply Ext.drewN | refine Ext.setCell ?_ ?_ _ | refine Ext.trans ?_ (by assumption)) | (show _ ≤ _; first | omega | (dsimp only; omega) | (simp; done) | (simp; omega))))⟩
  all_goals simp_all
set_option maxHeartbeats 400000 in
theorem impl_TrustOk (v : Value) (xs : List ByteArray) (k need : Int) (w : World) (h : Strs w v xs) (hs : ∀ s ∈ xs, s.size ≤ maxLen) :
    Calls Tryz.prog 73 #[.agg #[v, .int .i64 k, .int .i64 need]] w fun e w' => e = .returned (.bool (trustOk xs k need)) ∧ Ext w w' := by
  obtain ⟨a, c, rfl⟩ := h.form
  go_enter Tryz.func73, Tryz.ntmps73
  go_wp2_with (first | (go_at_call 39; refine (impl_in _ _ _ _).mono ?_; rintro e w' ⟨rfl, rfl⟩) | (go_at_call 75; refine (impl_haveWidth _ xs _ _ _ (h.ext (by repeat (first | (with_reducible first | exact Ext.refl _ | assumption | apply Ext.alloc | apply Ext.drew | apply Ext.drewN | refine Ext.setCell ?_ ?_ _ | refine Ext.trans ?_ (by assumption)) | (show _ ≤ _; first | omega | (dsimp only; omega) | (simp; done) | (simp; omega))))) hs).mono ?_; rintro e w' ⟨rfl, rfl⟩) | (go_at_call 117; go_in))
  all_goals go_ret
  all_goals refine ⟨ret_bool ?_, (by repeat (first | (with_reducible first | exact Ext.refl _ | assumption | apply Ext.alloc | apply Ext.drew | apply Ext.drewN | refine Ext.setCell ?_ ?_ _ | refine Ext.trans ?_ (by assumption)) | (show _ ≤ _; first | omega | (dsimp only; omega) | (simp; done) | (simp; omega))))⟩
  all_goals simp_all [trustOk]
set_option maxHeartbeats 400000 in
theorem spec_TrustOk (v : Value) (xs : List ByteArray) (k need : Int) (w : World) (h : Strs w v xs) (hs : ∀ s ∈ xs, s.size ≤ maxLen) :
    Calls Tryz.prog 56 #[.agg #[v, .int .i64 k, .int .i64 need]] w fun e w' => e = .returned (.bool (trustOk xs k need)) ∧ Ext w w' := by
  obtain ⟨a, c, rfl⟩ := h.form
  go_enter Tryz.func56, Tryz.ntmps56
  go_wp2_with (first | (go_at_call 27; refine (spec_l01In _ _ _ _).mono ?_; rintro e w' ⟨rfl, rfl⟩) | (go_at_call 58; refine (spec_l11Wide _ xs _ _ (h.ext (by repeat (first | (with_reducible first | exact Ext.refl _ | assumption | apply Ext.alloc | apply Ext.drew | apply Ext.drewN | refine Ext.setCell ?_ ?_ _ | refine Ext.trans ?_ (by assumption)) | (show _ ≤ _; first | omega | (dsimp only; omega) | (simp; done) | (simp; omega))))) hs).mono ?_; rintro e w' ⟨rfl, rfl⟩))
  all_goals go_ret
  all_goals refine ⟨ret_bool ?_, (by repeat (first | (with_reducible first | exact Ext.refl _ | assumption | apply Ext.alloc | apply Ext.drew | apply Ext.drewN | refine Ext.setCell ?_ ?_ _ | refine Ext.trans ?_ (by assumption)) | (show _ ≤ _; first | omega | (dsimp only; omega) | (simp; done) | (simp; omega))))⟩
  all_goals simp_all [trustOk, show inB 16 1 32 = true from rfl]

end Go.Proofs.YtckipgijfgeghaaGreatDoor
