/- Heads: the laws on their texts. -/
import Derived.Test.YtnobaocicdppoaaHead3
namespace Go.Proofs.Ytnobaocicdppoaa
open Go.RowKit

theorem laws_eqHead (h1 e1 h2 e2 : Int) (r1 p1 r2 p2 : ByteArray) (w : World) :
    Calls Try.prog 21 #[.agg #[.int .i64 h1, .int .i64 e1, .string r1, .string p1], .agg #[.int .i64 h2, .int .i64 e2, .string r2, .string p2]] w fun e w' => e = .returned (.bool (decide (h1 = h2) && (decide (e1 = e2) && (decide (r1 = r2) && decide (p1 = p2))))) ∧ Ext w w' := by
  go_enter Try.func21, Try.ntmps21
  go_wp2
  all_goals go_ret
  all_goals refine ⟨ret_bool ?_, (by repeat (first | (with_reducible first | exact Ext.refl _ | assumption | apply Ext.alloc | apply Ext.drew | apply Ext.drewN | refine Ext.setCell ?_ ?_ _ | refine Ext.trans ?_ (by assumption)) | (show _ ≤ _; first | omega | (dsimp only; omega) | (simp; done) | (simp; omega))))⟩
  all_goals simp_all [toList_inj]

set_option maxHeartbeats 400000 in
theorem laws_FnExactHeadText (h ep : Int) (r p : ByteArray) (w : World) (hr : r.size ≤ maxLen) (hp : p.size ≤ maxLen) :
    Calls Try.prog 6 #[.agg #[.int .i64 h, .int .i64 ep, .string r, .string p]] w fun e w' => e = .returned (.bool true) ∧ Ext w w' := by
  have hcase : szr 1048576 (r.size + p.size) = -1 ∨ 0 ≤ szr 1048576 (r.size + p.size) := by simp only [szr]; split <;> omega
  generalize hz : szr 1048576 (r.size + p.size) = z at *
  have HZ := Lib.hid hz
  clear hz
  rcases hcase with rfl | hcase
  · go_enter Try.func6, Try.ntmps6
    go_wp2_with (go_at_call 13; refine (laws_szHead _ _ _ _ _ _ (by omega) hr hp).mono ?_; rw [HZ.out]; rintro e w1 ⟨rfl, x1⟩)
    go_ret
    exact ⟨rfl, (by repeat (first | (with_reducible first | exact Ext.refl _ | assumption | apply Ext.alloc | apply Ext.drew | apply Ext.drewN | refine Ext.setCell ?_ ?_ _ | refine Ext.trans ?_ (by assumption)) | (show _ ≤ _; first | omega | (dsimp only; omega) | (simp; done) | (simp; omega))))⟩
  · go_enter Try.func6, Try.ntmps6
    go_wp2_with (go_at_call 13; refine (laws_szHead _ _ _ _ _ _ (by omega) hr hp).mono ?_; rw [HZ.out]; rintro e w1 ⟨rfl, x1⟩; have E_x1 := Old.of x1; (repeat (first | (replace E_x1 := Old.undrew E_x1) | (replace E_x1 := Old.undrewN E_x1))); have c_E_x1 := Old.cell E_x1; have f_E_x1 := Old.frozen E_x1; have z_E_x1 := Old.size E_x1; try simp only [World.size_alloc] at c_E_x1 f_E_x1 z_E_x1; try have l_E_x1 := Nat.lt_of_succ_le z_E_x1; try have m_E_x1 := Nat.lt_of_succ_lt l_E_x1; try have n_E_x1 := Nat.lt_of_succ_lt m_E_x1)
    refine (laws_toHead _ _ _ _ _).mono ?_
    rintro e w2 ⟨rfl, x2⟩
    have E_x2 := Old.via E_x1 x2 (by repeat (first | (with_reducible first | exact Ext.refl _ | assumption | apply Ext.alloc | apply Ext.drew | apply Ext.drewN | refine Ext.setCell ?_ ?_ _ | refine Ext.trans ?_ (by assumption)) | (show _ ≤ _; first | omega | (dsimp only; omega) | (simp; done) | (simp; omega)))); clear c_E_x1 f_E_x1; (repeat (first | (replace E_x2 := Old.undrew E_x2) | (replace E_x2 := Old.undrewN E_x2))); have c_E_x2 := Old.cell E_x2; have f_E_x2 := Old.frozen E_x2; have z_E_x2 := Old.size E_x2; try simp only [World.size_alloc] at c_E_x2 f_E_x2 z_E_x2; try have l_E_x2 := Nat.lt_of_succ_le z_E_x2; try have m_E_x2 := Nat.lt_of_succ_lt l_E_x2; try have n_E_x2 := Nat.lt_of_succ_lt m_E_x2
    go_wp2_with fail
    refine (spec_HeadText _ _ _ _ _).mono ?_
    rintro e w3 ⟨rfl, x3⟩
    have E_x3 := Old.via E_x2 x3 (by repeat (first | (with_reducible first | exact Ext.refl _ | assumption | apply Ext.alloc | apply Ext.drew | apply Ext.drewN | refine Ext.setCell ?_ ?_ _ | refine Ext.trans ?_ (by assumption)) | (show _ ≤ _; first | omega | (dsimp only; omega) | (simp; done) | (simp; omega)))); clear c_E_x2 f_E_x2; (repeat (first | (replace E_x3 := Old.undrew E_x3) | (replace E_x3 := Old.undrewN E_x3))); have c_E_x3 := Old.cell E_x3; have f_E_x3 := Old.frozen E_x3; have z_E_x3 := Old.size E_x3; try simp only [World.size_alloc] at c_E_x3 f_E_x3 z_E_x3; try have l_E_x3 := Nat.lt_of_succ_le z_E_x3; try have m_E_x3 := Nat.lt_of_succ_lt l_E_x3; try have n_E_x3 := Nat.lt_of_succ_lt m_E_x3
    go_wp2_with fail
    refine (laws_toHead _ _ _ _ _).mono ?_
    rintro e w4 ⟨rfl, x4⟩
    have E_x4 := Old.via E_x3 x4 (by repeat (first | (with_reducible first | exact Ext.refl _ | assumption | apply Ext.alloc | apply Ext.drew | apply Ext.drewN | refine Ext.setCell ?_ ?_ _ | refine Ext.trans ?_ (by assumption)) | (show _ ≤ _; first | omega | (dsimp only; omega) | (simp; done) | (simp; omega)))); clear c_E_x3 f_E_x3; (repeat (first | (replace E_x4 := Old.undrew E_x4) | (replace E_x4 := Old.undrewN E_x4))); have c_E_x4 := Old.cell E_x4; have f_E_x4 := Old.frozen E_x4; have z_E_x4 := Old.size E_x4; try simp only [World.size_alloc] at c_E_x4 f_E_x4 z_E_x4; try have l_E_x4 := Nat.lt_of_succ_le z_E_x4; try have m_E_x4 := Nat.lt_of_succ_lt l_E_x4; try have n_E_x4 := Nat.lt_of_succ_lt m_E_x4
    go_wp2_with fail
    refine (impl_HeadText _ _ _ _ _).mono ?_
    rintro e w5 ⟨rfl, x5⟩
    have E_x5 := Old.via E_x4 x5 (by repeat (first | (with_reducible first | exact Ext.refl _ | assumption | apply Ext.alloc | apply Ext.drew | apply Ext.drewN | refine Ext.setCell ?_ ?_ _ | refine Ext.trans ?_ (by assumption)) | (show _ ≤ _; first | omega | (dsimp only; omega) | (simp; done) | (simp; omega)))); clear c_E_x4 f_E_x4; (repeat (first | (replace E_x5 := Old.undrew E_x5) | (replace E_x5 := Old.undrewN E_x5))); have c_E_x5 := Old.cell E_x5; have f_E_x5 := Old.frozen E_x5; have z_E_x5 := Old.size E_x5; try simp only [World.size_alloc] at c_E_x5 f_E_x5 z_E_x5; try have l_E_x5 := Nat.lt_of_succ_le z_E_x5; try have m_E_x5 := Nat.lt_of_succ_lt l_E_x5; try have n_E_x5 := Nat.lt_of_succ_lt m_E_x5
    go_wp2
    go_ret
    exact ⟨rfl, (by repeat (first | (with_reducible first | exact Ext.refl _ | assumption | apply Ext.alloc | apply Ext.drew | apply Ext.drewN | refine Ext.setCell ?_ ?_ _ | refine Ext.trans ?_ (by assumption)) | (show _ ≤ _; first | omega | (dsimp only; omega) | (simp; done) | (simp; omega))))⟩

set_option maxHeartbeats 400000 in
theorem laws_FnExactReadHead (t : ByteArray) (w : World) (ht : t.size ≤ maxLen) :
    Calls Try.prog 7 #[.string t] w fun e w' => e = .returned (.bool true) ∧ Ext w w' := by
  unfold maxLen at ht
  by_cases hb : (1048576 : Int) < t.size
  · go_enter Try.func7, Try.ntmps7
    go_wp2
    go_ret
    exact ⟨rfl, (by repeat (first | (with_reducible first | exact Ext.refl _ | assumption | apply Ext.alloc | apply Ext.drew | apply Ext.drewN | refine Ext.setCell ?_ ?_ _ | refine Ext.trans ?_ (by assumption)) | (show _ ≤ _; first | omega | (dsimp only; omega) | (simp; done) | (simp; omega))))⟩
  · have hs : t.size ≤ 1099511627776 := by omega
    go_enter Try.func7, Try.ntmps7
    go_wp2_with fail
    refine (spec_ReadHead _ _ hs).mono ?_
    rintro e w1 ⟨rfl, x1⟩
    go_wp2_with fail
    refine (impl_ReadHead _ _ hs).mono ?_
    rintro e w2 ⟨rfl, x2⟩
    have E_x2 := Old.of x2; (repeat (first | (replace E_x2 := Old.undrew E_x2) | (replace E_x2 := Old.undrewN E_x2))); have c_E_x2 := Old.cell E_x2; have f_E_x2 := Old.frozen E_x2; have z_E_x2 := Old.size E_x2; try simp only [World.size_alloc] at c_E_x2 f_E_x2 z_E_x2; try have l_E_x2 := Nat.lt_of_succ_le z_E_x2; try have m_E_x2 := Nat.lt_of_succ_lt l_E_x2; try have n_E_x2 := Nat.lt_of_succ_lt m_E_x2
    go_wp2_with fail
    refine (laws_eqHead _ _ _ _ _ _ _ _ _).mono ?_
    rintro e w3 ⟨rfl, x3⟩
    go_wp2
    go_ret
    exact ⟨rfl, (by repeat (first | (with_reducible first | exact Ext.refl _ | assumption | apply Ext.alloc | apply Ext.drew | apply Ext.drewN | refine Ext.setCell ?_ ?_ _ | refine Ext.trans ?_ (by assumption)) | (show _ ≤ _; first | omega | (dsimp only; omega) | (simp; done) | (simp; omega))))⟩
end Go.Proofs.Ytnobaocicdppoaa
