/- Heads: places of keys, validity. -/
import Derived.Test.YtnobaocicdppoaaIn
namespace Go.Proofs.Ytnobaocicdppoaa
open Go.RowKit

/-- what is left of a bound behind a size -/
def szr (left : Int) (n : Nat) : Int := if left - n < 0 then -1 else left - n
def sealAt (n : Int) : Int := if inB n 1 4 then n - 1 else -1
def stampAt (h n : Int) : Int := if inB h 0 2 && inB n 1 4 then 4 * (h + 1) + n - 1 else -1
def headOk (h ep : Int) (r p : ByteArray) : Bool := inB h 0 2 && (inB ep 1 4 && (decide (r.size = 16) && (if ep = 1 then decide (p.size = 0) else decide (p.size = 16))))

theorem impl_SealAt (n : Int) (w : World) :
    Calls Try.prog 10 #[.int .i64 n] w fun e w' => e = .returned (.int .i64 (sealAt n)) ∧ w = w' := by
  cases h : inB n 1 4
  · go_enter Try.func10, Try.ntmps10
    go_wp2_with (go_at_call 28; refine (impl_isEpoch _ _).mono ?_; rintro e w' ⟨rfl, rfl⟩)
    go_ret
    exact ⟨ret_int (by simp [sealAt, h]), rfl⟩
  · have := inB_true.1 h
    have H := Lib.hid h
    go_enter Try.func10, Try.ntmps10
    go_wp2_with (go_at_call 28; refine (impl_isEpoch _ _).mono ?_; rintro e w' ⟨rfl, rfl⟩)
    go_ret
    exact ⟨ret_int (by simp [sealAt, H.out]), rfl⟩
theorem spec_SealAt (n : Int) (w : World) :
    Calls Try.prog 9 #[.int .i64 n] w fun e w' => e = .returned (.int .i64 (sealAt n)) ∧ w = w' := by
  cases h : inB n 1 4
  · go_enter Try.func9, Try.ntmps9
    go_wp2_with (go_at_call 27; refine (spec_l01In _ _ _ _).mono ?_; rintro e w' ⟨rfl, rfl⟩)
    go_ret
    exact ⟨ret_int (by simp [sealAt, h]), rfl⟩
  · have := inB_true.1 h
    have H := Lib.hid h
    go_enter Try.func9, Try.ntmps9
    go_wp2_with (go_at_call 27; refine (spec_l01In _ _ _ _).mono ?_; rintro e w' ⟨rfl, rfl⟩)
    go_ret
    exact ⟨ret_int (by simp [sealAt, H.out]), rfl⟩
theorem impl_StampAt (h n : Int) (w : World) :
    Calls Try.prog 12 #[.int .i64 h, .int .i64 n] w fun e w' => e = .returned (.int .i64 (stampAt h n)) ∧ w = w' := by
  by_cases hh : inB h 0 2 = true ∧ inB n 1 4 = true
  · obtain ⟨h1, h2⟩ := hh
    have a1 := inB_true.1 h1
    have a2 := inB_true.1 h2
    have H := Lib.hid h1
    go_enter Try.func12, Try.ntmps12
    go_wp2_with (first | (go_at_call 28; refine (impl_isEpoch _ _).mono ?_; rintro e w' ⟨rfl, rfl⟩) | (go_at_call 29; refine (impl_isHouse _ _).mono ?_; rintro e w' ⟨rfl, rfl⟩))
    go_ret
    exact ⟨ret_int (by simp [stampAt, h1, h2]), rfl⟩
  · have H := Lib.hid hh
    clear hh
    go_enter Try.func12, Try.ntmps12
    go_wp2_with (first | (go_at_call 28; refine (impl_isEpoch _ _).mono ?_; rintro e w' ⟨rfl, rfl⟩) | (go_at_call 29; refine (impl_isHouse _ _).mono ?_; rintro e w' ⟨rfl, rfl⟩))
    all_goals go_ret
    all_goals exact ⟨ret_int (by have hh := H.out; simp only [stampAt]; rw [if_neg (by simpa using hh)] <;> simp_all), rfl⟩
set_option maxHeartbeats 400000 in
theorem impl_HeadOk (h ep : Int) (r p : ByteArray) (w : World) :
    Calls Try.prog 16 #[.agg #[.int .i64 h, .int .i64 ep, .string r, .string p]] w fun e w' => e = .returned (.bool (headOk h ep r p)) ∧ Ext w w' := by
  go_enter Try.func16, Try.ntmps16
  go_wp2_with (first | (go_at_call 28; refine (impl_isEpoch _ _).mono ?_; rintro e w' ⟨rfl, rfl⟩) | (go_at_call 29; refine (impl_isHouse _ _).mono ?_; rintro e w' ⟨rfl, rfl⟩))
  all_goals go_ret
  all_goals refine ⟨ret_bool ?_, (by repeat (first | (with_reducible first | exact Ext.refl _ | assumption | apply Ext.alloc | apply Ext.drew | apply Ext.drewN | refine Ext.setCell ?_ ?_ _ | refine Ext.trans ?_ (by assumption)) | (show _ ≤ _; first | omega | (dsimp only; omega) | (simp; done) | (simp; omega))))⟩
  all_goals simp_all [headOk, toList_empty, ← size_beq]
theorem spec_StampAt (h n : Int) (w : World) :
    Calls Try.prog 11 #[.int .i64 h, .int .i64 n] w fun e w' => e = .returned (.int .i64 (stampAt h n)) ∧ w = w' := by
  by_cases hh : inB h 0 2 = true ∧ inB n 1 4 = true
  · obtain ⟨h1, h2⟩ := hh
    have a1 := inB_true.1 h1
    have a2 := inB_true.1 h2
    have H := Lib.hid h1
    go_enter Try.func11, Try.ntmps11
    go_wp2_with (go_at_call 27; refine (spec_l01In _ _ _ _).mono ?_; rintro e w' ⟨rfl, rfl⟩)
    go_ret
    exact ⟨ret_int (by simp [stampAt, h1, h2]), rfl⟩
  · have H := Lib.hid hh
    clear hh
    go_enter Try.func11, Try.ntmps11
    go_wp2_with (go_at_call 27; refine (spec_l01In _ _ _ _).mono ?_; rintro e w' ⟨rfl, rfl⟩)
    all_goals go_ret
    all_goals exact ⟨ret_int (by have hh := H.out; simp only [stampAt]; rw [if_neg (by simpa using hh)] <;> simp_all), rfl⟩
theorem spec_HeadOk (h ep : Int) (r p : ByteArray) (w : World) :
    Calls Try.prog 14 #[.agg #[.int .i64 h, .int .i64 ep, .string r, .string p]] w fun e w' => e = .returned (.bool (headOk h ep r p)) ∧ Ext w w' := by
  go_enter Try.func14, Try.ntmps14
  go_wp2_with (go_at_call 27; refine (spec_l01In _ _ _ _).mono ?_; rintro e w' ⟨rfl, rfl⟩)
  all_goals go_ret
  all_goals refine ⟨ret_bool ?_, (by repeat (first | (with_reducible first | exact Ext.refl _ | assumption | apply Ext.alloc | apply Ext.drew | apply Ext.drewN | refine Ext.setCell ?_ ?_ _ | refine Ext.trans ?_ (by assumption)) | (show _ ≤ _; first | omega | (dsimp only; omega) | (simp; done) | (simp; omega))))⟩
  all_goals simp_all [headOk, toList_empty, ← size_beq]
theorem laws_toHead (h ep : Int) (r p : ByteArray) (w : World) :
    Calls Try.prog 15 #[.agg #[.int .i64 h, .int .i64 ep, .string r, .string p]] w fun e w' => e = .returned (.agg #[.int .i64 h, .int .i64 ep, .string r, .string p]) ∧ Ext w w' := by
  go_enter Try.func15, Try.ntmps15
  go_wp2
  refine bodyPost_ret (v := .agg #[.int .i64 h, .int .i64 ep, .string r, .string p]) (by simp [results, Try.results15, go_sem]) rfl ⟨rfl, (by repeat (first | (with_reducible first | exact Ext.refl _ | assumption | apply Ext.alloc | apply Ext.drew | apply Ext.drewN | refine Ext.setCell ?_ ?_ _ | refine Ext.trans ?_ (by assumption)) | (show _ ≤ _; first | omega | (dsimp only; omega) | (simp; done) | (simp; omega))))⟩
theorem laws_szHead (h ep left : Int) (r p : ByteArray) (w : World) (hl : 0 ≤ left ∧ left ≤ 1048576) (hr : r.size ≤ maxLen) (hp : p.size ≤ maxLen) :
    Calls Try.prog 13 #[.agg #[.int .i64 h, .int .i64 ep, .string r, .string p], .int .i64 left] w fun e w' => e = .returned (.int .i64 (szr left (r.size + p.size))) ∧ Ext w w' := by
  unfold maxLen at hr hp
  obtain ⟨h1, h2⟩ := hl
  go_enter Try.func13, Try.ntmps13
  go_wp2
  all_goals go_ret
  all_goals refine ⟨ret_int ?_, (by repeat (first | (with_reducible first | exact Ext.refl _ | assumption | apply Ext.alloc | apply Ext.drew | apply Ext.drewN | refine Ext.setCell ?_ ?_ _ | refine Ext.trans ?_ (by assumption)) | (show _ ≤ _; first | omega | (dsimp only; omega) | (simp; done) | (simp; omega))))⟩
  all_goals simp only [szr]; split <;> omega

theorem laws_FnExactSealAt (n : Int) (w : World) :
    Calls Try.prog 3 #[.int .i64 n] w fun e w' => e = .returned (.bool true) ∧ Ext w w' := by
  go_enter Try.func3, Try.ntmps3
  go_wp2_with (first | (go_at_call 9; refine (spec_SealAt _ _).mono ?_; rintro e w' ⟨rfl, rfl⟩) | (go_at_call 10; refine (impl_SealAt _ _).mono ?_; rintro e w' ⟨rfl, rfl⟩))
  go_ret
  exact ⟨rfl, (by repeat (first | (with_reducible first | exact Ext.refl _ | assumption | apply Ext.alloc | apply Ext.drew | apply Ext.drewN | refine Ext.setCell ?_ ?_ _ | refine Ext.trans ?_ (by assumption)) | (show _ ≤ _; first | omega | (dsimp only; omega) | (simp; done) | (simp; omega))))⟩
theorem laws_FnExactStampAt (h n : Int) (w : World) :
    Calls Try.prog 4 #[.int .i64 h, .int .i64 n] w fun e w' => e = .returned (.bool true) ∧ Ext w w' := by
  go_enter Try.func4, Try.ntmps4
  go_wp2_with (first | (go_at_call 11; refine (spec_StampAt _ _ _).mono ?_; rintro e w' ⟨rfl, rfl⟩) | (go_at_call 12; refine (impl_StampAt _ _ _).mono ?_; rintro e w' ⟨rfl, rfl⟩))
  go_ret
  exact ⟨rfl, (by repeat (first | (with_reducible first | exact Ext.refl _ | assumption | apply Ext.alloc | apply Ext.drew | apply Ext.drewN | refine Ext.setCell ?_ ?_ _ | refine Ext.trans ?_ (by assumption)) | (show _ ≤ _; first | omega | (dsimp only; omega) | (simp; done) | (simp; omega))))⟩
set_option maxHeartbeats 400000 in
theorem laws_FnExactHeadOk (h ep : Int) (r p : ByteArray) (w : World) (hr : r.size ≤ maxLen) (hp : p.size ≤ maxLen) :
    Calls Try.prog 5 #[.agg #[.int .i64 h, .int .i64 ep, .string r, .string p]] w fun e w' => e = .returned (.bool true) ∧ Ext w w' := by
  have hcase : szr 1048576 (r.size + p.size) = -1 ∨ 0 ≤ szr 1048576 (r.size + p.size) := by simp only [szr]; split <;> omega
  generalize hz : szr 1048576 (r.size + p.size) = z at *
  have HZ := Lib.hid hz
  clear hz
  rcases hcase with rfl | hcase
  · go_enter Try.func5, Try.ntmps5
    go_wp2_with (go_at_call 13; refine (laws_szHead _ _ _ _ _ _ (by omega) hr hp).mono ?_; rw [HZ.out]; rintro e w1 ⟨rfl, x1⟩)
    go_ret
    exact ⟨rfl, (by repeat (first | (with_reducible first | exact Ext.refl _ | assumption | apply Ext.alloc | apply Ext.drew | apply Ext.drewN | refine Ext.setCell ?_ ?_ _ | refine Ext.trans ?_ (by assumption)) | (show _ ≤ _; first | omega | (dsimp only; omega) | (simp; done) | (simp; omega))))⟩
  · go_enter Try.func5, Try.ntmps5
    go_wp2_with (go_at_call 13; refine (laws_szHead _ _ _ _ _ _ (by omega) hr hp).mono ?_; rw [HZ.out]; rintro e w1 ⟨rfl, x1⟩; have E_x1 := Old.of x1; (repeat (first | (replace E_x1 := Old.undrew E_x1) | (replace E_x1 := Old.undrewN E_x1))); have c_E_x1 := Old.cell E_x1; have f_E_x1 := Old.frozen E_x1; have z_E_x1 := Old.size E_x1; try simp only [World.size_alloc] at c_E_x1 f_E_x1 z_E_x1; try have l_E_x1 := Nat.lt_of_succ_le z_E_x1; try have m_E_x1 := Nat.lt_of_succ_lt l_E_x1; try have n_E_x1 := Nat.lt_of_succ_lt m_E_x1)
    refine (laws_toHead _ _ _ _ _).mono ?_
    rintro e w2 ⟨rfl, x2⟩
    have E_x2 := Old.via E_x1 x2 (by repeat (first | (with_reducible first | exact Ext.refl _ | assumption | apply Ext.alloc | apply Ext.drew | apply Ext.drewN | refine Ext.setCell ?_ ?_ _ | refine Ext.trans ?_ (by assumption)) | (show _ ≤ _; first | omega | (dsimp only; omega) | (simp; done) | (simp; omega)))); clear c_E_x1 f_E_x1; (repeat (first | (replace E_x2 := Old.undrew E_x2) | (replace E_x2 := Old.undrewN E_x2))); have c_E_x2 := Old.cell E_x2; have f_E_x2 := Old.frozen E_x2; have z_E_x2 := Old.size E_x2; try simp only [World.size_alloc] at c_E_x2 f_E_x2 z_E_x2; try have l_E_x2 := Nat.lt_of_succ_le z_E_x2; try have m_E_x2 := Nat.lt_of_succ_lt l_E_x2; try have n_E_x2 := Nat.lt_of_succ_lt m_E_x2
    go_wp2_with fail
    refine (spec_HeadOk _ _ _ _ _).mono ?_
    rintro e w3 ⟨rfl, x3⟩
    have E_x3 := Old.via E_x2 x3 (by repeat (first | (with_reducible first | exact Ext.refl _ | assumption | apply Ext.alloc | apply Ext.drew | apply Ext.drewN | refine Ext.setCell ?_ ?_ _ | refine Ext.trans ?_ (by assumption)) | (show _ ≤ _; first | omega | (dsimp only; omega) | (simp; done) | (simp; omega)))); clear c_E_x2 f_E_x2; (repeat (first | (replace E_x3 := Old.undrew E_x3) | (replace E_x3 := Old.undrewN E_x3))); have c_E_x3 := Old.cell E_x3; have f_E_x3 := Old.frozen E_x3; have z_E_x3 := Old.size E_x3; try simp only [World.size_alloc] at c_E_x3 f_E_x3 z_E_x3; try have l_E_x3 := Nat.lt_of_succ_le z_E_x3; try have m_E_x3 := Nat.lt_of_succ_lt l_E_x3; try have n_E_x3 := Nat.lt_of_succ_lt m_E_x3
    go_wp2_with fail
    refine (laws_toHead _ _ _ _ _).mono ?_
    rintro e w4 ⟨rfl, x4⟩
    have E_x4 := Old.via E_x3 x4 (by repeat (first | (with_reducible first | exact Ext.refl _ | assumption | apply Ext.alloc | apply Ext.drew | apply Ext.drewN | refine Ext.setCell ?_ ?_ _ | refine Ext.trans ?_ (by assumption)) | (show _ ≤ _; first | omega | (dsimp only; omega) | (simp; done) | (simp; omega)))); clear c_E_x3 f_E_x3; (repeat (first | (replace E_x4 := Old.undrew E_x4) | (replace E_x4 := Old.undrewN E_x4))); have c_E_x4 := Old.cell E_x4; have f_E_x4 := Old.frozen E_x4; have z_E_x4 := Old.size E_x4; try simp only [World.size_alloc] at c_E_x4 f_E_x4 z_E_x4; try have l_E_x4 := Nat.lt_of_succ_le z_E_x4; try have m_E_x4 := Nat.lt_of_succ_lt l_E_x4; try have n_E_x4 := Nat.lt_of_succ_lt m_E_x4
    go_wp2_with fail
    refine (impl_HeadOk _ _ _ _ _).mono ?_
    rintro e w5 ⟨rfl, x5⟩
    have E_x5 := Old.via E_x4 x5 (by repeat (first | (with_reducible first | exact Ext.refl _ | assumption | apply Ext.alloc | apply Ext.drew | apply Ext.drewN | refine Ext.setCell ?_ ?_ _ | refine Ext.trans ?_ (by assumption)) | (show _ ≤ _; first | omega | (dsimp only; omega) | (simp; done) | (simp; omega)))); clear c_E_x4 f_E_x4; (repeat (first | (replace E_x5 := Old.undrew E_x5) | (replace E_x5 := Old.undrewN E_x5))); have c_E_x5 := Old.cell E_x5; have f_E_x5 := Old.frozen E_x5; have z_E_x5 := Old.size E_x5; try simp only [World.size_alloc] at c_E_x5 f_E_x5 z_E_x5; try have l_E_x5 := Nat.lt_of_succ_le z_E_x5; try have m_E_x5 := Nat.lt_of_succ_lt l_E_x5; try have n_E_x5 := Nat.lt_of_succ_lt m_E_x5
    go_wp2
    go_ret
    exact ⟨rfl, (by repeat (first | (with_reducible first | exact Ext.refl _ | assumption | apply Ext.alloc | apply Ext.drew | apply Ext.drewN | refine Ext.setCell ?_ ?_ _ | refine Ext.trans ?_ (by assumption)) | (show _ ≤ _; first | omega | (dsimp only; omega) | (simp; done) | (simp; omega))))⟩
end Go.Proofs.Ytnobaocicdppoaa
