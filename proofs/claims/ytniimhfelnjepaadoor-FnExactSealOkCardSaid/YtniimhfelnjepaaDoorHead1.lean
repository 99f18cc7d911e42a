/- Heads: places of keys, validity. -/
import Derived.Test.YtniimhfelnjepaaDoorIn
namespace Go.Proofs.YtniimhfelnjepaaDoor
open Go.RowKit

/-- what is left of a bound behind a size -/
def szr (left : Int) (n : Nat) : Int := if left - n < 0 then -1 else left - n
def sealAt (n : Int) : Int := if inB n 1 4 then n - 1 else -1
def stampAt (h n : Int) : Int := if inB h 0 2 && inB n 1 4 then 4 * (h + 1) + n - 1 else -1
def headOk (h ep : Int) (r p : ByteArray) : Bool := inB h 0 2 && (inB ep 1 4 && (decide (r.size = 16) && (if ep = 1 then decide (p.size = 0) else decide (p.size = 16))))

theorem szr_cases (n : Nat) : (szr 1048576 n = -1 ∧ 1048576 < n) ∨ ∃ z : Int, szr 1048576 n = z ∧ 0 ≤ z ∧ n ≤ 1048576 ∧ z ≤ 1048576 := by
  by_cases h : 1048576 < n
  · exact Or.inl ⟨by simp only [szr]; rw [if_pos (by omega)], h⟩
  · exact Or.inr ⟨_, rfl, by simp only [szr]; rw [if_neg (by omega)]; omega, by omega, by simp only [szr]; rw [if_neg (by omega)]; omega⟩

theorem impl_SealAt (n : Int) (w : World) :
    Calls Tryd.prog 51 #[.int .i64 n] w fun e w' => e = .returned (.int .i64 (sealAt n)) ∧ w = w' := by
  cases h : inB n 1 4
  · go_enter Tryd.func51, Tryd.ntmps51
    go_wp2_with (go_at_call 67; refine (impl_isEpoch _ _).mono ?_; rintro e w' ⟨rfl, rfl⟩)
    go_ret
    exact ⟨ret_int (by simp [sealAt, h]), rfl⟩
  · have := inB_true.1 h
    have H := Lib.hid h
    go_enter Tryd.func51, Tryd.ntmps51
    go_wp2_with (go_at_call 67; refine (impl_isEpoch _ _).mono ?_; rintro e w' ⟨rfl, rfl⟩)
    go_ret
    exact ⟨ret_int (by simp [sealAt, H.out]), rfl⟩
theorem spec_SealAt (n : Int) (w : World) :
    Calls Tryd.prog 50 #[.int .i64 n] w fun e w' => e = .returned (.int .i64 (sealAt n)) ∧ w = w' := by
  cases h : inB n 1 4
  · go_enter Tryd.func50, Tryd.ntmps50
    go_wp2_with (go_at_call 65; refine (spec_l01In _ _ _ _).mono ?_; rintro e w' ⟨rfl, rfl⟩)
    go_ret
    exact ⟨ret_int (by simp [sealAt, h]), rfl⟩
  · have := inB_true.1 h
    have H := Lib.hid h
    go_enter Tryd.func50, Tryd.ntmps50
    go_wp2_with (go_at_call 65; refine (spec_l01In _ _ _ _).mono ?_; rintro e w' ⟨rfl, rfl⟩)
    go_ret
    exact ⟨ret_int (by simp [sealAt, H.out]), rfl⟩
theorem impl_StampAt (h n : Int) (w : World) :
    Calls Tryd.prog 47 #[.int .i64 h, .int .i64 n] w fun e w' => e = .returned (.int .i64 (stampAt h n)) ∧ w = w' := by
  by_cases hh : inB h 0 2 = true ∧ inB n 1 4 = true
  · obtain ⟨h1, h2⟩ := hh
    have a1 := inB_true.1 h1
    have a2 := inB_true.1 h2
    have H := Lib.hid h1
    go_enter Tryd.func47, Tryd.ntmps47
    go_wp2_with (first | (go_at_call 67; refine (impl_isEpoch _ _).mono ?_; rintro e w' ⟨rfl, rfl⟩) | (go_at_call 66; refine (impl_isHouse _ _).mono ?_; rintro e w' ⟨rfl, rfl⟩))
    go_ret
    exact ⟨ret_int (by simp [stampAt, h1, h2]), rfl⟩
  · have H := Lib.hid hh
    clear hh
    go_enter Tryd.func47, Tryd.ntmps47
    go_wp2_with (first | (go_at_call 67; refine (impl_isEpoch _ _).mono ?_; rintro e w' ⟨rfl, rfl⟩) | (go_at_call 66; refine (impl_isHouse _ _).mono ?_; rintro e w' ⟨rfl, rfl⟩))
    all_goals go_ret
    all_goals exact ⟨ret_int (by have hh := H.out; simp only [stampAt]; rw [if_neg (by simpa using hh)] <;> simp_all), rfl⟩
set_option maxHeartbeats 400000 in
theorem impl_HeadOk (h ep : Int) (r p : ByteArray) (w : World) :
    Calls Tryd.prog 41 #[.agg #[.int .i64 h, .int .i64 ep, .string r, .string p]] w fun e w' => e = .returned (.bool (headOk h ep r p)) ∧ Ext w w' := by
  go_enter Tryd.func41, Tryd.ntmps41
  go_wp2_with (first | (go_at_call 67; refine (impl_isEpoch _ _).mono ?_; rintro e w' ⟨rfl, rfl⟩) | (go_at_call 66; refine (impl_isHouse _ _).mono ?_; rintro e w' ⟨rfl, rfl⟩))
  all_goals go_ret
  all_goals refine ⟨ret_bool ?_, (by repeat (first | (with_reducible first | exact Ext.refl _ | assumption | apply Ext.alloc | apply Ext.drew | apply Ext.drewN | refine Ext.setCell ?_ ?_ _ | refine Ext.trans ?_ (by assumption)) | (show _ ≤ _; first | omega | (dsimp only; omega) | (simp; done) | (simp; omega))))⟩
  all_goals simp_all [headOk, toList_empty, ← size_beq]
theorem spec_StampAt (h n : Int) (w : World) :
    Calls Tryd.prog 44 #[.int .i64 h, .int .i64 n] w fun e w' => e = .returned (.int .i64 (stampAt h n)) ∧ w = w' := by
  by_cases hh : inB h 0 2 = true ∧ inB n 1 4 = true
  · obtain ⟨h1, h2⟩ := hh
    have a1 := inB_true.1 h1
    have a2 := inB_true.1 h2
    have H := Lib.hid h1
    go_enter Tryd.func44, Tryd.ntmps44
    go_wp2_with (go_at_call 65; refine (spec_l01In _ _ _ _).mono ?_; rintro e w' ⟨rfl, rfl⟩)
    go_ret
    exact ⟨ret_int (by simp [stampAt, h1, h2]), rfl⟩
  · have H := Lib.hid hh
    clear hh
    go_enter Tryd.func44, Tryd.ntmps44
    go_wp2_with (go_at_call 65; refine (spec_l01In _ _ _ _).mono ?_; rintro e w' ⟨rfl, rfl⟩)
    all_goals go_ret
    all_goals exact ⟨ret_int (by have hh := H.out; simp only [stampAt]; rw [if_neg (by simpa using hh)] <;> simp_all), rfl⟩
theorem spec_HeadOk (h ep : Int) (r p : ByteArray) (w : World) :
    Calls Tryd.prog 40 #[.agg #[.int .i64 h, .int .i64 ep, .string r, .string p]] w fun e w' => e = .returned (.bool (headOk h ep r p)) ∧ Ext w w' := by
  go_enter Tryd.func40, Tryd.ntmps40
  go_wp2_with (go_at_call 65; refine (spec_l01In _ _ _ _).mono ?_; rintro e w' ⟨rfl, rfl⟩)
  all_goals go_ret
  all_goals refine ⟨ret_bool ?_, (by repeat (first | (with_reducible first | exact Ext.refl _ | assumption | apply Ext.alloc | apply Ext.drew | apply Ext.drewN | refine Ext.setCell ?_ ?_ _ | refine Ext.trans ?_ (by assumption)) | (show _ ≤ _; first | omega | (dsimp only; omega) | (simp; done) | (simp; omega))))⟩
  all_goals simp_all [headOk, toList_empty, ← size_beq]
theorem laws_toHead (h ep : Int) (r p : ByteArray) (w : World) :
    Calls Tryd.prog 11 #[.agg #[.int .i64 h, .int .i64 ep, .string r, .string p]] w fun e w' => e = .returned (.agg #[.int .i64 h, .int .i64 ep, .string r, .string p]) ∧ Ext w w' := by
  go_enter Tryd.func11, Tryd.ntmps11
  go_wp2
  refine bodyPost_ret (v := .agg #[.int .i64 h, .int .i64 ep, .string r, .string p]) (by simp [results, Tryd.results11, go_sem]) rfl ⟨rfl, (by repeat (first | (with_reducible first | exact Ext.refl _ | assumption | apply Ext.alloc | apply Ext.drew | apply Ext.drewN | refine Ext.setCell ?_ ?_ _ | refine Ext.trans ?_ (by assumption)) | (show _ ≤ _; first | omega | (dsimp only; omega) | (simp; done) | (simp; omega))))⟩
theorem laws_szHead (h ep left : Int) (r p : ByteArray) (w : World) (hl : 0 ≤ left ∧ left ≤ 1048576) (hr : r.size ≤ maxLen) (hp : p.size ≤ maxLen) :
    Calls Tryd.prog 8 #[.agg #[.int .i64 h, .int .i64 ep, .string r, .string p], .int .i64 left] w fun e w' => e = .returned (.int .i64 (szr left (r.size + p.size))) ∧ Ext w w' := by
  unfold maxLen at hr hp
  obtain ⟨h1, h2⟩ := hl
  go_enter Tryd.func8, Tryd.ntmps8
  go_wp2
  all_goals go_ret
  all_goals refine ⟨ret_int ?_, (by repeat (first | (with_reducible first | exact Ext.refl _ | assumption | apply Ext.alloc | apply Ext.drew | apply Ext.drewN | refine Ext.setCell ?_ ?_ _ | refine Ext.trans ?_ (by assumption)) | (show _ ≤ _; first | omega | (dsimp only; omega) | (simp; done) | (simp; omega))))⟩
  all_goals simp only [szr]; split <;> omega

end Go.Proofs.YtniimhfelnjepaaDoor
