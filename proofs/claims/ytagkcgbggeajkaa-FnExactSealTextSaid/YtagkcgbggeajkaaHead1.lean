/- Heads: places of keys, validity. -/
import Derived.Test.YtagkcgbggeajkaaIn
namespace Go.Proofs.Ytagkcgbggeajkaa
open Go.RowKit

/-- what is left of a bound behind a size -/
def szr (left : Int) (n : Nat) : Int := if left - n < 0 then -1 else left - n
def sealAt (n : Int) : Int := if inB n 1 4 then n - 1 else -1
def stampAt (h n : Int) : Int := if inB h 0 2 && inB n 1 4 then 4 * (h + 1) + n - 1 else -1
def headOk (h ep : Int) (r p : ByteArray) : Bool := inB h 0 2 && (inB ep 1 4 && (decide (r.size = 16) && (if ep = 1 then decide (p.size = 0) else decide (p.size = 16))))

theorem szr_cases (n : Nat) : (szr 1048576 n = -1 ∧ 1048576 < n) ∨ ∃ z : Int, szr 1048576 n = z ∧ 0 ≤ z ∧ n ≤ 1048576 ∧ z ≤ 1048576 := by
  by_cases h : 1048576 < n
  · exact Or.inl ⟨by simp only [szr]; rw [if_pos (by omega)], h⟩
  · exact Or.inr ⟨_, rfl, by simp only [szr]; rw [if_neg (by omega)]; omega, by omega, by simp only [szr]; rw [if_neg (by omega)]; omega⟩

set_option maxHeartbeats 400000 in
theorem impl_HeadOk (h ep : Int) (r p : ByteArray) (w : World) :
    Calls Try.prog 43 #[.agg #[.int .i64 h, .int .i64 ep, .string r, .string p]] w fun e w' => e = .returned (.bool (headOk h ep r p)) ∧ Ext w w' := by
  go_enter Try.func43, Try.ntmps43
  go_wp2_with (first | (go_at_call 51; refine (impl_isEpoch _ _).mono ?_; rintro e w' ⟨rfl, rfl⟩) | (go_at_call 50; refine (impl_isHouse _ _).mono ?_; rintro e w' ⟨rfl, rfl⟩))
  all_goals go_ret
  all_goals refine ⟨ret_bool ?_, (by repeat (first | (with_reducible first | exact Ext.refl _ | assumption | apply Ext.alloc | apply Ext.drew | apply Ext.drewN | refine Ext.setCell ?_ ?_ _ | refine Ext.trans ?_ (by assumption)) | (show _ ≤ _; first | omega | (dsimp only; omega) | (simp; done) | (simp; omega))))⟩
  all_goals simp_all [headOk, toList_empty, ← size_beq]
theorem spec_HeadOk (h ep : Int) (r p : ByteArray) (w : World) :
    Calls Try.prog 40 #[.agg #[.int .i64 h, .int .i64 ep, .string r, .string p]] w fun e w' => e = .returned (.bool (headOk h ep r p)) ∧ Ext w w' := by
  go_enter Try.func40, Try.ntmps40
  go_wp2_with (go_at_call 48; refine (spec_l01In _ _ _ _).mono ?_; rintro e w' ⟨rfl, rfl⟩)
  all_goals go_ret
  all_goals refine ⟨ret_bool ?_, (by repeat (first | (with_reducible first | exact Ext.refl _ | assumption | apply Ext.alloc | apply Ext.drew | apply Ext.drewN | refine Ext.setCell ?_ ?_ _ | refine Ext.trans ?_ (by assumption)) | (show _ ≤ _; first | omega | (dsimp only; omega) | (simp; done) | (simp; omega))))⟩
  all_goals simp_all [headOk, toList_empty, ← size_beq]
theorem laws_toHead (h ep : Int) (r p : ByteArray) (w : World) :
    Calls Try.prog 21 #[.agg #[.int .i64 h, .int .i64 ep, .string r, .string p]] w fun e w' => e = .returned (.agg #[.int .i64 h, .int .i64 ep, .string r, .string p]) ∧ Ext w w' := by
  go_enter Try.func21, Try.ntmps21
  go_wp2
  refine bodyPost_ret (v := .agg #[.int .i64 h, .int .i64 ep, .string r, .string p]) (by simp [results, Try.results21, go_sem]) rfl ⟨rfl, (by repeat (first | (with_reducible first | exact Ext.refl _ | assumption | apply Ext.alloc | apply Ext.drew | apply Ext.drewN | refine Ext.setCell ?_ ?_ _ | refine Ext.trans ?_ (by assumption)) | (show _ ≤ _; first | omega | (dsimp only; omega) | (simp; done) | (simp; omega))))⟩
theorem laws_szHead (h ep left : Int) (r p : ByteArray) (w : World) (hl : 0 ≤ left ∧ left ≤ 1048576) (hr : r.size ≤ maxLen) (hp : p.size ≤ maxLen) :
    Calls Try.prog 16 #[.agg #[.int .i64 h, .int .i64 ep, .string r, .string p], .int .i64 left] w fun e w' => e = .returned (.int .i64 (szr left (r.size + p.size))) ∧ Ext w w' := by
  unfold maxLen at hr hp
  obtain ⟨h1, h2⟩ := hl
  go_enter Try.func16, Try.ntmps16
  go_wp2
  all_goals go_ret
  all_goals refine ⟨ret_int ?_, (by repeat (first | (with_reducible first | exact Ext.refl _ | assumption | apply Ext.alloc | apply Ext.drew | apply Ext.drewN | refine Ext.setCell ?_ ?_ _ | refine Ext.trans ?_ (by assumption)) | (show _ ≤ _; first | omega | (dsimp only; omega) | (simp; done) | (simp; omega))))⟩
  all_goals simp only [szr]; split <;> omega

end Go.Proofs.Ytagkcgbggeajkaa
