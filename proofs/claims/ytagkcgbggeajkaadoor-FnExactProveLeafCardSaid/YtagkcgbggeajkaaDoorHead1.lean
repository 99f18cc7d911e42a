/- Heads: places of keys, validity. -/
import Derived.Test.YtagkcgbggeajkaaDoorIn
namespace Go.Proofs.YtagkcgbggeajkaaDoor
open Go.RowKit

/-- what is left of a bound behind a size -/
def szr (left : Int) (n : Nat) : Int := if left - n < 0 then -1 else left - n
def sealAt (n : Int) : Int := if inB n 1 4 then n - 1 else -1
def stampAt (h n : Int) : Int := if inB h 0 2 && inB n 1 4 then 4 * (h + 1) + n - 1 else -1
def headOk (h ep : Int) (r p : ByteArray) : Bool := inB h 0 2 && (inB ep 1 4 && (decide (r.size = 16) && (if ep = 1 then decide (p.size = 0) else decide (p.size = 16))))

theorem szr_cases (n : Nat) : (szr 1048576 n = -1 ∧ 1048576 < n) ∨ ∃ z : Int, szr 1048576 n = z ∧ 0 ≤ z ∧ n ≤ 1048576 ∧ z ≤ 1048576 := by
  by_cases h : 1048576 < n
  · exact Or.inl ⟨by simp only [szr]; rw [if_pos (by omega)], h⟩
  · exact Or.inr ⟨_, rfl, by simp only [szr]; rw [if_neg (by omega)]; omega, by omega, by simp only [szr]; rw [if_neg (by omega)]; omega⟩

set_option maxHeartbeats 400000 in
theorem impl_HeadOk (h ep : Int) (r p : ByteArray) (w : World) :
    Calls Tryd.prog 53 #[.agg #[.int .i64 h, .int .i64 ep, .string r, .string p]] w fun e w' => e = .returned (.bool (headOk h ep r p)) ∧ Ext w w' := by
  go_enter Tryd.func53, Tryd.ntmps53
  go_wp2_with (first | (go_at_call 94; refine (impl_isEpoch _ _).mono ?_; rintro e w' ⟨rfl, rfl⟩) | (go_at_call 93; refine (impl_isHouse _ _).mono ?_; rintro e w' ⟨rfl, rfl⟩))
  all_goals go_ret
  all_goals refine ⟨ret_bool ?_, (by repeat (first | (with_reducible first | exact Ext.refl _ | assumption | apply Ext.alloc | apply Ext.drew | apply Ext.drewN | refine Ext.setCell ?_ ?_ _ | refine Ext.trans ?_ (by assumption)) | (show _ ≤ _; first | omega | (dsimp only; omega) | (simp; done) | (simp; omega))))⟩
  all_goals simp_all [headOk, toList_empty, ← size_beq]
theorem spec_HeadOk (h ep : Int) (r p : ByteArray) (w : World) :
    Calls Tryd.prog 50 #[.agg #[.int .i64 h, .int .i64 ep, .string r, .string p]] w fun e w' => e = .returned (.bool (headOk h ep r p)) ∧ Ext w w' := by
  go_enter Tryd.func50, Tryd.ntmps50
  go_wp2_with (go_at_call 57; refine (spec_l01In _ _ _ _).mono ?_; rintro e w' ⟨rfl, rfl⟩)
  all_goals go_ret
  all_goals refine ⟨ret_bool ?_, (by repeat (first | (with_reducible first | exact Ext.refl _ | assumption | apply Ext.alloc | apply Ext.drew | apply Ext.drewN | refine Ext.setCell ?_ ?_ _ | refine Ext.trans ?_ (by assumption)) | (show _ ≤ _; first | omega | (dsimp only; omega) | (simp; done) | (simp; omega))))⟩
  all_goals simp_all [headOk, toList_empty, ← size_beq]
theorem laws_toHead (h ep : Int) (r p : ByteArray) (w : World) :
    Calls Tryd.prog 52 #[.agg #[.int .i64 h, .int .i64 ep, .string r, .string p]] w fun e w' => e = .returned (.agg #[.int .i64 h, .int .i64 ep, .string r, .string p]) ∧ Ext w w' := by
  go_enter Tryd.func52, Tryd.ntmps52
  go_wp2
  refine bodyPost_ret (v := .agg #[.int .i64 h, .int .i64 ep, .string r, .string p]) (by simp [results, Tryd.results52, go_sem]) rfl ⟨rfl, (by repeat (first | (with_reducible first | exact Ext.refl _ | assumption | apply Ext.alloc | apply Ext.drew | apply Ext.drewN | refine Ext.setCell ?_ ?_ _ | refine Ext.trans ?_ (by assumption)) | (show _ ≤ _; first | omega | (dsimp only; omega) | (simp; done) | (simp; omega))))⟩
theorem laws_szHead (h ep left : Int) (r p : ByteArray) (w : World) (hl : 0 ≤ left ∧ left ≤ 1048576) (hr : r.size ≤ maxLen) (hp : p.size ≤ maxLen) :
    Calls Tryd.prog 49 #[.agg #[.int .i64 h, .int .i64 ep, .string r, .string p], .int .i64 left] w fun e w' => e = .returned (.int .i64 (szr left (r.size + p.size))) ∧ Ext w w' := by
  unfold maxLen at hr hp
  obtain ⟨h1, h2⟩ := hl
  go_enter Tryd.func49, Tryd.ntmps49
  go_wp2
  all_goals go_ret
  all_goals refine ⟨ret_int ?_, (by repeat (first | (with_reducible first | exact Ext.refl _ | assumption | apply Ext.alloc | apply Ext.drew | apply Ext.drewN | refine Ext.setCell ?_ ?_ _ | refine Ext.trans ?_ (by assumption)) | (show _ ≤ _; first | omega | (dsimp only; omega) | (simp; done) | (simp; omega))))⟩
  all_goals simp only [szr]; split <;> omega

end Go.Proofs.YtagkcgbggeajkaaDoor
