/- Shards of names; the law on ShardOf. -/
import Derived.Test.YtbgkeoidhfgmcaaDoorHash
namespace Go.Proofs.YtbgkeoidhfgmcaaDoor
open Go.RowKit

/-- the shard of a name -/
def shardT (t : ByteArray) (k : Int) : Int := if inB k 0 2 = true then idxT t / 2 ^ (8 - k).toNat else 0
theorem shardT_yes {t : ByteArray} {k : Int} (h : inB k 0 2 = true) : shardT t k = idxT t / 2 ^ (8 - k).toNat := by rw [shardT, if_pos h]
theorem shardT_no {t : ByteArray} {k : Int} (h : inB k 0 2 = false) : shardT t k = 0 := by rw [shardT, if_neg (by rw [h]; decide)]
theorem impl_isSplit (n : Int) (w : World) :
    Calls Tryd.prog 56 #[.int .i64 n] w fun e w' => e = .returned (.bool (inB n 0 2)) ∧ w = w' := by
  go_enter Tryd.func56, Tryd.ntmps56
  go_wp2_with (go_at_call 59; refine (impl_in _ _ _ _).mono ?_; rintro e w' ⟨rfl, rfl⟩)
  all_goals go_ret
  all_goals exact ⟨rfl, rfl⟩
set_option maxHeartbeats 400000 in
theorem impl_ShardOf (t : ByteArray) (k : Int) (w : World) (ht : t.size ≤ 1073741824) (hT : Tabs w) :
    Calls Tryd.prog 15 #[.string t, .int .i64 k] w fun e w' => e = .returned (.int .i64 (shardT t k)) ∧ Ext w w' := by
  have HT := Lib.hid hT
  clear hT
  cases h : inB k 0 2
  · have R := Lib.hid (shardT_no (t := t) h)
    have H := Lib.hid h
    clear h
    go_enter Tryd.func15, Tryd.ntmps15
    go_wp2_with (go_at_call 56; refine (impl_isSplit _ _).mono ?_; rw [H.out]; rintro e w' ⟨rfl, rfl⟩)
    go_ret
    exact ⟨ret_int R.out.symm, (by repeat (first | (with_reducible first | exact Ext.refl _ | assumption | apply Ext.alloc | apply Ext.drew | apply Ext.drewN | refine Ext.setCell ?_ ?_ _ | refine Ext.trans ?_ (by assumption)) | (show _ ≤ _; first | omega | (dsimp only; omega) | (simp; done) | (simp; omega))))⟩
  · have R := Lib.hid (shardT_yes (t := t) h)
    obtain ⟨h1, h2⟩ := inB_true.1 h
    have H := Lib.hid h
    obtain ⟨b1, b2⟩ := idxT_bd t
    clear h
    go_enter Tryd.func15, Tryd.ntmps15
    go_wp2_with (first | (go_at_call 56; refine (impl_isSplit _ _).mono ?_; rw [H.out]; rintro e w' ⟨rfl, rfl⟩) | (go_at_call 57; refine (impl_IndexOf t _ ht (by exact HT.out)).mono ?_; rintro e w1 ⟨rfl, x1⟩))
    go_ret
    exact ⟨ret_int R.out.symm, (by repeat (first | (with_reducible first | exact Ext.refl _ | assumption | apply Ext.alloc | apply Ext.drew | apply Ext.drewN | refine Ext.setCell ?_ ?_ _ | refine Ext.trans ?_ (by assumption)) | (show _ ≤ _; first | omega | (dsimp only; omega) | (simp; done) | (simp; omega))))⟩
set_option maxHeartbeats 400000 in
theorem spec_ShardOf (t : ByteArray) (k : Int) (w : World) (ht : t.size ≤ 1073741824) :
    Calls Tryd.prog 14 #[.string t, .int .i64 k] w fun e w' => e = .returned (.int .i64 (shardT t k)) ∧ Ext w w' := by
  cases h : inB k 0 2
  · have R := Lib.hid (shardT_no (t := t) h)
    have H := Lib.hid h
    clear h
    go_enter Tryd.func14, Tryd.ntmps14
    go_wp2_with (go_at_call 54; refine (spec_l01In _ _ _ _).mono ?_; rw [H.out]; rintro e w' ⟨rfl, rfl⟩)
    go_ret
    exact ⟨ret_int R.out.symm, (by repeat (first | (with_reducible first | exact Ext.refl _ | assumption | apply Ext.alloc | apply Ext.drew | apply Ext.drewN | refine Ext.setCell ?_ ?_ _ | refine Ext.trans ?_ (by assumption)) | (show _ ≤ _; first | omega | (dsimp only; omega) | (simp; done) | (simp; omega))))⟩
  · have R := Lib.hid (shardT_yes (t := t) h)
    obtain ⟨h1, h2⟩ := inB_true.1 h
    have H := Lib.hid h
    obtain ⟨b1, b2⟩ := idxT_bd t
    clear h
    go_enter Tryd.func14, Tryd.ntmps14
    go_wp2_with (first | (go_at_call 54; refine (spec_l01In _ _ _ _).mono ?_; rw [H.out]; rintro e w' ⟨rfl, rfl⟩) | (go_at_call 55; refine (spec_IndexOf t _ ht).mono ?_; rintro e w1 ⟨rfl, x1⟩))
    go_ret
    exact ⟨ret_int R.out.symm, (by repeat (first | (with_reducible first | exact Ext.refl _ | assumption | apply Ext.alloc | apply Ext.drew | apply Ext.drewN | refine Ext.setCell ?_ ?_ _ | refine Ext.trans ?_ (by assumption)) | (show _ ≤ _; first | omega | (dsimp only; omega) | (simp; done) | (simp; omega))))⟩

theorem laws_FnExactShardOf (t : ByteArray) (k : Int) (w : World) (_ : t.size ≤ maxLen) (hT : Tabs w) :
    Calls Tryd.prog 3 #[.string t, .int .i64 k] w fun e w' => e = .returned (.bool true) ∧ Ext w w' := by
  have HT := Lib.hid hT
  clear hT
  by_cases hz : t.size ≤ 1048576
  · have hz1 : ¬ ((1048576 : Int) < t.size) := by omega
    go_enter Tryd.func3, Tryd.ntmps3
    go_wp2_with (first | (go_at_call 14; refine (spec_ShardOf t k _ (by omega)).mono ?_; rintro e w1 ⟨rfl, x1⟩) | (go_at_call 15; refine (impl_ShardOf t k _ (by omega) (by exact HT.out.ext x1)).mono ?_; rintro e w2 ⟨rfl, x2⟩))
    go_ret
    exact ⟨rfl, (by repeat (first | (with_reducible first | exact Ext.refl _ | assumption | apply Ext.alloc | apply Ext.drew | apply Ext.drewN | refine Ext.setCell ?_ ?_ _ | refine Ext.trans ?_ (by assumption)) | (show _ ≤ _; first | omega | (dsimp only; omega) | (simp; done) | (simp; omega))))⟩
  · have hz1 : (1048576 : Int) < t.size := by omega
    go_enter Tryd.func3, Tryd.ntmps3
    go_wp2
    go_ret
    exact ⟨rfl, (by repeat (first | (with_reducible first | exact Ext.refl _ | assumption | apply Ext.alloc | apply Ext.drew | apply Ext.drewN | refine Ext.setCell ?_ ?_ _ | refine Ext.trans ?_ (by assumption)) | (show _ ≤ _; first | omega | (dsimp only; omega) | (simp; done) | (simp; omega))))⟩
end Go.Proofs.YtbgkeoidhfgmcaaDoor
