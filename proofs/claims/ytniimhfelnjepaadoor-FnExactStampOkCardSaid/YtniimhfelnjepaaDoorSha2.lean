/- The rotations of both packages. -/
import Derived.Test.YtniimhfelnjepaaDoorSha
import Derived.Test.YtniimhfelnjepaaDoorConv
namespace Go.Proofs.YtniimhfelnjepaaDoor
open Go.RowKit

attribute [local go_sem ↓] W32.add_i W32.xr_i W32.an_i W32.ro_i W32.no_i W32.no_i' W32.shr_i W32.shl_i W32.byt_i

theorem rot_count (n : Nat) (h : 1 ≤ n ∧ n ≤ 31) : bits .and .u64 (IntKind.u64.wrap (-(n : Int))) 31 = 32 - (n : Int) := by
  obtain ⟨h1, h2⟩ := h
  have : n = 1 ∨ n = 2 ∨ n = 3 ∨ n = 4 ∨ n = 5 ∨ n = 6 ∨ n = 7 ∨ n = 8 ∨ n = 9 ∨ n = 10 ∨ n = 11 ∨ n = 12 ∨ n = 13 ∨ n = 14 ∨ n = 15 ∨ n = 16 ∨ n = 17 ∨ n = 18 ∨ n = 19 ∨ n = 20 ∨ n = 21 ∨ n = 22 ∨ n = 23 ∨ n = 24 ∨ n = 25 ∨ n = 26 ∨ n = 27 ∨ n = 28 ∨ n = 29 ∨ n = 30 ∨ n = 31 := by omega
  rcases this with rfl | rfl | rfl | rfl | rfl | rfl | rfl | rfl | rfl | rfl | rfl | rfl | rfl | rfl | rfl | rfl | rfl | rfl | rfl | rfl | rfl | rfl | rfl | rfl | rfl | rfl | rfl | rfl | rfl | rfl | rfl <;> decide

theorem bits_RotateLeft32 (x : W32) (n : Nat) (w : World) (h : 1 ≤ n ∧ n ≤ 31) :
    Calls Tryd.prog 114 #[.int .u32 x.i, .int .i64 (-(n : Int))] w fun e w' => e = .returned (.int .u32 (x.rot n).i) ∧ w = w' := by
  have hc := rot_count n h
  go_enter Tryd.func114, Tryd.ntmps114
  go_wp2
  go_ret
  exact ⟨ret_int (by rw [W32.ro_comm, show 32 - (32 - n) = n by omega]; rfl), rfl⟩
theorem impl_turn (x : W32) (n : Nat) (w : World) (h : 1 ≤ n ∧ n ≤ 31) :
    Calls Tryd.prog 113 #[.int .u32 x.i, .int .i64 n] w fun e w' => e = .returned (.int .u32 (x.rot n).i) ∧ w = w' := by
  go_enter Tryd.func113, Tryd.ntmps113
  go_wp2_with (go_at_call 114; refine (bits_RotateLeft32 x n _ h).mono ?_; rintro e w' ⟨rfl, rfl⟩)
  go_ret
  exact ⟨rfl, rfl⟩
theorem impl_turn_2 (x : W32) (w : World) : Calls Tryd.prog 113 #[.int .u32 x.i, .int .i64 2] w fun e w' => e = .returned (.int .u32 (x.rot 2).i) ∧ w = w' := impl_turn x 2 w (by omega)
theorem impl_turn_6 (x : W32) (w : World) : Calls Tryd.prog 113 #[.int .u32 x.i, .int .i64 6] w fun e w' => e = .returned (.int .u32 (x.rot 6).i) ∧ w = w' := impl_turn x 6 w (by omega)
theorem impl_turn_7 (x : W32) (w : World) : Calls Tryd.prog 113 #[.int .u32 x.i, .int .i64 7] w fun e w' => e = .returned (.int .u32 (x.rot 7).i) ∧ w = w' := impl_turn x 7 w (by omega)
theorem impl_turn_11 (x : W32) (w : World) : Calls Tryd.prog 113 #[.int .u32 x.i, .int .i64 11] w fun e w' => e = .returned (.int .u32 (x.rot 11).i) ∧ w = w' := impl_turn x 11 w (by omega)
theorem impl_turn_13 (x : W32) (w : World) : Calls Tryd.prog 113 #[.int .u32 x.i, .int .i64 13] w fun e w' => e = .returned (.int .u32 (x.rot 13).i) ∧ w = w' := impl_turn x 13 w (by omega)
theorem impl_turn_17 (x : W32) (w : World) : Calls Tryd.prog 113 #[.int .u32 x.i, .int .i64 17] w fun e w' => e = .returned (.int .u32 (x.rot 17).i) ∧ w = w' := impl_turn x 17 w (by omega)
theorem impl_turn_18 (x : W32) (w : World) : Calls Tryd.prog 113 #[.int .u32 x.i, .int .i64 18] w fun e w' => e = .returned (.int .u32 (x.rot 18).i) ∧ w = w' := impl_turn x 18 w (by omega)
theorem impl_turn_19 (x : W32) (w : World) : Calls Tryd.prog 113 #[.int .u32 x.i, .int .i64 19] w fun e w' => e = .returned (.int .u32 (x.rot 19).i) ∧ w = w' := impl_turn x 19 w (by omega)
theorem impl_turn_22 (x : W32) (w : World) : Calls Tryd.prog 113 #[.int .u32 x.i, .int .i64 22] w fun e w' => e = .returned (.int .u32 (x.rot 22).i) ∧ w = w' := impl_turn x 22 w (by omega)
theorem impl_turn_25 (x : W32) (w : World) : Calls Tryd.prog 113 #[.int .u32 x.i, .int .i64 25] w fun e w' => e = .returned (.int .u32 (x.rot 25).i) ∧ w = w' := impl_turn x 25 w (by omega)
theorem spec_l03Turn (x : W32) (n : Nat) (w : World) (h : 1 ≤ n ∧ n ≤ 31) :
    Calls Tryd.prog 116 #[.int .u32 x.i, .int .u64 n] w fun e w' => e = .returned (.int .u32 (x.rot n).i) ∧ w = w' := by
  go_enter Tryd.func116, Tryd.ntmps116
  go_wp2
  go_ret
  exact ⟨ret_int rfl, rfl⟩
theorem spec_turn_2 (x : W32) (w : World) : Calls Tryd.prog 116 #[.int .u32 x.i, .int .u64 2] w fun e w' => e = .returned (.int .u32 (x.rot 2).i) ∧ w = w' := spec_l03Turn x 2 w (by omega)
theorem spec_turn_6 (x : W32) (w : World) : Calls Tryd.prog 116 #[.int .u32 x.i, .int .u64 6] w fun e w' => e = .returned (.int .u32 (x.rot 6).i) ∧ w = w' := spec_l03Turn x 6 w (by omega)
theorem spec_turn_7 (x : W32) (w : World) : Calls Tryd.prog 116 #[.int .u32 x.i, .int .u64 7] w fun e w' => e = .returned (.int .u32 (x.rot 7).i) ∧ w = w' := spec_l03Turn x 7 w (by omega)
theorem spec_turn_11 (x : W32) (w : World) : Calls Tryd.prog 116 #[.int .u32 x.i, .int .u64 11] w fun e w' => e = .returned (.int .u32 (x.rot 11).i) ∧ w = w' := spec_l03Turn x 11 w (by omega)
theorem spec_turn_13 (x : W32) (w : World) : Calls Tryd.prog 116 #[.int .u32 x.i, .int .u64 13] w fun e w' => e = .returned (.int .u32 (x.rot 13).i) ∧ w = w' := spec_l03Turn x 13 w (by omega)
theorem spec_turn_17 (x : W32) (w : World) : Calls Tryd.prog 116 #[.int .u32 x.i, .int .u64 17] w fun e w' => e = .returned (.int .u32 (x.rot 17).i) ∧ w = w' := spec_l03Turn x 17 w (by omega)
theorem spec_turn_18 (x : W32) (w : World) : Calls Tryd.prog 116 #[.int .u32 x.i, .int .u64 18] w fun e w' => e = .returned (.int .u32 (x.rot 18).i) ∧ w = w' := spec_l03Turn x 18 w (by omega)
theorem spec_turn_19 (x : W32) (w : World) : Calls Tryd.prog 116 #[.int .u32 x.i, .int .u64 19] w fun e w' => e = .returned (.int .u32 (x.rot 19).i) ∧ w = w' := spec_l03Turn x 19 w (by omega)
theorem spec_turn_22 (x : W32) (w : World) : Calls Tryd.prog 116 #[.int .u32 x.i, .int .u64 22] w fun e w' => e = .returned (.int .u32 (x.rot 22).i) ∧ w = w' := spec_l03Turn x 22 w (by omega)
theorem spec_turn_25 (x : W32) (w : World) : Calls Tryd.prog 116 #[.int .u32 x.i, .int .u64 25] w fun e w' => e = .returned (.int .u32 (x.rot 25).i) ∧ w = w' := spec_l03Turn x 25 w (by omega)
/-- a word's four bytes -/
theorem impl_fourBytes (x : W32) (w : World) :
    Calls Tryd.prog 106 #[.int .u32 x.i] w fun e w' => e = .returned (.string (strOfNums x.nums)) ∧ Ext w w' := by
  have hcv := conv_lit4
  go_enter Tryd.func106, Tryd.ntmps106
  go_wp2
  go_ret
  exact ⟨rfl, (by repeat (first | (with_reducible first | exact Ext.refl _ | assumption | apply Ext.alloc | apply Ext.drew | apply Ext.drewN | refine Ext.setCell ?_ ?_ _ | refine Ext.trans ?_ (by assumption)) | (show _ ≤ _; first | omega | (dsimp only; omega) | (simp; done) | (simp; omega))))⟩
end Go.Proofs.YtniimhfelnjepaaDoor
