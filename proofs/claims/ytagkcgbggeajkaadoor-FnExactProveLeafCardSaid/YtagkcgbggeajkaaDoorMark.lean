/- The laws' marks: a returned slice is written over, and read again. -/
import Derived.Test.YtagkcgbggeajkaaDoorLeaf2
import Derived.Test.YtagkcgbggeajkaaDoorConv
import Derived.Test.YtagkcgbggeajkaaDoorFields
namespace Go.Proofs.YtagkcgbggeajkaaDoor
open Go.RowKit

def digits (n : Nat) (acc : ByteArray) : ByteArray := if n = 0 then acc else digits (n / 10) (strOfNums [48 + (n : Int) % 10] ++ acc)
termination_by n
theorem digits_zero (acc : ByteArray) : digits 0 acc = acc := by rw [digits, if_pos rfl]
theorem digits_more {n : Nat} (acc : ByteArray) (h : n ≠ 0) : digits n acc = digits (n / 10) (strOfNums [48 + (n : Int) % 10] ++ acc) := by rw [digits, if_neg h]
/-- a mark -/
def markI (k : Int) : ByteArray := ⟨#[109]⟩ ++ digits k.toNat ⟨#[]⟩

set_option maxHeartbeats 400000 in
theorem laws_markText (k : Int) (w : World) (hk : 1 ≤ k ∧ k ≤ 1099511627776) :
    Calls Tryd.prog 70 #[.int .i64 k] w fun e w' => e = .returned (.string (markI k)) ∧ Ext w w' := by
  obtain ⟨n, rfl⟩ := Int.eq_ofNat_of_zero_le (show 0 ≤ k by omega)
  have hcv := conv_lit1
  go_enter Tryd.func70, Tryd.ntmps70
  go_wp2
  go_loopw [0, 3] (fun c v wr => ∃ (m : Nat) (acc : ByteArray), c = .int .i64 m ∧ v = .string acc ∧ digits m acc = digits n ⟨#[]⟩ ∧ acc.size + m ≤ n ∧ Ext w wr) (fun c _ _ => (intOf c).toNat)
  case atStart => exact ⟨n, ⟨#[]⟩, rfl, rfl, rfl, by simp [ByteArray.size], (by repeat (first | (with_reducible first | exact Ext.refl _ | assumption | apply Ext.alloc | apply Ext.drew | apply Ext.drewN | refine Ext.setCell ?_ ?_ _ | refine Ext.trans ?_ (by assumption)) | (show _ ≤ _; first | omega | (dsimp only; omega) | (simp; done) | (simp; omega))))⟩
  case round =>
    obtain ⟨m, acc, rfl, rfl, hd, hle, hx⟩ := hrel
    have HD := Lib.hid hd
    clear hd
    by_cases hm : 0 < m
    · have hz : (strOfNums [48 + (m : Int) % 10]).size = 1 := strOfNums_size _
      have e1 : (48 + (m : Int) % 10) % 256 = 48 + (m : Int) % 10 := by omega
      have HM := Lib.hid (digits_more acc (show m ≠ 0 by omega))
      go_wp2
      go_roundw
      case rel => exact ⟨m / 10, _, by go_num, rfl, by rw [← HM.out, HD.out], by rw [ByteArray.size_append, hz]; omega, (by repeat (first | (with_reducible first | exact Ext.refl _ | assumption | apply Ext.alloc | apply Ext.drew | apply Ext.drewN | refine Ext.setCell ?_ ?_ _ | refine Ext.trans ?_ (by assumption)) | (show _ ≤ _; first | omega | (dsimp only; omega) | (simp; done) | (simp; omega))))⟩
      case measure => simp [intOf]; omega
    · have h0 : m = 0 := by omega
      subst h0
      have hz : (ByteArray.mk #[109]).size = 1 := rfl
      go_wp2
      go_ret
      exact ⟨ret_str (by rw [markI, Int.toNat_natCast, ← HD.out, digits_zero]), hx⟩
end Go.Proofs.YtagkcgbggeajkaaDoor
