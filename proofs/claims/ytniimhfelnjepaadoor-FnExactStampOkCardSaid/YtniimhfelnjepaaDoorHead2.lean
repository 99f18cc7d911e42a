/- Heads: their texts. -/
import Derived.Test.YtniimhfelnjepaaDoorHead1
import Derived.Test.YtniimhfelnjepaaDoorConv
namespace Go.Proofs.YtniimhfelnjepaaDoor
open Go.RowKit

theorem headOk_true {h ep : Int} {r p : ByteArray} (hh : headOk h ep r p = true) : (0 ≤ h ∧ h ≤ 2) ∧ (1 ≤ ep ∧ ep ≤ 4) ∧ r.size = 16 ∧ p.size ≤ 16 ∧ ((ep = 1 ∧ p.size = 0) ∨ (ep ≠ 1 ∧ p.size = 16)) := by
  simp only [headOk, Bool.and_eq_true, inB_true, decide_eq_true_eq] at hh
  obtain ⟨h1, h2, h3, h4⟩ := hh
  refine ⟨h1, h2, h3, ?_⟩
  split at h4 <;> rename_i he <;> rw [decide_eq_true_eq] at h4
  · exact ⟨by omega, Or.inl ⟨he, h4⟩⟩
  · exact ⟨by omega, Or.inr ⟨he, h4⟩⟩
def headText (h ep : Int) (r p : ByteArray) : ByteArray := if headOk h ep r p then strOfNums [h, ep] ++ r ++ p else ⟨#[]⟩

set_option maxHeartbeats 400000 in
theorem impl_HeadText (h ep : Int) (r p : ByteArray) (w : World) :
    Calls Tryd.prog 34 #[.agg #[.int .i64 h, .int .i64 ep, .string r, .string p]] w fun e w' => e = .returned (.tuple #[.string (headText h ep r p), .bool (headOk h ep r p)]) ∧ Ext w w' := by
  cases hh : headOk h ep r p
  · have H := Lib.hid hh
    clear hh
    go_enter Tryd.func34, Tryd.ntmps34
    go_wp2_with (go_at_call 41; refine (impl_HeadOk _ _ _ _ _).mono ?_; rw [H.out]; rintro e w1 ⟨rfl, x1⟩; have E_x1 := Old.of x1; (repeat (first | (replace E_x1 := Old.undrew E_x1) | (replace E_x1 := Old.undrewN E_x1))); have c_E_x1 := Old.cell E_x1; have f_E_x1 := Old.frozen E_x1; have z_E_x1 := Old.size E_x1; try simp only [World.size_alloc] at c_E_x1 f_E_x1 z_E_x1; try have l_E_x1 := Nat.lt_of_succ_le z_E_x1; try have m_E_x1 := Nat.lt_of_succ_lt l_E_x1; try have n_E_x1 := Nat.lt_of_succ_lt m_E_x1)
    go_ret2
    exact ⟨by simp [headText, H.out], (by repeat (first | (with_reducible first | exact Ext.refl _ | assumption | apply Ext.alloc | apply Ext.drew | apply Ext.drewN | refine Ext.setCell ?_ ?_ _ | refine Ext.trans ?_ (by assumption)) | (show _ ≤ _; first | omega | (dsimp only; omega) | (simp; done) | (simp; omega))))⟩
  · obtain ⟨⟨a1, a2⟩, ⟨a3, a4⟩, a5, a6, -⟩ := headOk_true hh
    have H := Lib.hid hh
    have H5 := Lib.hid a5
    have a7 : r.size ≤ 16 := by omega
    clear hh a5
    have hcv := conv_lit2
    have e1 : h % 256 = h := by omega
    have e2 : ep % 256 = ep := by omega
    have hsz : (strOfNums [h, ep]).size = 2 := strOfNums_size _
    go_enter Tryd.func34, Tryd.ntmps34
    go_wp2_with (go_at_call 41; refine (impl_HeadOk _ _ _ _ _).mono ?_; rw [H.out]; rintro e w1 ⟨rfl, x1⟩; have E_x1 := Old.of x1; (repeat (first | (replace E_x1 := Old.undrew E_x1) | (replace E_x1 := Old.undrewN E_x1))); have c_E_x1 := Old.cell E_x1; have f_E_x1 := Old.frozen E_x1; have z_E_x1 := Old.size E_x1; try simp only [World.size_alloc] at c_E_x1 f_E_x1 z_E_x1; try have l_E_x1 := Nat.lt_of_succ_le z_E_x1; try have m_E_x1 := Nat.lt_of_succ_lt l_E_x1; try have n_E_x1 := Nat.lt_of_succ_lt m_E_x1)
    go_ret2
    exact ⟨by simp [headText, H.out], (by repeat (first | (with_reducible first | exact Ext.refl _ | assumption | apply Ext.alloc | apply Ext.drew | apply Ext.drewN | refine Ext.setCell ?_ ?_ _ | refine Ext.trans ?_ (by assumption)) | (show _ ≤ _; first | omega | (dsimp only; omega) | (simp; done) | (simp; omega))))⟩
end Go.Proofs.YtniimhfelnjepaaDoor
