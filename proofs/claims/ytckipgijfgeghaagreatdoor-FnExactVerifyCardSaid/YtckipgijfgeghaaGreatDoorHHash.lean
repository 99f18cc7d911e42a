/- The hash of a head; the law. -/
import Derived.Test.YtckipgijfgeghaaGreatDoorHashA
import Derived.Test.YtckipgijfgeghaaGreatDoorStrA
import Derived.Test.YtckipgijfgeghaaGreatDoorHeadA
namespace Go.Proofs.YtckipgijfgeghaaGreatDoor
open Go.RowKit

def headH (h ep : Int) (r p : ByteArray) : ByteArray := if headOk h ep r p = true then tagH 4 [headText h ep r p] 16 else ⟨#[]⟩
theorem headText_le (h ep : Int) (r p : ByteArray) : (headText h ep r p).size ≤ 34 := by
  cases hh : headOk h ep r p
  · rw [headText, if_neg (by rw [hh]; decide)]; exact Nat.zero_le _
  · obtain ⟨-, -, h1, h2, -⟩ := headOk_true hh
    rw [headText, if_pos hh, ByteArray.size_append, ByteArray.size_append, strOfNums_size]
    simp only [List.length_cons, List.length_nil]
    omega
set_option maxHeartbeats 800000 in
theorem impl_HeadHash (h ep : Int) (r p : ByteArray) (w : World) (hT : Tabs w) :
    Calls Tryz.prog 79 #[.agg #[.int .i64 h, .int .i64 ep, .string r, .string p]] w fun e w' => e = .returned (.string (headH h ep r p)) ∧ Ext w w' := by
  have HT := Lib.hid hT
  have hz := headText_le h ep r p
  clear hT
  cases hh : headOk h ep r p
  · have R := Lib.hid (show headH h ep r p = ⟨#[]⟩ by rw [headH, if_neg (by rw [hh]; decide)])
    have H := Lib.hid hh
    clear hh
    go_enter Tryz.func79, Tryz.ntmps79
    go_wp2_with (go_at_call 125; refine (impl_HeadText _ _ _ _ _).mono ?_; rw [H.out]; rintro e w1 ⟨rfl, x1⟩; have E_x1 := Old.of x1; (repeat (first | (replace E_x1 := Old.undrew E_x1) | (replace E_x1 := Old.undrewN E_x1))); have c_E_x1 := Old.cell E_x1; have f_E_x1 := Old.frozen E_x1; have z_E_x1 := Old.size E_x1; try simp only [World.size_alloc] at c_E_x1 f_E_x1 z_E_x1; try have l_E_x1 := Nat.lt_of_succ_le z_E_x1; try have m_E_x1 := Nat.lt_of_succ_lt l_E_x1; try have n_E_x1 := Nat.lt_of_succ_lt m_E_x1)
    go_ret
    exact ⟨ret_str R.out.symm, (by repeat (first | (with_reducible first | exact Ext.refl _ | assumption | apply Ext.alloc | apply Ext.drew | apply Ext.drewN | refine Ext.setCell ?_ ?_ _ | refine Ext.trans ?_ (by assumption)) | (show _ ≤ _; first | omega | (dsimp only; omega) | (simp; done) | (simp; omega))))⟩
  · have R := Lib.hid (show headH h ep r p = tagH 4 [headText h ep r p] 16 by rw [headH, if_pos hh])
    have H := Lib.hid hh
    clear hh
    go_enter Tryz.func79, Tryz.ntmps79
    go_wp2_with (go_at_call 125; refine (impl_HeadText _ _ _ _ _).mono ?_; rw [H.out]; rintro e w1 ⟨rfl, x1⟩; have E_x1 := Old.of x1; (repeat (first | (replace E_x1 := Old.undrew E_x1) | (replace E_x1 := Old.undrewN E_x1))); have c_E_x1 := Old.cell E_x1; have f_E_x1 := Old.frozen E_x1; have z_E_x1 := Old.size E_x1; try simp only [World.size_alloc] at c_E_x1 f_E_x1 z_E_x1; try have l_E_x1 := Nat.lt_of_succ_le z_E_x1; try have m_E_x1 := Nat.lt_of_succ_lt l_E_x1; try have n_E_x1 := Nat.lt_of_succ_lt m_E_x1)
    refine (impl_hashOf 4 _ [headText h ep r p] 16 _ (by exact strs_lit1 _ _ _) (fit1 (le_max hz (by omega))) (by exact HT.out.ext (by repeat (first | (with_reducible first | exact Ext.refl _ | assumption | apply Ext.alloc | apply Ext.drew | apply Ext.drewN | refine Ext.setCell ?_ ?_ _ | refine Ext.trans ?_ (by assumption)) | (show _ ≤ _; first | omega | (dsimp only; omega) | (simp; done) | (simp; omega)))))).mono ?_
    rintro e w2 ⟨rfl, x2⟩
    go_wp2
    go_ret
    exact ⟨ret_str R.out.symm, (by repeat (first | (with_reducible first | exact Ext.refl _ | assumption | apply Ext.alloc | apply Ext.drew | apply Ext.drewN | refine Ext.setCell ?_ ?_ _ | refine Ext.trans ?_ (by assumption)) | (show _ ≤ _; first | omega | (dsimp only; omega) | (simp; done) | (simp; omega))))⟩
set_option maxHeartbeats 800000 in
theorem spec_HeadHash (h ep : Int) (r p : ByteArray) (w : World) :
    Calls Tryz.prog 62 #[.agg #[.int .i64 h, .int .i64 ep, .string r, .string p]] w fun e w' => e = .returned (.string (headH h ep r p)) ∧ Ext w w' := by
  have hz := headText_le h ep r p
  cases hh : headOk h ep r p
  · have R := Lib.hid (show headH h ep r p = ⟨#[]⟩ by rw [headH, if_neg (by rw [hh]; decide)])
    have H := Lib.hid hh
    clear hh
    go_enter Tryz.func62, Tryz.ntmps62
    go_wp2_with (go_at_call 113; refine (spec_HeadText _ _ _ _ _).mono ?_; rw [H.out]; rintro e w1 ⟨rfl, x1⟩; have E_x1 := Old.of x1; (repeat (first | (replace E_x1 := Old.undrew E_x1) | (replace E_x1 := Old.undrewN E_x1))); have c_E_x1 := Old.cell E_x1; have f_E_x1 := Old.frozen E_x1; have z_E_x1 := Old.size E_x1; try simp only [World.size_alloc] at c_E_x1 f_E_x1 z_E_x1; try have l_E_x1 := Nat.lt_of_succ_le z_E_x1; try have m_E_x1 := Nat.lt_of_succ_lt l_E_x1; try have n_E_x1 := Nat.lt_of_succ_lt m_E_x1)
    go_ret
    exact ⟨ret_str R.out.symm, (by repeat (first | (with_reducible first | exact Ext.refl _ | assumption | apply Ext.alloc | apply Ext.drew | apply Ext.drewN | refine Ext.setCell ?_ ?_ _ | refine Ext.trans ?_ (by assumption)) | (show _ ≤ _; first | omega | (dsimp only; omega) | (simp; done) | (simp; omega))))⟩
  · have R := Lib.hid (show headH h ep r p = tagH 4 [headText h ep r p] 16 by rw [headH, if_pos hh])
    have H := Lib.hid hh
    clear hh
    go_enter Tryz.func62, Tryz.ntmps62
    go_wp2_with (go_at_call 113; refine (spec_HeadText _ _ _ _ _).mono ?_; rw [H.out]; rintro e w1 ⟨rfl, x1⟩; have E_x1 := Old.of x1; (repeat (first | (replace E_x1 := Old.undrew E_x1) | (replace E_x1 := Old.undrewN E_x1))); have c_E_x1 := Old.cell E_x1; have f_E_x1 := Old.frozen E_x1; have z_E_x1 := Old.size E_x1; try simp only [World.size_alloc] at c_E_x1 f_E_x1 z_E_x1; try have l_E_x1 := Nat.lt_of_succ_le z_E_x1; try have m_E_x1 := Nat.lt_of_succ_lt l_E_x1; try have n_E_x1 := Nat.lt_of_succ_lt m_E_x1)
    refine (spec_TagHash 4 _ [headText h ep r p] 16 _ (by exact strs_lit1 _ _ _) (fit1 (le_max hz (by omega)))).mono ?_
    rintro e w2 ⟨rfl, x2⟩
    go_wp2
    go_ret
    exact ⟨ret_str R.out.symm, (by repeat (first | (with_reducible first | exact Ext.refl _ | assumption | apply Ext.alloc | apply Ext.drew | apply Ext.drewN | refine Ext.setCell ?_ ?_ _ | refine Ext.trans ?_ (by assumption)) | (show _ ≤ _; first | omega | (dsimp only; omega) | (simp; done) | (simp; omega))))⟩
end Go.Proofs.YtckipgijfgeghaaGreatDoor
