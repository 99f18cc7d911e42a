/- The hash of a head; the law. -/
import Derived.Test.YtbgkeoidhfgmcaaDoorHash
import Derived.Test.YtbgkeoidhfgmcaaDoorLits
import Derived.Test.YtbgkeoidhfgmcaaDoorHead2
import Derived.Test.YtbgkeoidhfgmcaaDoorHead3
namespace Go.Proofs.YtbgkeoidhfgmcaaDoor
open Go.RowKit

def headH (h ep : Int) (r p : ByteArray) : ByteArray := if headOk h ep r p = true then tagH 4 [headText h ep r p] 16 else ⟨#[]⟩
theorem headText_le (h ep : Int) (r p : ByteArray) : (headText h ep r p).size ≤ 34 := by
  cases hh : headOk h ep r p
  · rw [headText, if_neg (by rw [hh]; decide)]; exact Nat.zero_le _
  · obtain ⟨-, -, h1, h2, -⟩ := headOk_true hh
    rw [headText, if_pos hh, ByteArray.size_append, ByteArray.size_append, strOfNums_size]
    simp only [List.length_cons, List.length_nil]
    omega
set_option maxHeartbeats 800000 in
theorem impl_HeadHash (h ep : Int) (r p : ByteArray) (w : World) (hT : Tabs w) :
    Calls Tryd.prog 30 #[.agg #[.int .i64 h, .int .i64 ep, .string r, .string p]] w fun e w' => e = .returned (.string (headH h ep r p)) ∧ Ext w w' := by
  have HT := Lib.hid hT
  have hz := headText_le h ep r p
  clear hT
  cases hh : headOk h ep r p
  · have R := Lib.hid (show headH h ep r p = ⟨#[]⟩ by rw [headH, if_neg (by rw [hh]; decide)])
    have H := Lib.hid hh
    clear hh
    go_enter Tryd.func30, Tryd.ntmps30
    go_wp2_with (go_at_call 68; refine (impl_HeadText _ _ _ _ _).mono ?_; rw [H.out]; rintro e w1 ⟨rfl, x1⟩; have E_x1 := Old.of x1; (repeat (first | (replace E_x1 := Old.undrew E_x1) | (replace E_x1 := Old.undrewN E_x1))); have c_E_x1 := Old.cell E_x1; have f_E_x1 := Old.frozen E_x1; have z_E_x1 := Old.size E_x1; try simp only [World.size_alloc] at c_E_x1 f_E_x1 z_E_x1; try have l_E_x1 := Nat.lt_of_succ_le z_E_x1; try have m_E_x1 := Nat.lt_of_succ_lt l_E_x1; try have n_E_x1 := Nat.lt_of_succ_lt m_E_x1)
    go_ret
    exact ⟨ret_str R.out.symm, (by repeat (first | (with_reducible first | exact Ext.refl _ | assumption | apply Ext.alloc | apply Ext.drew | apply Ext.drewN | refine Ext.setCell ?_ ?_ _ | refine Ext.trans ?_ (by assumption)) | (show _ ≤ _; first | omega | (dsimp only; omega) | (simp; done) | (simp; omega))))⟩
  · have R := Lib.hid (show headH h ep r p = tagH 4 [headText h ep r p] 16 by rw [headH, if_pos hh])
    have H := Lib.hid hh
    clear hh
    go_enter Tryd.func30, Tryd.ntmps30
    go_wp2_with (go_at_call 68; refine (impl_HeadText _ _ _ _ _).mono ?_; rw [H.out]; rintro e w1 ⟨rfl, x1⟩; have E_x1 := Old.of x1; (repeat (first | (replace E_x1 := Old.undrew E_x1) | (replace E_x1 := Old.undrewN E_x1))); have c_E_x1 := Old.cell E_x1; have f_E_x1 := Old.frozen E_x1; have z_E_x1 := Old.size E_x1; try simp only [World.size_alloc] at c_E_x1 f_E_x1 z_E_x1; try have l_E_x1 := Nat.lt_of_succ_le z_E_x1; try have m_E_x1 := Nat.lt_of_succ_lt l_E_x1; try have n_E_x1 := Nat.lt_of_succ_lt m_E_x1)
    refine (impl_hashOf 4 _ [headText h ep r p] 16 _ (by exact strs_lit1 _ _ _) (fit1 (le_max hz (by omega))) (by exact HT.out.ext (by repeat (first | (with_reducible first | exact Ext.refl _ | assumption | apply Ext.alloc | apply Ext.drew | apply Ext.drewN | refine Ext.setCell ?_ ?_ _ | refine Ext.trans ?_ (by assumption)) | (show _ ≤ _; first | omega | (dsimp only; omega) | (simp; done) | (simp; omega)))))).mono ?_
    rintro e w2 ⟨rfl, x2⟩
    go_wp2
    go_ret
    exact ⟨ret_str R.out.symm, (by repeat (first | (with_reducible first | exact Ext.refl _ | assumption | apply Ext.alloc | apply Ext.drew | apply Ext.drewN | refine Ext.setCell ?_ ?_ _ | refine Ext.trans ?_ (by assumption)) | (show _ ≤ _; first | omega | (dsimp only; omega) | (simp; done) | (simp; omega))))⟩
set_option maxHeartbeats 800000 in
theorem spec_HeadHash (h ep : Int) (r p : ByteArray) (w : World) :
    Calls Tryd.prog 28 #[.agg #[.int .i64 h, .int .i64 ep, .string r, .string p]] w fun e w' => e = .returned (.string (headH h ep r p)) ∧ Ext w w' := by
  have hz := headText_le h ep r p
  cases hh : headOk h ep r p
  · have R := Lib.hid (show headH h ep r p = ⟨#[]⟩ by rw [headH, if_neg (by rw [hh]; decide)])
    have H := Lib.hid hh
    clear hh
    go_enter Tryd.func28, Tryd.ntmps28
    go_wp2_with (go_at_call 66; refine (spec_HeadText _ _ _ _ _).mono ?_; rw [H.out]; rintro e w1 ⟨rfl, x1⟩; have E_x1 := Old.of x1; (repeat (first | (replace E_x1 := Old.undrew E_x1) | (replace E_x1 := Old.undrewN E_x1))); have c_E_x1 := Old.cell E_x1; have f_E_x1 := Old.frozen E_x1; have z_E_x1 := Old.size E_x1; try simp only [World.size_alloc] at c_E_x1 f_E_x1 z_E_x1; try have l_E_x1 := Nat.lt_of_succ_le z_E_x1; try have m_E_x1 := Nat.lt_of_succ_lt l_E_x1; try have n_E_x1 := Nat.lt_of_succ_lt m_E_x1)
    go_ret
    exact ⟨ret_str R.out.symm, (by repeat (first | (with_reducible first | exact Ext.refl _ | assumption | apply Ext.alloc | apply Ext.drew | apply Ext.drewN | refine Ext.setCell ?_ ?_ _ | refine Ext.trans ?_ (by assumption)) | (show _ ≤ _; first | omega | (dsimp only; omega) | (simp; done) | (simp; omega))))⟩
  · have R := Lib.hid (show headH h ep r p = tagH 4 [headText h ep r p] 16 by rw [headH, if_pos hh])
    have H := Lib.hid hh
    clear hh
    go_enter Tryd.func28, Tryd.ntmps28
    go_wp2_with (go_at_call 66; refine (spec_HeadText _ _ _ _ _).mono ?_; rw [H.out]; rintro e w1 ⟨rfl, x1⟩; have E_x1 := Old.of x1; (repeat (first | (replace E_x1 := Old.undrew E_x1) | (replace E_x1 := Old.undrewN E_x1))); have c_E_x1 := Old.cell E_x1; have f_E_x1 := Old.frozen E_x1; have z_E_x1 := Old.size E_x1; try simp only [World.size_alloc] at c_E_x1 f_E_x1 z_E_x1; try have l_E_x1 := Nat.lt_of_succ_le z_E_x1; try have m_E_x1 := Nat.lt_of_succ_lt l_E_x1; try have n_E_x1 := Nat.lt_of_succ_lt m_E_x1)
    refine (spec_TagHash 4 _ [headText h ep r p] 16 _ (by exact strs_lit1 _ _ _) (fit1 (le_max hz (by omega)))).mono ?_
    rintro e w2 ⟨rfl, x2⟩
    go_wp2
    go_ret
    exact ⟨ret_str R.out.symm, (by repeat (first | (with_reducible first | exact Ext.refl _ | assumption | apply Ext.alloc | apply Ext.drew | apply Ext.drewN | refine Ext.setCell ?_ ?_ _ | refine Ext.trans ?_ (by assumption)) | (show _ ≤ _; first | omega | (dsimp only; omega) | (simp; done) | (simp; omega))))⟩
set_option maxHeartbeats 800000 in
theorem laws_FnExactHeadHash (h ep : Int) (r p : ByteArray) (w : World) (hr : r.size ≤ maxLen) (hp : p.size ≤ maxLen) (hT : Tabs w) :
    Calls Tryd.prog 7 #[.agg #[.int .i64 h, .int .i64 ep, .string r, .string p]] w fun e w' => e = .returned (.bool true) ∧ Ext w w' := by
  have HT := Lib.hid hT
  clear hT
  rcases szr_cases (r.size + p.size) with ⟨hz, -⟩ | ⟨z, hz, hz0, hz1, -⟩
  · have HZ := Lib.hid hz
    clear hz
    go_enter Tryd.func7, Tryd.ntmps7
    go_wp2_with (go_at_call 27; refine (laws_szHead _ _ _ _ _ _ (by omega) hr hp).mono ?_; rw [HZ.out]; rintro e w1 ⟨rfl, x1⟩; have E_x1 := Old.of x1; (repeat (first | (replace E_x1 := Old.undrew E_x1) | (replace E_x1 := Old.undrewN E_x1))); have c_E_x1 := Old.cell E_x1; have f_E_x1 := Old.frozen E_x1; have z_E_x1 := Old.size E_x1; try simp only [World.size_alloc] at c_E_x1 f_E_x1 z_E_x1; try have l_E_x1 := Nat.lt_of_succ_le z_E_x1; try have m_E_x1 := Nat.lt_of_succ_lt l_E_x1; try have n_E_x1 := Nat.lt_of_succ_lt m_E_x1)
    go_ret
    exact ⟨rfl, (by repeat (first | (with_reducible first | exact Ext.refl _ | assumption | apply Ext.alloc | apply Ext.drew | apply Ext.drewN | refine Ext.setCell ?_ ?_ _ | refine Ext.trans ?_ (by assumption)) | (show _ ≤ _; first | omega | (dsimp only; omega) | (simp; done) | (simp; omega))))⟩
  · have HZ := Lib.hid hz
    clear hz hz1
    go_enter Tryd.func7, Tryd.ntmps7
    go_wp2_with (go_at_call 27; refine (laws_szHead _ _ _ _ _ _ (by omega) hr hp).mono ?_; rw [HZ.out]; rintro e w1 ⟨rfl, x1⟩; have E_x1 := Old.of x1; (repeat (first | (replace E_x1 := Old.undrew E_x1) | (replace E_x1 := Old.undrewN E_x1))); have c_E_x1 := Old.cell E_x1; have f_E_x1 := Old.frozen E_x1; have z_E_x1 := Old.size E_x1; try simp only [World.size_alloc] at c_E_x1 f_E_x1 z_E_x1; try have l_E_x1 := Nat.lt_of_succ_le z_E_x1; try have m_E_x1 := Nat.lt_of_succ_lt l_E_x1; try have n_E_x1 := Nat.lt_of_succ_lt m_E_x1)
    refine (laws_toHead _ _ _ _ _).mono ?_
    rintro e w2 ⟨rfl, x2⟩
    have E_x2 := Old.via E_x1 x2 (by repeat (first | (with_reducible first | exact Ext.refl _ | assumption | apply Ext.alloc | apply Ext.drew | apply Ext.drewN | refine Ext.setCell ?_ ?_ _ | refine Ext.trans ?_ (by assumption)) | (show _ ≤ _; first | omega | (dsimp only; omega) | (simp; done) | (simp; omega)))); clear c_E_x1 f_E_x1; (repeat (first | (replace E_x2 := Old.undrew E_x2) | (replace E_x2 := Old.undrewN E_x2))); have c_E_x2 := Old.cell E_x2; have f_E_x2 := Old.frozen E_x2; have z_E_x2 := Old.size E_x2; try simp only [World.size_alloc] at c_E_x2 f_E_x2 z_E_x2; try have l_E_x2 := Nat.lt_of_succ_le z_E_x2; try have m_E_x2 := Nat.lt_of_succ_lt l_E_x2; try have n_E_x2 := Nat.lt_of_succ_lt m_E_x2
    go_wp2_with fail
    refine (spec_HeadHash _ _ _ _ _).mono ?_
    rintro e w3 ⟨rfl, x3⟩
    have E_x3 := Old.via E_x2 x3 (by repeat (first | (with_reducible first | exact Ext.refl _ | assumption | apply Ext.alloc | apply Ext.drew | apply Ext.drewN | refine Ext.setCell ?_ ?_ _ | refine Ext.trans ?_ (by assumption)) | (show _ ≤ _; first | omega | (dsimp only; omega) | (simp; done) | (simp; omega)))); clear c_E_x2 f_E_x2; (repeat (first | (replace E_x3 := Old.undrew E_x3) | (replace E_x3 := Old.undrewN E_x3))); have c_E_x3 := Old.cell E_x3; have f_E_x3 := Old.frozen E_x3; have z_E_x3 := Old.size E_x3; try simp only [World.size_alloc] at c_E_x3 f_E_x3 z_E_x3; try have l_E_x3 := Nat.lt_of_succ_le z_E_x3; try have m_E_x3 := Nat.lt_of_succ_lt l_E_x3; try have n_E_x3 := Nat.lt_of_succ_lt m_E_x3
    go_wp2_with fail
    refine (laws_toHead _ _ _ _ _).mono ?_
    rintro e w4 ⟨rfl, x4⟩
    have E_x4 := Old.via E_x3 x4 (by repeat (first | (with_reducible first | exact Ext.refl _ | assumption | apply Ext.alloc | apply Ext.drew | apply Ext.drewN | refine Ext.setCell ?_ ?_ _ | refine Ext.trans ?_ (by assumption)) | (show _ ≤ _; first | omega | (dsimp only; omega) | (simp; done) | (simp; omega)))); clear c_E_x3 f_E_x3; (repeat (first | (replace E_x4 := Old.undrew E_x4) | (replace E_x4 := Old.undrewN E_x4))); have c_E_x4 := Old.cell E_x4; have f_E_x4 := Old.frozen E_x4; have z_E_x4 := Old.size E_x4; try simp only [World.size_alloc] at c_E_x4 f_E_x4 z_E_x4; try have l_E_x4 := Nat.lt_of_succ_le z_E_x4; try have m_E_x4 := Nat.lt_of_succ_lt l_E_x4; try have n_E_x4 := Nat.lt_of_succ_lt m_E_x4
    go_wp2_with fail
    refine (impl_HeadHash _ _ _ _ _ (by exact HT.out.ext (by repeat (first | (with_reducible first | exact Ext.refl _ | assumption | apply Ext.alloc | apply Ext.drew | apply Ext.drewN | refine Ext.setCell ?_ ?_ _ | refine Ext.trans ?_ (by assumption)) | (show _ ≤ _; first | omega | (dsimp only; omega) | (simp; done) | (simp; omega)))))).mono ?_
    rintro e w5 ⟨rfl, x5⟩
    have E_x5 := Old.via E_x4 x5 (by repeat (first | (with_reducible first | exact Ext.refl _ | assumption | apply Ext.alloc | apply Ext.drew | apply Ext.drewN | refine Ext.setCell ?_ ?_ _ | refine Ext.trans ?_ (by assumption)) | (show _ ≤ _; first | omega | (dsimp only; omega) | (simp; done) | (simp; omega)))); clear c_E_x4 f_E_x4; (repeat (first | (replace E_x5 := Old.undrew E_x5) | (replace E_x5 := Old.undrewN E_x5))); have c_E_x5 := Old.cell E_x5; have f_E_x5 := Old.frozen E_x5; have z_E_x5 := Old.size E_x5; try simp only [World.size_alloc] at c_E_x5 f_E_x5 z_E_x5; try have l_E_x5 := Nat.lt_of_succ_le z_E_x5; try have m_E_x5 := Nat.lt_of_succ_lt l_E_x5; try have n_E_x5 := Nat.lt_of_succ_lt m_E_x5
    go_wp2
    go_ret
    exact ⟨rfl, (by repeat (first | (with_reducible first | exact Ext.refl _ | assumption | apply Ext.alloc | apply Ext.drew | apply Ext.drewN | refine Ext.setCell ?_ ?_ _ | refine Ext.trans ?_ (by assumption)) | (show _ ≤ _; first | omega | (dsimp only; omega) | (simp; done) | (simp; omega))))⟩
end Go.Proofs.YtbgkeoidhfgmcaaDoor
