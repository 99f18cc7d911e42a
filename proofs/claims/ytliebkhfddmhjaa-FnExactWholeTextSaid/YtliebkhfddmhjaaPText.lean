/- ProofText. -/
import Derived.Test.YtliebkhfddmhjaaLTxA
import Derived.Test.YtliebkhfddmhjaaStrA
namespace Go.Proofs.Ytliebkhfddmhjaa
open Go.RowKit

def proofTx (xs : List Leaf) (ss : List ByteArray) (wd : Int) : ByteArray := if proofWell xs ss wd = true then leavesT xs ++ varT ss.length ++ joinT ss else ⟨#[]⟩
theorem leavesT_size {xs : List Leaf} (h : leavesOk xs = true) : (leavesT xs).size ≤ 1001 + 1000 * 24 := by
  have := leavesUpto_size (leavesOk_LeafSmall h) xs.length (Nat.le_refl _)
  have := (leavesOk_small h).1
  unfold leavesT
  omega

set_option maxHeartbeats 800000 in
theorem impl_ProofText (v u : Value) (xs : List Leaf) (ss : List ByteArray) (wd : Int) (w : World) (h : Lvs w v xs) (hf : LeafFit xs) (hu : Strs w u ss) (hs : ∀ s ∈ ss, s.size ≤ maxLen) :
    Calls Try.prog 56 #[.agg #[v, u], .int .i64 wd] w fun e w' => e = .returned (.tuple #[.string (proofTx xs ss wd), .bool (proofWell xs ss wd)]) ∧ Ext w w' := by
  obtain ⟨a, c, rfl⟩ := h.form
  obtain ⟨b, d, rfl⟩ := hu.form
  rcases proofWell_cases xs ss wd with ⟨hp, h1⟩ | ⟨hp, h1, h2⟩ | ⟨hp, h1, h2, h3⟩ | ⟨hp, h1, h2, h3, h4⟩ | ⟨hp, h1, h2, h3, h4⟩
  case inl =>
    have R := Lib.hid (show proofTx xs ss wd = ⟨#[]⟩ by simp [proofTx, hp])
    have HP := Lib.hid hp
    have H1 := Lib.hid h1
    clear hp h1
    go_enter Try.func56, Try.ntmps56
    go_wp2_with (go_at_call 87; refine (impl_LeavesOk _ xs _ (h.ext (by repeat (first | (with_reducible first | exact Ext.refl _ | assumption | apply Ext.alloc | apply Ext.drew | apply Ext.drewN | refine Ext.setCell ?_ ?_ _ | refine Ext.trans ?_ (by assumption)) | (show _ ≤ _; first | omega | (dsimp only; omega) | (simp; done) | (simp; omega))))) hf).mono ?_; rw [H1.out]; rintro e w1 ⟨rfl, x1⟩; have E_x1 := Old.of x1; (repeat (first | (replace E_x1 := Old.undrew E_x1) | (replace E_x1 := Old.undrewN E_x1))); have c_E_x1 := Old.cell E_x1; have f_E_x1 := Old.frozen E_x1; have z_E_x1 := Old.size E_x1; try simp only [World.size_alloc] at c_E_x1 f_E_x1 z_E_x1; try have l_E_x1 := Nat.lt_of_succ_le z_E_x1; try have m_E_x1 := Nat.lt_of_succ_lt l_E_x1; try have n_E_x1 := Nat.lt_of_succ_lt m_E_x1)
    go_ret2
    exact ⟨ret_sb R.out.symm HP.out.symm, (by repeat (first | (with_reducible first | exact Ext.refl _ | assumption | apply Ext.alloc | apply Ext.drew | apply Ext.drewN | refine Ext.setCell ?_ ?_ _ | refine Ext.trans ?_ (by assumption)) | (show _ ≤ _; first | omega | (dsimp only; omega) | (simp; done) | (simp; omega))))⟩
  case inr.inl =>
    have R := Lib.hid (show proofTx xs ss wd = ⟨#[]⟩ by simp [proofTx, hp])
    have HP := Lib.hid hp
    have H1 := Lib.hid h1
    have h2i : (8 : Int) < ss.length := by omega
    clear hp h1
    go_enter Try.func56, Try.ntmps56
    go_wp2_with (go_at_call 87; refine (impl_LeavesOk _ xs _ (h.ext (by repeat (first | (with_reducible first | exact Ext.refl _ | assumption | apply Ext.alloc | apply Ext.drew | apply Ext.drewN | refine Ext.setCell ?_ ?_ _ | refine Ext.trans ?_ (by assumption)) | (show _ ≤ _; first | omega | (dsimp only; omega) | (simp; done) | (simp; omega))))) hf).mono ?_; rw [H1.out]; rintro e w1 ⟨rfl, x1⟩; have E_x1 := Old.of x1; (repeat (first | (replace E_x1 := Old.undrew E_x1) | (replace E_x1 := Old.undrewN E_x1))); have c_E_x1 := Old.cell E_x1; have f_E_x1 := Old.frozen E_x1; have z_E_x1 := Old.size E_x1; try simp only [World.size_alloc] at c_E_x1 f_E_x1 z_E_x1; try have l_E_x1 := Nat.lt_of_succ_le z_E_x1; try have m_E_x1 := Nat.lt_of_succ_lt l_E_x1; try have n_E_x1 := Nat.lt_of_succ_lt m_E_x1)
    go_ret2
    exact ⟨ret_sb R.out.symm HP.out.symm, (by repeat (first | (with_reducible first | exact Ext.refl _ | assumption | apply Ext.alloc | apply Ext.drew | apply Ext.drewN | refine Ext.setCell ?_ ?_ _ | refine Ext.trans ?_ (by assumption)) | (show _ ≤ _; first | omega | (dsimp only; omega) | (simp; done) | (simp; omega))))⟩
  case inr.inr.inl =>
    have R := Lib.hid (show proofTx xs ss wd = ⟨#[]⟩ by simp [proofTx, hp])
    have HP := Lib.hid hp
    have H1 := Lib.hid h1
    have H3 := Lib.hid h3
    have h2i : ¬ ((8 : Int) < ss.length) := by omega
    clear hp h1 h3
    go_enter Try.func56, Try.ntmps56
    go_wp2_with (go_at_call 87; refine (impl_LeavesOk _ xs _ (h.ext (by repeat (first | (with_reducible first | exact Ext.refl _ | assumption | apply Ext.alloc | apply Ext.drew | apply Ext.drewN | refine Ext.setCell ?_ ?_ _ | refine Ext.trans ?_ (by assumption)) | (show _ ≤ _; first | omega | (dsimp only; omega) | (simp; done) | (simp; omega))))) hf).mono ?_; rw [H1.out]; rintro e w1 ⟨rfl, x1⟩; have E_x1 := Old.of x1; (repeat (first | (replace E_x1 := Old.undrew E_x1) | (replace E_x1 := Old.undrewN E_x1))); have c_E_x1 := Old.cell E_x1; have f_E_x1 := Old.frozen E_x1; have z_E_x1 := Old.size E_x1; try simp only [World.size_alloc] at c_E_x1 f_E_x1 z_E_x1; try have l_E_x1 := Nat.lt_of_succ_le z_E_x1; try have m_E_x1 := Nat.lt_of_succ_lt l_E_x1; try have n_E_x1 := Nat.lt_of_succ_lt m_E_x1)
    go_wp2_with (go_at_call 88; refine (impl_isWide wd _).mono ?_; rw [H3.out]; rintro e w' ⟨rfl, rfl⟩)
    go_ret2
    exact ⟨ret_sb R.out.symm HP.out.symm, (by repeat (first | (with_reducible first | exact Ext.refl _ | assumption | apply Ext.alloc | apply Ext.drew | apply Ext.drewN | refine Ext.setCell ?_ ?_ _ | refine Ext.trans ?_ (by assumption)) | (show _ ≤ _; first | omega | (dsimp only; omega) | (simp; done) | (simp; omega))))⟩
  case inr.inr.inr.inl =>
    have R := Lib.hid (show proofTx xs ss wd = ⟨#[]⟩ by simp [proofTx, hp])
    have HP := Lib.hid hp
    have H1 := Lib.hid h1
    have H3 := Lib.hid h3
    have H4 := Lib.hid (show ∀ n : Int, n = ss.length → (wide ss wd && decide ((ss.length : Int) = n)) = false by intro n _; rw [h4]; rfl)
    have h2i : ¬ ((8 : Int) < ss.length) := by omega
    clear hp h1 h3 h4
    go_enter Try.func56, Try.ntmps56
    go_wp2_with (go_at_call 87; refine (impl_LeavesOk _ xs _ (h.ext (by repeat (first | (with_reducible first | exact Ext.refl _ | assumption | apply Ext.alloc | apply Ext.drew | apply Ext.drewN | refine Ext.setCell ?_ ?_ _ | refine Ext.trans ?_ (by assumption)) | (show _ ≤ _; first | omega | (dsimp only; omega) | (simp; done) | (simp; omega))))) hf).mono ?_; rw [H1.out]; rintro e w1 ⟨rfl, x1⟩; have E_x1 := Old.of x1; (repeat (first | (replace E_x1 := Old.undrew E_x1) | (replace E_x1 := Old.undrewN E_x1))); have c_E_x1 := Old.cell E_x1; have f_E_x1 := Old.frozen E_x1; have z_E_x1 := Old.size E_x1; try simp only [World.size_alloc] at c_E_x1 f_E_x1 z_E_x1; try have l_E_x1 := Nat.lt_of_succ_le z_E_x1; try have m_E_x1 := Nat.lt_of_succ_lt l_E_x1; try have n_E_x1 := Nat.lt_of_succ_lt m_E_x1)
    go_wp2_with (first | (go_at_call 88; refine (impl_isWide wd _).mono ?_; rw [H3.out]; rintro e w' ⟨rfl, rfl⟩) | (go_at_call 58; refine (impl_haveWidth _ ss _ _ _ (hu.ext (by repeat (first | (with_reducible first | exact Ext.refl _ | assumption | apply Ext.alloc | apply Ext.drew | apply Ext.drewN | refine Ext.setCell ?_ ?_ _ | refine Ext.trans ?_ (by assumption)) | (show _ ≤ _; first | omega | (dsimp only; omega) | (simp; done) | (simp; omega))))) hs).mono ?_; rw [H4.out _ rfl]; rintro e w' ⟨rfl, rfl⟩))
    go_ret2
    exact ⟨ret_sb R.out.symm HP.out.symm, (by repeat (first | (with_reducible first | exact Ext.refl _ | assumption | apply Ext.alloc | apply Ext.drew | apply Ext.drewN | refine Ext.setCell ?_ ?_ _ | refine Ext.trans ?_ (by assumption)) | (show _ ≤ _; first | omega | (dsimp only; omega) | (simp; done) | (simp; omega))))⟩
  case inr.inr.inr.inr =>
    have R := Lib.hid (show proofTx xs ss wd = leavesT xs ++ varT ss.length ++ joinT ss by simp [proofTx, hp])
    have hsm := wide_small (by omega) h3 h4
    have hss := leavesOk_LeafSmall h1
    have z1 := leavesT_size h1
    have z2 := varT_size ss.length
    have z3 : (joinT ss).size ≤ 200 * ss.length := by have := joinOn_size ⟨#[]⟩ hsm ss.length (Nat.le_refl _); rw [ba_empty_size] at this; unfold joinT; omega
    have a1 : ¬ (9223372036854775807 < (leavesT xs).size + (varT ss.length).size) := by omega
    have a2 : ¬ (9223372036854775807 < (leavesT xs).size + (varT ss.length).size + (joinT ss).size) := by omega
    have HP := Lib.hid hp
    have H1 := Lib.hid h1
    have H3 := Lib.hid h3
    have H4 := Lib.hid (show ∀ n : Int, n = ss.length → (wide ss wd && decide ((ss.length : Int) = n)) = true by intro n hn; rw [h4, hn]; simp)
    have h2i : ¬ ((8 : Int) < ss.length) := by omega
    clear hp h1 h3 h4 z1 z2 z3
    go_enter Try.func56, Try.ntmps56
    go_wp2_with (go_at_call 87; refine (impl_LeavesOk _ xs _ (h.ext (by repeat (first | (with_reducible first | exact Ext.refl _ | assumption | apply Ext.alloc | apply Ext.drew | apply Ext.drewN | refine Ext.setCell ?_ ?_ _ | refine Ext.trans ?_ (by assumption)) | (show _ ≤ _; first | omega | (dsimp only; omega) | (simp; done) | (simp; omega))))) hf).mono ?_; rw [H1.out]; rintro e w1 ⟨rfl, x1⟩; have E_x1 := Old.of x1; (repeat (first | (replace E_x1 := Old.undrew E_x1) | (replace E_x1 := Old.undrewN E_x1))); have c_E_x1 := Old.cell E_x1; have f_E_x1 := Old.frozen E_x1; have z_E_x1 := Old.size E_x1; try simp only [World.size_alloc] at c_E_x1 f_E_x1 z_E_x1; try have l_E_x1 := Nat.lt_of_succ_le z_E_x1; try have m_E_x1 := Nat.lt_of_succ_lt l_E_x1; try have n_E_x1 := Nat.lt_of_succ_lt m_E_x1)
    go_wp2_with (first | (go_at_call 88; refine (impl_isWide wd _).mono ?_; rw [H3.out]; rintro e w' ⟨rfl, rfl⟩) | (go_at_call 58; refine (impl_haveWidth _ ss _ _ _ (hu.ext (by repeat (first | (with_reducible first | exact Ext.refl _ | assumption | apply Ext.alloc | apply Ext.drew | apply Ext.drewN | refine Ext.setCell ?_ ?_ _ | refine Ext.trans ?_ (by assumption)) | (show _ ≤ _; first | omega | (dsimp only; omega) | (simp; done) | (simp; omega))))) hs).mono ?_; rw [H4.out _ rfl]; rintro e w' ⟨rfl, rfl⟩))
    have q0 := c_E_x1 (w.heap.size) 0 (by omega); simp [go_sem] at q0; have q1 := c_E_x1 (w.heap.size) 1 (by omega); simp [go_sem] at q1
    clear h2i
    go_region_held3 (fun W => W.cell? ⟨w.heap.size, 0, none⟩ = some (.slice a xs.length c) ∧ W.cell? ⟨w.heap.size, 1, none⟩ = some (.slice b ss.length d)) (first | exact ⟨q0, q1⟩ | exact ⟨(ya.cell _ _ l_E_x1).trans q0, (ya.cell _ _ l_E_x1).trans q1⟩) (first | (go_at_call 89; refine (impl_leavesText _ xs _ (h.ext (by repeat (first | (with_reducible first | exact Ext.refl _ | assumption | apply Ext.alloc | apply Ext.drew | apply Ext.drewN | refine Ext.setCell ?_ ?_ _ | refine Ext.trans ?_ (by assumption)) | (show _ ≤ _; first | omega | (dsimp only; omega) | (simp; done) | (simp; omega))))) hss).mono ?_; rintro e wa ⟨rfl, xa⟩; have ya : Ext w1 wa := (by repeat (first | (with_reducible first | exact Ext.refl _ | assumption | apply Ext.alloc | apply Ext.drew | apply Ext.drewN | refine Ext.setCell ?_ ?_ _ | refine Ext.trans ?_ (by assumption)) | (show _ ≤ _; first | omega | (dsimp only; omega) | (simp; done) | (simp; omega))))) | (go_at_call 39; refine (impl_varText _ _ (by omega)).mono ?_; rintro e wa ⟨rfl, xa⟩; have ya : Ext w1 wa := (by repeat (first | (with_reducible first | exact Ext.refl _ | assumption | apply Ext.alloc | apply Ext.drew | apply Ext.drewN | refine Ext.setCell ?_ ?_ _ | refine Ext.trans ?_ (by assumption)) | (show _ ≤ _; first | omega | (dsimp only; omega) | (simp; done) | (simp; omega))))) | (go_at_call 60; refine (impl_joined _ ss _ (hu.ext (by repeat (first | (with_reducible first | exact Ext.refl _ | assumption | apply Ext.alloc | apply Ext.drew | apply Ext.drewN | refine Ext.setCell ?_ ?_ _ | refine Ext.trans ?_ (by assumption)) | (show _ ≤ _; first | omega | (dsimp only; omega) | (simp; done) | (simp; omega))))) hsm).mono ?_; rintro e w' ⟨rfl, rfl⟩))
    all_goals
      go_wp2
      go_ret2
      exact ⟨ret_sb R.out.symm HP.out.symm, (by repeat (first | (with_reducible first | exact Ext.refl _ | assumption | apply Ext.alloc | apply Ext.drew | apply Ext.drewN | refine Ext.setCell ?_ ?_ _ | refine Ext.trans ?_ (by assumption)) | (show _ ≤ _; first | omega | (dsimp only; omega) | (simp; done) | (simp; omega))))⟩
set_option maxHeartbeats 800000 in
theorem spec_ProofText (v u : Value) (xs : List Leaf) (ss : List ByteArray) (wd : Int) (w : World) (h : Lvs w v xs) (hf : LeafFit xs) (hu : Strs w u ss) (hs : ∀ s ∈ ss, s.size ≤ maxLen) :
    Calls Try.prog 47 #[.agg #[v, u], .int .i64 wd] w fun e w' => e = .returned (.tuple #[.string (proofTx xs ss wd), .bool (proofWell xs ss wd)]) ∧ Ext w w' := by
  obtain ⟨a, c, rfl⟩ := h.form
  obtain ⟨b, d, rfl⟩ := hu.form
  rcases proofWell_cases xs ss wd with ⟨hp, h1⟩ | ⟨hp, h1, h2⟩ | ⟨hp, h1, h2, h3⟩ | ⟨hp, h1, h2, h3, h4⟩ | ⟨hp, h1, h2, h3, h4⟩
  case inl =>
    have R := Lib.hid (show proofTx xs ss wd = ⟨#[]⟩ by simp [proofTx, hp])
    have HP := Lib.hid hp
    have H1 := Lib.hid h1
    have HT := Lib.hid (show leavesTx xs = ⟨#[]⟩ by simp [leavesTx, h1])
    clear hp h1
    go_enter Try.func47, Try.ntmps47
    go_wp2_with (go_at_call 81; refine (spec_LeavesText _ xs _ (h.ext (by repeat (first | (with_reducible first | exact Ext.refl _ | assumption | apply Ext.alloc | apply Ext.drew | apply Ext.drewN | refine Ext.setCell ?_ ?_ _ | refine Ext.trans ?_ (by assumption)) | (show _ ≤ _; first | omega | (dsimp only; omega) | (simp; done) | (simp; omega))))) hf).mono ?_; rw [H1.out, HT.out]; rintro e w1 ⟨rfl, x1⟩; have E_x1 := Old.of x1; (repeat (first | (replace E_x1 := Old.undrew E_x1) | (replace E_x1 := Old.undrewN E_x1))); have c_E_x1 := Old.cell E_x1; have f_E_x1 := Old.frozen E_x1; have z_E_x1 := Old.size E_x1; try simp only [World.size_alloc] at c_E_x1 f_E_x1 z_E_x1; try have l_E_x1 := Nat.lt_of_succ_le z_E_x1; try have m_E_x1 := Nat.lt_of_succ_lt l_E_x1; try have n_E_x1 := Nat.lt_of_succ_lt m_E_x1)
    go_ret2
    exact ⟨ret_sb R.out.symm HP.out.symm, (by repeat (first | (with_reducible first | exact Ext.refl _ | assumption | apply Ext.alloc | apply Ext.drew | apply Ext.drewN | refine Ext.setCell ?_ ?_ _ | refine Ext.trans ?_ (by assumption)) | (show _ ≤ _; first | omega | (dsimp only; omega) | (simp; done) | (simp; omega))))⟩
  case inr.inl =>
    have R := Lib.hid (show proofTx xs ss wd = ⟨#[]⟩ by simp [proofTx, hp])
    have HP := Lib.hid hp
    have H1 := Lib.hid h1
    have HT := Lib.hid (show leavesTx xs = leavesT xs by simp [leavesTx, h1])
    have h2i : (8 : Int) < ss.length := by omega
    clear hp h1
    go_enter Try.func47, Try.ntmps47
    go_wp2_with (go_at_call 81; refine (spec_LeavesText _ xs _ (h.ext (by repeat (first | (with_reducible first | exact Ext.refl _ | assumption | apply Ext.alloc | apply Ext.drew | apply Ext.drewN | refine Ext.setCell ?_ ?_ _ | refine Ext.trans ?_ (by assumption)) | (show _ ≤ _; first | omega | (dsimp only; omega) | (simp; done) | (simp; omega))))) hf).mono ?_; rw [H1.out, HT.out]; rintro e w1 ⟨rfl, x1⟩; have E_x1 := Old.of x1; (repeat (first | (replace E_x1 := Old.undrew E_x1) | (replace E_x1 := Old.undrewN E_x1))); have c_E_x1 := Old.cell E_x1; have f_E_x1 := Old.frozen E_x1; have z_E_x1 := Old.size E_x1; try simp only [World.size_alloc] at c_E_x1 f_E_x1 z_E_x1; try have l_E_x1 := Nat.lt_of_succ_le z_E_x1; try have m_E_x1 := Nat.lt_of_succ_lt l_E_x1; try have n_E_x1 := Nat.lt_of_succ_lt m_E_x1)
    go_ret2
    exact ⟨ret_sb R.out.symm HP.out.symm, (by repeat (first | (with_reducible first | exact Ext.refl _ | assumption | apply Ext.alloc | apply Ext.drew | apply Ext.drewN | refine Ext.setCell ?_ ?_ _ | refine Ext.trans ?_ (by assumption)) | (show _ ≤ _; first | omega | (dsimp only; omega) | (simp; done) | (simp; omega))))⟩
  case inr.inr.inl =>
    have R := Lib.hid (show proofTx xs ss wd = ⟨#[]⟩ by simp [proofTx, hp])
    have HP := Lib.hid hp
    have H1 := Lib.hid h1
    have HT := Lib.hid (show leavesTx xs = leavesT xs by simp [leavesTx, h1])
    have h2i : ¬ ((8 : Int) < ss.length) := by omega
    have H4 := Lib.hid (show (wide ss wd && inB wd 1 32) = false by rw [h3]; simp)
    clear hp h1 h3
    go_enter Try.func47, Try.ntmps47
    go_wp2_with (go_at_call 81; refine (spec_LeavesText _ xs _ (h.ext (by repeat (first | (with_reducible first | exact Ext.refl _ | assumption | apply Ext.alloc | apply Ext.drew | apply Ext.drewN | refine Ext.setCell ?_ ?_ _ | refine Ext.trans ?_ (by assumption)) | (show _ ≤ _; first | omega | (dsimp only; omega) | (simp; done) | (simp; omega))))) hf).mono ?_; rw [H1.out, HT.out]; rintro e w1 ⟨rfl, x1⟩; have E_x1 := Old.of x1; (repeat (first | (replace E_x1 := Old.undrew E_x1) | (replace E_x1 := Old.undrewN E_x1))); have c_E_x1 := Old.cell E_x1; have f_E_x1 := Old.frozen E_x1; have z_E_x1 := Old.size E_x1; try simp only [World.size_alloc] at c_E_x1 f_E_x1 z_E_x1; try have l_E_x1 := Nat.lt_of_succ_le z_E_x1; try have m_E_x1 := Nat.lt_of_succ_lt l_E_x1; try have n_E_x1 := Nat.lt_of_succ_lt m_E_x1)
    go_wp2_with (go_at_call 48; refine (spec_l11Wide _ ss _ _ (hu.ext (by repeat (first | (with_reducible first | exact Ext.refl _ | assumption | apply Ext.alloc | apply Ext.drew | apply Ext.drewN | refine Ext.setCell ?_ ?_ _ | refine Ext.trans ?_ (by assumption)) | (show _ ≤ _; first | omega | (dsimp only; omega) | (simp; done) | (simp; omega))))) hs).mono ?_; rw [H4.out]; rintro e w' ⟨rfl, rfl⟩)
    go_ret2
    exact ⟨ret_sb R.out.symm HP.out.symm, (by repeat (first | (with_reducible first | exact Ext.refl _ | assumption | apply Ext.alloc | apply Ext.drew | apply Ext.drewN | refine Ext.setCell ?_ ?_ _ | refine Ext.trans ?_ (by assumption)) | (show _ ≤ _; first | omega | (dsimp only; omega) | (simp; done) | (simp; omega))))⟩
  case inr.inr.inr.inl =>
    have R := Lib.hid (show proofTx xs ss wd = ⟨#[]⟩ by simp [proofTx, hp])
    have HP := Lib.hid hp
    have H1 := Lib.hid h1
    have HT := Lib.hid (show leavesTx xs = leavesT xs by simp [leavesTx, h1])
    have h2i : ¬ ((8 : Int) < ss.length) := by omega
    have H4 := Lib.hid (show (wide ss wd && inB wd 1 32) = false by rw [h4]; rfl)
    clear hp h1 h3 h4
    go_enter Try.func47, Try.ntmps47
    go_wp2_with (go_at_call 81; refine (spec_LeavesText _ xs _ (h.ext (by repeat (first | (with_reducible first | exact Ext.refl _ | assumption | apply Ext.alloc | apply Ext.drew | apply Ext.drewN | refine Ext.setCell ?_ ?_ _ | refine Ext.trans ?_ (by assumption)) | (show _ ≤ _; first | omega | (dsimp only; omega) | (simp; done) | (simp; omega))))) hf).mono ?_; rw [H1.out, HT.out]; rintro e w1 ⟨rfl, x1⟩; have E_x1 := Old.of x1; (repeat (first | (replace E_x1 := Old.undrew E_x1) | (replace E_x1 := Old.undrewN E_x1))); have c_E_x1 := Old.cell E_x1; have f_E_x1 := Old.frozen E_x1; have z_E_x1 := Old.size E_x1; try simp only [World.size_alloc] at c_E_x1 f_E_x1 z_E_x1; try have l_E_x1 := Nat.lt_of_succ_le z_E_x1; try have m_E_x1 := Nat.lt_of_succ_lt l_E_x1; try have n_E_x1 := Nat.lt_of_succ_lt m_E_x1)
    go_wp2_with (go_at_call 48; refine (spec_l11Wide _ ss _ _ (hu.ext (by repeat (first | (with_reducible first | exact Ext.refl _ | assumption | apply Ext.alloc | apply Ext.drew | apply Ext.drewN | refine Ext.setCell ?_ ?_ _ | refine Ext.trans ?_ (by assumption)) | (show _ ≤ _; first | omega | (dsimp only; omega) | (simp; done) | (simp; omega))))) hs).mono ?_; rw [H4.out]; rintro e w' ⟨rfl, rfl⟩)
    go_ret2
    exact ⟨ret_sb R.out.symm HP.out.symm, (by repeat (first | (with_reducible first | exact Ext.refl _ | assumption | apply Ext.alloc | apply Ext.drew | apply Ext.drewN | refine Ext.setCell ?_ ?_ _ | refine Ext.trans ?_ (by assumption)) | (show _ ≤ _; first | omega | (dsimp only; omega) | (simp; done) | (simp; omega))))⟩
  case inr.inr.inr.inr =>
    have R := Lib.hid (show proofTx xs ss wd = leavesT xs ++ varT ss.length ++ joinT ss by simp [proofTx, hp])
    have hsm := wide_small (by omega) h3 h4
    have z1 := leavesT_size h1
    have z2 := varT_size ss.length
    have a1 : ¬ (9223372036854775807 < (leavesT xs).size + (varT ss.length).size) := by omega
    have HP := Lib.hid hp
    have H1 := Lib.hid h1
    have HT := Lib.hid (show leavesTx xs = leavesT xs by simp [leavesTx, h1])
    have h2i : ¬ ((8 : Int) < ss.length) := by omega
    have H4 := Lib.hid (show (wide ss wd && inB wd 1 32) = true by rw [h4, h3]; rfl)
    have HS := Lib.hid hsm
    have hT : (leavesT xs ++ varT ss.length).size ≤ 30000 := by rw [ByteArray.size_append]; omega
    generalize hU : leavesT xs ++ varT ss.length = T at *
    have HT2 := Lib.hid hU
    obtain ⟨-, a1', c1', hv, hc1, hm1, g1⟩ := id hu
    injection hv with e1 e2 e3
    subst e1 e3
    unfold maxLen at hm1
    clear hp h1 h3 h4 z1 z2 hsm hU e2
    go_enter Try.func47, Try.ntmps47
    go_wp2_with (go_at_call 81; refine (spec_LeavesText _ xs _ (h.ext (by repeat (first | (with_reducible first | exact Ext.refl _ | assumption | apply Ext.alloc | apply Ext.drew | apply Ext.drewN | refine Ext.setCell ?_ ?_ _ | refine Ext.trans ?_ (by assumption)) | (show _ ≤ _; first | omega | (dsimp only; omega) | (simp; done) | (simp; omega))))) hf).mono ?_; rw [H1.out, HT.out]; rintro e w1 ⟨rfl, x1⟩; have E_x1 := Old.of x1; (repeat (first | (replace E_x1 := Old.undrew E_x1) | (replace E_x1 := Old.undrewN E_x1))); have c_E_x1 := Old.cell E_x1; have f_E_x1 := Old.frozen E_x1; have z_E_x1 := Old.size E_x1; try simp only [World.size_alloc] at c_E_x1 f_E_x1 z_E_x1; try have l_E_x1 := Nat.lt_of_succ_le z_E_x1; try have m_E_x1 := Nat.lt_of_succ_lt l_E_x1; try have n_E_x1 := Nat.lt_of_succ_lt m_E_x1)
    go_wp2_with (go_at_call 48; refine (spec_l11Wide _ ss _ _ (hu.ext (by repeat (first | (with_reducible first | exact Ext.refl _ | assumption | apply Ext.alloc | apply Ext.drew | apply Ext.drewN | refine Ext.setCell ?_ ?_ _ | refine Ext.trans ?_ (by assumption)) | (show _ ≤ _; first | omega | (dsimp only; omega) | (simp; done) | (simp; omega))))) hs).mono ?_; rw [H4.out]; rintro e w' ⟨rfl, rfl⟩)
    refine (spec_l01Var _ _ (by omega)).mono ?_
    rintro e w2 ⟨rfl, x2⟩
    have E_x2 := Old.via E_x1 x2 (by repeat (first | (with_reducible first | exact Ext.refl _ | assumption | apply Ext.alloc | apply Ext.drew | apply Ext.drewN | refine Ext.setCell ?_ ?_ _ | refine Ext.trans ?_ (by assumption)) | (show _ ≤ _; first | omega | (dsimp only; omega) | (simp; done) | (simp; omega)))); clear c_E_x1 f_E_x1; (repeat (first | (replace E_x2 := Old.undrew E_x2) | (replace E_x2 := Old.undrewN E_x2))); have c_E_x2 := Old.cell E_x2; have f_E_x2 := Old.frozen E_x2; have z_E_x2 := Old.size E_x2; try simp only [World.size_alloc] at c_E_x2 f_E_x2 z_E_x2; try have l_E_x2 := Nat.lt_of_succ_le z_E_x2; try have m_E_x2 := Nat.lt_of_succ_lt l_E_x2; try have n_E_x2 := Nat.lt_of_succ_lt m_E_x2
    go_wp2_with fail
    rw [HT2.out]
    have q0 := c_E_x2 (w.heap.size) 0 (by omega); simp [go_sem] at q0; have q1 := c_E_x2 (w.heap.size) 1 (by omega); simp [go_sem] at q1
    have hl2 : w.heap.size ≤ w2.heap.size := by omega
    clear c_E_x2 f_E_x2 h2i a1 q0
    go_loop [6, 8] (fun s i => ∃ k : Nat, k ≤ ss.length ∧ i = .int .i64 k ∧ s = .string (joinOn T ss k)) (fun _ i => ss.length - (intOf i).toNat)
    case atStart => exact ⟨0, Nat.zero_le _, rfl, by rw [joinOn_zero]⟩
    case round =>
      obtain ⟨k, hk, rfl, rfl⟩ := hrel
      by_cases hlt : k < ss.length
      · rcases g1 with g1 | ⟨b1, o1, rfl, hb1, g1⟩
        · omega
        have y2 : Ext w w2 := (by repeat (first | (with_reducible first | exact Ext.refl _ | assumption | apply Ext.alloc | apply Ext.drew | apply Ext.drewN | refine Ext.setCell ?_ ?_ _ | refine Ext.trans ?_ (by assumption)) | (show _ ≤ _; first | omega | (dsimp only; omega) | (simp; done) | (simp; omega))))
        have e1 : w2.cell? ⟨b1, o1 + k, none⟩ = some (.string ss[k]) := (y2.cell b1 _ hb1).trans (g1 k _ (by simp [hlt]))
        have hsk := HS.out.2 ss[k] (List.getElem_mem hlt)
        have hz := joinOn_size T HS.out k hk
        have HU := Lib.hid (joinOn_succ T ss k hlt)
        clear g1
        go_wp2
        go_round
        case rel => exact ⟨k + 1, by omega, by go_num, by rw [HU.out]⟩
        case measure => simp [intOf]; omega
      · have hkn : k = ss.length := by omega
        subst hkn
        clear g1
        go_wp2
        go_ret2
        exact ⟨ret_sb (by rw [R.out, joinOn_all]) HP.out.symm, (by repeat (first | (with_reducible first | exact Ext.refl _ | assumption | apply Ext.alloc | apply Ext.drew | apply Ext.drewN | refine Ext.setCell ?_ ?_ _ | refine Ext.trans ?_ (by assumption)) | (show _ ≤ _; first | omega | (dsimp only; omega) | (simp; done) | (simp; omega))))⟩
end Go.Proofs.Ytliebkhfddmhjaa
