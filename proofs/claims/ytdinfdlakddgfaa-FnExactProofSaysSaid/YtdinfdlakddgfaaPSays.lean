/- ProofSays: the law. -/
import Derived.Test.YtdinfdlakddgfaaProof
namespace Go.Proofs.Ytdinfdlakddgfaa
open Go.RowKit

set_option maxHeartbeats 800000 in
theorem laws_FnExactProofSays (n : ByteArray) (v u : Value) (xs : List Leaf) (ss : List ByteArray) (w : World) (hn : n.size ≤ maxLen) (h : Lvs w v xs) (hf : LeafFit xs) (hu : Strs w u ss) (hs : ∀ s ∈ ss, s.size ≤ maxLen) :
    Calls Try.prog 4 #[.string n, .agg #[v, u]] w fun e w' => e = .returned (.bool true) ∧ Ext w w' := by
  obtain ⟨a, c, rfl⟩ := h.form
  obtain ⟨b, d, rfl⟩ := hu.form
  unfold maxLen at hn
  by_cases hbig : 1048576 < n.size
  · go_enter Try.func4, Try.ntmps4
    go_wp2
    go_ret
    exact ⟨rfl, (by repeat (first | (with_reducible first | exact Ext.refl _ | assumption | apply Ext.alloc | apply Ext.drew | apply Ext.drewN | refine Ext.setCell ?_ ?_ _ | refine Ext.trans ?_ (by assumption)) | (show _ ≤ _; first | omega | (dsimp only; omega) | (simp; done) | (simp; omega))))⟩
  rcases szp_cases (xs.length + leafBytes xs) (ss.length + sizes ss) with hz | ⟨z, hz, hz0, hz1, hz2⟩
  · have HZ := Lib.hid hz
    clear hz
    go_enter Try.func4, Try.ntmps4
    go_wp2_with (go_at_call 16; refine (laws_szProof _ _ xs ss _ _ (h.ext (by repeat (first | (with_reducible first | exact Ext.refl _ | assumption | apply Ext.alloc | apply Ext.drew | apply Ext.drewN | refine Ext.setCell ?_ ?_ _ | refine Ext.trans ?_ (by assumption)) | (show _ ≤ _; first | omega | (dsimp only; omega) | (simp; done) | (simp; omega))))) hf (hu.ext (by repeat (first | (with_reducible first | exact Ext.refl _ | assumption | apply Ext.alloc | apply Ext.drew | apply Ext.drewN | refine Ext.setCell ?_ ?_ _ | refine Ext.trans ?_ (by assumption)) | (show _ ≤ _; first | omega | (dsimp only; omega) | (simp; done) | (simp; omega))))) hs (by omega)).mono ?_; rw [HZ.out]; rintro e w1 ⟨rfl, x1⟩)
    go_ret
    exact ⟨rfl, (by repeat (first | (with_reducible first | exact Ext.refl _ | assumption | apply Ext.alloc | apply Ext.drew | apply Ext.drewN | refine Ext.setCell ?_ ?_ _ | refine Ext.trans ?_ (by assumption)) | (show _ ≤ _; first | omega | (dsimp only; omega) | (simp; done) | (simp; omega))))⟩
  · have HZ := Lib.hid hz
    have hlen : xs.length ≤ 1099511627776 := by omega
    have hlen2 : ss.length ≤ 1099511627776 := by omega
    clear hz hz1 hz2
    go_enter Try.func4, Try.ntmps4
    go_wp2_with (go_at_call 16; refine (laws_szProof _ _ xs ss _ _ (h.ext (by repeat (first | (with_reducible first | exact Ext.refl _ | assumption | apply Ext.alloc | apply Ext.drew | apply Ext.drewN | refine Ext.setCell ?_ ?_ _ | refine Ext.trans ?_ (by assumption)) | (show _ ≤ _; first | omega | (dsimp only; omega) | (simp; done) | (simp; omega))))) hf (hu.ext (by repeat (first | (with_reducible first | exact Ext.refl _ | assumption | apply Ext.alloc | apply Ext.drew | apply Ext.drewN | refine Ext.setCell ?_ ?_ _ | refine Ext.trans ?_ (by assumption)) | (show _ ≤ _; first | omega | (dsimp only; omega) | (simp; done) | (simp; omega))))) hs (by omega)).mono ?_; rw [HZ.out]; rintro e w1 ⟨rfl, x1⟩; have E_x1 := Old.of x1; (repeat (first | (replace E_x1 := Old.undrew E_x1) | (replace E_x1 := Old.undrewN E_x1))); have c_E_x1 := Old.cell E_x1; have f_E_x1 := Old.frozen E_x1; have z_E_x1 := Old.size E_x1; try simp only [World.size_alloc] at c_E_x1 f_E_x1 z_E_x1; try have l_E_x1 := Nat.lt_of_succ_le z_E_x1; try have m_E_x1 := Nat.lt_of_succ_lt l_E_x1; try have n_E_x1 := Nat.lt_of_succ_lt m_E_x1)
    refine (laws_toProof _ _ xs ss _ (h.ext (by repeat (first | (with_reducible first | exact Ext.refl _ | assumption | apply Ext.alloc | apply Ext.drew | apply Ext.drewN | refine Ext.setCell ?_ ?_ _ | refine Ext.trans ?_ (by assumption)) | (show _ ≤ _; first | omega | (dsimp only; omega) | (simp; done) | (simp; omega))))) (hu.ext (by repeat (first | (with_reducible first | exact Ext.refl _ | assumption | apply Ext.alloc | apply Ext.drew | apply Ext.drewN | refine Ext.setCell ?_ ?_ _ | refine Ext.trans ?_ (by assumption)) | (show _ ≤ _; first | omega | (dsimp only; omega) | (simp; done) | (simp; omega))))) hlen hlen2).mono ?_
    rintro e w2 ⟨a2, c2, b2, d2, rfl, o2, p2, x2⟩
    have E_x2 := Old.via E_x1 x2 (by repeat (first | (with_reducible first | exact Ext.refl _ | assumption | apply Ext.alloc | apply Ext.drew | apply Ext.drewN | refine Ext.setCell ?_ ?_ _ | refine Ext.trans ?_ (by assumption)) | (show _ ≤ _; first | omega | (dsimp only; omega) | (simp; done) | (simp; omega)))); clear c_E_x1 f_E_x1; (repeat (first | (replace E_x2 := Old.undrew E_x2) | (replace E_x2 := Old.undrewN E_x2))); have c_E_x2 := Old.cell E_x2; have f_E_x2 := Old.frozen E_x2; have z_E_x2 := Old.size E_x2; try simp only [World.size_alloc] at c_E_x2 f_E_x2 z_E_x2; try have l_E_x2 := Nat.lt_of_succ_le z_E_x2; try have m_E_x2 := Nat.lt_of_succ_lt l_E_x2; try have n_E_x2 := Nat.lt_of_succ_lt m_E_x2
    have s2 := o2.lvs
    have t2 := p2.strs
    clear o2 p2
    go_wp2_with fail
    refine (spec_ProofSays n _ _ xs _ (s2.ext (by repeat (first | (with_reducible first | exact Ext.refl _ | assumption | apply Ext.alloc | apply Ext.drew | apply Ext.drewN | refine Ext.setCell ?_ ?_ _ | refine Ext.trans ?_ (by assumption)) | (show _ ≤ _; first | omega | (dsimp only; omega) | (simp; done) | (simp; omega))))) ⟨_, _, _, rfl⟩).mono ?_
    rintro e w3 ⟨rfl, x3⟩
    have E_x3 := Old.via E_x2 x3 (by repeat (first | (with_reducible first | exact Ext.refl _ | assumption | apply Ext.alloc | apply Ext.drew | apply Ext.drewN | refine Ext.setCell ?_ ?_ _ | refine Ext.trans ?_ (by assumption)) | (show _ ≤ _; first | omega | (dsimp only; omega) | (simp; done) | (simp; omega)))); clear c_E_x2 f_E_x2; (repeat (first | (replace E_x3 := Old.undrew E_x3) | (replace E_x3 := Old.undrewN E_x3))); have c_E_x3 := Old.cell E_x3; have f_E_x3 := Old.frozen E_x3; have z_E_x3 := Old.size E_x3; try simp only [World.size_alloc] at c_E_x3 f_E_x3 z_E_x3; try have l_E_x3 := Nat.lt_of_succ_le z_E_x3; try have m_E_x3 := Nat.lt_of_succ_lt l_E_x3; try have n_E_x3 := Nat.lt_of_succ_lt m_E_x3
    clear s2 t2
    go_wp2_with fail
    refine (laws_toProof _ _ xs ss _ (h.ext (by repeat (first | (with_reducible first | exact Ext.refl _ | assumption | apply Ext.alloc | apply Ext.drew | apply Ext.drewN | refine Ext.setCell ?_ ?_ _ | refine Ext.trans ?_ (by assumption)) | (show _ ≤ _; first | omega | (dsimp only; omega) | (simp; done) | (simp; omega))))) (hu.ext (by repeat (first | (with_reducible first | exact Ext.refl _ | assumption | apply Ext.alloc | apply Ext.drew | apply Ext.drewN | refine Ext.setCell ?_ ?_ _ | refine Ext.trans ?_ (by assumption)) | (show _ ≤ _; first | omega | (dsimp only; omega) | (simp; done) | (simp; omega))))) hlen hlen2).mono ?_
    rintro e w4 ⟨a4, c4, b4, d4, rfl, o4, p4, x4⟩
    have E_x4 := Old.via E_x3 x4 (by repeat (first | (with_reducible first | exact Ext.refl _ | assumption | apply Ext.alloc | apply Ext.drew | apply Ext.drewN | refine Ext.setCell ?_ ?_ _ | refine Ext.trans ?_ (by assumption)) | (show _ ≤ _; first | omega | (dsimp only; omega) | (simp; done) | (simp; omega)))); clear c_E_x3 f_E_x3; (repeat (first | (replace E_x4 := Old.undrew E_x4) | (replace E_x4 := Old.undrewN E_x4))); have c_E_x4 := Old.cell E_x4; have f_E_x4 := Old.frozen E_x4; have z_E_x4 := Old.size E_x4; try simp only [World.size_alloc] at c_E_x4 f_E_x4 z_E_x4; try have l_E_x4 := Nat.lt_of_succ_le z_E_x4; try have m_E_x4 := Nat.lt_of_succ_lt l_E_x4; try have n_E_x4 := Nat.lt_of_succ_lt m_E_x4
    have s4 := o4.lvs
    have t4 := p4.strs
    clear o4 p4
    go_wp2_with fail
    refine (impl_ProofSays n _ _ xs _ (s4.ext (by repeat (first | (with_reducible first | exact Ext.refl _ | assumption | apply Ext.alloc | apply Ext.drew | apply Ext.drewN | refine Ext.setCell ?_ ?_ _ | refine Ext.trans ?_ (by assumption)) | (show _ ≤ _; first | omega | (dsimp only; omega) | (simp; done) | (simp; omega))))) ⟨_, _, _, rfl⟩).mono ?_
    rintro e w5 ⟨rfl, x5⟩
    have E_x5 := Old.via E_x4 x5 (by repeat (first | (with_reducible first | exact Ext.refl _ | assumption | apply Ext.alloc | apply Ext.drew | apply Ext.drewN | refine Ext.setCell ?_ ?_ _ | refine Ext.trans ?_ (by assumption)) | (show _ ≤ _; first | omega | (dsimp only; omega) | (simp; done) | (simp; omega)))); clear c_E_x4 f_E_x4; (repeat (first | (replace E_x5 := Old.undrew E_x5) | (replace E_x5 := Old.undrewN E_x5))); have c_E_x5 := Old.cell E_x5; have f_E_x5 := Old.frozen E_x5; have z_E_x5 := Old.size E_x5; try simp only [World.size_alloc] at c_E_x5 f_E_x5 z_E_x5; try have l_E_x5 := Nat.lt_of_succ_le z_E_x5; try have m_E_x5 := Nat.lt_of_succ_lt l_E_x5; try have n_E_x5 := Nat.lt_of_succ_lt m_E_x5
    have c_x5 := Ext.cell x5; have f_x5 := Ext.frozen x5; have z_x5 := Ext.size x5; try simp only [World.size_alloc] at c_x5 f_x5 z_x5
    go_wp2_with fail
    have p0 := c_x5 (w4.heap.size) 0 (by omega); simp [go_sem] at p0; have p1 := c_x5 (w4.heap.size) 1 (by omega); simp [go_sem] at p1
    have q0 := c_E_x5 (w.heap.size) 0 (by omega); simp [go_sem] at q0; have q1 := c_E_x5 (w.heap.size) 1 (by omega); simp [go_sem] at q1
    have l1 : w.heap.size < w5.heap.size := by omega
    have l2 : w4.heap.size < w5.heap.size := by omega
    clear c_x5 f_x5 c_E_x5 f_E_x5
    go_region_held3 (fun W => W.cell? ⟨w4.heap.size, 0, none⟩ = some (.slice a4 xs.length c4) ∧ W.cell? ⟨w4.heap.size, 1, none⟩ = some (.slice b4 ss.length d4) ∧ W.cell? ⟨w.heap.size, 0, none⟩ = some (.slice a xs.length c) ∧ W.cell? ⟨w.heap.size, 1, none⟩ = some (.slice b ss.length d)) (first | exact ⟨p0, p1, q0, q1⟩ | exact ⟨(c6 _ _ l2).trans p0, (c6 _ _ l2).trans p1, (c6 _ _ l1).trans q0, (c6 _ _ l1).trans q1⟩ | exact ⟨(c7 _ _ l2).trans p0, (c7 _ _ l2).trans p1, (c7 _ _ l1).trans q0, (c7 _ _ l1).trans q1⟩) (first | (go_at_call 18; refine (laws_toProof _ _ xs ss _ (h.ext (by repeat (first | (with_reducible first | exact Ext.refl _ | assumption | apply Ext.alloc | apply Ext.drew | apply Ext.drewN | refine Ext.setCell ?_ ?_ _ | refine Ext.trans ?_ (by assumption)) | (show _ ≤ _; first | omega | (dsimp only; omega) | (simp; done) | (simp; omega))))) (hu.ext (by repeat (first | (with_reducible first | exact Ext.refl _ | assumption | apply Ext.alloc | apply Ext.drew | apply Ext.drewN | refine Ext.setCell ?_ ?_ _ | refine Ext.trans ?_ (by assumption)) | (show _ ≤ _; first | omega | (dsimp only; omega) | (simp; done) | (simp; omega))))) hlen hlen2).mono ?_; rintro e w6 ⟨a6, c6', b6, d6, rfl, o6, p6, x6⟩; have s6 := o6.lvs; have t6 := p6.strs; clear o6 p6; have c6 : ∀ k o, k < w5.heap.size → w6.cell? ⟨k, o, none⟩ = w5.cell? ⟨k, o, none⟩ := fun k o hk => x6.cell k o hk) | (go_at_call 20; refine (laws_eqProof _ _ _ _ xs xs ss ss _ (s4.ext (by repeat (first | (with_reducible first | exact Ext.refl _ | assumption | apply Ext.alloc | apply Ext.drew | apply Ext.drewN | refine Ext.setCell ?_ ?_ _ | refine Ext.trans ?_ (by assumption)) | (show _ ≤ _; first | omega | (dsimp only; omega) | (simp; done) | (simp; omega))))) (t4.ext (by repeat (first | (with_reducible first | exact Ext.refl _ | assumption | apply Ext.alloc | apply Ext.drew | apply Ext.drewN | refine Ext.setCell ?_ ?_ _ | refine Ext.trans ?_ (by assumption)) | (show _ ≤ _; first | omega | (dsimp only; omega) | (simp; done) | (simp; omega))))) (s6.ext (by repeat (first | (with_reducible first | exact Ext.refl _ | assumption | apply Ext.alloc | apply Ext.drew | apply Ext.drewN | refine Ext.setCell ?_ ?_ _ | refine Ext.trans ?_ (by assumption)) | (show _ ≤ _; first | omega | (dsimp only; omega) | (simp; done) | (simp; omega))))) (t6.ext (by repeat (first | (with_reducible first | exact Ext.refl _ | assumption | apply Ext.alloc | apply Ext.drew | apply Ext.drewN | refine Ext.setCell ?_ ?_ _ | refine Ext.trans ?_ (by assumption)) | (show _ ≤ _; first | omega | (dsimp only; omega) | (simp; done) | (simp; omega)))))).mono ?_; rintro e w7 ⟨rfl, x7⟩; have c7 : ∀ k o, k < w5.heap.size → w7.cell? ⟨k, o, none⟩ = w5.cell? ⟨k, o, none⟩ := fun k o hk => (x7.cell k o (Nat.lt_of_lt_of_le hk x6.size)).trans (c6 k o hk)))
    all_goals
      go_wp2
      go_ret
      exact ⟨rfl, (by repeat (first | (with_reducible first | exact Ext.refl _ | assumption | apply Ext.alloc | apply Ext.drew | apply Ext.drewN | refine Ext.setCell ?_ ?_ _ | refine Ext.trans ?_ (by assumption)) | (show _ ≤ _; first | omega | (dsimp only; omega) | (simp; done) | (simp; omega))))⟩
end Go.Proofs.Ytdinfdlakddgfaa
