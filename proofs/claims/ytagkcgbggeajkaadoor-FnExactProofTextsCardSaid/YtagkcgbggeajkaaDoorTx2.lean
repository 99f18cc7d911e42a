/- The law on ProofTexts. -/
import Derived.Test.YtagkcgbggeajkaaDoorTx
import Derived.Test.YtagkcgbggeajkaaDoorMarkS
import Derived.Deep.AppendLies
namespace Go.Proofs.YtagkcgbggeajkaaDoor
open Go.RowKit

set_option maxHeartbeats 800000 in
theorem laws_toProof2 (v u : Value) (xs : List Leaf) (ss : List ByteArray) (w : World) (h : Lvs w v xs) (hu : Strs w u ss) (hb : xs.length ≤ 1099511627776) (hc : ss.length ≤ 1099511627776) :
    Calls Tryd.prog 43 #[.agg #[v, u]] w fun e w' => ∃ a c b d, e = .returned (.agg #[.slice a xs.length c, .slice b ss.length d]) ∧ OwnLvs w' w.heap.size (.slice a xs.length c) xs ∧ (∃ m, (∀ k, (Value.slice a xs.length c).ownBlock = some k → k < m) ∧ w.heap.size ≤ m ∧ OwnStrs w' m (.slice b ss.length d) ss) ∧ Ext w w' := by
  obtain ⟨a, c, rfl⟩ := h.form
  obtain ⟨b, d, rfl⟩ := hu.form
  go_enter Tryd.func43, Tryd.ntmps43
  go_wp2_with fail
  refine (laws_toLeafS _ xs _ (h.ext (by repeat (first | (with_reducible first | exact Ext.refl _ | assumption | apply Ext.alloc | apply Ext.drew | apply Ext.drewN | refine Ext.setCell ?_ ?_ _ | refine Ext.trans ?_ (by assumption)) | (show _ ≤ _; first | omega | (dsimp only; omega) | (simp; done) | (simp; omega))))) hb).mono ?_
  rintro e w1 ⟨a1, c1, rfl, o1, x1⟩
  have hc1 := x1.cell
  have hf1 := x1.frozen
  have hz1 := x1.size
  simp only [World.size_alloc] at hz1 hc1 hf1
  have O1 := Lib.hid o1
  clear o1
  go_wp2_with fail
  refine (laws_toStringS _ ss _ (hu.ext (by repeat (first | (with_reducible first | exact Ext.refl _ | assumption | apply Ext.alloc | apply Ext.drew | apply Ext.drewN | refine Ext.setCell ?_ ?_ _ | refine Ext.trans ?_ (by assumption)) | (show _ ≤ _; first | omega | (dsimp only; omega) | (simp; done) | (simp; omega))))) hc).mono ?_
  rintro e w2 ⟨a2, c2, rfl, o2, x2⟩
  have hc2 := x2.cell
  have hf2 := x2.frozen
  have hz2 := x2.size
  simp only [World.size_setCell] at hz2 hc2 hf2
  have l1 : w.heap.size + 1 + 1 < w1.heap.size := by omega
  have l2 : w.heap.size + 1 < w1.heap.size := by omega
  have O2 := Lib.hid o2
  clear o2
  go_wp2
  refine bodyPost_ret (v := .agg #[.slice a1 xs.length c1, .slice a2 ss.length c2]) (by simp [results, Tryd.results43, go_sem, hc1, hc2, l2]) rfl ⟨_, _, _, _, rfl, ?_, ?_, (by repeat (first | (with_reducible first | exact Ext.refl _ | assumption | apply Ext.alloc | apply Ext.drew | apply Ext.drewN | refine Ext.setCell ?_ ?_ _ | refine Ext.trans ?_ (by assumption)) | (show _ ≤ _; first | omega | (dsimp only; omega) | (simp; done) | (simp; omega))))⟩
  · have ho := O1.out
    clear hc1 hf1 hc2 hf2 O1 O2
    simp only [World.size_alloc] at ho
    have ho2 : OwnLvs w2 (w.heap.size + 1 + 1 + 1) (.slice a1 xs.length c1) xs := own_ext (own_below ho (by dsimp only; omega)) x2
    clear ho
    exact (by show World.ownsRow _ _ _ _ _ _ _; apply own_mono; (repeat (with_reducible first | apply own_below | apply own_alloc | apply own_drew | apply own_drewN | refine own_ext ?_ (by assumption))); exact ho2; all_goals (first | omega | (dsimp only; omega) | (simp; done) | (simp; omega)))
  · have ho := O2.out
    have hlt := fun k hk => (own_lt O1.out k hk).2
    clear hc1 hf1 hc2 hf2 O1 O2
    simp only [World.size_setCell] at ho
    exact ⟨w1.heap.size, hlt, by omega, (by show World.ownsRow _ _ _ _ _ _ _; apply own_mono; (repeat (with_reducible first | apply own_below | apply own_alloc | apply own_drew | apply own_drewN | refine own_ext ?_ (by assumption))); exact ho; all_goals (first | omega | (dsimp only; omega) | (simp; done) | (simp; omega)))⟩

set_option maxHeartbeats 800000 in
theorem laws_markProof (v u : Value) (xs : List Leaf) (ss : List ByteArray) (k : Int) (b1 b2 : Nat) (w : World) (h : OwnLvs w b1 v xs) (g : OwnStrs w b2 u ss) (hlt : ∀ j, v.ownBlock = some j → j < b2) (hk : 1 ≤ k ∧ k + 2 * xs.length + ss.length ≤ 1099511627776) :
    Calls Tryd.prog 39 #[.agg #[v, u], .int .i64 k] w fun e w' => e = .returned (.int .i64 (k + 2 * xs.length + ss.length)) ∧ ∃ wa wb, Ext w wa ∧ wa.grownBy wb v.ownBlock ∧ wb.grownBy w' u.ownBlock := by
  obtain ⟨a, c, rfl⟩ := own_any h
  obtain ⟨b, d, rfl⟩ := own_any g
  have l0 : ∀ j, (Value.slice a xs.length c).ownBlock = some j → j < w.heap.size := fun j hj => (own_lt h j hj).2
  have L := Lib.hid hlt
  have G := Lib.hid g
  have H := Lib.hid h
  clear hlt h g
  go_enter Tryd.func39, Tryd.ntmps39
  go_wp2_with fail
  refine (laws_markLeafS _ xs k b1 _ (H.out.ext (by repeat (first | (with_reducible first | exact Ext.refl _ | assumption | apply Ext.alloc | apply Ext.drew | apply Ext.drewN | refine Ext.setCell ?_ ?_ _ | refine Ext.trans ?_ (by assumption)) | (show _ ≤ _; first | omega | (dsimp only; omega) | (simp; done) | (simp; omega))))) (by omega)).mono ?_
  rintro e w1 ⟨rfl, -, g1⟩
  have p1 : w1.cell? ⟨w.heap.size, 1, none⟩ = some (.slice b ss.length d) := by
    rw [g1.cell_far ⟨w.heap.size, 1, none⟩ (by simp) (fun e => by have := l0 _ e.symm; dsimp only at this; omega)]
    simp [go_sem]
  have o1 : OwnStrs w1 b2 (.slice b ss.length d) ss := own_grown (G.out.ext (show Ext w (w.alloc _) from (by repeat (first | (with_reducible first | exact Ext.refl _ | assumption | apply Ext.alloc | apply Ext.drew | apply Ext.drewN | refine Ext.setCell ?_ ?_ _ | refine Ext.trans ?_ (by assumption)) | (show _ ≤ _; first | omega | (dsimp only; omega) | (simp; done) | (simp; omega)))))) g1 L.out
  have O1 := Lib.hid o1
  clear o1
  have G1 := Lib.hid g1
  clear g1
  go_wp2_with fail
  refine (laws_markStringS _ ss (k + 2 * xs.length) b2 _ O1.out (by omega)).mono ?_
  rintro e w2 ⟨rfl, -, g2⟩
  have G2 := Lib.hid g2
  clear g2
  go_wp2
  go_ret
  exact ⟨rfl, _, w1, (Ext.refl w).alloc _, G1.out, G2.out⟩

set_option maxRecDepth 100000 in
set_option maxHeartbeats 1600000 in
theorem laws_FnExactProofTexts (n : ByteArray) (v u : Value) (xs : List Leaf) (ss : List ByteArray) (wd : Int) (w : World) (hn : n.size ≤ maxLen) (h : Lvs w v xs) (hf : LeafFit xs) (hu : Strs w u ss) (hs : ∀ s ∈ ss, s.size ≤ maxLen) (hT : Tabs w) :
    Calls Tryd.prog 10 #[.string n, .agg #[v, u], .int .i64 wd] w fun e w' => e = .returned (.bool true) ∧ Ext w w' := by
  have HT := Lib.hid hT
  clear hT
  obtain ⟨a, c, rfl⟩ := h.form
  obtain ⟨b, d, rfl⟩ := hu.form
  have hn' := hn
  unfold maxLen at hn
  by_cases hbig : 1048576 < n.size
  · go_enter Tryd.func10, Tryd.ntmps10
    go_wp2
    go_ret
    exact ⟨rfl, (by repeat (first | (with_reducible first | exact Ext.refl _ | assumption | apply Ext.alloc | apply Ext.drew | apply Ext.drewN | refine Ext.setCell ?_ ?_ _ | refine Ext.trans ?_ (by assumption)) | (show _ ≤ _; first | omega | (dsimp only; omega) | (simp; done) | (simp; omega))))⟩
  rcases szp_cases (xs.length + leafBytes xs) (ss.length + sizes ss) with hz | ⟨z, hz, hz0, hz1, hz2⟩
  · have HZ := Lib.hid hz
    clear hz
    go_enter Tryd.func10, Tryd.ntmps10
    go_wp2_with (go_at_call 41; refine (laws_szProof _ _ xs ss _ _ (h.ext (by repeat (first | (with_reducible first | exact Ext.refl _ | assumption | apply Ext.alloc | apply Ext.drew | apply Ext.drewN | refine Ext.setCell ?_ ?_ _ | refine Ext.trans ?_ (by assumption)) | (show _ ≤ _; first | omega | (dsimp only; omega) | (simp; done) | (simp; omega))))) hf (hu.ext (by repeat (first | (with_reducible first | exact Ext.refl _ | assumption | apply Ext.alloc | apply Ext.drew | apply Ext.drewN | refine Ext.setCell ?_ ?_ _ | refine Ext.trans ?_ (by assumption)) | (show _ ≤ _; first | omega | (dsimp only; omega) | (simp; done) | (simp; omega))))) hs (by omega)).mono ?_; rw [HZ.out]; rintro e w1 ⟨rfl, x1⟩)
    go_ret
    exact ⟨rfl, (by repeat (first | (with_reducible first | exact Ext.refl _ | assumption | apply Ext.alloc | apply Ext.drew | apply Ext.drewN | refine Ext.setCell ?_ ?_ _ | refine Ext.trans ?_ (by assumption)) | (show _ ≤ _; first | omega | (dsimp only; omega) | (simp; done) | (simp; omega))))⟩
  · have HZ := Lib.hid hz
    have hlen : xs.length ≤ 1048576 := by omega
    have hlen2 : ss.length ≤ 1048576 := by omega
    have hle : xs.length ≤ 1099511627776 := by omega
    have hle2 : ss.length ≤ 1099511627776 := by omega
    have hl9 := prTexts_len n xs ss wd
    have hneg : ¬ ((1 : Int) + 2 * xs.length + ss.length < 0) := by omega
    clear hz hz1 hz2
    go_enter Tryd.func10, Tryd.ntmps10
    go_wp2_with (go_at_call 41; refine (laws_szProof _ _ xs ss _ _ (h.ext (by repeat (first | (with_reducible first | exact Ext.refl _ | assumption | apply Ext.alloc | apply Ext.drew | apply Ext.drewN | refine Ext.setCell ?_ ?_ _ | refine Ext.trans ?_ (by assumption)) | (show _ ≤ _; first | omega | (dsimp only; omega) | (simp; done) | (simp; omega))))) hf (hu.ext (by repeat (first | (with_reducible first | exact Ext.refl _ | assumption | apply Ext.alloc | apply Ext.drew | apply Ext.drewN | refine Ext.setCell ?_ ?_ _ | refine Ext.trans ?_ (by assumption)) | (show _ ≤ _; first | omega | (dsimp only; omega) | (simp; done) | (simp; omega))))) hs (by omega)).mono ?_; rw [HZ.out]; rintro e w1 ⟨rfl, x1⟩; have E_x1 := Old.of x1; (repeat (first | (replace E_x1 := Old.undrew E_x1) | (replace E_x1 := Old.undrewN E_x1))); have c_E_x1 := Old.cell E_x1; have f_E_x1 := Old.frozen E_x1; have z_E_x1 := Old.size E_x1; try simp only [World.size_alloc] at c_E_x1 f_E_x1 z_E_x1; try have l_E_x1 := Nat.lt_of_succ_le z_E_x1; try have m_E_x1 := Nat.lt_of_succ_lt l_E_x1; try have n_E_x1 := Nat.lt_of_succ_lt m_E_x1)
    refine (laws_toProof _ _ xs ss _ (h.ext (by repeat (first | (with_reducible first | exact Ext.refl _ | assumption | apply Ext.alloc | apply Ext.drew | apply Ext.drewN | refine Ext.setCell ?_ ?_ _ | refine Ext.trans ?_ (by assumption)) | (show _ ≤ _; first | omega | (dsimp only; omega) | (simp; done) | (simp; omega))))) (hu.ext (by repeat (first | (with_reducible first | exact Ext.refl _ | assumption | apply Ext.alloc | apply Ext.drew | apply Ext.drewN | refine Ext.setCell ?_ ?_ _ | refine Ext.trans ?_ (by assumption)) | (show _ ≤ _; first | omega | (dsimp only; omega) | (simp; done) | (simp; omega))))) hle hle2).mono ?_
    rintro e w2 ⟨a2, c2, b2, d2, rfl, o2, p2, x2⟩
    have E_x2 := Old.via E_x1 x2 (by repeat (first | (with_reducible first | exact Ext.refl _ | assumption | apply Ext.alloc | apply Ext.drew | apply Ext.drewN | refine Ext.setCell ?_ ?_ _ | refine Ext.trans ?_ (by assumption)) | (show _ ≤ _; first | omega | (dsimp only; omega) | (simp; done) | (simp; omega)))); clear c_E_x1 f_E_x1; (repeat (first | (replace E_x2 := Old.undrew E_x2) | (replace E_x2 := Old.undrewN E_x2))); have c_E_x2 := Old.cell E_x2; have f_E_x2 := Old.frozen E_x2; have z_E_x2 := Old.size E_x2; try simp only [World.size_alloc] at c_E_x2 f_E_x2 z_E_x2; try have l_E_x2 := Nat.lt_of_succ_le z_E_x2; try have m_E_x2 := Nat.lt_of_succ_lt l_E_x2; try have n_E_x2 := Nat.lt_of_succ_lt m_E_x2
    have s2 := o2.lvs
    have t2 := p2.strs
    clear o2 p2
    go_wp2_with fail
    refine (spec_ProofTexts n _ _ xs ss wd _ hn' (s2.ext (by repeat (first | (with_reducible first | exact Ext.refl _ | assumption | apply Ext.alloc | apply Ext.drew | apply Ext.drewN | refine Ext.setCell ?_ ?_ _ | refine Ext.trans ?_ (by assumption)) | (show _ ≤ _; first | omega | (dsimp only; omega) | (simp; done) | (simp; omega))))) hf (t2.ext (by repeat (first | (with_reducible first | exact Ext.refl _ | assumption | apply Ext.alloc | apply Ext.drew | apply Ext.drewN | refine Ext.setCell ?_ ?_ _ | refine Ext.trans ?_ (by assumption)) | (show _ ≤ _; first | omega | (dsimp only; omega) | (simp; done) | (simp; omega))))) hs).mono ?_
    generalize hY : prTexts n xs ss wd = ys at *
    have HY := Lib.hid hY
    clear hY
    rintro e w3 ⟨ar, cr, rfl, or, x3⟩
    have sr := or.strs
    have E_x3 := Old.via E_x2 x3 (by repeat (first | (with_reducible first | exact Ext.refl _ | assumption | apply Ext.alloc | apply Ext.drew | apply Ext.drewN | refine Ext.setCell ?_ ?_ _ | refine Ext.trans ?_ (by assumption)) | (show _ ≤ _; first | omega | (dsimp only; omega) | (simp; done) | (simp; omega)))); clear c_E_x2 f_E_x2; (repeat (first | (replace E_x3 := Old.undrew E_x3) | (replace E_x3 := Old.undrewN E_x3))); have c_E_x3 := Old.cell E_x3; have f_E_x3 := Old.frozen E_x3; have z_E_x3 := Old.size E_x3; try simp only [World.size_alloc] at c_E_x3 f_E_x3 z_E_x3; try have l_E_x3 := Nat.lt_of_succ_le z_E_x3; try have m_E_x3 := Nat.lt_of_succ_lt l_E_x3; try have n_E_x3 := Nat.lt_of_succ_lt m_E_x3
    clear s2 t2 or
    go_wp2_with fail
    refine (laws_toProof2 _ _ xs ss _ (h.ext (by repeat (first | (with_reducible first | exact Ext.refl _ | assumption | apply Ext.alloc | apply Ext.drew | apply Ext.drewN | refine Ext.setCell ?_ ?_ _ | refine Ext.trans ?_ (by assumption)) | (show _ ≤ _; first | omega | (dsimp only; omega) | (simp; done) | (simp; omega))))) (hu.ext (by repeat (first | (with_reducible first | exact Ext.refl _ | assumption | apply Ext.alloc | apply Ext.drew | apply Ext.drewN | refine Ext.setCell ?_ ?_ _ | refine Ext.trans ?_ (by assumption)) | (show _ ≤ _; first | omega | (dsimp only; omega) | (simp; done) | (simp; omega))))) hle hle2).mono ?_
    rintro e w4 ⟨a4, c4, b4, d4, rfl, o4, ⟨m4, hm4, hw4, p4⟩, x4⟩
    have E_x4 := Old.via E_x3 x4 (by repeat (first | (with_reducible first | exact Ext.refl _ | assumption | apply Ext.alloc | apply Ext.drew | apply Ext.drewN | refine Ext.setCell ?_ ?_ _ | refine Ext.trans ?_ (by assumption)) | (show _ ≤ _; first | omega | (dsimp only; omega) | (simp; done) | (simp; omega)))); clear c_E_x3 f_E_x3; (repeat (first | (replace E_x4 := Old.undrew E_x4) | (replace E_x4 := Old.undrewN E_x4))); have c_E_x4 := Old.cell E_x4; have f_E_x4 := Old.frozen E_x4; have z_E_x4 := Old.size E_x4; try simp only [World.size_alloc] at c_E_x4 f_E_x4 z_E_x4; try have l_E_x4 := Nat.lt_of_succ_le z_E_x4; try have m_E_x4 := Nat.lt_of_succ_lt l_E_x4; try have n_E_x4 := Nat.lt_of_succ_lt m_E_x4
    have s4 := o4.lvs
    have t4 := p4.strs
    have O4 := Lib.hid o4
    have P4 := Lib.hid p4
    have M4 := Lib.hid hm4
    clear o4 p4 hm4
    go_wp2_with fail
    refine (impl_ProofTexts n _ _ xs ss wd _ hn' (s4.ext (by repeat (first | (with_reducible first | exact Ext.refl _ | assumption | apply Ext.alloc | apply Ext.drew | apply Ext.drewN | refine Ext.setCell ?_ ?_ _ | refine Ext.trans ?_ (by assumption)) | (show _ ≤ _; first | omega | (dsimp only; omega) | (simp; done) | (simp; omega))))) hf (t4.ext (by repeat (first | (with_reducible first | exact Ext.refl _ | assumption | apply Ext.alloc | apply Ext.drew | apply Ext.drewN | refine Ext.setCell ?_ ?_ _ | refine Ext.trans ?_ (by assumption)) | (show _ ≤ _; first | omega | (dsimp only; omega) | (simp; done) | (simp; omega))))) hs (by exact HT.out.ext (by repeat (first | (with_reducible first | exact Ext.refl _ | assumption | apply Ext.alloc | apply Ext.drew | apply Ext.drewN | refine Ext.setCell ?_ ?_ _ | refine Ext.trans ?_ (by assumption)) | (show _ ≤ _; first | omega | (dsimp only; omega) | (simp; done) | (simp; omega)))))).mono ?_
    rw [HY.out]
    rintro e w5 ⟨ag, cg, rfl, og, x5⟩
    have sg := og.strs
    have OG := Lib.hid og
    clear og
    have E_x5 := Old.via E_x4 x5 (by repeat (first | (with_reducible first | exact Ext.refl _ | assumption | apply Ext.alloc | apply Ext.drew | apply Ext.drewN | refine Ext.setCell ?_ ?_ _ | refine Ext.trans ?_ (by assumption)) | (show _ ≤ _; first | omega | (dsimp only; omega) | (simp; done) | (simp; omega)))); clear c_E_x4 f_E_x4; (repeat (first | (replace E_x5 := Old.undrew E_x5) | (replace E_x5 := Old.undrewN E_x5))); have c_E_x5 := Old.cell E_x5; have f_E_x5 := Old.frozen E_x5; have z_E_x5 := Old.size E_x5; try simp only [World.size_alloc] at c_E_x5 f_E_x5 z_E_x5; try have l_E_x5 := Nat.lt_of_succ_le z_E_x5; try have m_E_x5 := Nat.lt_of_succ_lt l_E_x5; try have n_E_x5 := Nat.lt_of_succ_lt m_E_x5
    have c_x5 := Ext.cell x5; have f_x5 := Ext.frozen x5; have z_x5 := Ext.size x5; try simp only [World.size_alloc] at c_x5 f_x5 z_x5
    go_wp2_with fail
    refine (laws_eqStringS _ _ ys ys _ (sg.ext (by repeat (first | (with_reducible first | exact Ext.refl _ | assumption | apply Ext.alloc | apply Ext.drew | apply Ext.drewN | refine Ext.setCell ?_ ?_ _ | refine Ext.trans ?_ (by assumption)) | (show _ ≤ _; first | omega | (dsimp only; omega) | (simp; done) | (simp; omega))))) (sr.ext (by repeat (first | (with_reducible first | exact Ext.refl _ | assumption | apply Ext.alloc | apply Ext.drew | apply Ext.drewN | refine Ext.setCell ?_ ?_ _ | refine Ext.trans ?_ (by assumption)) | (show _ ≤ _; first | omega | (dsimp only; omega) | (simp; done) | (simp; omega)))))).mono ?_
    rintro e w6 ⟨rfl, x6⟩
    have y6 : Ext w5 w6 := (by repeat (first | (with_reducible first | exact Ext.refl _ | assumption | apply Ext.alloc | apply Ext.drew | apply Ext.drewN | refine Ext.setCell ?_ ?_ _ | refine Ext.trans ?_ (by assumption)) | (show _ ≤ _; first | omega | (dsimp only; omega) | (simp; done) | (simp; omega))))
    have p0 := c_x5 (w4.heap.size) 0 (by omega); simp [go_sem] at p0; have p1 := c_x5 (w4.heap.size) 1 (by omega); simp [go_sem] at p1
    have q0 := c_E_x5 (w.heap.size) 0 (by omega); simp [go_sem] at q0; have q1 := c_E_x5 (w.heap.size) 1 (by omega); simp [go_sem] at q1
    have l1 : w.heap.size < w5.heap.size := by omega
    have l2 : w4.heap.size < w5.heap.size := by omega
    clear c_x5 f_x5 c_E_x5 f_E_x5
    have p0' := (y6.cell _ _ l2).trans p0
    have p1' := (y6.cell _ _ l2).trans p1
    have q0' := (y6.cell _ _ l1).trans q0
    have q1' := (y6.cell _ _ l1).trans q1
    have l3 : w.heap.size < w6.heap.size := Nat.lt_of_lt_of_le l1 y6.size
    have l4 : w4.heap.size < w6.heap.size := Nat.lt_of_lt_of_le l2 y6.size
    clear p0 p1 q0 q1
    go_wp2_with fail
    go_region_held3 (fun W => W.cell? ⟨w4.heap.size, 0, none⟩ = some (.slice a4 xs.length c4) ∧ W.cell? ⟨w4.heap.size, 1, none⟩ = some (.slice b4 ss.length d4) ∧ W.cell? ⟨w.heap.size, 0, none⟩ = some (.slice a xs.length c) ∧ W.cell? ⟨w.heap.size, 1, none⟩ = some (.slice b ss.length d)) (first | exact ⟨p0', p1', q0', q1'⟩ | exact ⟨(y7.cell _ _ l4).trans p0', (y7.cell _ _ l4).trans p1', (y7.cell _ _ l3).trans q0', (y7.cell _ _ l3).trans q1'⟩ | exact ⟨(y8.cell _ _ l4).trans p0', (y8.cell _ _ l4).trans p1', (y8.cell _ _ l3).trans q0', (y8.cell _ _ l3).trans q1'⟩) (first | (go_at_call 43; refine (laws_toProof _ _ xs ss _ (h.ext (by repeat (first | (with_reducible first | exact Ext.refl _ | assumption | apply Ext.alloc | apply Ext.drew | apply Ext.drewN | refine Ext.setCell ?_ ?_ _ | refine Ext.trans ?_ (by assumption)) | (show _ ≤ _; first | omega | (dsimp only; omega) | (simp; done) | (simp; omega))))) (hu.ext (by repeat (first | (with_reducible first | exact Ext.refl _ | assumption | apply Ext.alloc | apply Ext.drew | apply Ext.drewN | refine Ext.setCell ?_ ?_ _ | refine Ext.trans ?_ (by assumption)) | (show _ ≤ _; first | omega | (dsimp only; omega) | (simp; done) | (simp; omega))))) hle hle2).mono ?_; rintro e w7 ⟨a7, c7, b7, d7, rfl, o7, p7, x7⟩; have s7 := o7.lvs; have t7 := p7.strs; clear o7 p7; have y7 : Ext w6 w7 := (by repeat (first | (with_reducible first | exact Ext.refl _ | assumption | apply Ext.alloc | apply Ext.drew | apply Ext.drewN | refine Ext.setCell ?_ ?_ _ | refine Ext.trans ?_ (by assumption)) | (show _ ≤ _; first | omega | (dsimp only; omega) | (simp; done) | (simp; omega))))) | (go_at_call 38; refine (laws_eqProof _ _ _ _ xs xs ss ss _ (s4.ext (by repeat (first | (with_reducible first | exact Ext.refl _ | assumption | apply Ext.alloc | apply Ext.drew | apply Ext.drewN | refine Ext.setCell ?_ ?_ _ | refine Ext.trans ?_ (by assumption)) | (show _ ≤ _; first | omega | (dsimp only; omega) | (simp; done) | (simp; omega))))) (t4.ext (by repeat (first | (with_reducible first | exact Ext.refl _ | assumption | apply Ext.alloc | apply Ext.drew | apply Ext.drewN | refine Ext.setCell ?_ ?_ _ | refine Ext.trans ?_ (by assumption)) | (show _ ≤ _; first | omega | (dsimp only; omega) | (simp; done) | (simp; omega))))) (s7.ext (by repeat (first | (with_reducible first | exact Ext.refl _ | assumption | apply Ext.alloc | apply Ext.drew | apply Ext.drewN | refine Ext.setCell ?_ ?_ _ | refine Ext.trans ?_ (by assumption)) | (show _ ≤ _; first | omega | (dsimp only; omega) | (simp; done) | (simp; omega))))) (t7.ext (by repeat (first | (with_reducible first | exact Ext.refl _ | assumption | apply Ext.alloc | apply Ext.drew | apply Ext.drewN | refine Ext.setCell ?_ ?_ _ | refine Ext.trans ?_ (by assumption)) | (show _ ≤ _; first | omega | (dsimp only; omega) | (simp; done) | (simp; omega)))))).mono ?_; rintro e w8 ⟨rfl, x8⟩; have y8 : Ext w6 w8 := (by repeat (first | (with_reducible first | exact Ext.refl _ | assumption | apply Ext.alloc | apply Ext.drew | apply Ext.drewN | refine Ext.setCell ?_ ?_ _ | refine Ext.trans ?_ (by assumption)) | (show _ ≤ _; first | omega | (dsimp only; omega) | (simp; done) | (simp; omega))))))
    all_goals
      go_wp2_with fail
      refine (laws_markProof _ _ xs ss 1 _ _ _ (O4.out.ext (by repeat (first | (with_reducible first | exact Ext.refl _ | assumption | apply Ext.alloc | apply Ext.drew | apply Ext.drewN | refine Ext.setCell ?_ ?_ _ | refine Ext.trans ?_ (by assumption)) | (show _ ≤ _; first | omega | (dsimp only; omega) | (simp; done) | (simp; omega))))) (P4.out.ext (by repeat (first | (with_reducible first | exact Ext.refl _ | assumption | apply Ext.alloc | apply Ext.drew | apply Ext.drewN | refine Ext.setCell ?_ ?_ _ | refine Ext.trans ?_ (by assumption)) | (show _ ≤ _; first | omega | (dsimp only; omega) | (simp; done) | (simp; omega))))) M4.out (by omega)).mono ?_
      rintro e w9 ⟨rfl, wa, wb, xa, ga, gb⟩
      have e6 : Ext w6 wa := y8.trans xa
      have e5 : Ext w5 wa := y6.trans e6
      have ya : Ext w3 wa := (by repeat (first | (with_reducible first | exact Ext.refl _ | assumption | apply Ext.alloc | apply Ext.drew | apply Ext.drewN | refine Ext.setCell ?_ ?_ _ | refine Ext.trans ?_ (by assumption)) | (show _ ≤ _; first | omega | (dsimp only; omega) | (simp; done) | (simp; omega))))
      have yb : Ext w3 wb := ya.grown ga (fun k hk => (own_lt O4.out k hk).1)
      have yc : Ext w3 w9 := yb.grown gb (fun k hk => Nat.le_trans hw4 (own_lt P4.out k hk).1)
      have yw : Ext w w9 := Ext.trans (show Ext w w3 from (by repeat (first | (with_reducible first | exact Ext.refl _ | assumption | apply Ext.alloc | apply Ext.drew | apply Ext.drewN | refine Ext.setCell ?_ ?_ _ | refine Ext.trans ?_ (by assumption)) | (show _ ≤ _; first | omega | (dsimp only; omega) | (simp; done) | (simp; omega))))) yc
      have og9 := own_grown (own_grown (OG.out.ext e5) ga (fun k hk => by have := (own_lt O4.out k hk).2; first | exact this | (simp only [World.size_alloc]; omega) | (simp; omega))) gb (fun k hk => by have := (own_lt P4.out k hk).2; first | exact this | (simp only [World.size_alloc]; omega) | (simp; omega))
      have lw : w.heap.size < w3.heap.size := l_E_x3
      have z8 : w6.heap.size ≤ wa.heap.size := e6.size
      have zb : wa.heap.size ≤ wb.heap.size := ga.size
      have t0 : w9.cell? ⟨w.heap.size, 0, none⟩ = some (.slice a xs.length c) := by
        rw [gb.cell_far ⟨w.heap.size, 0, none⟩ (by dsimp only; omega) (fun e => by have := (own_lt P4.out _ e.symm).1; dsimp only at this; omega), ga.cell_far ⟨w.heap.size, 0, none⟩ (by dsimp only; omega) (fun e => by have := (own_lt O4.out _ e.symm).1; dsimp only at this; omega)]
        exact (e6.cell _ _ l3).trans q0'
      have t1 : w9.cell? ⟨w.heap.size, 1, none⟩ = some (.slice b ss.length d) := by
        rw [gb.cell_far ⟨w.heap.size, 1, none⟩ (by dsimp only; omega) (fun e => by have := (own_lt P4.out _ e.symm).1; dsimp only at this; omega), ga.cell_far ⟨w.heap.size, 1, none⟩ (by dsimp only; omega) (fun e => by have := (own_lt O4.out _ e.symm).1; dsimp only at this; omega)]
        exact (e6.cell _ _ l3).trans q1'
      have l9 : w.heap.size < w9.heap.size := Nat.lt_of_lt_of_le lw yc.size
      have hb9 : w3.heap.size ≤ w4.heap.size := Ext.size (show Ext w3 w4 from (by repeat (first | (with_reducible first | exact Ext.refl _ | assumption | apply Ext.alloc | apply Ext.drew | apply Ext.drewN | refine Ext.setCell ?_ ?_ _ | refine Ext.trans ?_ (by assumption)) | (show _ ≤ _; first | omega | (dsimp only; omega) | (simp; done) | (simp; omega)))))
      have sg9 := OwnStrs.strs og9
      have OG9 := Lib.hid og9
      clear og9 ga gb p0' p1' q0' q1'
      go_wp2_with fail
      refine (laws_eqStringS _ _ ys ys _ (sg9.ext (by repeat (first | (with_reducible first | exact Ext.refl _ | assumption | apply Ext.alloc | apply Ext.drew | apply Ext.drewN | refine Ext.setCell ?_ ?_ _ | refine Ext.trans ?_ (by assumption)) | (show _ ≤ _; first | omega | (dsimp only; omega) | (simp; done) | (simp; omega))))) (sr.ext (by repeat (first | (with_reducible first | exact Ext.refl _ | assumption | apply Ext.alloc | apply Ext.drew | apply Ext.drewN | refine Ext.setCell ?_ ?_ _ | refine Ext.trans ?_ (by assumption)) | (show _ ≤ _; first | omega | (dsimp only; omega) | (simp; done) | (simp; omega)))))).mono ?_
      rintro e w10 ⟨rfl, x10⟩
      have y10 : Ext w9 w10 := (by repeat (first | (with_reducible first | exact Ext.refl _ | assumption | apply Ext.alloc | apply Ext.drew | apply Ext.drewN | refine Ext.setCell ?_ ?_ _ | refine Ext.trans ?_ (by assumption)) | (show _ ≤ _; first | omega | (dsimp only; omega) | (simp; done) | (simp; omega))))
      have u0 := (y10.cell _ _ l9).trans t0
      have u1 := (y10.cell _ _ l9).trans t1
      have l10 : w.heap.size < w10.heap.size := Nat.lt_of_lt_of_le l9 y10.size
      clear t0 t1
      go_wp2_with fail
      refine (laws_markStringS _ ys 1 _ _ (own_ext OG9.out (by repeat (first | (with_reducible first | exact Ext.refl _ | assumption | apply Ext.alloc | apply Ext.drew | apply Ext.drewN | refine Ext.setCell ?_ ?_ _ | refine Ext.trans ?_ (by assumption)) | (show _ ≤ _; first | omega | (dsimp only; omega) | (simp; done) | (simp; omega))))) (by omega)).mono ?_
      rintro e w11 ⟨rfl, om, g11⟩
      have hlo : ∀ k, (Value.slice ag ys.length cg).ownBlock = some k → w4.heap.size ≤ k := fun k hk => by
        have := (own_lt OG9.out k hk).1
        first | exact this | (simp only [World.size_alloc] at this; omega)
      have y11 : Ext w3 w11 := Ext.grown (show Ext w3 w10 from (by repeat (first | (with_reducible first | exact Ext.refl _ | assumption | apply Ext.alloc | apply Ext.drew | apply Ext.drewN | refine Ext.setCell ?_ ?_ _ | refine Ext.trans ?_ (by assumption)) | (show _ ≤ _; first | omega | (dsimp only; omega) | (simp; done) | (simp; omega))))) g11 (fun k hk => Nat.le_trans hb9 (hlo k hk))
      have z11 : Ext w w11 := Ext.trans (show Ext w w3 from (by repeat (first | (with_reducible first | exact Ext.refl _ | assumption | apply Ext.alloc | apply Ext.drew | apply Ext.drewN | refine Ext.setCell ?_ ?_ _ | refine Ext.trans ?_ (by assumption)) | (show _ ≤ _; first | omega | (dsimp only; omega) | (simp; done) | (simp; omega))))) y11
      have v0 : w11.cell? ⟨w.heap.size, 0, none⟩ = some (.slice a xs.length c) := by
        rw [g11.cell_far ⟨w.heap.size, 0, none⟩ l10 (fun e => by have := hlo _ e.symm; dsimp only at this; omega)]
        exact u0
      have v1 : w11.cell? ⟨w.heap.size, 1, none⟩ = some (.slice b ss.length d) := by
        rw [g11.cell_far ⟨w.heap.size, 1, none⟩ l10 (fun e => by have := hlo _ e.symm; dsimp only at this; omega)]
        exact u1
      have sm := om.strs
      have l11 : w.heap.size < w11.heap.size := Nat.lt_of_lt_of_le lw y11.size
      clear g11 om u0 u1
      go_wp2_with fail
      refine (laws_heldStringS _ ys.length 1 _ (sm.ext (by repeat (first | (with_reducible first | exact Ext.refl _ | assumption | apply Ext.alloc | apply Ext.drew | apply Ext.drewN | refine Ext.setCell ?_ ?_ _ | refine Ext.trans ?_ (by assumption)) | (show _ ≤ _; first | omega | (dsimp only; omega) | (simp; done) | (simp; omega))))) (by omega)).mono ?_
      rintro e w12 ⟨rfl, x12⟩
      have y12 : Ext w11 w12 := (by repeat (first | (with_reducible first | exact Ext.refl _ | assumption | apply Ext.alloc | apply Ext.drew | apply Ext.drewN | refine Ext.setCell ?_ ?_ _ | refine Ext.trans ?_ (by assumption)) | (show _ ≤ _; first | omega | (dsimp only; omega) | (simp; done) | (simp; omega))))
      have k0 := (y12.cell _ _ l11).trans v0
      have k1 := (y12.cell _ _ l11).trans v1
      clear v0 v1
      go_wp2_with fail
      refine (laws_toProof _ _ xs ss _ (h.ext (by repeat (first | (with_reducible first | exact Ext.refl _ | assumption | apply Ext.alloc | apply Ext.drew | apply Ext.drewN | refine Ext.setCell ?_ ?_ _ | refine Ext.trans ?_ (by assumption)) | (show _ ≤ _; first | omega | (dsimp only; omega) | (simp; done) | (simp; omega))))) (hu.ext (by repeat (first | (with_reducible first | exact Ext.refl _ | assumption | apply Ext.alloc | apply Ext.drew | apply Ext.drewN | refine Ext.setCell ?_ ?_ _ | refine Ext.trans ?_ (by assumption)) | (show _ ≤ _; first | omega | (dsimp only; omega) | (simp; done) | (simp; omega))))) hle hle2).mono ?_
      rintro e w13 ⟨a13, c13, b13, d13, rfl, o13, p13, x13⟩
      have s13 := o13.lvs
      have t13 := p13.strs
      clear o13 p13
      go_wp2_with fail
      refine (impl_ProofTexts n _ _ xs ss wd _ hn' (s13.ext (by repeat (first | (with_reducible first | exact Ext.refl _ | assumption | apply Ext.alloc | apply Ext.drew | apply Ext.drewN | refine Ext.setCell ?_ ?_ _ | refine Ext.trans ?_ (by assumption)) | (show _ ≤ _; first | omega | (dsimp only; omega) | (simp; done) | (simp; omega))))) hf (t13.ext (by repeat (first | (with_reducible first | exact Ext.refl _ | assumption | apply Ext.alloc | apply Ext.drew | apply Ext.drewN | refine Ext.setCell ?_ ?_ _ | refine Ext.trans ?_ (by assumption)) | (show _ ≤ _; first | omega | (dsimp only; omega) | (simp; done) | (simp; omega))))) hs (by exact HT.out.ext (by repeat (first | (with_reducible first | exact Ext.refl _ | assumption | apply Ext.alloc | apply Ext.drew | apply Ext.drewN | refine Ext.setCell ?_ ?_ _ | refine Ext.trans ?_ (by assumption)) | (show _ ≤ _; first | omega | (dsimp only; omega) | (simp; done) | (simp; omega)))))).mono ?_
      rw [HY.out]
      rintro e w14 ⟨ah, ch, rfl, oh, x14⟩
      clear s13 t13
      go_wp2_with fail
      refine (laws_eqStringS _ _ ys ys _ (oh.strs.ext (by repeat (first | (with_reducible first | exact Ext.refl _ | assumption | apply Ext.alloc | apply Ext.drew | apply Ext.drewN | refine Ext.setCell ?_ ?_ _ | refine Ext.trans ?_ (by assumption)) | (show _ ≤ _; first | omega | (dsimp only; omega) | (simp; done) | (simp; omega))))) (sr.ext (by repeat (first | (with_reducible first | exact Ext.refl _ | assumption | apply Ext.alloc | apply Ext.drew | apply Ext.drewN | refine Ext.setCell ?_ ?_ _ | refine Ext.trans ?_ (by assumption)) | (show _ ≤ _; first | omega | (dsimp only; omega) | (simp; done) | (simp; omega)))))).mono ?_
      rintro e w15 ⟨rfl, x15⟩
      go_wp2_with fail
      refine (laws_heldStringS _ ys.length 1 _ (sm.ext (by repeat (first | (with_reducible first | exact Ext.refl _ | assumption | apply Ext.alloc | apply Ext.drew | apply Ext.drewN | refine Ext.setCell ?_ ?_ _ | refine Ext.trans ?_ (by assumption)) | (show _ ≤ _; first | omega | (dsimp only; omega) | (simp; done) | (simp; omega))))) (by omega)).mono ?_
      rintro e w16 ⟨rfl, x16⟩
      go_wp2
      go_ret
      exact ⟨rfl, (by repeat (first | (with_reducible first | exact Ext.refl _ | assumption | apply Ext.alloc | apply Ext.drew | apply Ext.drewN | refine Ext.setCell ?_ ?_ _ | refine Ext.trans ?_ (by assumption)) | (show _ ≤ _; first | omega | (dsimp only; omega) | (simp; done) | (simp; omega))))⟩
end Go.Proofs.YtagkcgbggeajkaaDoor
