/- The law on ProveLeaf. -/
import Derived.Test.YtagkcgbggeajkaaDoorPl
import Derived.Test.YtagkcgbggeajkaaDoorMarkS
import Derived.Test.YtagkcgbggeajkaaDoorOff
import Derived.Deep.AppendLies
namespace Go.Proofs.YtagkcgbggeajkaaDoor
open Go.RowKit

set_option maxHeartbeats 800000 in
theorem laws_markProof2 (v u : Value) (xs : List Leaf) (ss : List ByteArray) (k : Int) (b1 b2 : Nat) (w : World) (h : OwnLvs w b1 v xs) (g : OwnStrs w b2 u ss) (hlt : ∀ j, v.ownBlock = some j → j < b2) (hk : 1 ≤ k ∧ k + 2 * xs.length + ss.length ≤ 1099511627776) :
    Calls Tryd.prog 39 #[.agg #[v, u], .int .i64 k] w fun e w' => e = .returned (.int .i64 (k + 2 * xs.length + ss.length)) ∧ OwnLvs w' b1 v (marksL xs.length k) ∧ OwnStrs w' b2 u (marksS ss.length (k + 2 * xs.length)) ∧ ∃ wa wb, Ext w wa ∧ wa.grownBy wb v.ownBlock ∧ wb.grownBy w' u.ownBlock := by
  obtain ⟨a, c, rfl⟩ := own_any h
  obtain ⟨b, d, rfl⟩ := own_any g
  have l0 : ∀ j, (Value.slice a xs.length c).ownBlock = some j → j < w.heap.size := fun j hj => (own_lt h j hj).2
  have L := Lib.hid hlt
  have G := Lib.hid g
  have H := Lib.hid h
  clear hlt h g
  go_enter Tryd.func39, Tryd.ntmps39
  go_wp2_with fail
  refine (laws_markLeafS _ xs k b1 _ (H.out.ext (by repeat (first | (with_reducible first | exact Ext.refl _ | assumption | apply Ext.alloc | apply Ext.drew | apply Ext.drewN | refine Ext.setCell ?_ ?_ _ | refine Ext.trans ?_ (by assumption)) | (show _ ≤ _; first | omega | (dsimp only; omega) | (simp; done) | (simp; omega))))) (by omega)).mono ?_
  rintro e w1 ⟨rfl, m1, g1⟩
  have p1 : w1.cell? ⟨w.heap.size, 1, none⟩ = some (.slice b ss.length d) := by
    rw [g1.cell_far ⟨w.heap.size, 1, none⟩ (by simp) (fun e => by have := l0 _ e.symm; dsimp only at this; omega)]
    simp [go_sem]
  have o1 : OwnStrs w1 b2 (.slice b ss.length d) ss := own_grown (G.out.ext (show Ext w (w.alloc _) from (by repeat (first | (with_reducible first | exact Ext.refl _ | assumption | apply Ext.alloc | apply Ext.drew | apply Ext.drewN | refine Ext.setCell ?_ ?_ _ | refine Ext.trans ?_ (by assumption)) | (show _ ≤ _; first | omega | (dsimp only; omega) | (simp; done) | (simp; omega)))))) g1 L.out
  have O1 := Lib.hid o1
  have G1 := Lib.hid g1
  have M1 := Lib.hid m1
  clear g1 o1 m1
  go_wp2_with fail
  refine (laws_markStringS _ ss (k + 2 * xs.length) b2 _ O1.out (by omega)).mono ?_
  rintro e w2 ⟨rfl, m2, g2⟩
  have G2 := Lib.hid g2
  have M2 := Lib.hid m2
  clear g2 m2
  go_wp2
  go_ret
  exact ⟨rfl, own_grown2 M1.out G2.out (fun j hj hv => by have := L.out j hv; have := (own_lt O1.out j hj).1; omega), M2.out, _, w1, (Ext.refl w).alloc _, G1.out, G2.out⟩

set_option maxHeartbeats 800000 in
theorem laws_heldProof (v u : Value) (n m : Nat) (k : Int) (w : World) (h : Lvs w v (marksL n k)) (g : Strs w u (marksS m (k + 2 * n))) (hk : 1 ≤ k ∧ k + 2 * n + m ≤ 1099511627776) :
    Calls Tryd.prog 40 #[.agg #[v, u], .int .i64 k] w fun e w' => e = .returned (.int .i64 (k + 2 * n + m)) ∧ Ext w w' := by
  obtain ⟨a, c, hv⟩ := h.form
  obtain ⟨b, d, hw⟩ := g.form
  rw [marksL_length] at hv
  rw [marksS_length] at hw
  subst hv hw
  have h1 : ¬ (k + 2 * (n : Int) < 0) := by omega
  have h2 : ¬ (k + 2 * (n : Int) + m < 0) := by omega
  go_enter Tryd.func40, Tryd.ntmps40
  go_wp2_with fail
  refine (laws_heldLeafS _ n k _ (h.ext (by repeat (first | (with_reducible first | exact Ext.refl _ | assumption | apply Ext.alloc | apply Ext.drew | apply Ext.drewN | refine Ext.setCell ?_ ?_ _ | refine Ext.trans ?_ (by assumption)) | (show _ ≤ _; first | omega | (dsimp only; omega) | (simp; done) | (simp; omega))))) (by omega)).mono ?_
  rintro e w1 ⟨rfl, x1⟩
  have E_x1 := Old.of x1; (repeat (first | (replace E_x1 := Old.undrew E_x1) | (replace E_x1 := Old.undrewN E_x1))); have c_E_x1 := Old.cell E_x1; have f_E_x1 := Old.frozen E_x1; have z_E_x1 := Old.size E_x1; try simp only [World.size_alloc] at c_E_x1 f_E_x1 z_E_x1; try have l_E_x1 := Nat.lt_of_succ_le z_E_x1; try have m_E_x1 := Nat.lt_of_succ_lt l_E_x1; try have n_E_x1 := Nat.lt_of_succ_lt m_E_x1
  go_wp2_with fail
  refine (laws_heldStringS _ m (k + 2 * n) _ (g.ext (by repeat (first | (with_reducible first | exact Ext.refl _ | assumption | apply Ext.alloc | apply Ext.drew | apply Ext.drewN | refine Ext.setCell ?_ ?_ _ | refine Ext.trans ?_ (by assumption)) | (show _ ≤ _; first | omega | (dsimp only; omega) | (simp; done) | (simp; omega))))) (by omega)).mono ?_
  rintro e w2 ⟨rfl, x2⟩
  go_wp2
  go_ret
  exact ⟨rfl, (by repeat (first | (with_reducible first | exact Ext.refl _ | assumption | apply Ext.alloc | apply Ext.drew | apply Ext.drewN | refine Ext.setCell ?_ ?_ _ | refine Ext.trans ?_ (by assumption)) | (show _ ≤ _; first | omega | (dsimp only; omega) | (simp; done) | (simp; omega))))⟩

set_option maxRecDepth 100000 in
set_option maxHeartbeats 3200000 in
theorem laws_FnExactProveLeaf (v : Value) (xs : List Leaf) (n : ByteArray) (l wd : Int) (w : World) (h : Lvs w v xs) (hf : LeafFit xs) (hn : n.size ≤ maxLen) (hT : Tabs w) :
    Calls Tryd.prog 9 #[v, .string n, .int .i64 l, .int .i64 wd] w fun e w' => e = .returned (.bool true) ∧ Ext w w' := by
  obtain ⟨a, c, rfl⟩ := h.form
  have HT := Lib.hid hT
  clear hT
  have hn' := hn
  unfold maxLen at hn
  by_cases hbig : 1048576 < n.size
  · go_enter Tryd.func9, Tryd.ntmps9
    go_wp2
    go_ret
    exact ⟨rfl, (by repeat (first | (with_reducible first | exact Ext.refl _ | assumption | apply Ext.alloc | apply Ext.drew | apply Ext.drewN | refine Ext.setCell ?_ ?_ _ | refine Ext.trans ?_ (by assumption)) | (show _ ≤ _; first | omega | (dsimp only; omega) | (simp; done) | (simp; omega))))⟩
  rcases szr_cases (xs.length + leafBytes xs) with ⟨hz, -⟩ | ⟨z, hz, hz0, hz1, -⟩
  · have HZ := Lib.hid hz
    clear hz
    go_enter Tryd.func9, Tryd.ntmps9
    go_wp2_with (go_at_call 21; refine (laws_szLeafS _ xs _ _ (h.ext (by repeat (first | (with_reducible first | exact Ext.refl _ | assumption | apply Ext.alloc | apply Ext.drew | apply Ext.drewN | refine Ext.setCell ?_ ?_ _ | refine Ext.trans ?_ (by assumption)) | (show _ ≤ _; first | omega | (dsimp only; omega) | (simp; done) | (simp; omega))))) (by omega) hf).mono ?_; rw [HZ.out]; rintro e w1 ⟨rfl, x1⟩)
    go_ret
    exact ⟨rfl, (by repeat (first | (with_reducible first | exact Ext.refl _ | assumption | apply Ext.alloc | apply Ext.drew | apply Ext.drewN | refine Ext.setCell ?_ ?_ _ | refine Ext.trans ?_ (by assumption)) | (show _ ≤ _; first | omega | (dsimp only; omega) | (simp; done) | (simp; omega))))⟩
  · have HZ := Lib.hid hz
    have hlen : xs.length ≤ 1048576 := by omega
    have hlen2 : xs.length ≤ 1099511627776 := by omega
    have hBl := plB_len xs n l wd
    have hDl := plS_len xs n l wd
    have hneg : ¬ ((1 : Int) + 2 * xs.length < 0) := by omega
    clear hz hz1
    go_enter Tryd.func9, Tryd.ntmps9
    go_wp2_with (go_at_call 21; refine (laws_szLeafS _ xs _ _ (h.ext (by repeat (first | (with_reducible first | exact Ext.refl _ | assumption | apply Ext.alloc | apply Ext.drew | apply Ext.drewN | refine Ext.setCell ?_ ?_ _ | refine Ext.trans ?_ (by assumption)) | (show _ ≤ _; first | omega | (dsimp only; omega) | (simp; done) | (simp; omega))))) (by omega) hf).mono ?_; rw [HZ.out]; rintro e w1 ⟨rfl, x1⟩)
    refine (laws_toLeafS _ xs _ (h.ext (by repeat (first | (with_reducible first | exact Ext.refl _ | assumption | apply Ext.alloc | apply Ext.drew | apply Ext.drewN | refine Ext.setCell ?_ ?_ _ | refine Ext.trans ?_ (by assumption)) | (show _ ≤ _; first | omega | (dsimp only; omega) | (simp; done) | (simp; omega))))) hlen2).mono ?_
    rintro e w2 ⟨a2, d2, rfl, o2, x2⟩
    go_wp2_with fail
    refine (spec_ProveLeaf _ xs n l wd _ o2.lvs hf hn').mono ?_
    clear o2
    generalize hB : plB xs n l wd = B at *
    generalize hD : plS xs n l wd = D at *
    generalize hO : plOk xs n l wd = ok at *
    have HB := Lib.hid hB
    have HD := Lib.hid hD
    have HO := Lib.hid hO
    clear hB hD hO
    rintro e w3 ⟨ar, cr, br, dr, rfl, or, ⟨mr, -, -, tr⟩, x3⟩
    have sr := or.lvs
    have ur := tr.strs
    clear or tr
    go_wp2_with fail
    have r0 : (w3.alloc (Obj.cells #[.slice ar B.length cr, .slice br D.length dr] 50)).cell? ⟨w3.heap.size, 0, none⟩ = some (.slice ar B.length cr) := by simp [go_sem]
    have r1 : (w3.alloc (Obj.cells #[.slice ar B.length cr, .slice br D.length dr] 50)).cell? ⟨w3.heap.size, 1, none⟩ = some (.slice br D.length dr) := by simp [go_sem]
    have y3 : Ext w3 (w3.alloc (Obj.cells #[.slice ar B.length cr, .slice br D.length dr] 50)) := (Ext.refl w3).alloc _
    have lr : w3.heap.size < (w3.alloc (Obj.cells #[.slice ar B.length cr, .slice br D.length dr] 50)).heap.size := by rw [World.size_alloc]; omega
    generalize w3.alloc (Obj.cells #[.slice ar B.length cr, .slice br D.length dr] 50) = W3 at *
    have yw : Ext w W3 := (by repeat (first | (with_reducible first | exact Ext.refl _ | assumption | apply Ext.alloc | apply Ext.drew | apply Ext.drewN | refine Ext.setCell ?_ ?_ _ | refine Ext.trans ?_ (by assumption)) | (show _ ≤ _; first | omega | (dsimp only; omega) | (simp; done) | (simp; omega))))
    refine (laws_toLeafS _ xs _ (h.ext (by repeat (first | (with_reducible first | exact Ext.refl _ | assumption | apply Ext.alloc | apply Ext.drew | apply Ext.drewN | refine Ext.setCell ?_ ?_ _ | refine Ext.trans ?_ (by assumption)) | (show _ ≤ _; first | omega | (dsimp only; omega) | (simp; done) | (simp; omega))))) hlen2).mono ?_
    rintro e w4 ⟨a4, d4, rfl, o4, x4⟩
    go_wp2_with fail
    refine (impl_ProveLeaf _ xs n l wd _ o4.lvs hf hn' (by exact HT.out.ext (by repeat (first | (with_reducible first | exact Ext.refl _ | assumption | apply Ext.alloc | apply Ext.drew | apply Ext.drewN | refine Ext.setCell ?_ ?_ _ | refine Ext.trans ?_ (by assumption)) | (show _ ≤ _; first | omega | (dsimp only; omega) | (simp; done) | (simp; omega)))))).mono ?_
    rw [HB.out, HD.out, HO.out]
    rintro e w5 ⟨ag, cg, bg, dg, rfl, og, ⟨mg, hlg, hmg, tg⟩, x5⟩
    have y5 : Ext W3 w5 := (by repeat (first | (with_reducible first | exact Ext.refl _ | assumption | apply Ext.alloc | apply Ext.drew | apply Ext.drewN | refine Ext.setCell ?_ ?_ _ | refine Ext.trans ?_ (by assumption)) | (show _ ≤ _; first | omega | (dsimp only; omega) | (simp; done) | (simp; omega))))
    have z45 := x5.size
    have rr0 := (y5.cell _ _ lr).trans r0
    have rr1 := (y5.cell _ _ lr).trans r1
    have lr5 : w3.heap.size < w5.heap.size := Nat.lt_of_lt_of_le lr y5.size
    go_wp2_with fail
    have u0 : (w5.alloc (Obj.cells #[.slice ag B.length cg, .slice bg D.length dg] 50)).cell? ⟨w5.heap.size, 0, none⟩ = some (.slice ag B.length cg) := by simp [go_sem]
    have u1 : (w5.alloc (Obj.cells #[.slice ag B.length cg, .slice bg D.length dg] 50)).cell? ⟨w5.heap.size, 1, none⟩ = some (.slice bg D.length dg) := by simp [go_sem]
    have y5b : Ext w5 (w5.alloc (Obj.cells #[.slice ag B.length cg, .slice bg D.length dg] 50)) := (Ext.refl w5).alloc _
    have lu : w5.heap.size < (w5.alloc (Obj.cells #[.slice ag B.length cg, .slice bg D.length dg] 50)).heap.size := by rw [World.size_alloc]; omega
    generalize w5.alloc (Obj.cells #[.slice ag B.length cg, .slice bg D.length dg] 50) = W5 at *
    clear rr0 rr1
    have sg := og.lvs
    have ug := tg.strs
    refine (laws_eqProof _ _ _ _ B B D D _ (sg.ext (by repeat (first | (with_reducible first | exact Ext.refl _ | assumption | apply Ext.alloc | apply Ext.drew | apply Ext.drewN | refine Ext.setCell ?_ ?_ _ | refine Ext.trans ?_ (by assumption)) | (show _ ≤ _; first | omega | (dsimp only; omega) | (simp; done) | (simp; omega))))) (ug.ext (by repeat (first | (with_reducible first | exact Ext.refl _ | assumption | apply Ext.alloc | apply Ext.drew | apply Ext.drewN | refine Ext.setCell ?_ ?_ _ | refine Ext.trans ?_ (by assumption)) | (show _ ≤ _; first | omega | (dsimp only; omega) | (simp; done) | (simp; omega))))) (sr.ext (by repeat (first | (with_reducible first | exact Ext.refl _ | assumption | apply Ext.alloc | apply Ext.drew | apply Ext.drewN | refine Ext.setCell ?_ ?_ _ | refine Ext.trans ?_ (by assumption)) | (show _ ≤ _; first | omega | (dsimp only; omega) | (simp; done) | (simp; omega))))) (ur.ext (by repeat (first | (with_reducible first | exact Ext.refl _ | assumption | apply Ext.alloc | apply Ext.drew | apply Ext.drewN | refine Ext.setCell ?_ ?_ _ | refine Ext.trans ?_ (by assumption)) | (show _ ≤ _; first | omega | (dsimp only; omega) | (simp; done) | (simp; omega)))))).mono ?_
    rw [show (decide (B = B) && decide (D = D)) = true by simp]
    rintro e w6 ⟨rfl, x6⟩
    go_wp2_with fail
    refine (laws_toLeafS _ xs _ (h.ext (by repeat (first | (with_reducible first | exact Ext.refl _ | assumption | apply Ext.alloc | apply Ext.drew | apply Ext.drewN | refine Ext.setCell ?_ ?_ _ | refine Ext.trans ?_ (by assumption)) | (show _ ≤ _; first | omega | (dsimp only; omega) | (simp; done) | (simp; omega))))) hlen2).mono ?_
    rintro e w7 ⟨a7, d7, rfl, o7, x7⟩
    have s4 := o4.lvs
    have s7 := o7.lvs
    clear o7
    go_wp2_with fail
    refine (laws_eqLeafS _ _ xs xs _ (s4.ext (by repeat (first | (with_reducible first | exact Ext.refl _ | assumption | apply Ext.alloc | apply Ext.drew | apply Ext.drewN | refine Ext.setCell ?_ ?_ _ | refine Ext.trans ?_ (by assumption)) | (show _ ≤ _; first | omega | (dsimp only; omega) | (simp; done) | (simp; omega))))) (s7.ext (by repeat (first | (with_reducible first | exact Ext.refl _ | assumption | apply Ext.alloc | apply Ext.drew | apply Ext.drewN | refine Ext.setCell ?_ ?_ _ | refine Ext.trans ?_ (by assumption)) | (show _ ≤ _; first | omega | (dsimp only; omega) | (simp; done) | (simp; omega)))))).mono ?_
    rintro e w8 ⟨rfl, x8⟩
    clear s4 s7 sg ug
    have e58 : Ext W5 w8 := (by repeat (first | (with_reducible first | exact Ext.refl _ | assumption | apply Ext.alloc | apply Ext.drew | apply Ext.drewN | refine Ext.setCell ?_ ?_ _ | refine Ext.trans ?_ (by assumption)) | (show _ ≤ _; first | omega | (dsimp only; omega) | (simp; done) | (simp; omega))))
    have e5w : Ext w5 w8 := y5b.trans e58
    have e3w : Ext W3 w8 := y5.trans e5w
    go_wp2_with fail
    refine (laws_markLeafS _ xs 1 _ _ (o4.ext (x5.trans e5w)) (by omega)).mono ?_
    rintro e w9 ⟨rfl, -, g9⟩
    have l58 : w5.heap.size < w8.heap.size := Nat.lt_of_lt_of_le lu e58.size
    have y9 : Ext W3 w9 := Ext.grown e3w g9 (fun k hk => (own_lt o4 k hk).1)
    have og9 : OwnLvs w9 w4.heap.size (.slice ag B.length cg) B := own_grown (og.ext e5w) g9 (fun k hk => (own_lt o4 k hk).2)
    have tg9 : OwnStrs w9 mg (.slice bg D.length dg) D := own_grown (tg.ext e5w) g9 (fun k hk => Nat.lt_of_lt_of_le (own_lt o4 k hk).2 hmg)
    have v0 : w9.cell? ⟨w5.heap.size, 0, none⟩ = some (.slice ag B.length cg) := by
      rw [g9.cell_far ⟨w5.heap.size, 0, none⟩ l58 (fun e => by have := (own_lt o4 _ e.symm).2; dsimp only at this; omega)]
      exact (e58.cell _ _ lu).trans u0
    have v1 : w9.cell? ⟨w5.heap.size, 1, none⟩ = some (.slice bg D.length dg) := by
      rw [g9.cell_far ⟨w5.heap.size, 1, none⟩ l58 (fun e => by have := (own_lt o4 _ e.symm).2; dsimp only at this; omega)]
      exact (e58.cell _ _ lu).trans u1
    have l9 : w5.heap.size < w9.heap.size := Nat.lt_of_lt_of_le l58 g9.size
    have z34 : W3.heap.size ≤ w4.heap.size := x4.size
    have hq0 := (y9.cell _ _ lr).trans r0
    have hq1 := (y9.cell _ _ lr).trans r1
    have sr9 := sr.ext (y3.trans y9)
    have ur9 := ur.ext (y3.trans y9)
    have OG := Lib.hid og
    have OG9 := Lib.hid og9
    have TG9 := Lib.hid tg9
    have TG := Lib.hid tg
    have LG := Lib.hid hlg
    clear g9 o4 og tg e58 e5w e3w u0 u1 x8 x7 x6 y5b x5 x4 y5 hlg
    have sg := og9.lvs
    have ug := tg9.strs
    clear og9 tg9
    have xw9 : Ext w w9 := yw.trans y9
    go_wp2_with fail
    refine (laws_eqProof _ _ _ _ B B D D _ (sg.ext (by repeat (first | (with_reducible first | exact Ext.refl _ | assumption | apply Ext.alloc | apply Ext.drew | apply Ext.drewN | refine Ext.setCell ?_ ?_ _ | refine Ext.trans ?_ (by assumption)) | (show _ ≤ _; first | omega | (dsimp only; omega) | (simp; done) | (simp; omega))))) (ug.ext (by repeat (first | (with_reducible first | exact Ext.refl _ | assumption | apply Ext.alloc | apply Ext.drew | apply Ext.drewN | refine Ext.setCell ?_ ?_ _ | refine Ext.trans ?_ (by assumption)) | (show _ ≤ _; first | omega | (dsimp only; omega) | (simp; done) | (simp; omega))))) (sr9.ext (by repeat (first | (with_reducible first | exact Ext.refl _ | assumption | apply Ext.alloc | apply Ext.drew | apply Ext.drewN | refine Ext.setCell ?_ ?_ _ | refine Ext.trans ?_ (by assumption)) | (show _ ≤ _; first | omega | (dsimp only; omega) | (simp; done) | (simp; omega))))) (ur9.ext (by repeat (first | (with_reducible first | exact Ext.refl _ | assumption | apply Ext.alloc | apply Ext.drew | apply Ext.drewN | refine Ext.setCell ?_ ?_ _ | refine Ext.trans ?_ (by assumption)) | (show _ ≤ _; first | omega | (dsimp only; omega) | (simp; done) | (simp; omega)))))).mono ?_
    rw [show (decide (B = B) && decide (D = D)) = true by simp]
    rintro e w10 ⟨rfl, x10⟩
    clear sg ug hq0 hq1
    have y10 : Ext w9 w10 := (by repeat (first | (with_reducible first | exact Ext.refl _ | assumption | apply Ext.alloc | apply Ext.drew | apply Ext.drewN | refine Ext.setCell ?_ ?_ _ | refine Ext.trans ?_ (by assumption)) | (show _ ≤ _; first | omega | (dsimp only; omega) | (simp; done) | (simp; omega))))
    have l10 : w5.heap.size < w10.heap.size := Nat.lt_of_lt_of_le l9 y10.size
    replace v0 := (y10.cell _ _ l9).trans v0
    replace v1 := (y10.cell _ _ l9).trans v1
    go_wp2_with fail
    refine (laws_markProof2 _ _ B D 1 _ _ _ (own_ext OG9.out y10) (own_ext TG9.out y10) LG.out (by omega)).mono ?_
    rintro e w11 ⟨rfl, ml, ms, wa, wb, xa, ga, gb⟩
    have ya : Ext W3 wa := (y9.trans y10).trans xa
    have yb : Ext W3 wb := ya.grown ga (fun k hk => Nat.le_trans z34 (own_lt OG9.out k hk).1)
    have y11 : Ext W3 w11 := yb.grown gb (fun k hk => Nat.le_trans z34 (Nat.le_trans hmg (own_lt TG9.out k hk).1))
    have la : w5.heap.size < wa.heap.size := Nat.lt_of_lt_of_le l10 xa.size
    have lb : w5.heap.size < wb.heap.size := Nat.lt_of_lt_of_le la ga.size
    have t0 : w11.cell? ⟨w5.heap.size, 0, none⟩ = some (.slice ag B.length cg) := by
      rw [gb.cell_far ⟨w5.heap.size, 0, none⟩ lb (fun e => by have := (own_lt TG.out _ e.symm).2; dsimp only at this; omega), ga.cell_far ⟨w5.heap.size, 0, none⟩ la (fun e => by have := (own_lt OG.out _ e.symm).2; dsimp only at this; omega)]
      exact (xa.cell _ _ l10).trans v0
    have t1 : w11.cell? ⟨w5.heap.size, 1, none⟩ = some (.slice bg D.length dg) := by
      rw [gb.cell_far ⟨w5.heap.size, 1, none⟩ lb (fun e => by have := (own_lt TG.out _ e.symm).2; dsimp only at this; omega), ga.cell_far ⟨w5.heap.size, 1, none⟩ la (fun e => by have := (own_lt OG.out _ e.symm).2; dsimp only at this; omega)]
      exact (xa.cell _ _ l10).trans v1
    have l11 : w5.heap.size < w11.heap.size := Nat.lt_of_lt_of_le lb gb.size
    have sl := ml.lvs
    have st := ms.strs
    have sr11 := sr.ext (y3.trans y11)
    have ur11 := ur.ext (y3.trans y11)
    have xw11 : Ext w w11 := yw.trans y11
    have k0 := (y11.cell _ _ lr).trans r0
    have k1 := (y11.cell _ _ lr).trans r1
    have lk : w3.heap.size < w11.heap.size := Nat.lt_of_lt_of_le lr y11.size
    clear ml ms ga gb ya yb xa x10 y10 v0 v1 sr9 ur9 y9 xw9
    go_wp2_with fail
    refine (laws_heldProof _ _ B.length D.length 1 _ (sl.ext (by repeat (first | (with_reducible first | exact Ext.refl _ | assumption | apply Ext.alloc | apply Ext.drew | apply Ext.drewN | refine Ext.setCell ?_ ?_ _ | refine Ext.trans ?_ (by assumption)) | (show _ ≤ _; first | omega | (dsimp only; omega) | (simp; done) | (simp; omega))))) (st.ext (by repeat (first | (with_reducible first | exact Ext.refl _ | assumption | apply Ext.alloc | apply Ext.drew | apply Ext.drewN | refine Ext.setCell ?_ ?_ _ | refine Ext.trans ?_ (by assumption)) | (show _ ≤ _; first | omega | (dsimp only; omega) | (simp; done) | (simp; omega))))) (by omega)).mono ?_
    rintro e w12 ⟨rfl, x12⟩
    have y12 : Ext w11 w12 := (by repeat (first | (with_reducible first | exact Ext.refl _ | assumption | apply Ext.alloc | apply Ext.drew | apply Ext.drewN | refine Ext.setCell ?_ ?_ _ | refine Ext.trans ?_ (by assumption)) | (show _ ≤ _; first | omega | (dsimp only; omega) | (simp; done) | (simp; omega))))
    have p0 := (y12.cell _ _ l11).trans t0
    have p1 := (y12.cell _ _ l11).trans t1
    go_wp2_with fail
    refine (laws_toLeafS _ xs _ (h.ext (by repeat (first | (with_reducible first | exact Ext.refl _ | assumption | apply Ext.alloc | apply Ext.drew | apply Ext.drewN | refine Ext.setCell ?_ ?_ _ | refine Ext.trans ?_ (by assumption)) | (show _ ≤ _; first | omega | (dsimp only; omega) | (simp; done) | (simp; omega))))) hlen2).mono ?_
    rintro e w13 ⟨a13, d13, rfl, o13, x13⟩
    go_wp2_with fail
    refine (impl_ProveLeaf _ xs n l wd _ o13.lvs hf hn' (by exact HT.out.ext (by repeat (first | (with_reducible first | exact Ext.refl _ | assumption | apply Ext.alloc | apply Ext.drew | apply Ext.drewN | refine Ext.setCell ?_ ?_ _ | refine Ext.trans ?_ (by assumption)) | (show _ ≤ _; first | omega | (dsimp only; omega) | (simp; done) | (simp; omega)))))).mono ?_
    rw [HB.out, HD.out, HO.out]
    rintro e w14 ⟨ah, ch, bh, dh, rfl, oh, ⟨mh, -, -, th⟩, x14⟩
    have sh := oh.lvs
    have uh := th.strs
    clear o13 oh th
    have y14 : Ext w11 w14 := (by repeat (first | (with_reducible first | exact Ext.refl _ | assumption | apply Ext.alloc | apply Ext.drew | apply Ext.drewN | refine Ext.setCell ?_ ?_ _ | refine Ext.trans ?_ (by assumption)) | (show _ ≤ _; first | omega | (dsimp only; omega) | (simp; done) | (simp; omega))))
    have m0 := (y14.cell _ _ lk).trans k0
    have m1 := (y14.cell _ _ lk).trans k1
    have lk14 : w3.heap.size < w14.heap.size := Nat.lt_of_lt_of_le lk y14.size
    go_wp2_with fail
    refine (laws_eqProof _ _ _ _ B B D D _ (sh.ext (by repeat (first | (with_reducible first | exact Ext.refl _ | assumption | apply Ext.alloc | apply Ext.drew | apply Ext.drewN | refine Ext.setCell ?_ ?_ _ | refine Ext.trans ?_ (by assumption)) | (show _ ≤ _; first | omega | (dsimp only; omega) | (simp; done) | (simp; omega))))) (uh.ext (by repeat (first | (with_reducible first | exact Ext.refl _ | assumption | apply Ext.alloc | apply Ext.drew | apply Ext.drewN | refine Ext.setCell ?_ ?_ _ | refine Ext.trans ?_ (by assumption)) | (show _ ≤ _; first | omega | (dsimp only; omega) | (simp; done) | (simp; omega))))) (sr11.ext (by repeat (first | (with_reducible first | exact Ext.refl _ | assumption | apply Ext.alloc | apply Ext.drew | apply Ext.drewN | refine Ext.setCell ?_ ?_ _ | refine Ext.trans ?_ (by assumption)) | (show _ ≤ _; first | omega | (dsimp only; omega) | (simp; done) | (simp; omega))))) (ur11.ext (by repeat (first | (with_reducible first | exact Ext.refl _ | assumption | apply Ext.alloc | apply Ext.drew | apply Ext.drewN | refine Ext.setCell ?_ ?_ _ | refine Ext.trans ?_ (by assumption)) | (show _ ≤ _; first | omega | (dsimp only; omega) | (simp; done) | (simp; omega)))))).mono ?_
    rw [show (decide (B = B) && decide (D = D)) = true by simp]
    rintro e w15 ⟨rfl, x15⟩
    have y15 : Ext w11 w15 := (by repeat (first | (with_reducible first | exact Ext.refl _ | assumption | apply Ext.alloc | apply Ext.drew | apply Ext.drewN | refine Ext.setCell ?_ ?_ _ | refine Ext.trans ?_ (by assumption)) | (show _ ≤ _; first | omega | (dsimp only; omega) | (simp; done) | (simp; omega))))
    have n0 := (y15.cell _ _ l11).trans t0
    have n1 := (y15.cell _ _ l11).trans t1
    go_wp2_with fail
    refine (laws_heldProof _ _ B.length D.length 1 _ (sl.ext (by repeat (first | (with_reducible first | exact Ext.refl _ | assumption | apply Ext.alloc | apply Ext.drew | apply Ext.drewN | refine Ext.setCell ?_ ?_ _ | refine Ext.trans ?_ (by assumption)) | (show _ ≤ _; first | omega | (dsimp only; omega) | (simp; done) | (simp; omega))))) (st.ext (by repeat (first | (with_reducible first | exact Ext.refl _ | assumption | apply Ext.alloc | apply Ext.drew | apply Ext.drewN | refine Ext.setCell ?_ ?_ _ | refine Ext.trans ?_ (by assumption)) | (show _ ≤ _; first | omega | (dsimp only; omega) | (simp; done) | (simp; omega))))) (by omega)).mono ?_
    rintro e w16 ⟨rfl, x16⟩
    go_wp2
    go_ret
    exact ⟨rfl, (by repeat (first | (with_reducible first | exact Ext.refl _ | assumption | apply Ext.alloc | apply Ext.drew | apply Ext.drewN | refine Ext.setCell ?_ ?_ _ | refine Ext.trans ?_ (by assumption)) | (show _ ≤ _; first | omega | (dsimp only; omega) | (simp; done) | (simp; omega))))⟩
end Go.Proofs.YtagkcgbggeajkaaDoor
