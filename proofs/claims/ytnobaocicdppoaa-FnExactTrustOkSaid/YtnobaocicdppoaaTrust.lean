/- Trusts. -/
import Derived.Test.YtnobaocicdppoaaStrs
import Derived.Deep.RegionHeld3
namespace Go.Proofs.Ytnobaocicdppoaa
open Go.RowKit

def trustOk (roots : List ByteArray) (k need : Int) : Bool := inB roots.length 1 3 && (wide roots 16 && (inB k 0 2 && inB need 0 2))

set_option maxHeartbeats 400000 in
theorem laws_toTrust (v : Value) (xs : List ByteArray) (k need : Int) (w : World) (h : Strs w v xs) (hb : xs.length ≤ 1099511627776) :
    Calls Try.prog 24 #[.agg #[v, .int .i64 k, .int .i64 need]] w fun e w' => ∃ a c, e = .returned (.agg #[.slice a xs.length c, .int .i64 k, .int .i64 need]) ∧ OwnStrs w' w.heap.size (.slice a xs.length c) xs ∧ Ext w w' := by
  go_enter Try.func24, Try.ntmps24
  go_wp2_with fail
  refine (laws_toStringS _ xs _ (h.ext (by repeat (first | (with_reducible first | exact Ext.refl _ | assumption | apply Ext.alloc | apply Ext.drew | apply Ext.drewN | refine Ext.setCell ?_ ?_ _ | refine Ext.trans ?_ (by assumption)) | (show _ ≤ _; first | omega | (dsimp only; omega) | (simp; done) | (simp; omega))))) hb).mono ?_
  rintro e w1 ⟨a1, c1, rfl, ho, hx⟩
  have hc := hx.cell
  have hf := hx.frozen
  have hz := hx.size
  simp only [World.size_alloc] at hz hc hf
  have HO := Lib.hid ho
  clear ho
  go_wp2
  refine bodyPost_ret (v := .agg #[.slice a1 xs.length c1, .int .i64 k, .int .i64 need]) (by simp [results, Try.results24, go_sem, hc]) rfl ⟨_, _, rfl, ?_, (by repeat (first | (with_reducible first | exact Ext.refl _ | assumption | apply Ext.alloc | apply Ext.drew | apply Ext.drewN | refine Ext.setCell ?_ ?_ _ | refine Ext.trans ?_ (by assumption)) | (show _ ≤ _; first | omega | (dsimp only; omega) | (simp; done) | (simp; omega))))⟩
  have ho := HO.out
  clear hc hf HO
  simp only [World.size_alloc] at ho
  exact (by show World.ownsRow _ _ _ _ _ _ _; apply own_mono; (repeat (with_reducible first | apply own_below | apply own_alloc | apply own_drew | apply own_drewN | refine own_ext ?_ (by assumption))); exact ho; all_goals (first | omega | (dsimp only; omega) | (simp; done) | (simp; omega)))

theorem laws_szTrust (v : Value) (xs : List ByteArray) (k need left : Int) (w : World) (h : Strs w v xs) (hl : 0 ≤ left ∧ left ≤ 1048576) (hs : ∀ s ∈ xs, s.size ≤ maxLen) :
    Calls Try.prog 22 #[.agg #[v, .int .i64 k, .int .i64 need], .int .i64 left] w fun e w' => e = .returned (.int .i64 (szr left (xs.length + sizes xs))) ∧ Ext w w' := by
  have hcase : szr left (xs.length + sizes xs) = -1 ∨ 0 ≤ szr left (xs.length + sizes xs) := by simp only [szr]; split <;> omega
  generalize hz : szr left (xs.length + sizes xs) = z at *
  have HZ := Lib.hid hz
  clear hz
  rcases hcase with rfl | hcase
  all_goals
    go_enter Try.func22, Try.ntmps22
    go_wp2_with (go_at_call 32; refine (laws_szStringS _ xs _ _ (h.ext (by repeat (first | (with_reducible first | exact Ext.refl _ | assumption | apply Ext.alloc | apply Ext.drew | apply Ext.drewN | refine Ext.setCell ?_ ?_ _ | refine Ext.trans ?_ (by assumption)) | (show _ ≤ _; first | omega | (dsimp only; omega) | (simp; done) | (simp; omega))))) hl hs).mono ?_; rw [HZ.out]; rintro e w' ⟨rfl, rfl⟩)
    go_ret
    exact ⟨rfl, (by repeat (first | (with_reducible first | exact Ext.refl _ | assumption | apply Ext.alloc | apply Ext.drew | apply Ext.drewN | refine Ext.setCell ?_ ?_ _ | refine Ext.trans ?_ (by assumption)) | (show _ ≤ _; first | omega | (dsimp only; omega) | (simp; done) | (simp; omega))))⟩

set_option maxHeartbeats 400000 in
theorem laws_eqTrust (v1 v2 : Value) (xs ys : List ByteArray) (k1 n1 k2 n2 : Int) (w : World) (h1 : Strs w v1 xs) (h2 : Strs w v2 ys) :
    Calls Try.prog 26 #[.agg #[v1, .int .i64 k1, .int .i64 n1], .agg #[v2, .int .i64 k2, .int .i64 n2]] w fun e w' => e = .returned (.bool (decide (xs = ys) && (decide (k1 = k2) && decide (n1 = n2)))) ∧ Ext w w' := by
  go_enter Try.func26, Try.ntmps26
  go_wp2_with (go_at_call 38; refine (laws_eqStringS _ _ xs ys _ (h1.ext (by repeat (first | (with_reducible first | exact Ext.refl _ | assumption | apply Ext.alloc | apply Ext.drew | apply Ext.drewN | refine Ext.setCell ?_ ?_ _ | refine Ext.trans ?_ (by assumption)) | (show _ ≤ _; first | omega | (dsimp only; omega) | (simp; done) | (simp; omega))))) (h2.ext (by repeat (first | (with_reducible first | exact Ext.refl _ | assumption | apply Ext.alloc | apply Ext.drew | apply Ext.drewN | refine Ext.setCell ?_ ?_ _ | refine Ext.trans ?_ (by assumption)) | (show _ ≤ _; first | omega | (dsimp only; omega) | (simp; done) | (simp; omega)))))).mono ?_; rintro e w1 ⟨rfl, hx⟩; have hc := hx.cell; have hz := hx.size; simp only [World.size_alloc] at hz hc)
  all_goals go_ret
  all_goals refine ⟨ret_bool ?_, (by repeat (first | (with_reducible first | exact Ext.refl _ | assumption | apply Ext.alloc | apply Ext.drew | apply Ext.drewN | refine Ext.setCell ?_ ?_ _ | refine Ext.trans ?_ (by assumption)) | (show _ ≤ _; first | omega | (dsimp only; omega) | (simp; done) | (simp; omega))))⟩
  all_goals simp_all
set_option maxHeartbeats 400000 in
theorem impl_TrustOk (v : Value) (xs : List ByteArray) (k need : Int) (w : World) (h : Strs w v xs) (hs : ∀ s ∈ xs, s.size ≤ maxLen) :
    Calls Try.prog 25 #[.agg #[v, .int .i64 k, .int .i64 need]] w fun e w' => e = .returned (.bool (trustOk xs k need)) ∧ Ext w w' := by
  obtain ⟨a, c, rfl⟩ := h.form
  go_enter Try.func25, Try.ntmps25
  go_wp2_with (first | (go_at_call 35; refine (impl_in _ _ _ _).mono ?_; rintro e w' ⟨rfl, rfl⟩) | (go_at_call 36; refine (impl_haveWidth _ xs _ _ _ (h.ext (by repeat (first | (with_reducible first | exact Ext.refl _ | assumption | apply Ext.alloc | apply Ext.drew | apply Ext.drewN | refine Ext.setCell ?_ ?_ _ | refine Ext.trans ?_ (by assumption)) | (show _ ≤ _; first | omega | (dsimp only; omega) | (simp; done) | (simp; omega))))) hs).mono ?_; rintro e w' ⟨rfl, rfl⟩) | (go_at_call 37; go_in))
  all_goals go_ret
  all_goals refine ⟨ret_bool ?_, (by repeat (first | (with_reducible first | exact Ext.refl _ | assumption | apply Ext.alloc | apply Ext.drew | apply Ext.drewN | refine Ext.setCell ?_ ?_ _ | refine Ext.trans ?_ (by assumption)) | (show _ ≤ _; first | omega | (dsimp only; omega) | (simp; done) | (simp; omega))))⟩
  all_goals simp_all [trustOk]
set_option maxHeartbeats 400000 in
theorem spec_TrustOk (v : Value) (xs : List ByteArray) (k need : Int) (w : World) (h : Strs w v xs) (hs : ∀ s ∈ xs, s.size ≤ maxLen) :
    Calls Try.prog 23 #[.agg #[v, .int .i64 k, .int .i64 need]] w fun e w' => e = .returned (.bool (trustOk xs k need)) ∧ Ext w w' := by
  obtain ⟨a, c, rfl⟩ := h.form
  go_enter Try.func23, Try.ntmps23
  go_wp2_with (first | (go_at_call 27; refine (spec_l01In _ _ _ _).mono ?_; rintro e w' ⟨rfl, rfl⟩) | (go_at_call 33; refine (spec_l11Wide _ xs _ _ (h.ext (by repeat (first | (with_reducible first | exact Ext.refl _ | assumption | apply Ext.alloc | apply Ext.drew | apply Ext.drewN | refine Ext.setCell ?_ ?_ _ | refine Ext.trans ?_ (by assumption)) | (show _ ≤ _; first | omega | (dsimp only; omega) | (simp; done) | (simp; omega))))) hs).mono ?_; rintro e w' ⟨rfl, rfl⟩))
  all_goals go_ret
  all_goals refine ⟨ret_bool ?_, (by repeat (first | (with_reducible first | exact Ext.refl _ | assumption | apply Ext.alloc | apply Ext.drew | apply Ext.drewN | refine Ext.setCell ?_ ?_ _ | refine Ext.trans ?_ (by assumption)) | (show _ ≤ _; first | omega | (dsimp only; omega) | (simp; done) | (simp; omega))))⟩
  all_goals simp_all [trustOk, show inB 16 1 32 = true from rfl]

set_option maxHeartbeats 400000 in
theorem laws_FnExactTrustOk (v : Value) (xs : List ByteArray) (k need : Int) (w : World) (h : Strs w v xs) (hs : ∀ s ∈ xs, s.size ≤ maxLen) :
    Calls Try.prog 8 #[.agg #[v, .int .i64 k, .int .i64 need]] w fun e w' => e = .returned (.bool true) ∧ Ext w w' := by
  obtain ⟨a, c, rfl⟩ := h.form
  by_cases hbig : (1048576 : Int) < (xs.length + sizes xs : Nat)
  · have hz : szr 1048576 (xs.length + sizes xs) = -1 := by simp only [szr]; rw [if_pos (by omega)]
    go_enter Try.func8, Try.ntmps8
    go_wp2_with (go_at_call 22; refine (laws_szTrust _ xs _ _ _ _ (h.ext (by repeat (first | (with_reducible first | exact Ext.refl _ | assumption | apply Ext.alloc | apply Ext.drew | apply Ext.drewN | refine Ext.setCell ?_ ?_ _ | refine Ext.trans ?_ (by assumption)) | (show _ ≤ _; first | omega | (dsimp only; omega) | (simp; done) | (simp; omega))))) (by omega) hs).mono ?_; rw [hz]; rintro e w1 ⟨rfl, hx⟩)
    go_ret
    exact ⟨rfl, (by repeat (first | (with_reducible first | exact Ext.refl _ | assumption | apply Ext.alloc | apply Ext.drew | apply Ext.drewN | refine Ext.setCell ?_ ?_ _ | refine Ext.trans ?_ (by assumption)) | (show _ ≤ _; first | omega | (dsimp only; omega) | (simp; done) | (simp; omega))))⟩
  · have hz : ∃ z : Int, szr 1048576 (xs.length + sizes xs) = z ∧ 0 ≤ z := ⟨_, rfl, by simp only [szr]; rw [if_neg (by omega)]; omega⟩
    obtain ⟨z, hz, hz0⟩ := hz
    have HZ := Lib.hid hz
    have hlen : xs.length ≤ 1099511627776 := by omega
    clear hbig hz
    go_enter Try.func8, Try.ntmps8
    go_wp2_with (go_at_call 22; refine (laws_szTrust _ xs _ _ _ _ (h.ext (by repeat (first | (with_reducible first | exact Ext.refl _ | assumption | apply Ext.alloc | apply Ext.drew | apply Ext.drewN | refine Ext.setCell ?_ ?_ _ | refine Ext.trans ?_ (by assumption)) | (show _ ≤ _; first | omega | (dsimp only; omega) | (simp; done) | (simp; omega))))) (by omega) hs).mono ?_; rw [HZ.out]; rintro e w1 ⟨rfl, x1⟩; have E_x1 := Old.of x1; have c_E_x1 := Old.cell E_x1; have f_E_x1 := Old.frozen E_x1; have z_E_x1 := Old.size E_x1; try simp only [World.size_alloc] at c_E_x1 f_E_x1 z_E_x1)
    refine (laws_toTrust _ xs k need _ (h.ext (by repeat (first | (with_reducible first | exact Ext.refl _ | assumption | apply Ext.alloc | apply Ext.drew | apply Ext.drewN | refine Ext.setCell ?_ ?_ _ | refine Ext.trans ?_ (by assumption)) | (show _ ≤ _; first | omega | (dsimp only; omega) | (simp; done) | (simp; omega))))) hlen).mono ?_
    rintro e w2 ⟨a2, d2, rfl, o2, x2⟩
    have E_x2 := Old.via E_x1 x2 (by repeat (first | (with_reducible first | exact Ext.refl _ | assumption | apply Ext.alloc | apply Ext.drew | apply Ext.drewN | refine Ext.setCell ?_ ?_ _ | refine Ext.trans ?_ (by assumption)) | (show _ ≤ _; first | omega | (dsimp only; omega) | (simp; done) | (simp; omega)))); clear c_E_x1 f_E_x1; have c_E_x2 := Old.cell E_x2; have f_E_x2 := Old.frozen E_x2; have z_E_x2 := Old.size E_x2; try simp only [World.size_alloc] at c_E_x2 f_E_x2 z_E_x2
    have s2 := o2.strs
    clear o2
    go_wp2_with fail
    refine (spec_TrustOk _ xs _ _ _ (s2.ext (by repeat (first | (with_reducible first | exact Ext.refl _ | assumption | apply Ext.alloc | apply Ext.drew | apply Ext.drewN | refine Ext.setCell ?_ ?_ _ | refine Ext.trans ?_ (by assumption)) | (show _ ≤ _; first | omega | (dsimp only; omega) | (simp; done) | (simp; omega))))) hs).mono ?_
    rintro e w3 ⟨rfl, x3⟩
    have E_x3 := Old.via E_x2 x3 (by repeat (first | (with_reducible first | exact Ext.refl _ | assumption | apply Ext.alloc | apply Ext.drew | apply Ext.drewN | refine Ext.setCell ?_ ?_ _ | refine Ext.trans ?_ (by assumption)) | (show _ ≤ _; first | omega | (dsimp only; omega) | (simp; done) | (simp; omega)))); clear c_E_x2 f_E_x2; have c_E_x3 := Old.cell E_x3; have f_E_x3 := Old.frozen E_x3; have z_E_x3 := Old.size E_x3; try simp only [World.size_alloc] at c_E_x3 f_E_x3 z_E_x3
    clear s2
    go_wp2_with fail
    refine (laws_toTrust _ xs k need _ (h.ext (by repeat (first | (with_reducible first | exact Ext.refl _ | assumption | apply Ext.alloc | apply Ext.drew | apply Ext.drewN | refine Ext.setCell ?_ ?_ _ | refine Ext.trans ?_ (by assumption)) | (show _ ≤ _; first | omega | (dsimp only; omega) | (simp; done) | (simp; omega))))) hlen).mono ?_
    rintro e w4 ⟨a4, d4, rfl, o4, x4⟩
    have E_x4 := Old.via E_x3 x4 (by repeat (first | (with_reducible first | exact Ext.refl _ | assumption | apply Ext.alloc | apply Ext.drew | apply Ext.drewN | refine Ext.setCell ?_ ?_ _ | refine Ext.trans ?_ (by assumption)) | (show _ ≤ _; first | omega | (dsimp only; omega) | (simp; done) | (simp; omega)))); clear c_E_x3 f_E_x3; have c_E_x4 := Old.cell E_x4; have f_E_x4 := Old.frozen E_x4; have z_E_x4 := Old.size E_x4; try simp only [World.size_alloc] at c_E_x4 f_E_x4 z_E_x4
    have s4 := o4.strs
    clear o4
    go_wp2_with fail
    refine (impl_TrustOk _ xs _ _ _ (s4.ext (by repeat (first | (with_reducible first | exact Ext.refl _ | assumption | apply Ext.alloc | apply Ext.drew | apply Ext.drewN | refine Ext.setCell ?_ ?_ _ | refine Ext.trans ?_ (by assumption)) | (show _ ≤ _; first | omega | (dsimp only; omega) | (simp; done) | (simp; omega))))) hs).mono ?_
    rintro e w5 ⟨rfl, x5⟩
    have E_x5 := Old.via E_x4 x5 (by repeat (first | (with_reducible first | exact Ext.refl _ | assumption | apply Ext.alloc | apply Ext.drew | apply Ext.drewN | refine Ext.setCell ?_ ?_ _ | refine Ext.trans ?_ (by assumption)) | (show _ ≤ _; first | omega | (dsimp only; omega) | (simp; done) | (simp; omega)))); clear c_E_x4 f_E_x4; have c_E_x5 := Old.cell E_x5; have f_E_x5 := Old.frozen E_x5; have z_E_x5 := Old.size E_x5; try simp only [World.size_alloc] at c_E_x5 f_E_x5 z_E_x5
    have c_x5 := Ext.cell x5; have f_x5 := Ext.frozen x5; have z_x5 := Ext.size x5; try simp only [World.size_alloc] at c_x5 f_x5 z_x5
    go_wp2_with fail
    have p0 := c_x5 (w4.heap.size) 0 (by simp); simp at p0; have p1 := c_x5 (w4.heap.size) 1 (by simp); simp at p1; have p2 := c_x5 (w4.heap.size) 2 (by simp); simp at p2
    have q0 := c_E_x5 (w.heap.size) 0 (by simp); simp at q0; have q1 := c_E_x5 (w.heap.size) 1 (by simp); simp at q1; have q2 := c_E_x5 (w.heap.size) 2 (by simp); simp at q2
    have l1 : w.heap.size < w5.heap.size := by omega
    have l2 : w4.heap.size < w5.heap.size := by omega
    clear c_x5 f_x5 c_E_x5 f_E_x5
    go_region_held3 (fun W => W.cell? ⟨w4.heap.size, 0, none⟩ = some (.slice a4 xs.length d4) ∧ W.cell? ⟨w4.heap.size, 1, none⟩ = some (.int .i64 k) ∧ W.cell? ⟨w4.heap.size, 2, none⟩ = some (.int .i64 need) ∧ W.cell? ⟨w.heap.size, 0, none⟩ = some (.slice a xs.length c) ∧ W.cell? ⟨w.heap.size, 1, none⟩ = some (.int .i64 k) ∧ W.cell? ⟨w.heap.size, 2, none⟩ = some (.int .i64 need)) (first | exact ⟨p0, p1, p2, q0, q1, q2⟩ | exact ⟨(c6 _ _ l2).trans p0, (c6 _ _ l2).trans p1, (c6 _ _ l2).trans p2, (c6 _ _ l1).trans q0, (c6 _ _ l1).trans q1, (c6 _ _ l1).trans q2⟩ | exact ⟨(c7 _ _ l2).trans p0, (c7 _ _ l2).trans p1, (c7 _ _ l2).trans p2, (c7 _ _ l1).trans q0, (c7 _ _ l1).trans q1, (c7 _ _ l1).trans q2⟩) (first | (go_at_call 24; refine (laws_toTrust _ xs k need _ (h.ext (by repeat (first | (with_reducible first | exact Ext.refl _ | assumption | apply Ext.alloc | apply Ext.drew | apply Ext.drewN | refine Ext.setCell ?_ ?_ _ | refine Ext.trans ?_ (by assumption)) | (show _ ≤ _; first | omega | (dsimp only; omega) | (simp; done) | (simp; omega))))) hlen).mono ?_; rintro e w6 ⟨a6, d6, rfl, o6, x6⟩; have s6 := o6.strs; clear o6; have c6 : ∀ k o, k < w5.heap.size → w6.cell? ⟨k, o, none⟩ = w5.cell? ⟨k, o, none⟩ := fun k o hk => x6.cell k o hk) | (go_at_call 26; refine (laws_eqTrust _ _ xs xs _ _ _ _ _ (s4.ext (by repeat (first | (with_reducible first | exact Ext.refl _ | assumption | apply Ext.alloc | apply Ext.drew | apply Ext.drewN | refine Ext.setCell ?_ ?_ _ | refine Ext.trans ?_ (by assumption)) | (show _ ≤ _; first | omega | (dsimp only; omega) | (simp; done) | (simp; omega))))) (s6.ext (by repeat (first | (with_reducible first | exact Ext.refl _ | assumption | apply Ext.alloc | apply Ext.drew | apply Ext.drewN | refine Ext.setCell ?_ ?_ _ | refine Ext.trans ?_ (by assumption)) | (show _ ≤ _; first | omega | (dsimp only; omega) | (simp; done) | (simp; omega)))))).mono ?_; rintro e w7 ⟨rfl, x7⟩; have c7 : ∀ k o, k < w5.heap.size → w7.cell? ⟨k, o, none⟩ = w5.cell? ⟨k, o, none⟩ := fun k o hk => (x7.cell k o (Nat.lt_of_lt_of_le hk x6.size)).trans (c6 k o hk)))
    all_goals
      go_wp2
      go_ret
      exact ⟨rfl, (by repeat (first | (with_reducible first | exact Ext.refl _ | assumption | apply Ext.alloc | apply Ext.drew | apply Ext.drewN | refine Ext.setCell ?_ ?_ _ | refine Ext.trans ?_ (by assumption)) | (show _ ≤ _; first | omega | (dsimp only; omega) | (simp; done) | (simp; omega))))⟩
end Go.Proofs.Ytnobaocicdppoaa
