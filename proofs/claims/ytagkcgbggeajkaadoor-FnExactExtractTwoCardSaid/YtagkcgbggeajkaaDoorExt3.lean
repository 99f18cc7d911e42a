/- The law on ExtractTwo. -/
import Derived.Test.YtagkcgbggeajkaaDoorExt2
import Derived.Test.YtagkcgbggeajkaaDoorProof
namespace Go.Proofs.YtagkcgbggeajkaaDoor
open Go.RowKit

theorem exV_form (n : ByteArray) (xs ys : List Leaf) (ss ts : List ByteArray) (wd : Int) : ∃ P Q K, exV n xs ys ss ts wd = .tuple #[.string P, .string Q, .bool K] := by
  have hs : ∀ o, ∃ P Q K, scanV o = .tuple #[.string P, .string Q, .bool K] := fun o => by
    cases o with
    | none => exact ⟨_, _, _, rfl⟩
    | some p => exact ⟨p.1, p.2, true, rfl⟩
  unfold exV
  split
  · exact hs _
  · exact hs _
theorem szp_cases2 (left : Int) (hl : 0 ≤ left ∧ left ≤ 1048576) (n m : Nat) : (szp left n m = -1) ∨ ∃ z : Int, szp left n m = z ∧ 0 ≤ z ∧ z ≤ 1048576 ∧ n ≤ 1048576 ∧ m ≤ 1048576 := by
  have hc : szr left n = -1 ∨ ∃ z : Int, szr left n = z ∧ 0 ≤ z ∧ z ≤ 1048576 ∧ n ≤ 1048576 := by
    simp only [szr]; split
    · exact Or.inl rfl
    · exact Or.inr ⟨_, rfl, by omega, by omega, by omega⟩
  rcases hc with h | ⟨z, h, h0, h1, h2⟩
  · exact Or.inl (szp_neg h)
  · rw [szp_pos h h0]
    simp only [szr]; split
    · exact Or.inl rfl
    · exact Or.inr ⟨_, rfl, by omega, by omega, by omega, by omega⟩

set_option maxRecDepth 100000 in
set_option maxHeartbeats 3200000 in
theorem laws_FnExactExtractTwo (n : ByteArray) (v u : Value) (xs : List Leaf) (ss : List ByteArray) (v2 u2 : Value) (ys : List Leaf) (ts : List ByteArray) (wd : Int) (w : World) (hn : n.size ≤ maxLen) (h : Lvs w v xs) (hf : LeafFit xs) (hu : Strs w u ss) (hs : ∀ s ∈ ss, s.size ≤ maxLen) (h2 : Lvs w v2 ys) (hf2 : LeafFit ys) (hu2 : Strs w u2 ts) (hs2 : ∀ s ∈ ts, s.size ≤ maxLen) (hT : Tabs w) :
    Calls Tryd.prog 12 #[.string n, .agg #[v, u], .agg #[v2, u2], .int .i64 wd] w fun e w' => e = .returned (.bool true) ∧ Ext w w' := by
  have HT := Lib.hid hT
  clear hT
  obtain ⟨a, c, rfl⟩ := h.form
  obtain ⟨b, d, rfl⟩ := hu.form
  obtain ⟨a2, c2, rfl⟩ := h2.form
  obtain ⟨b2, d2, rfl⟩ := hu2.form
  have hn' := hn
  unfold maxLen at hn
  obtain ⟨P, Q, K0, hE⟩ := exV_form n xs ys ss ts wd
  have HE := Lib.hid hE
  clear hE
  by_cases hbig : 1048576 < n.size
  · go_enter Tryd.func12, Tryd.ntmps12
    go_wp2
    go_ret
    exact ⟨rfl, (by repeat (first | (with_reducible first | exact Ext.refl _ | assumption | apply Ext.alloc | apply Ext.drew | apply Ext.drewN | refine Ext.setCell ?_ ?_ _ | refine Ext.trans ?_ (by assumption)) | (show _ ≤ _; first | omega | (dsimp only; omega) | (simp; done) | (simp; omega))))⟩
  rcases szp_cases2 1048576 (by omega) (xs.length + leafBytes xs) (ss.length + sizes ss) with hz | ⟨z, hz, hz0, hzb, hz1, hz2⟩
  · have HZ := Lib.hid hz
    clear hz
    go_enter Tryd.func12, Tryd.ntmps12
    go_wp2_with fail
    obtain ⟨p0, p1, q0, q1, x0, lq⟩ := box2_at w (.slice a xs.length c) (.slice b ss.length d) (.slice a2 ys.length c2) (.slice b2 ts.length d2) 57
    generalize ((w.alloc (Obj.cells #[.slice a xs.length c, .slice b ss.length d] 57)).alloc (Obj.cells #[.slice a2 ys.length c2, .slice b2 ts.length d2] 57)) = W0 at *
    have lp : w.heap.size < W0.heap.size := by omega
    refine (laws_szProof _ _ xs ss _ _ (h.ext (by repeat (first | (with_reducible first | exact Ext.refl _ | assumption | apply Ext.alloc | apply Ext.drew | apply Ext.drewN | refine Ext.setCell ?_ ?_ _ | refine Ext.trans ?_ (by assumption)) | (show _ ≤ _; first | omega | (dsimp only; omega) | (simp; done) | (simp; omega))))) hf (hu.ext (by repeat (first | (with_reducible first | exact Ext.refl _ | assumption | apply Ext.alloc | apply Ext.drew | apply Ext.drewN | refine Ext.setCell ?_ ?_ _ | refine Ext.trans ?_ (by assumption)) | (show _ ≤ _; first | omega | (dsimp only; omega) | (simp; done) | (simp; omega))))) hs (by omega)).mono ?_
    rw [HZ.out]
    rintro e w1 ⟨rfl, x1⟩
    have y1 : Ext W0 w1 := (by repeat (first | (with_reducible first | exact Ext.refl _ | assumption | apply Ext.alloc | apply Ext.drew | apply Ext.drewN | refine Ext.setCell ?_ ?_ _ | refine Ext.trans ?_ (by assumption)) | (show _ ≤ _; first | omega | (dsimp only; omega) | (simp; done) | (simp; omega))))
    replace p0 := (y1.cell _ _ lp).trans p0
    replace p1 := (y1.cell _ _ lp).trans p1
    replace q0 := (y1.cell _ _ lq).trans q0
    replace q1 := (y1.cell _ _ lq).trans q1
    replace lp := Nat.lt_of_lt_of_le lp y1.size
    replace lq := Nat.lt_of_lt_of_le lq y1.size
    go_wp2
    go_ret
    exact ⟨rfl, (by repeat (first | (with_reducible first | exact Ext.refl _ | assumption | apply Ext.alloc | apply Ext.drew | apply Ext.drewN | refine Ext.setCell ?_ ?_ _ | refine Ext.trans ?_ (by assumption)) | (show _ ≤ _; first | omega | (dsimp only; omega) | (simp; done) | (simp; omega))))⟩
  have hle1 : xs.length ≤ 1099511627776 := by omega
  have hle2 : ss.length ≤ 1099511627776 := by omega
  have HZ := Lib.hid hz
  clear hz hz1 hz2
  rcases szp_cases2 z ⟨hz0, hzb⟩ (ys.length + leafBytes ys) (ts.length + sizes ts) with hy | ⟨z2, hy, hy0, -, hy1, hy2⟩
  · have HZ2 := Lib.hid hy
    clear hy
    go_enter Tryd.func12, Tryd.ntmps12
    go_wp2_with fail
    obtain ⟨p0, p1, q0, q1, x0, lq⟩ := box2_at w (.slice a xs.length c) (.slice b ss.length d) (.slice a2 ys.length c2) (.slice b2 ts.length d2) 57
    generalize ((w.alloc (Obj.cells #[.slice a xs.length c, .slice b ss.length d] 57)).alloc (Obj.cells #[.slice a2 ys.length c2, .slice b2 ts.length d2] 57)) = W0 at *
    have lp : w.heap.size < W0.heap.size := by omega
    refine (laws_szProof _ _ xs ss _ _ (h.ext (by repeat (first | (with_reducible first | exact Ext.refl _ | assumption | apply Ext.alloc | apply Ext.drew | apply Ext.drewN | refine Ext.setCell ?_ ?_ _ | refine Ext.trans ?_ (by assumption)) | (show _ ≤ _; first | omega | (dsimp only; omega) | (simp; done) | (simp; omega))))) hf (hu.ext (by repeat (first | (with_reducible first | exact Ext.refl _ | assumption | apply Ext.alloc | apply Ext.drew | apply Ext.drewN | refine Ext.setCell ?_ ?_ _ | refine Ext.trans ?_ (by assumption)) | (show _ ≤ _; first | omega | (dsimp only; omega) | (simp; done) | (simp; omega))))) hs (by omega)).mono ?_
    rw [HZ.out]
    rintro e w1 ⟨rfl, x1⟩
    have y1 : Ext W0 w1 := (by repeat (first | (with_reducible first | exact Ext.refl _ | assumption | apply Ext.alloc | apply Ext.drew | apply Ext.drewN | refine Ext.setCell ?_ ?_ _ | refine Ext.trans ?_ (by assumption)) | (show _ ≤ _; first | omega | (dsimp only; omega) | (simp; done) | (simp; omega))))
    replace p0 := (y1.cell _ _ lp).trans p0
    replace p1 := (y1.cell _ _ lp).trans p1
    replace q0 := (y1.cell _ _ lq).trans q0
    replace q1 := (y1.cell _ _ lq).trans q1
    replace lp := Nat.lt_of_lt_of_le lp y1.size
    replace lq := Nat.lt_of_lt_of_le lq y1.size
    go_wp2_with fail
    refine (laws_szProof _ _ ys ts _ _ (h2.ext (by repeat (first | (with_reducible first | exact Ext.refl _ | assumption | apply Ext.alloc | apply Ext.drew | apply Ext.drewN | refine Ext.setCell ?_ ?_ _ | refine Ext.trans ?_ (by assumption)) | (show _ ≤ _; first | omega | (dsimp only; omega) | (simp; done) | (simp; omega))))) hf2 (hu2.ext (by repeat (first | (with_reducible first | exact Ext.refl _ | assumption | apply Ext.alloc | apply Ext.drew | apply Ext.drewN | refine Ext.setCell ?_ ?_ _ | refine Ext.trans ?_ (by assumption)) | (show _ ≤ _; first | omega | (dsimp only; omega) | (simp; done) | (simp; omega))))) hs2 ⟨hz0, hzb⟩).mono ?_
    rw [HZ2.out]
    rintro e w2 ⟨rfl, x2⟩
    have y2 : Ext w1 w2 := (by repeat (first | (with_reducible first | exact Ext.refl _ | assumption | apply Ext.alloc | apply Ext.drew | apply Ext.drewN | refine Ext.setCell ?_ ?_ _ | refine Ext.trans ?_ (by assumption)) | (show _ ≤ _; first | omega | (dsimp only; omega) | (simp; done) | (simp; omega))))
    replace p0 := (y2.cell _ _ lp).trans p0
    replace p1 := (y2.cell _ _ lp).trans p1
    replace q0 := (y2.cell _ _ lq).trans q0
    replace q1 := (y2.cell _ _ lq).trans q1
    replace lp := Nat.lt_of_lt_of_le lp y2.size
    replace lq := Nat.lt_of_lt_of_le lq y2.size
    go_wp2
    go_ret
    exact ⟨rfl, (by repeat (first | (with_reducible first | exact Ext.refl _ | assumption | apply Ext.alloc | apply Ext.drew | apply Ext.drewN | refine Ext.setCell ?_ ?_ _ | refine Ext.trans ?_ (by assumption)) | (show _ ≤ _; first | omega | (dsimp only; omega) | (simp; done) | (simp; omega))))⟩
  have hle3 : ys.length ≤ 1099511627776 := by omega
  have hle4 : ts.length ≤ 1099511627776 := by omega
  have HZ2 := Lib.hid hy
  clear hy hy1 hy2
  go_enter Tryd.func12, Tryd.ntmps12
  go_wp2_with fail
  obtain ⟨p0, p1, q0, q1, x0, lq⟩ := box2_at w (.slice a xs.length c) (.slice b ss.length d) (.slice a2 ys.length c2) (.slice b2 ts.length d2) 57
  generalize ((w.alloc (Obj.cells #[.slice a xs.length c, .slice b ss.length d] 57)).alloc (Obj.cells #[.slice a2 ys.length c2, .slice b2 ts.length d2] 57)) = W0 at *
  have lp : w.heap.size < W0.heap.size := by omega
  refine (laws_szProof _ _ xs ss _ _ (h.ext (by repeat (first | (with_reducible first | exact Ext.refl _ | assumption | apply Ext.alloc | apply Ext.drew | apply Ext.drewN | refine Ext.setCell ?_ ?_ _ | refine Ext.trans ?_ (by assumption)) | (show _ ≤ _; first | omega | (dsimp only; omega) | (simp; done) | (simp; omega))))) hf (hu.ext (by repeat (first | (with_reducible first | exact Ext.refl _ | assumption | apply Ext.alloc | apply Ext.drew | apply Ext.drewN | refine Ext.setCell ?_ ?_ _ | refine Ext.trans ?_ (by assumption)) | (show _ ≤ _; first | omega | (dsimp only; omega) | (simp; done) | (simp; omega))))) hs (by omega)).mono ?_
  rw [HZ.out]
  rintro e w1 ⟨rfl, x1⟩
  have y1 : Ext W0 w1 := (by repeat (first | (with_reducible first | exact Ext.refl _ | assumption | apply Ext.alloc | apply Ext.drew | apply Ext.drewN | refine Ext.setCell ?_ ?_ _ | refine Ext.trans ?_ (by assumption)) | (show _ ≤ _; first | omega | (dsimp only; omega) | (simp; done) | (simp; omega))))
  replace p0 := (y1.cell _ _ lp).trans p0
  replace p1 := (y1.cell _ _ lp).trans p1
  replace q0 := (y1.cell _ _ lq).trans q0
  replace q1 := (y1.cell _ _ lq).trans q1
  replace lp := Nat.lt_of_lt_of_le lp y1.size
  replace lq := Nat.lt_of_lt_of_le lq y1.size
  go_wp2_with fail
  refine (laws_szProof _ _ ys ts _ _ (h2.ext (by repeat (first | (with_reducible first | exact Ext.refl _ | assumption | apply Ext.alloc | apply Ext.drew | apply Ext.drewN | refine Ext.setCell ?_ ?_ _ | refine Ext.trans ?_ (by assumption)) | (show _ ≤ _; first | omega | (dsimp only; omega) | (simp; done) | (simp; omega))))) hf2 (hu2.ext (by repeat (first | (with_reducible first | exact Ext.refl _ | assumption | apply Ext.alloc | apply Ext.drew | apply Ext.drewN | refine Ext.setCell ?_ ?_ _ | refine Ext.trans ?_ (by assumption)) | (show _ ≤ _; first | omega | (dsimp only; omega) | (simp; done) | (simp; omega))))) hs2 ⟨hz0, hzb⟩).mono ?_
  rw [HZ2.out]
  rintro e w2 ⟨rfl, x2⟩
  have y2 : Ext w1 w2 := (by repeat (first | (with_reducible first | exact Ext.refl _ | assumption | apply Ext.alloc | apply Ext.drew | apply Ext.drewN | refine Ext.setCell ?_ ?_ _ | refine Ext.trans ?_ (by assumption)) | (show _ ≤ _; first | omega | (dsimp only; omega) | (simp; done) | (simp; omega))))
  replace p0 := (y2.cell _ _ lp).trans p0
  replace p1 := (y2.cell _ _ lp).trans p1
  replace q0 := (y2.cell _ _ lq).trans q0
  replace q1 := (y2.cell _ _ lq).trans q1
  replace lp := Nat.lt_of_lt_of_le lp y2.size
  replace lq := Nat.lt_of_lt_of_le lq y2.size
  go_wp2_with fail
  refine wp_region_held_drew (S := (fun W => W.cell? ⟨w.heap.size, 0, none⟩ = some (.slice a xs.length c) ∧ W.cell? ⟨w.heap.size, 1, none⟩ = some (.slice b ss.length d) ∧ W.cell? ⟨w.heap.size + 1, 0, none⟩ = some (.slice a2 ys.length c2) ∧ W.cell? ⟨w.heap.size + 1, 1, none⟩ = some (.slice b2 ts.length d2))) (by kernel_rfl) (by exact ⟨p0, p1, q0, q1⟩) (fun hHeld => ?_)
  (refine wpAnyH_take (i := 0) (v := ?_) rfl (by kernel_rfl) (by kernel_rfl) (by kernel_rfl) (fun _ _ _ h => h) (Or.inl ⟨by rfl, ?_⟩) (by assumption) ?_; rotate_left; focus (intro w hSw; (try dsimp only at hSw); (try simp only [List.getElem_toArray, List.getElem_cons_zero]); go_simp; try with_reducible rfl)); (try simp only [List.getElem_toArray, List.getElem_cons_zero]); (try simp only [Act.put, List.setIfInBounds_toArray, List.set_cons_zero, List.set_cons_succ])
  (refine wpAnyH_take (i := 1) (v := ?_) rfl (by kernel_rfl) (by kernel_rfl) (by kernel_rfl) (fun _ _ _ h => h) (Or.inl ⟨by rfl, ?_⟩) (by assumption) ?_; rotate_left; focus (intro w hSw; (try dsimp only at hSw); (try simp only [List.getElem_toArray, List.getElem_cons_zero, List.getElem_cons_succ]); go_simp; try with_reducible rfl)); (try simp only [List.getElem_toArray, List.getElem_cons_zero, List.getElem_cons_succ]); (try simp only [Act.put, List.setIfInBounds_toArray, List.set_cons_zero, List.set_cons_succ])
  (refine wpAnyH_take (i := 3) (v := ?_) rfl (by kernel_rfl) (by kernel_rfl) (by kernel_rfl) (fun _ _ _ h => h) (Or.inl ⟨by rfl, ?_⟩) (by assumption) ?_; rotate_left; focus (intro w hSw; (try dsimp only at hSw); (try simp only [List.getElem_toArray, List.getElem_cons_zero, List.getElem_cons_succ]); go_simp; try with_reducible rfl)); (try simp only [List.getElem_toArray, List.getElem_cons_zero, List.getElem_cons_succ]); (try simp only [Act.put, List.setIfInBounds_toArray, List.set_cons_zero, List.set_cons_succ])
  (refine wpAnyH_take (i := 5) (v := ?_) rfl (by kernel_rfl) (by kernel_rfl) (by kernel_rfl) (fun _ _ _ h => h) (Or.inl ⟨by rfl, ?_⟩) (by assumption) ?_; rotate_left; focus (intro w hSw; (try dsimp only at hSw); (try simp only [List.getElem_toArray, List.getElem_cons_zero, List.getElem_cons_succ]); go_simp; try with_reducible rfl)); (try simp only [List.getElem_toArray, List.getElem_cons_zero, List.getElem_cons_succ]); (try simp only [Act.put, List.setIfInBounds_toArray, List.set_cons_zero, List.set_cons_succ])
  (refine wpAnyH_ready (rs := [2]) (by kernel_rfl) (by simp) ?_; refine AllReadyH.cons rfl (fun K hK => ?_) AllReadyH.nil; (try simp only [List.getElem_toArray, List.getElem_cons_zero, List.getElem_cons_succ]))
  go_simp
  go_at_call 43
  refine (laws_toProof _ _ xs ss _ (h.ext (by repeat (first | (with_reducible first | exact Ext.refl _ | assumption | apply Ext.alloc | apply Ext.drew | apply Ext.drewN | refine Ext.setCell ?_ ?_ _ | refine Ext.trans ?_ (by assumption)) | (show _ ≤ _; first | omega | (dsimp only; omega) | (simp; done) | (simp; omega))))) (hu.ext (by repeat (first | (with_reducible first | exact Ext.refl _ | assumption | apply Ext.alloc | apply Ext.drew | apply Ext.drewN | refine Ext.setCell ?_ ?_ _ | refine Ext.trans ?_ (by assumption)) | (show _ ≤ _; first | omega | (dsimp only; omega) | (simp; done) | (simp; omega))))) hle1 hle2).mono ?_
  rintro e w3 ⟨a3, c3, b3, d3, rfl, o3, p3x, x3⟩
  have s3 := o3.lvs
  have t3 := p3x.strs
  clear o3 p3x
  have y3 : Ext w2 w3 := (by repeat (first | (with_reducible first | exact Ext.refl _ | assumption | apply Ext.alloc | apply Ext.drew | apply Ext.drewN | refine Ext.setCell ?_ ?_ _ | refine Ext.trans ?_ (by assumption)) | (show _ ≤ _; first | omega | (dsimp only; omega) | (simp; done) | (simp; omega))))
  replace p0 := (y3.cell _ _ lp).trans p0
  replace p1 := (y3.cell _ _ lp).trans p1
  replace q0 := (y3.cell _ _ lq).trans q0
  replace q1 := (y3.cell _ _ lq).trans q1
  replace lp := Nat.lt_of_lt_of_le lp y3.size
  replace lq := Nat.lt_of_lt_of_le lq y3.size
  (try dsimp only)
  refine hK.out _ _ (by exact ⟨p0, p1, q0, q1⟩) (fun hHeld => ?_)
  clear hK K
  (refine wpAnyH_ready (rs := [4]) (by kernel_rfl) (by simp) ?_; refine AllReadyH.cons rfl (fun K hK => ?_) AllReadyH.nil; (try simp only [List.getElem_toArray, List.getElem_cons_zero, List.getElem_cons_succ]))
  go_simp
  go_at_call 43
  refine (laws_toProof _ _ ys ts _ (h2.ext (by repeat (first | (with_reducible first | exact Ext.refl _ | assumption | apply Ext.alloc | apply Ext.drew | apply Ext.drewN | refine Ext.setCell ?_ ?_ _ | refine Ext.trans ?_ (by assumption)) | (show _ ≤ _; first | omega | (dsimp only; omega) | (simp; done) | (simp; omega))))) (hu2.ext (by repeat (first | (with_reducible first | exact Ext.refl _ | assumption | apply Ext.alloc | apply Ext.drew | apply Ext.drewN | refine Ext.setCell ?_ ?_ _ | refine Ext.trans ?_ (by assumption)) | (show _ ≤ _; first | omega | (dsimp only; omega) | (simp; done) | (simp; omega))))) hle3 hle4).mono ?_
  rintro e w4 ⟨a4, c4, b4, d4, rfl, o4, p4x, x4⟩
  have s4 := o4.lvs
  have t4 := p4x.strs
  clear o4 p4x
  have y4 : Ext w3 w4 := (by repeat (first | (with_reducible first | exact Ext.refl _ | assumption | apply Ext.alloc | apply Ext.drew | apply Ext.drewN | refine Ext.setCell ?_ ?_ _ | refine Ext.trans ?_ (by assumption)) | (show _ ≤ _; first | omega | (dsimp only; omega) | (simp; done) | (simp; omega))))
  replace p0 := (y4.cell _ _ lp).trans p0
  replace p1 := (y4.cell _ _ lp).trans p1
  replace q0 := (y4.cell _ _ lq).trans q0
  replace q1 := (y4.cell _ _ lq).trans q1
  replace lp := Nat.lt_of_lt_of_le lp y4.size
  replace lq := Nat.lt_of_lt_of_le lq y4.size
  (try dsimp only)
  refine hK.out _ _ (by exact ⟨p0, p1, q0, q1⟩) (fun hHeld => ?_)
  clear hK K
  (refine wpAnyH_ready (rs := [6]) (by kernel_rfl) (by simp) ?_; refine AllReadyH.cons rfl (fun K hK => ?_) AllReadyH.nil; (try simp only [List.getElem_toArray, List.getElem_cons_zero, List.getElem_cons_succ]))
  go_simp
  go_at_call 47
  refine (spec_ExtractTwo n _ _ _ _ xs ys ss ts wd _ hn' (s3.ext (by repeat (first | (with_reducible first | exact Ext.refl _ | assumption | apply Ext.alloc | apply Ext.drew | apply Ext.drewN | refine Ext.setCell ?_ ?_ _ | refine Ext.trans ?_ (by assumption)) | (show _ ≤ _; first | omega | (dsimp only; omega) | (simp; done) | (simp; omega))))) hf (t3.ext (by repeat (first | (with_reducible first | exact Ext.refl _ | assumption | apply Ext.alloc | apply Ext.drew | apply Ext.drewN | refine Ext.setCell ?_ ?_ _ | refine Ext.trans ?_ (by assumption)) | (show _ ≤ _; first | omega | (dsimp only; omega) | (simp; done) | (simp; omega))))) hs (s4.ext (by repeat (first | (with_reducible first | exact Ext.refl _ | assumption | apply Ext.alloc | apply Ext.drew | apply Ext.drewN | refine Ext.setCell ?_ ?_ _ | refine Ext.trans ?_ (by assumption)) | (show _ ≤ _; first | omega | (dsimp only; omega) | (simp; done) | (simp; omega))))) hf2 (t4.ext (by repeat (first | (with_reducible first | exact Ext.refl _ | assumption | apply Ext.alloc | apply Ext.drew | apply Ext.drewN | refine Ext.setCell ?_ ?_ _ | refine Ext.trans ?_ (by assumption)) | (show _ ≤ _; first | omega | (dsimp only; omega) | (simp; done) | (simp; omega))))) hs2).mono ?_
  rw [HE.out]
  rintro e w5 ⟨rfl, x5⟩
  have y5 : Ext w4 w5 := (by repeat (first | (with_reducible first | exact Ext.refl _ | assumption | apply Ext.alloc | apply Ext.drew | apply Ext.drewN | refine Ext.setCell ?_ ?_ _ | refine Ext.trans ?_ (by assumption)) | (show _ ≤ _; first | omega | (dsimp only; omega) | (simp; done) | (simp; omega))))
  clear s3 t3 s4 t4
  replace p0 := (y5.cell _ _ lp).trans p0
  replace p1 := (y5.cell _ _ lp).trans p1
  replace q0 := (y5.cell _ _ lq).trans q0
  replace q1 := (y5.cell _ _ lq).trans q1
  replace lp := Nat.lt_of_lt_of_le lp y5.size
  replace lq := Nat.lt_of_lt_of_le lq y5.size
  (try dsimp only)
  refine hK.out _ _ (by exact ⟨p0, p1, q0, q1⟩) (fun hHeld => ?_)
  clear hK K
  (refine wpAnyH_take (i := 7) (v := ?_) rfl (by kernel_rfl) (by kernel_rfl) (by kernel_rfl) (fun _ _ _ h => h) (Or.inl ⟨by rfl, ?_⟩) (by assumption) ?_; rotate_left; focus (intro w hSw; (try dsimp only at hSw); (try simp only [List.getElem_toArray, List.getElem_cons_zero, List.getElem_cons_succ]); go_simp; try with_reducible rfl)); (try simp only [List.getElem_toArray, List.getElem_cons_zero, List.getElem_cons_succ]); (try simp only [Act.put, List.setIfInBounds_toArray, List.set_cons_zero, List.set_cons_succ])
  (refine wpAnyH_take (i := 8) (v := ?_) rfl (by kernel_rfl) (by kernel_rfl) (by kernel_rfl) (fun _ _ _ h => h) (Or.inl ⟨by rfl, ?_⟩) (by assumption) ?_; rotate_left; focus (intro w hSw; (try dsimp only at hSw); (try simp only [List.getElem_toArray, List.getElem_cons_zero, List.getElem_cons_succ]); go_simp; try with_reducible rfl)); (try simp only [List.getElem_toArray, List.getElem_cons_zero, List.getElem_cons_succ]); (try simp only [Act.put, List.setIfInBounds_toArray, List.set_cons_zero, List.set_cons_succ])
  (refine wpAnyH_take (i := 9) (v := ?_) rfl (by kernel_rfl) (by kernel_rfl) (by kernel_rfl) (fun _ _ _ h => h) (Or.inl ⟨by rfl, ?_⟩) (by assumption) ?_; rotate_left; focus (intro w hSw; (try dsimp only at hSw); (try simp only [List.getElem_toArray, List.getElem_cons_zero, List.getElem_cons_succ]); go_simp; try with_reducible rfl)); (try simp only [List.getElem_toArray, List.getElem_cons_zero, List.getElem_cons_succ]); (try simp only [Act.put, List.setIfInBounds_toArray, List.set_cons_zero, List.set_cons_succ])
  (refine wpAnyH_take (i := 10) (v := ?_) rfl (by kernel_rfl) (by kernel_rfl) (by kernel_rfl) (fun _ _ _ h => h) (Or.inl ⟨by rfl, ?_⟩) (by assumption) ?_; rotate_left; focus (intro w hSw; (try dsimp only at hSw); (try simp only [List.getElem_toArray, List.getElem_cons_zero, List.getElem_cons_succ]); go_simp; try with_reducible rfl)); (try simp only [List.getElem_toArray, List.getElem_cons_zero, List.getElem_cons_succ]); (try simp only [Act.put, List.setIfInBounds_toArray, List.set_cons_zero, List.set_cons_succ])
  (refine wpAnyH_take (i := 11) (v := ?_) rfl (by kernel_rfl) (by kernel_rfl) (by kernel_rfl) (fun _ _ _ h => h) (Or.inl ⟨by rfl, ?_⟩) (by assumption) ?_; rotate_left; focus (intro w hSw; (try dsimp only at hSw); (try simp only [List.getElem_toArray, List.getElem_cons_zero, List.getElem_cons_succ]); go_simp; try with_reducible rfl)); (try simp only [List.getElem_toArray, List.getElem_cons_zero, List.getElem_cons_succ]); (try simp only [Act.put, List.setIfInBounds_toArray, List.set_cons_zero, List.set_cons_succ])
  (refine wpAnyH_take (i := 12) (v := ?_) rfl (by kernel_rfl) (by kernel_rfl) (by kernel_rfl) (fun _ _ _ h => h) (Or.inl ⟨by rfl, ?_⟩) (by assumption) ?_; rotate_left; focus (intro w hSw; (try dsimp only at hSw); (try simp only [List.getElem_toArray, List.getElem_cons_zero, List.getElem_cons_succ]); go_simp; try with_reducible rfl)); (try simp only [List.getElem_toArray, List.getElem_cons_zero, List.getElem_cons_succ]); (try simp only [Act.put, List.setIfInBounds_toArray, List.set_cons_zero, List.set_cons_succ])
  (refine wpAnyH_take (i := 13) (v := ?_) rfl (by kernel_rfl) (by kernel_rfl) (by kernel_rfl) (fun _ _ _ h => h) (Or.inl ⟨by rfl, ?_⟩) (by assumption) ?_; rotate_left; focus (intro w hSw; (try dsimp only at hSw); (try simp only [List.getElem_toArray, List.getElem_cons_zero, List.getElem_cons_succ]); go_simp; try with_reducible rfl)); (try simp only [List.getElem_toArray, List.getElem_cons_zero, List.getElem_cons_succ]); (try simp only [Act.put, List.setIfInBounds_toArray, List.set_cons_zero, List.set_cons_succ])
  refine wpAnyH_done (by kernel_rfl) ?_ _
  go_wp2_with fail
  refine (laws_toProof _ _ xs ss _ (h.ext (by repeat (first | (with_reducible first | exact Ext.refl _ | assumption | apply Ext.alloc | apply Ext.drew | apply Ext.drewN | refine Ext.setCell ?_ ?_ _ | refine Ext.trans ?_ (by assumption)) | (show _ ≤ _; first | omega | (dsimp only; omega) | (simp; done) | (simp; omega))))) (hu.ext (by repeat (first | (with_reducible first | exact Ext.refl _ | assumption | apply Ext.alloc | apply Ext.drew | apply Ext.drewN | refine Ext.setCell ?_ ?_ _ | refine Ext.trans ?_ (by assumption)) | (show _ ≤ _; first | omega | (dsimp only; omega) | (simp; done) | (simp; omega))))) hle1 hle2).mono ?_
  rintro e w6 ⟨a6, c6, b6, d6, rfl, o6, p6x, x6⟩
  have s6 := o6.lvs
  have t6 := p6x.strs
  clear o6 p6x
  have y6 : Ext w5 w6 := (by repeat (first | (with_reducible first | exact Ext.refl _ | assumption | apply Ext.alloc | apply Ext.drew | apply Ext.drewN | refine Ext.setCell ?_ ?_ _ | refine Ext.trans ?_ (by assumption)) | (show _ ≤ _; first | omega | (dsimp only; omega) | (simp; done) | (simp; omega))))
  replace p0 := (y6.cell _ _ lp).trans p0
  replace p1 := (y6.cell _ _ lp).trans p1
  replace q0 := (y6.cell _ _ lq).trans q0
  replace q1 := (y6.cell _ _ lq).trans q1
  replace lp := Nat.lt_of_lt_of_le lp y6.size
  replace lq := Nat.lt_of_lt_of_le lq y6.size
  go_wp2_with fail
  have r0 : (w6.alloc (Obj.cells #[.slice a6 xs.length c6, .slice b6 ss.length d6] 50)).cell? ⟨w6.heap.size, 0, none⟩ = some (.slice a6 xs.length c6) := by simp [go_sem]
  have r1 : (w6.alloc (Obj.cells #[.slice a6 xs.length c6, .slice b6 ss.length d6] 50)).cell? ⟨w6.heap.size, 1, none⟩ = some (.slice b6 ss.length d6) := by simp [go_sem]
  have y7 : Ext w6 (w6.alloc (Obj.cells #[.slice a6 xs.length c6, .slice b6 ss.length d6] 50)) := (Ext.refl w6).alloc _
  have lr : w6.heap.size < (w6.alloc (Obj.cells #[.slice a6 xs.length c6, .slice b6 ss.length d6] 50)).heap.size := by rw [World.size_alloc]; omega
  generalize (w6.alloc (Obj.cells #[.slice a6 xs.length c6, .slice b6 ss.length d6] 50)) = w7 at *
  replace p0 := (y7.cell _ _ lp).trans p0
  replace p1 := (y7.cell _ _ lp).trans p1
  replace q0 := (y7.cell _ _ lq).trans q0
  replace q1 := (y7.cell _ _ lq).trans q1
  replace lp := Nat.lt_of_lt_of_le lp y7.size
  replace lq := Nat.lt_of_lt_of_le lq y7.size
  refine (laws_toProof _ _ ys ts _ (h2.ext (by repeat (first | (with_reducible first | exact Ext.refl _ | assumption | apply Ext.alloc | apply Ext.drew | apply Ext.drewN | refine Ext.setCell ?_ ?_ _ | refine Ext.trans ?_ (by assumption)) | (show _ ≤ _; first | omega | (dsimp only; omega) | (simp; done) | (simp; omega))))) (hu2.ext (by repeat (first | (with_reducible first | exact Ext.refl _ | assumption | apply Ext.alloc | apply Ext.drew | apply Ext.drewN | refine Ext.setCell ?_ ?_ _ | refine Ext.trans ?_ (by assumption)) | (show _ ≤ _; first | omega | (dsimp only; omega) | (simp; done) | (simp; omega))))) hle3 hle4).mono ?_
  rintro e w8 ⟨a8, c8, b8, d8, rfl, o8, p8x, x8⟩
  have s8 := o8.lvs
  have t8 := p8x.strs
  clear o8 p8x
  have y8 : Ext w7 w8 := (by repeat (first | (with_reducible first | exact Ext.refl _ | assumption | apply Ext.alloc | apply Ext.drew | apply Ext.drewN | refine Ext.setCell ?_ ?_ _ | refine Ext.trans ?_ (by assumption)) | (show _ ≤ _; first | omega | (dsimp only; omega) | (simp; done) | (simp; omega))))
  replace p0 := (y8.cell _ _ lp).trans p0
  replace p1 := (y8.cell _ _ lp).trans p1
  replace q0 := (y8.cell _ _ lq).trans q0
  replace q1 := (y8.cell _ _ lq).trans q1
  replace r0 := (y8.cell _ _ lr).trans r0
  replace r1 := (y8.cell _ _ lr).trans r1
  replace lp := Nat.lt_of_lt_of_le lp y8.size
  replace lq := Nat.lt_of_lt_of_le lq y8.size
  replace lr := Nat.lt_of_lt_of_le lr y8.size
  go_wp2_with fail
  have u0 : (w8.alloc (Obj.cells #[.slice a8 ys.length c8, .slice b8 ts.length d8] 50)).cell? ⟨w8.heap.size, 0, none⟩ = some (.slice a8 ys.length c8) := by simp [go_sem]
  have u1 : (w8.alloc (Obj.cells #[.slice a8 ys.length c8, .slice b8 ts.length d8] 50)).cell? ⟨w8.heap.size, 1, none⟩ = some (.slice b8 ts.length d8) := by simp [go_sem]
  have y9 : Ext w8 (w8.alloc (Obj.cells #[.slice a8 ys.length c8, .slice b8 ts.length d8] 50)) := (Ext.refl w8).alloc _
  have lu : w8.heap.size < (w8.alloc (Obj.cells #[.slice a8 ys.length c8, .slice b8 ts.length d8] 50)).heap.size := by rw [World.size_alloc]; omega
  generalize (w8.alloc (Obj.cells #[.slice a8 ys.length c8, .slice b8 ts.length d8] 50)) = w9 at *
  replace p0 := (y9.cell _ _ lp).trans p0
  replace p1 := (y9.cell _ _ lp).trans p1
  replace q0 := (y9.cell _ _ lq).trans q0
  replace q1 := (y9.cell _ _ lq).trans q1
  replace r0 := (y9.cell _ _ lr).trans r0
  replace r1 := (y9.cell _ _ lr).trans r1
  replace lp := Nat.lt_of_lt_of_le lp y9.size
  replace lq := Nat.lt_of_lt_of_le lq y9.size
  replace lr := Nat.lt_of_lt_of_le lr y9.size
  refine (impl_ExtractTwo n _ _ _ _ xs ys ss ts wd _ hn' (s6.ext (by repeat (first | (with_reducible first | exact Ext.refl _ | assumption | apply Ext.alloc | apply Ext.drew | apply Ext.drewN | refine Ext.setCell ?_ ?_ _ | refine Ext.trans ?_ (by assumption)) | (show _ ≤ _; first | omega | (dsimp only; omega) | (simp; done) | (simp; omega))))) hf (t6.ext (by repeat (first | (with_reducible first | exact Ext.refl _ | assumption | apply Ext.alloc | apply Ext.drew | apply Ext.drewN | refine Ext.setCell ?_ ?_ _ | refine Ext.trans ?_ (by assumption)) | (show _ ≤ _; first | omega | (dsimp only; omega) | (simp; done) | (simp; omega))))) hs (s8.ext (by repeat (first | (with_reducible first | exact Ext.refl _ | assumption | apply Ext.alloc | apply Ext.drew | apply Ext.drewN | refine Ext.setCell ?_ ?_ _ | refine Ext.trans ?_ (by assumption)) | (show _ ≤ _; first | omega | (dsimp only; omega) | (simp; done) | (simp; omega))))) hf2 (t8.ext (by repeat (first | (with_reducible first | exact Ext.refl _ | assumption | apply Ext.alloc | apply Ext.drew | apply Ext.drewN | refine Ext.setCell ?_ ?_ _ | refine Ext.trans ?_ (by assumption)) | (show _ ≤ _; first | omega | (dsimp only; omega) | (simp; done) | (simp; omega))))) hs2 (by exact HT.out.ext (by repeat (first | (with_reducible first | exact Ext.refl _ | assumption | apply Ext.alloc | apply Ext.drew | apply Ext.drewN | refine Ext.setCell ?_ ?_ _ | refine Ext.trans ?_ (by assumption)) | (show _ ≤ _; first | omega | (dsimp only; omega) | (simp; done) | (simp; omega)))))).mono ?_
  rw [HE.out]
  rintro e w10 ⟨rfl, x10⟩
  have y10 : Ext w9 w10 := (by repeat (first | (with_reducible first | exact Ext.refl _ | assumption | apply Ext.alloc | apply Ext.drew | apply Ext.drewN | refine Ext.setCell ?_ ?_ _ | refine Ext.trans ?_ (by assumption)) | (show _ ≤ _; first | omega | (dsimp only; omega) | (simp; done) | (simp; omega))))
  replace p0 := (y10.cell _ _ lp).trans p0
  replace p1 := (y10.cell _ _ lp).trans p1
  replace q0 := (y10.cell _ _ lq).trans q0
  replace q1 := (y10.cell _ _ lq).trans q1
  replace r0 := (y10.cell _ _ lr).trans r0
  replace r1 := (y10.cell _ _ lr).trans r1
  replace u0 := (y10.cell _ _ lu).trans u0
  replace u1 := (y10.cell _ _ lu).trans u1
  replace lp := Nat.lt_of_lt_of_le lp y10.size
  replace lq := Nat.lt_of_lt_of_le lq y10.size
  replace lr := Nat.lt_of_lt_of_le lr y10.size
  replace lu := Nat.lt_of_lt_of_le lu y10.size
  go_wp2_with fail
  refine wp_region_held_drew (S := (fun W => W.cell? ⟨w.heap.size, 0, none⟩ = some (.slice a xs.length c) ∧ W.cell? ⟨w.heap.size, 1, none⟩ = some (.slice b ss.length d) ∧ W.cell? ⟨w.heap.size + 1, 0, none⟩ = some (.slice a2 ys.length c2) ∧ W.cell? ⟨w.heap.size + 1, 1, none⟩ = some (.slice b2 ts.length d2) ∧ W.cell? ⟨w6.heap.size, 0, none⟩ = some (.slice a6 xs.length c6) ∧ W.cell? ⟨w6.heap.size, 1, none⟩ = some (.slice b6 ss.length d6) ∧ W.cell? ⟨w8.heap.size, 0, none⟩ = some (.slice a8 ys.length c8) ∧ W.cell? ⟨w8.heap.size, 1, none⟩ = some (.slice b8 ts.length d8))) (by kernel_rfl) (by exact ⟨p0, p1, q0, q1, r0, r1, u0, u1⟩) (fun hHeld => ?_)
  (refine wpAnyH_take (i := 0) (v := ?_) rfl (by kernel_rfl) (by kernel_rfl) (by kernel_rfl) (fun _ _ _ h => h) (Or.inl ⟨by rfl, ?_⟩) (by assumption) ?_; rotate_left; focus (intro w hSw; (try dsimp only at hSw); (try simp only [List.getElem_toArray, List.getElem_cons_zero]); go_simp; try with_reducible rfl)); (try simp only [List.getElem_toArray, List.getElem_cons_zero]); (try simp only [Act.put, List.setIfInBounds_toArray, List.set_cons_zero, List.set_cons_succ])
  (refine wpAnyH_take (i := 1) (v := ?_) rfl (by kernel_rfl) (by kernel_rfl) (by kernel_rfl) (fun _ _ _ h => h) (Or.inl ⟨by rfl, ?_⟩) (by assumption) ?_; rotate_left; focus (intro w hSw; (try dsimp only at hSw); (try simp only [List.getElem_toArray, List.getElem_cons_zero, List.getElem_cons_succ]); go_simp; try with_reducible rfl)); (try simp only [List.getElem_toArray, List.getElem_cons_zero, List.getElem_cons_succ]); (try simp only [Act.put, List.setIfInBounds_toArray, List.set_cons_zero, List.set_cons_succ])
  (refine wpAnyH_ready (rs := [2]) (by kernel_rfl) (by simp) ?_; refine AllReadyH.cons rfl (fun K hK => ?_) AllReadyH.nil; (try simp only [List.getElem_toArray, List.getElem_cons_zero, List.getElem_cons_succ]))
  go_simp
  go_at_call 43
  refine (laws_toProof _ _ xs ss _ (h.ext (by repeat (first | (with_reducible first | exact Ext.refl _ | assumption | apply Ext.alloc | apply Ext.drew | apply Ext.drewN | refine Ext.setCell ?_ ?_ _ | refine Ext.trans ?_ (by assumption)) | (show _ ≤ _; first | omega | (dsimp only; omega) | (simp; done) | (simp; omega))))) (hu.ext (by repeat (first | (with_reducible first | exact Ext.refl _ | assumption | apply Ext.alloc | apply Ext.drew | apply Ext.drewN | refine Ext.setCell ?_ ?_ _ | refine Ext.trans ?_ (by assumption)) | (show _ ≤ _; first | omega | (dsimp only; omega) | (simp; done) | (simp; omega))))) hle1 hle2).mono ?_
  rintro e w11 ⟨a11, c11, b11, d11, rfl, o11, p11x, x11⟩
  have s11 := o11.lvs
  have t11 := p11x.strs
  clear o11 p11x
  have y11 : Ext w10 w11 := (by repeat (first | (with_reducible first | exact Ext.refl _ | assumption | apply Ext.alloc | apply Ext.drew | apply Ext.drewN | refine Ext.setCell ?_ ?_ _ | refine Ext.trans ?_ (by assumption)) | (show _ ≤ _; first | omega | (dsimp only; omega) | (simp; done) | (simp; omega))))
  replace p0 := (y11.cell _ _ lp).trans p0
  replace p1 := (y11.cell _ _ lp).trans p1
  replace q0 := (y11.cell _ _ lq).trans q0
  replace q1 := (y11.cell _ _ lq).trans q1
  replace r0 := (y11.cell _ _ lr).trans r0
  replace r1 := (y11.cell _ _ lr).trans r1
  replace u0 := (y11.cell _ _ lu).trans u0
  replace u1 := (y11.cell _ _ lu).trans u1
  replace lp := Nat.lt_of_lt_of_le lp y11.size
  replace lq := Nat.lt_of_lt_of_le lq y11.size
  replace lr := Nat.lt_of_lt_of_le lr y11.size
  replace lu := Nat.lt_of_lt_of_le lu y11.size
  (try dsimp only)
  refine hK.out _ _ (by exact ⟨p0, p1, q0, q1, r0, r1, u0, u1⟩) (fun hHeld => ?_)
  clear hK K
  (refine wpAnyH_ready (rs := [3]) (by kernel_rfl) (by simp) ?_; refine AllReadyH.cons rfl (fun K hK => ?_) AllReadyH.nil; (try simp only [List.getElem_toArray, List.getElem_cons_zero, List.getElem_cons_succ]))
  go_simp
  go_at_call 38
  refine (laws_eqProof _ _ _ _ xs xs ss ss _ (s6.ext (by repeat (first | (with_reducible first | exact Ext.refl _ | assumption | apply Ext.alloc | apply Ext.drew | apply Ext.drewN | refine Ext.setCell ?_ ?_ _ | refine Ext.trans ?_ (by assumption)) | (show _ ≤ _; first | omega | (dsimp only; omega) | (simp; done) | (simp; omega))))) (t6.ext (by repeat (first | (with_reducible first | exact Ext.refl _ | assumption | apply Ext.alloc | apply Ext.drew | apply Ext.drewN | refine Ext.setCell ?_ ?_ _ | refine Ext.trans ?_ (by assumption)) | (show _ ≤ _; first | omega | (dsimp only; omega) | (simp; done) | (simp; omega))))) (s11.ext (by repeat (first | (with_reducible first | exact Ext.refl _ | assumption | apply Ext.alloc | apply Ext.drew | apply Ext.drewN | refine Ext.setCell ?_ ?_ _ | refine Ext.trans ?_ (by assumption)) | (show _ ≤ _; first | omega | (dsimp only; omega) | (simp; done) | (simp; omega))))) (t11.ext (by repeat (first | (with_reducible first | exact Ext.refl _ | assumption | apply Ext.alloc | apply Ext.drew | apply Ext.drewN | refine Ext.setCell ?_ ?_ _ | refine Ext.trans ?_ (by assumption)) | (show _ ≤ _; first | omega | (dsimp only; omega) | (simp; done) | (simp; omega)))))).mono ?_
  rw [show (decide (xs = xs) && decide (ss = ss)) = true by simp]
  rintro e w12 ⟨rfl, x12⟩
  have y12 : Ext w11 w12 := (by repeat (first | (with_reducible first | exact Ext.refl _ | assumption | apply Ext.alloc | apply Ext.drew | apply Ext.drewN | refine Ext.setCell ?_ ?_ _ | refine Ext.trans ?_ (by assumption)) | (show _ ≤ _; first | omega | (dsimp only; omega) | (simp; done) | (simp; omega))))
  replace p0 := (y12.cell _ _ lp).trans p0
  replace p1 := (y12.cell _ _ lp).trans p1
  replace q0 := (y12.cell _ _ lq).trans q0
  replace q1 := (y12.cell _ _ lq).trans q1
  replace r0 := (y12.cell _ _ lr).trans r0
  replace r1 := (y12.cell _ _ lr).trans r1
  replace u0 := (y12.cell _ _ lu).trans u0
  replace u1 := (y12.cell _ _ lu).trans u1
  replace lp := Nat.lt_of_lt_of_le lp y12.size
  replace lq := Nat.lt_of_lt_of_le lq y12.size
  replace lr := Nat.lt_of_lt_of_le lr y12.size
  replace lu := Nat.lt_of_lt_of_le lu y12.size
  (try dsimp only)
  refine hK.out _ _ (by exact ⟨p0, p1, q0, q1, r0, r1, u0, u1⟩) (fun hHeld => ?_)
  clear hK K
  (refine wpAnyH_take (i := 4) (v := ?_) rfl (by kernel_rfl) (by kernel_rfl) (by kernel_rfl) (fun _ _ _ h => h) (Or.inl ⟨by rfl, ?_⟩) (by assumption) ?_; rotate_left; focus (intro w hSw; (try dsimp only at hSw); (try simp only [List.getElem_toArray, List.getElem_cons_zero, List.getElem_cons_succ]); go_simp; try with_reducible rfl)); (try simp only [List.getElem_toArray, List.getElem_cons_zero, List.getElem_cons_succ]); (try simp only [Act.put, List.setIfInBounds_toArray, List.set_cons_zero, List.set_cons_succ])
  refine wpAnyH_done (by kernel_rfl) ?_ _
  go_wp2_with fail
  refine wp_region_held_drew (S := (fun W => W.cell? ⟨w.heap.size, 0, none⟩ = some (.slice a xs.length c) ∧ W.cell? ⟨w.heap.size, 1, none⟩ = some (.slice b ss.length d) ∧ W.cell? ⟨w.heap.size + 1, 0, none⟩ = some (.slice a2 ys.length c2) ∧ W.cell? ⟨w.heap.size + 1, 1, none⟩ = some (.slice b2 ts.length d2) ∧ W.cell? ⟨w6.heap.size, 0, none⟩ = some (.slice a6 xs.length c6) ∧ W.cell? ⟨w6.heap.size, 1, none⟩ = some (.slice b6 ss.length d6) ∧ W.cell? ⟨w8.heap.size, 0, none⟩ = some (.slice a8 ys.length c8) ∧ W.cell? ⟨w8.heap.size, 1, none⟩ = some (.slice b8 ts.length d8))) (by kernel_rfl) (by exact ⟨p0, p1, q0, q1, r0, r1, u0, u1⟩) (fun hHeld => ?_)
  (refine wpAnyH_take (i := 0) (v := ?_) rfl (by kernel_rfl) (by kernel_rfl) (by kernel_rfl) (fun _ _ _ h => h) (Or.inl ⟨by rfl, ?_⟩) (by assumption) ?_; rotate_left; focus (intro w hSw; (try dsimp only at hSw); (try simp only [List.getElem_toArray, List.getElem_cons_zero]); go_simp; try with_reducible rfl)); (try simp only [List.getElem_toArray, List.getElem_cons_zero]); (try simp only [Act.put, List.setIfInBounds_toArray, List.set_cons_zero, List.set_cons_succ])
  (refine wpAnyH_take (i := 1) (v := ?_) rfl (by kernel_rfl) (by kernel_rfl) (by kernel_rfl) (fun _ _ _ h => h) (Or.inl ⟨by rfl, ?_⟩) (by assumption) ?_; rotate_left; focus (intro w hSw; (try dsimp only at hSw); (try simp only [List.getElem_toArray, List.getElem_cons_zero, List.getElem_cons_succ]); go_simp; try with_reducible rfl)); (try simp only [List.getElem_toArray, List.getElem_cons_zero, List.getElem_cons_succ]); (try simp only [Act.put, List.setIfInBounds_toArray, List.set_cons_zero, List.set_cons_succ])
  (refine wpAnyH_ready (rs := [2]) (by kernel_rfl) (by simp) ?_; refine AllReadyH.cons rfl (fun K hK => ?_) AllReadyH.nil; (try simp only [List.getElem_toArray, List.getElem_cons_zero, List.getElem_cons_succ]))
  go_simp
  go_at_call 43
  refine (laws_toProof _ _ ys ts _ (h2.ext (by repeat (first | (with_reducible first | exact Ext.refl _ | assumption | apply Ext.alloc | apply Ext.drew | apply Ext.drewN | refine Ext.setCell ?_ ?_ _ | refine Ext.trans ?_ (by assumption)) | (show _ ≤ _; first | omega | (dsimp only; omega) | (simp; done) | (simp; omega))))) (hu2.ext (by repeat (first | (with_reducible first | exact Ext.refl _ | assumption | apply Ext.alloc | apply Ext.drew | apply Ext.drewN | refine Ext.setCell ?_ ?_ _ | refine Ext.trans ?_ (by assumption)) | (show _ ≤ _; first | omega | (dsimp only; omega) | (simp; done) | (simp; omega))))) hle3 hle4).mono ?_
  rintro e w13 ⟨a13, c13, b13, d13, rfl, o13, p13x, x13⟩
  have s13 := o13.lvs
  have t13 := p13x.strs
  clear o13 p13x
  have y13 : Ext w12 w13 := (by repeat (first | (with_reducible first | exact Ext.refl _ | assumption | apply Ext.alloc | apply Ext.drew | apply Ext.drewN | refine Ext.setCell ?_ ?_ _ | refine Ext.trans ?_ (by assumption)) | (show _ ≤ _; first | omega | (dsimp only; omega) | (simp; done) | (simp; omega))))
  replace p0 := (y13.cell _ _ lp).trans p0
  replace p1 := (y13.cell _ _ lp).trans p1
  replace q0 := (y13.cell _ _ lq).trans q0
  replace q1 := (y13.cell _ _ lq).trans q1
  replace r0 := (y13.cell _ _ lr).trans r0
  replace r1 := (y13.cell _ _ lr).trans r1
  replace u0 := (y13.cell _ _ lu).trans u0
  replace u1 := (y13.cell _ _ lu).trans u1
  replace lp := Nat.lt_of_lt_of_le lp y13.size
  replace lq := Nat.lt_of_lt_of_le lq y13.size
  replace lr := Nat.lt_of_lt_of_le lr y13.size
  replace lu := Nat.lt_of_lt_of_le lu y13.size
  (try dsimp only)
  refine hK.out _ _ (by exact ⟨p0, p1, q0, q1, r0, r1, u0, u1⟩) (fun hHeld => ?_)
  clear hK K
  (refine wpAnyH_ready (rs := [3]) (by kernel_rfl) (by simp) ?_; refine AllReadyH.cons rfl (fun K hK => ?_) AllReadyH.nil; (try simp only [List.getElem_toArray, List.getElem_cons_zero, List.getElem_cons_succ]))
  go_simp
  go_at_call 38
  refine (laws_eqProof _ _ _ _ ys ys ts ts _ (s8.ext (by repeat (first | (with_reducible first | exact Ext.refl _ | assumption | apply Ext.alloc | apply Ext.drew | apply Ext.drewN | refine Ext.setCell ?_ ?_ _ | refine Ext.trans ?_ (by assumption)) | (show _ ≤ _; first | omega | (dsimp only; omega) | (simp; done) | (simp; omega))))) (t8.ext (by repeat (first | (with_reducible first | exact Ext.refl _ | assumption | apply Ext.alloc | apply Ext.drew | apply Ext.drewN | refine Ext.setCell ?_ ?_ _ | refine Ext.trans ?_ (by assumption)) | (show _ ≤ _; first | omega | (dsimp only; omega) | (simp; done) | (simp; omega))))) (s13.ext (by repeat (first | (with_reducible first | exact Ext.refl _ | assumption | apply Ext.alloc | apply Ext.drew | apply Ext.drewN | refine Ext.setCell ?_ ?_ _ | refine Ext.trans ?_ (by assumption)) | (show _ ≤ _; first | omega | (dsimp only; omega) | (simp; done) | (simp; omega))))) (t13.ext (by repeat (first | (with_reducible first | exact Ext.refl _ | assumption | apply Ext.alloc | apply Ext.drew | apply Ext.drewN | refine Ext.setCell ?_ ?_ _ | refine Ext.trans ?_ (by assumption)) | (show _ ≤ _; first | omega | (dsimp only; omega) | (simp; done) | (simp; omega)))))).mono ?_
  rw [show (decide (ys = ys) && decide (ts = ts)) = true by simp]
  rintro e w14 ⟨rfl, x14⟩
  have y14 : Ext w13 w14 := (by repeat (first | (with_reducible first | exact Ext.refl _ | assumption | apply Ext.alloc | apply Ext.drew | apply Ext.drewN | refine Ext.setCell ?_ ?_ _ | refine Ext.trans ?_ (by assumption)) | (show _ ≤ _; first | omega | (dsimp only; omega) | (simp; done) | (simp; omega))))
  replace p0 := (y14.cell _ _ lp).trans p0
  replace p1 := (y14.cell _ _ lp).trans p1
  replace q0 := (y14.cell _ _ lq).trans q0
  replace q1 := (y14.cell _ _ lq).trans q1
  replace r0 := (y14.cell _ _ lr).trans r0
  replace r1 := (y14.cell _ _ lr).trans r1
  replace u0 := (y14.cell _ _ lu).trans u0
  replace u1 := (y14.cell _ _ lu).trans u1
  replace lp := Nat.lt_of_lt_of_le lp y14.size
  replace lq := Nat.lt_of_lt_of_le lq y14.size
  replace lr := Nat.lt_of_lt_of_le lr y14.size
  replace lu := Nat.lt_of_lt_of_le lu y14.size
  (try dsimp only)
  refine hK.out _ _ (by exact ⟨p0, p1, q0, q1, r0, r1, u0, u1⟩) (fun hHeld => ?_)
  clear hK K
  (refine wpAnyH_take (i := 4) (v := ?_) rfl (by kernel_rfl) (by kernel_rfl) (by kernel_rfl) (fun _ _ _ h => h) (Or.inl ⟨by rfl, ?_⟩) (by assumption) ?_; rotate_left; focus (intro w hSw; (try dsimp only at hSw); (try simp only [List.getElem_toArray, List.getElem_cons_zero, List.getElem_cons_succ]); go_simp; try with_reducible rfl)); (try simp only [List.getElem_toArray, List.getElem_cons_zero, List.getElem_cons_succ]); (try simp only [Act.put, List.setIfInBounds_toArray, List.set_cons_zero, List.set_cons_succ])
  refine wpAnyH_done (by kernel_rfl) ?_ _
  go_wp2
  go_ret
  exact ⟨rfl, (by repeat (first | (with_reducible first | exact Ext.refl _ | assumption | apply Ext.alloc | apply Ext.drew | apply Ext.drewN | refine Ext.setCell ?_ ?_ _ | refine Ext.trans ?_ (by assumption)) | (show _ ≤ _; first | omega | (dsimp only; omega) | (simp; done) | (simp; omega))))⟩
end Go.Proofs.YtagkcgbggeajkaaDoor
