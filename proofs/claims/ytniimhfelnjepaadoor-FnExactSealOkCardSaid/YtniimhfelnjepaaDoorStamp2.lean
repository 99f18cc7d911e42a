/- The laws on StampOk and SealOk. -/
import Derived.Test.YtniimhfelnjepaaDoorStamp
namespace Go.Proofs.YtniimhfelnjepaaDoor
open Go.RowKit

set_option maxRecDepth 100000 in
set_option maxHeartbeats 3200000 in
theorem laws_FnExactStampOk (root : ByteArray) (hh ep : Int) (r p : ByteArray) (s : SigV) (v1 v2 v3 : Value) (w : World) (_hroot : root.size ≤ maxLen) (hr : r.size ≤ maxLen) (hp : p.size ≤ maxLen) (h1 : Strs w v1 s.op) (h2 : Strs w v2 s.sh) (h3 : Strs w v3 s.si) (hs : SigFit s) (hT : Tabs w) :
    Calls Tryd.prog 3 #[.string root, .agg #[.int .i64 hh, .int .i64 ep, .string r, .string p], .agg #[.int .i64 s.at_, v1, v2, v3]] w fun e w' => e = .returned (.bool true) ∧ Ext w w' := by
  obtain ⟨a1, c1, rfl⟩ := h1.form
  obtain ⟨a2, c2, rfl⟩ := h2.form
  obtain ⟨a3, c3, rfl⟩ := h3.form
  have HT := Lib.hid hT
  clear hT
  by_cases hbig : (1048576 : Int) < root.size
  ·
    go_enter Tryd.func3, Tryd.ntmps3
    go_wp2
    go_ret
    exact ⟨rfl, (by repeat (first | (with_reducible first | exact Ext.refl _ | assumption | apply Ext.alloc | apply Ext.drew | apply Ext.drewN | refine Ext.setCell ?_ ?_ _ | refine Ext.trans ?_ (by assumption)) | (show _ ≤ _; first | omega | (dsimp only; omega) | (simp; done) | (simp; omega))))⟩
  rcases szr_cases (r.size + p.size) with ⟨hz, -⟩ | ⟨z, hz, hz0, -, hz1⟩
  · have HZ := Lib.hid hz
    clear hz
    go_enter Tryd.func3, Tryd.ntmps3
    go_wp2_with fail
    have P : Bx ((w.alloc (Obj.cells #[.int .i64 hh, .int .i64 ep, .string r, .string p] 23)).alloc (Obj.cells #[.int .i64 s.at_, .slice a1 s.op.length c1, .slice a2 s.sh.length c2, .slice a3 s.si.length c3] 26)) (w.heap.size) [.int .i64 hh, .int .i64 ep, .string r, .string p] := by
      have e := ((Bx.new w #[.int .i64 hh, .int .i64 ep, .string r, .string p] 23).ext ((Ext.refl _).alloc (Obj.cells #[.int .i64 s.at_, .slice a1 s.op.length c1, .slice a2 s.sh.length c2, .slice a3 s.si.length c3] 26)))
      exact e
    have X : Bx ((w.alloc (Obj.cells #[.int .i64 hh, .int .i64 ep, .string r, .string p] 23)).alloc (Obj.cells #[.int .i64 s.at_, .slice a1 s.op.length c1, .slice a2 s.sh.length c2, .slice a3 s.si.length c3] 26)) (w.heap.size + 1) [.int .i64 s.at_, .slice a1 s.op.length c1, .slice a2 s.sh.length c2, .slice a3 s.si.length c3] := by
      have e := (Bx.new (w.alloc (Obj.cells #[.int .i64 hh, .int .i64 ep, .string r, .string p] 23)) #[.int .i64 s.at_, .slice a1 s.op.length c1, .slice a2 s.sh.length c2, .slice a3 s.si.length c3] 26)
      rw [World.size_alloc] at e
      exact e
    have x0 : Ext w ((w.alloc (Obj.cells #[.int .i64 hh, .int .i64 ep, .string r, .string p] 23)).alloc (Obj.cells #[.int .i64 s.at_, .slice a1 s.op.length c1, .slice a2 s.sh.length c2, .slice a3 s.si.length c3] 26)) := (((Ext.refl w).alloc _).alloc _)
    generalize ((w.alloc (Obj.cells #[.int .i64 hh, .int .i64 ep, .string r, .string p] 23)).alloc (Obj.cells #[.int .i64 s.at_, .slice a1 s.op.length c1, .slice a2 s.sh.length c2, .slice a3 s.si.length c3] 26)) = W0 at *
    refine (laws_szHead _ _ _ _ _ _ (by omega) hr hp).mono ?_
    rw [HZ.out]
    rintro e w1 ⟨rfl, x1⟩
    have y1 : Ext W0 w1 := (by repeat (first | (with_reducible first | exact Ext.refl _ | assumption | apply Ext.alloc | apply Ext.drew | apply Ext.drewN | refine Ext.setCell ?_ ?_ _ | refine Ext.trans ?_ (by assumption)) | (show _ ≤ _; first | omega | (dsimp only; omega) | (simp; done) | (simp; omega))))
    replace P := P.ext y1
    replace X := X.ext y1
    have p0c := P.2.1 0 _ rfl
    have p1c := P.2.1 1 _ rfl
    have p2c := P.2.1 2 _ rfl
    have p3c := P.2.1 3 _ rfl
    have x0c := X.2.1 0 _ rfl
    have x1c := X.2.1 1 _ rfl
    have x2c := X.2.1 2 _ rfl
    have x3c := X.2.1 3 _ rfl
    go_wp2
    go_ret
    exact ⟨rfl, (by repeat (first | (with_reducible first | exact Ext.refl _ | assumption | apply Ext.alloc | apply Ext.drew | apply Ext.drewN | refine Ext.setCell ?_ ?_ _ | refine Ext.trans ?_ (by assumption)) | (show _ ≤ _; first | omega | (dsimp only; omega) | (simp; done) | (simp; omega))))⟩
  rcases szl_two (sigN s) z ⟨hz0, hz1⟩ with hy | ⟨y, hy, hy0, -, hy1⟩
  · have HZ := Lib.hid hz
    have HY := Lib.hid hy
    clear hz hy
    go_enter Tryd.func3, Tryd.ntmps3
    go_wp2_with fail
    have P : Bx ((w.alloc (Obj.cells #[.int .i64 hh, .int .i64 ep, .string r, .string p] 23)).alloc (Obj.cells #[.int .i64 s.at_, .slice a1 s.op.length c1, .slice a2 s.sh.length c2, .slice a3 s.si.length c3] 26)) (w.heap.size) [.int .i64 hh, .int .i64 ep, .string r, .string p] := by
      have e := ((Bx.new w #[.int .i64 hh, .int .i64 ep, .string r, .string p] 23).ext ((Ext.refl _).alloc (Obj.cells #[.int .i64 s.at_, .slice a1 s.op.length c1, .slice a2 s.sh.length c2, .slice a3 s.si.length c3] 26)))
      exact e
    have X : Bx ((w.alloc (Obj.cells #[.int .i64 hh, .int .i64 ep, .string r, .string p] 23)).alloc (Obj.cells #[.int .i64 s.at_, .slice a1 s.op.length c1, .slice a2 s.sh.length c2, .slice a3 s.si.length c3] 26)) (w.heap.size + 1) [.int .i64 s.at_, .slice a1 s.op.length c1, .slice a2 s.sh.length c2, .slice a3 s.si.length c3] := by
      have e := (Bx.new (w.alloc (Obj.cells #[.int .i64 hh, .int .i64 ep, .string r, .string p] 23)) #[.int .i64 s.at_, .slice a1 s.op.length c1, .slice a2 s.sh.length c2, .slice a3 s.si.length c3] 26)
      rw [World.size_alloc] at e
      exact e
    have x0 : Ext w ((w.alloc (Obj.cells #[.int .i64 hh, .int .i64 ep, .string r, .string p] 23)).alloc (Obj.cells #[.int .i64 s.at_, .slice a1 s.op.length c1, .slice a2 s.sh.length c2, .slice a3 s.si.length c3] 26)) := (((Ext.refl w).alloc _).alloc _)
    generalize ((w.alloc (Obj.cells #[.int .i64 hh, .int .i64 ep, .string r, .string p] 23)).alloc (Obj.cells #[.int .i64 s.at_, .slice a1 s.op.length c1, .slice a2 s.sh.length c2, .slice a3 s.si.length c3] 26)) = W0 at *
    refine (laws_szHead _ _ _ _ _ _ (by omega) hr hp).mono ?_
    rw [HZ.out]
    rintro e w1 ⟨rfl, x1⟩
    have y1 : Ext W0 w1 := (by repeat (first | (with_reducible first | exact Ext.refl _ | assumption | apply Ext.alloc | apply Ext.drew | apply Ext.drewN | refine Ext.setCell ?_ ?_ _ | refine Ext.trans ?_ (by assumption)) | (show _ ≤ _; first | omega | (dsimp only; omega) | (simp; done) | (simp; omega))))
    replace P := P.ext y1
    replace X := X.ext y1
    have p0c := P.2.1 0 _ rfl
    have p1c := P.2.1 1 _ rfl
    have p2c := P.2.1 2 _ rfl
    have p3c := P.2.1 3 _ rfl
    have x0c := X.2.1 0 _ rfl
    have x1c := X.2.1 1 _ rfl
    have x2c := X.2.1 2 _ rfl
    have x3c := X.2.1 3 _ rfl
    go_wp2_with fail
    refine (laws_szSig _ _ _ s _ _ (h1.ext (by repeat (first | (with_reducible first | exact Ext.refl _ | assumption | apply Ext.alloc | apply Ext.drew | apply Ext.drewN | refine Ext.setCell ?_ ?_ _ | refine Ext.trans ?_ (by assumption)) | (show _ ≤ _; first | omega | (dsimp only; omega) | (simp; done) | (simp; omega))))) (h2.ext (by repeat (first | (with_reducible first | exact Ext.refl _ | assumption | apply Ext.alloc | apply Ext.drew | apply Ext.drewN | refine Ext.setCell ?_ ?_ _ | refine Ext.trans ?_ (by assumption)) | (show _ ≤ _; first | omega | (dsimp only; omega) | (simp; done) | (simp; omega))))) (h3.ext (by repeat (first | (with_reducible first | exact Ext.refl _ | assumption | apply Ext.alloc | apply Ext.drew | apply Ext.drewN | refine Ext.setCell ?_ ?_ _ | refine Ext.trans ?_ (by assumption)) | (show _ ≤ _; first | omega | (dsimp only; omega) | (simp; done) | (simp; omega))))) hs (by omega)).mono ?_
    rw [HY.out]
    rintro e w2 ⟨rfl, x2⟩
    have y2 : Ext w1 w2 := (by repeat (first | (with_reducible first | exact Ext.refl _ | assumption | apply Ext.alloc | apply Ext.drew | apply Ext.drewN | refine Ext.setCell ?_ ?_ _ | refine Ext.trans ?_ (by assumption)) | (show _ ≤ _; first | omega | (dsimp only; omega) | (simp; done) | (simp; omega))))
    replace P := P.ext y2
    replace X := X.ext y2
    have p0c := P.2.1 0 _ rfl
    have p1c := P.2.1 1 _ rfl
    have p2c := P.2.1 2 _ rfl
    have p3c := P.2.1 3 _ rfl
    have x0c := X.2.1 0 _ rfl
    have x1c := X.2.1 1 _ rfl
    have x2c := X.2.1 2 _ rfl
    have x3c := X.2.1 3 _ rfl
    go_wp2
    go_ret
    exact ⟨rfl, (by repeat (first | (with_reducible first | exact Ext.refl _ | assumption | apply Ext.alloc | apply Ext.drew | apply Ext.drewN | refine Ext.setCell ?_ ?_ _ | refine Ext.trans ?_ (by assumption)) | (show _ ≤ _; first | omega | (dsimp only; omega) | (simp; done) | (simp; omega))))⟩
  · have HZ := Lib.hid hz
    have HY := Lib.hid hy
    have l1 : s.op.length ≤ 1099511627776 := by have := hy1 (strN s.op) (by simp [sigN]); unfold strN at this; omega
    have l2 : s.sh.length ≤ 1099511627776 := by have := hy1 (strN s.sh) (by simp [sigN]); unfold strN at this; omega
    have l3 : s.si.length ≤ 1099511627776 := by have := hy1 (strN s.si) (by simp [sigN]); unfold strN at this; omega
    clear hz hy hy1
    go_enter Tryd.func3, Tryd.ntmps3
    go_wp2_with fail
    have P : Bx ((w.alloc (Obj.cells #[.int .i64 hh, .int .i64 ep, .string r, .string p] 23)).alloc (Obj.cells #[.int .i64 s.at_, .slice a1 s.op.length c1, .slice a2 s.sh.length c2, .slice a3 s.si.length c3] 26)) (w.heap.size) [.int .i64 hh, .int .i64 ep, .string r, .string p] := by
      have e := ((Bx.new w #[.int .i64 hh, .int .i64 ep, .string r, .string p] 23).ext ((Ext.refl _).alloc (Obj.cells #[.int .i64 s.at_, .slice a1 s.op.length c1, .slice a2 s.sh.length c2, .slice a3 s.si.length c3] 26)))
      exact e
    have X : Bx ((w.alloc (Obj.cells #[.int .i64 hh, .int .i64 ep, .string r, .string p] 23)).alloc (Obj.cells #[.int .i64 s.at_, .slice a1 s.op.length c1, .slice a2 s.sh.length c2, .slice a3 s.si.length c3] 26)) (w.heap.size + 1) [.int .i64 s.at_, .slice a1 s.op.length c1, .slice a2 s.sh.length c2, .slice a3 s.si.length c3] := by
      have e := (Bx.new (w.alloc (Obj.cells #[.int .i64 hh, .int .i64 ep, .string r, .string p] 23)) #[.int .i64 s.at_, .slice a1 s.op.length c1, .slice a2 s.sh.length c2, .slice a3 s.si.length c3] 26)
      rw [World.size_alloc] at e
      exact e
    have x0 : Ext w ((w.alloc (Obj.cells #[.int .i64 hh, .int .i64 ep, .string r, .string p] 23)).alloc (Obj.cells #[.int .i64 s.at_, .slice a1 s.op.length c1, .slice a2 s.sh.length c2, .slice a3 s.si.length c3] 26)) := (((Ext.refl w).alloc _).alloc _)
    generalize ((w.alloc (Obj.cells #[.int .i64 hh, .int .i64 ep, .string r, .string p] 23)).alloc (Obj.cells #[.int .i64 s.at_, .slice a1 s.op.length c1, .slice a2 s.sh.length c2, .slice a3 s.si.length c3] 26)) = W0 at *
    refine (laws_szHead _ _ _ _ _ _ (by omega) hr hp).mono ?_
    rw [HZ.out]
    rintro e w1 ⟨rfl, x1⟩
    have y1 : Ext W0 w1 := (by repeat (first | (with_reducible first | exact Ext.refl _ | assumption | apply Ext.alloc | apply Ext.drew | apply Ext.drewN | refine Ext.setCell ?_ ?_ _ | refine Ext.trans ?_ (by assumption)) | (show _ ≤ _; first | omega | (dsimp only; omega) | (simp; done) | (simp; omega))))
    replace P := P.ext y1
    replace X := X.ext y1
    have p0c := P.2.1 0 _ rfl
    have p1c := P.2.1 1 _ rfl
    have p2c := P.2.1 2 _ rfl
    have p3c := P.2.1 3 _ rfl
    have x0c := X.2.1 0 _ rfl
    have x1c := X.2.1 1 _ rfl
    have x2c := X.2.1 2 _ rfl
    have x3c := X.2.1 3 _ rfl
    go_wp2_with fail
    refine (laws_szSig _ _ _ s _ _ (h1.ext (by repeat (first | (with_reducible first | exact Ext.refl _ | assumption | apply Ext.alloc | apply Ext.drew | apply Ext.drewN | refine Ext.setCell ?_ ?_ _ | refine Ext.trans ?_ (by assumption)) | (show _ ≤ _; first | omega | (dsimp only; omega) | (simp; done) | (simp; omega))))) (h2.ext (by repeat (first | (with_reducible first | exact Ext.refl _ | assumption | apply Ext.alloc | apply Ext.drew | apply Ext.drewN | refine Ext.setCell ?_ ?_ _ | refine Ext.trans ?_ (by assumption)) | (show _ ≤ _; first | omega | (dsimp only; omega) | (simp; done) | (simp; omega))))) (h3.ext (by repeat (first | (with_reducible first | exact Ext.refl _ | assumption | apply Ext.alloc | apply Ext.drew | apply Ext.drewN | refine Ext.setCell ?_ ?_ _ | refine Ext.trans ?_ (by assumption)) | (show _ ≤ _; first | omega | (dsimp only; omega) | (simp; done) | (simp; omega))))) hs (by omega)).mono ?_
    rw [HY.out]
    rintro e w2 ⟨rfl, x2⟩
    have y2 : Ext w1 w2 := (by repeat (first | (with_reducible first | exact Ext.refl _ | assumption | apply Ext.alloc | apply Ext.drew | apply Ext.drewN | refine Ext.setCell ?_ ?_ _ | refine Ext.trans ?_ (by assumption)) | (show _ ≤ _; first | omega | (dsimp only; omega) | (simp; done) | (simp; omega))))
    replace P := P.ext y2
    replace X := X.ext y2
    have p0c := P.2.1 0 _ rfl
    have p1c := P.2.1 1 _ rfl
    have p2c := P.2.1 2 _ rfl
    have p3c := P.2.1 3 _ rfl
    have x0c := X.2.1 0 _ rfl
    have x1c := X.2.1 1 _ rfl
    have x2c := X.2.1 2 _ rfl
    have x3c := X.2.1 3 _ rfl
    go_wp2_with fail
    refine wp_region_held_drew (S := (fun W => W.cell? ⟨w.heap.size, 0, none⟩ = some (.int .i64 hh) ∧ W.cell? ⟨w.heap.size, 1, none⟩ = some (.int .i64 ep) ∧ W.cell? ⟨w.heap.size, 2, none⟩ = some (.string r) ∧ W.cell? ⟨w.heap.size, 3, none⟩ = some (.string p) ∧ W.cell? ⟨w.heap.size + 1, 0, none⟩ = some (.int .i64 s.at_) ∧ W.cell? ⟨w.heap.size + 1, 1, none⟩ = some (.slice a1 s.op.length c1) ∧ W.cell? ⟨w.heap.size + 1, 2, none⟩ = some (.slice a2 s.sh.length c2) ∧ W.cell? ⟨w.heap.size + 1, 3, none⟩ = some (.slice a3 s.si.length c3))) (by kernel_rfl) (by exact ⟨p0c, p1c, p2c, p3c, x0c, x1c, x2c, x3c⟩) (fun hHeld => ?_)
    (refine wpAnyH_take (i := 0) (v := ?_) rfl (by kernel_rfl) (by kernel_rfl) (by kernel_rfl) (fun _ _ _ h => h) (Or.inl ⟨by rfl, ?_⟩) (by assumption) ?_; rotate_left; focus (intro w hSw; (try dsimp only at hSw); (try simp only [List.getElem_toArray, List.getElem_cons_zero]); go_simp; try with_reducible rfl)); (try simp only [List.getElem_toArray, List.getElem_cons_zero]); (try simp only [Act.put, List.setIfInBounds_toArray, List.set_cons_zero, List.set_cons_succ])
    (refine wpAnyH_take (i := 1) (v := ?_) rfl (by kernel_rfl) (by kernel_rfl) (by kernel_rfl) (fun _ _ _ h => h) (Or.inl ⟨by rfl, ?_⟩) (by assumption) ?_; rotate_left; focus (intro w hSw; (try dsimp only at hSw); (try simp only [List.getElem_toArray, List.getElem_cons_zero, List.getElem_cons_succ]); go_simp; try with_reducible rfl)); (try simp only [List.getElem_toArray, List.getElem_cons_zero, List.getElem_cons_succ]); (try simp only [Act.put, List.setIfInBounds_toArray, List.set_cons_zero, List.set_cons_succ])
    (refine wpAnyH_take (i := 3) (v := ?_) rfl (by kernel_rfl) (by kernel_rfl) (by kernel_rfl) (fun _ _ _ h => h) (Or.inl ⟨by rfl, ?_⟩) (by assumption) ?_; rotate_left; focus (intro w hSw; (try dsimp only at hSw); (try simp only [List.getElem_toArray, List.getElem_cons_zero, List.getElem_cons_succ]); go_simp; try with_reducible rfl)); (try simp only [List.getElem_toArray, List.getElem_cons_zero, List.getElem_cons_succ]); (try simp only [Act.put, List.setIfInBounds_toArray, List.set_cons_zero, List.set_cons_succ])
    (refine wpAnyH_ready (rs := [2]) (by kernel_rfl) (by simp) ?_; refine AllReadyH.cons rfl (fun K hK => ?_) AllReadyH.nil; (try simp only [List.getElem_toArray, List.getElem_cons_zero, List.getElem_cons_succ]))
    go_simp
    go_at_call 11
    refine (laws_toHead _ _ _ _ _).mono ?_
    rintro e w3 ⟨rfl, x3⟩
    have y3 : Ext w2 w3 := (by repeat (first | (with_reducible first | exact Ext.refl _ | assumption | apply Ext.alloc | apply Ext.drew | apply Ext.drewN | refine Ext.setCell ?_ ?_ _ | refine Ext.trans ?_ (by assumption)) | (show _ ≤ _; first | omega | (dsimp only; omega) | (simp; done) | (simp; omega))))
    replace P := P.ext y3
    replace X := X.ext y3
    have p0c := P.2.1 0 _ rfl
    have p1c := P.2.1 1 _ rfl
    have p2c := P.2.1 2 _ rfl
    have p3c := P.2.1 3 _ rfl
    have x0c := X.2.1 0 _ rfl
    have x1c := X.2.1 1 _ rfl
    have x2c := X.2.1 2 _ rfl
    have x3c := X.2.1 3 _ rfl
    (try dsimp only)
    refine hK.out _ _ (by exact ⟨p0c, p1c, p2c, p3c, x0c, x1c, x2c, x3c⟩) (fun hHeld => ?_)
    clear hK K
    (refine wpAnyH_ready (rs := [4]) (by kernel_rfl) (by simp) ?_; refine AllReadyH.cons rfl (fun K hK => ?_) AllReadyH.nil; (try simp only [List.getElem_toArray, List.getElem_cons_zero, List.getElem_cons_succ]))
    go_simp
    go_at_call 12
    refine (laws_toSig _ _ _ s _ (h1.ext (by repeat (first | (with_reducible first | exact Ext.refl _ | assumption | apply Ext.alloc | apply Ext.drew | apply Ext.drewN | refine Ext.setCell ?_ ?_ _ | refine Ext.trans ?_ (by assumption)) | (show _ ≤ _; first | omega | (dsimp only; omega) | (simp; done) | (simp; omega))))) (h2.ext (by repeat (first | (with_reducible first | exact Ext.refl _ | assumption | apply Ext.alloc | apply Ext.drew | apply Ext.drewN | refine Ext.setCell ?_ ?_ _ | refine Ext.trans ?_ (by assumption)) | (show _ ≤ _; first | omega | (dsimp only; omega) | (simp; done) | (simp; omega))))) (h3.ext (by repeat (first | (with_reducible first | exact Ext.refl _ | assumption | apply Ext.alloc | apply Ext.drew | apply Ext.drewN | refine Ext.setCell ?_ ?_ _ | refine Ext.trans ?_ (by assumption)) | (show _ ≤ _; first | omega | (dsimp only; omega) | (simp; done) | (simp; omega))))) l1 l2 l3).mono ?_
    rintro e w4 ⟨u1, u2, u3, rfl, o1, o2, o3, x4⟩
    obtain ⟨m1, k1, rfl⟩ := o1.strs.form
    obtain ⟨m2, k2, rfl⟩ := o2.strs.form
    obtain ⟨m3, k3, rfl⟩ := o3.strs.form
    have s41 := o1.strs
    have s42 := o2.strs
    have s43 := o3.strs
    clear o1 o2 o3
    have y4 : Ext w3 w4 := (by repeat (first | (with_reducible first | exact Ext.refl _ | assumption | apply Ext.alloc | apply Ext.drew | apply Ext.drewN | refine Ext.setCell ?_ ?_ _ | refine Ext.trans ?_ (by assumption)) | (show _ ≤ _; first | omega | (dsimp only; omega) | (simp; done) | (simp; omega))))
    replace P := P.ext y4
    replace X := X.ext y4
    have p0c := P.2.1 0 _ rfl
    have p1c := P.2.1 1 _ rfl
    have p2c := P.2.1 2 _ rfl
    have p3c := P.2.1 3 _ rfl
    have x0c := X.2.1 0 _ rfl
    have x1c := X.2.1 1 _ rfl
    have x2c := X.2.1 2 _ rfl
    have x3c := X.2.1 3 _ rfl
    (try dsimp only)
    refine hK.out _ _ (by exact ⟨p0c, p1c, p2c, p3c, x0c, x1c, x2c, x3c⟩) (fun hHeld => ?_)
    clear hK K
    (refine wpAnyH_ready (rs := [5]) (by kernel_rfl) (by simp) ?_; refine AllReadyH.cons rfl (fun K hK => ?_) AllReadyH.nil; (try simp only [List.getElem_toArray, List.getElem_cons_zero, List.getElem_cons_succ]))
    go_simp
    go_at_call 10
    refine (spec_StampOk root hh ep r p _ _ _ s _ (s41.ext (by repeat (first | (with_reducible first | exact Ext.refl _ | assumption | apply Ext.alloc | apply Ext.drew | apply Ext.drewN | refine Ext.setCell ?_ ?_ _ | refine Ext.trans ?_ (by assumption)) | (show _ ≤ _; first | omega | (dsimp only; omega) | (simp; done) | (simp; omega))))) (s42.ext (by repeat (first | (with_reducible first | exact Ext.refl _ | assumption | apply Ext.alloc | apply Ext.drew | apply Ext.drewN | refine Ext.setCell ?_ ?_ _ | refine Ext.trans ?_ (by assumption)) | (show _ ≤ _; first | omega | (dsimp only; omega) | (simp; done) | (simp; omega))))) (s43.ext (by repeat (first | (with_reducible first | exact Ext.refl _ | assumption | apply Ext.alloc | apply Ext.drew | apply Ext.drewN | refine Ext.setCell ?_ ?_ _ | refine Ext.trans ?_ (by assumption)) | (show _ ≤ _; first | omega | (dsimp only; omega) | (simp; done) | (simp; omega))))) hs).mono ?_
    rintro e w5 ⟨rfl, x5⟩
    have y5 : Ext w4 w5 := (by repeat (first | (with_reducible first | exact Ext.refl _ | assumption | apply Ext.alloc | apply Ext.drew | apply Ext.drewN | refine Ext.setCell ?_ ?_ _ | refine Ext.trans ?_ (by assumption)) | (show _ ≤ _; first | omega | (dsimp only; omega) | (simp; done) | (simp; omega))))
    replace P := P.ext y5
    replace X := X.ext y5
    have p0c := P.2.1 0 _ rfl
    have p1c := P.2.1 1 _ rfl
    have p2c := P.2.1 2 _ rfl
    have p3c := P.2.1 3 _ rfl
    have x0c := X.2.1 0 _ rfl
    have x1c := X.2.1 1 _ rfl
    have x2c := X.2.1 2 _ rfl
    have x3c := X.2.1 3 _ rfl
    (try dsimp only)
    refine hK.out _ _ (by exact ⟨p0c, p1c, p2c, p3c, x0c, x1c, x2c, x3c⟩) (fun hHeld => ?_)
    clear hK K
    (refine wpAnyH_take (i := 6) (v := ?_) rfl (by kernel_rfl) (by kernel_rfl) (by kernel_rfl) (fun _ _ _ h => h) (Or.inl ⟨by rfl, ?_⟩) (by assumption) ?_; rotate_left; focus (intro w hSw; (try dsimp only at hSw); (try simp only [List.getElem_toArray, List.getElem_cons_zero, List.getElem_cons_succ]); go_simp; try with_reducible rfl)); (try simp only [List.getElem_toArray, List.getElem_cons_zero, List.getElem_cons_succ]); (try simp only [Act.put, List.setIfInBounds_toArray, List.set_cons_zero, List.set_cons_succ])
    refine wpAnyH_done (by kernel_rfl) ?_ _
    generalize hR : stampOkB root hh ep r p s = R at *
    have HB := Lib.hid hR
    clear hR
    go_wp2_with fail
    refine (laws_toSig _ _ _ s _ (h1.ext (by repeat (first | (with_reducible first | exact Ext.refl _ | assumption | apply Ext.alloc | apply Ext.drew | apply Ext.drewN | refine Ext.setCell ?_ ?_ _ | refine Ext.trans ?_ (by assumption)) | (show _ ≤ _; first | omega | (dsimp only; omega) | (simp; done) | (simp; omega))))) (h2.ext (by repeat (first | (with_reducible first | exact Ext.refl _ | assumption | apply Ext.alloc | apply Ext.drew | apply Ext.drewN | refine Ext.setCell ?_ ?_ _ | refine Ext.trans ?_ (by assumption)) | (show _ ≤ _; first | omega | (dsimp only; omega) | (simp; done) | (simp; omega))))) (h3.ext (by repeat (first | (with_reducible first | exact Ext.refl _ | assumption | apply Ext.alloc | apply Ext.drew | apply Ext.drewN | refine Ext.setCell ?_ ?_ _ | refine Ext.trans ?_ (by assumption)) | (show _ ≤ _; first | omega | (dsimp only; omega) | (simp; done) | (simp; omega))))) l1 l2 l3).mono ?_
    rintro e w6 ⟨u1, u2, u3, rfl, o1, o2, o3, x6⟩
    obtain ⟨b1, d1, rfl⟩ := o1.strs.form
    obtain ⟨b2, d2, rfl⟩ := o2.strs.form
    obtain ⟨b3, d3, rfl⟩ := o3.strs.form
    have s61 := o1.strs
    have s62 := o2.strs
    have s63 := o3.strs
    clear o1 o2 o3
    have y6 : Ext w5 w6 := (by repeat (first | (with_reducible first | exact Ext.refl _ | assumption | apply Ext.alloc | apply Ext.drew | apply Ext.drewN | refine Ext.setCell ?_ ?_ _ | refine Ext.trans ?_ (by assumption)) | (show _ ≤ _; first | omega | (dsimp only; omega) | (simp; done) | (simp; omega))))
    replace P := P.ext y6
    replace X := X.ext y6
    have p0c := P.2.1 0 _ rfl
    have p1c := P.2.1 1 _ rfl
    have p2c := P.2.1 2 _ rfl
    have p3c := P.2.1 3 _ rfl
    have x0c := X.2.1 0 _ rfl
    have x1c := X.2.1 1 _ rfl
    have x2c := X.2.1 2 _ rfl
    have x3c := X.2.1 3 _ rfl
    go_wp2_with fail
    have Y := Bx.new w6 #[.int .i64 s.at_, .slice b1 s.op.length d1, .slice b2 s.sh.length d2, .slice b3 s.si.length d3] 32
    have y6b : Ext w6 (w6.alloc (Obj.cells #[.int .i64 s.at_, .slice b1 s.op.length d1, .slice b2 s.sh.length d2, .slice b3 s.si.length d3] 32)) := (Ext.refl w6).alloc _
    replace P := P.ext y6b
    replace X := X.ext y6b
    generalize (w6.alloc (Obj.cells #[.int .i64 s.at_, .slice b1 s.op.length d1, .slice b2 s.sh.length d2, .slice b3 s.si.length d3] 32)) = W6 at *
    have p0c := P.2.1 0 _ rfl
    have p1c := P.2.1 1 _ rfl
    have p2c := P.2.1 2 _ rfl
    have p3c := P.2.1 3 _ rfl
    have x0c := X.2.1 0 _ rfl
    have x1c := X.2.1 1 _ rfl
    have x2c := X.2.1 2 _ rfl
    have x3c := X.2.1 3 _ rfl
    have y0c := Y.2.1 0 _ rfl
    have y1c := Y.2.1 1 _ rfl
    have y2c := Y.2.1 2 _ rfl
    have y3c := Y.2.1 3 _ rfl
    refine wp_region_held_drew (S := (fun W => W.cell? ⟨w.heap.size, 0, none⟩ = some (.int .i64 hh) ∧ W.cell? ⟨w.heap.size, 1, none⟩ = some (.int .i64 ep) ∧ W.cell? ⟨w.heap.size, 2, none⟩ = some (.string r) ∧ W.cell? ⟨w.heap.size, 3, none⟩ = some (.string p) ∧ W.cell? ⟨w.heap.size + 1, 0, none⟩ = some (.int .i64 s.at_) ∧ W.cell? ⟨w.heap.size + 1, 1, none⟩ = some (.slice a1 s.op.length c1) ∧ W.cell? ⟨w.heap.size + 1, 2, none⟩ = some (.slice a2 s.sh.length c2) ∧ W.cell? ⟨w.heap.size + 1, 3, none⟩ = some (.slice a3 s.si.length c3) ∧ W.cell? ⟨w6.heap.size, 0, none⟩ = some (.int .i64 s.at_) ∧ W.cell? ⟨w6.heap.size, 1, none⟩ = some (.slice b1 s.op.length d1) ∧ W.cell? ⟨w6.heap.size, 2, none⟩ = some (.slice b2 s.sh.length d2) ∧ W.cell? ⟨w6.heap.size, 3, none⟩ = some (.slice b3 s.si.length d3))) (by kernel_rfl) (by exact ⟨p0c, p1c, p2c, p3c, x0c, x1c, x2c, x3c, y0c, y1c, y2c, y3c⟩) (fun hHeld => ?_)
    (refine wpAnyH_take (i := 0) (v := ?_) rfl (by kernel_rfl) (by kernel_rfl) (by kernel_rfl) (fun _ _ _ h => h) (Or.inl ⟨by rfl, ?_⟩) (by assumption) ?_; rotate_left; focus (intro w hSw; (try dsimp only at hSw); (try simp only [List.getElem_toArray, List.getElem_cons_zero]); go_simp; try with_reducible rfl)); (try simp only [List.getElem_toArray, List.getElem_cons_zero]); (try simp only [Act.put, List.setIfInBounds_toArray, List.set_cons_zero, List.set_cons_succ])
    (refine wpAnyH_take (i := 1) (v := ?_) rfl (by kernel_rfl) (by kernel_rfl) (by kernel_rfl) (fun _ _ _ h => h) (Or.inl ⟨by rfl, ?_⟩) (by assumption) ?_; rotate_left; focus (intro w hSw; (try dsimp only at hSw); (try simp only [List.getElem_toArray, List.getElem_cons_zero, List.getElem_cons_succ]); go_simp; try with_reducible rfl)); (try simp only [List.getElem_toArray, List.getElem_cons_zero, List.getElem_cons_succ]); (try simp only [Act.put, List.setIfInBounds_toArray, List.set_cons_zero, List.set_cons_succ])
    (refine wpAnyH_take (i := 3) (v := ?_) rfl (by kernel_rfl) (by kernel_rfl) (by kernel_rfl) (fun _ _ _ h => h) (Or.inl ⟨by rfl, ?_⟩) (by assumption) ?_; rotate_left; focus (intro w hSw; (try dsimp only at hSw); (try simp only [List.getElem_toArray, List.getElem_cons_zero, List.getElem_cons_succ]); go_simp; try with_reducible rfl)); (try simp only [List.getElem_toArray, List.getElem_cons_zero, List.getElem_cons_succ]); (try simp only [Act.put, List.setIfInBounds_toArray, List.set_cons_zero, List.set_cons_succ])
    (refine wpAnyH_ready (rs := [2]) (by kernel_rfl) (by simp) ?_; refine AllReadyH.cons rfl (fun K hK => ?_) AllReadyH.nil; (try simp only [List.getElem_toArray, List.getElem_cons_zero, List.getElem_cons_succ]))
    go_simp
    go_at_call 11
    refine (laws_toHead _ _ _ _ _).mono ?_
    rintro e w7 ⟨rfl, x7⟩
    have y7 : Ext W6 w7 := (by repeat (first | (with_reducible first | exact Ext.refl _ | assumption | apply Ext.alloc | apply Ext.drew | apply Ext.drewN | refine Ext.setCell ?_ ?_ _ | refine Ext.trans ?_ (by assumption)) | (show _ ≤ _; first | omega | (dsimp only; omega) | (simp; done) | (simp; omega))))
    replace P := P.ext y7
    replace X := X.ext y7
    replace Y := Y.ext y7
    have p0c := P.2.1 0 _ rfl
    have p1c := P.2.1 1 _ rfl
    have p2c := P.2.1 2 _ rfl
    have p3c := P.2.1 3 _ rfl
    have x0c := X.2.1 0 _ rfl
    have x1c := X.2.1 1 _ rfl
    have x2c := X.2.1 2 _ rfl
    have x3c := X.2.1 3 _ rfl
    have y0c := Y.2.1 0 _ rfl
    have y1c := Y.2.1 1 _ rfl
    have y2c := Y.2.1 2 _ rfl
    have y3c := Y.2.1 3 _ rfl
    (try dsimp only)
    refine hK.out _ _ (by exact ⟨p0c, p1c, p2c, p3c, x0c, x1c, x2c, x3c, y0c, y1c, y2c, y3c⟩) (fun hHeld => ?_)
    clear hK K
    (refine wpAnyH_ready (rs := [4]) (by kernel_rfl) (by simp) ?_; refine AllReadyH.cons rfl (fun K hK => ?_) AllReadyH.nil; (try simp only [List.getElem_toArray, List.getElem_cons_zero, List.getElem_cons_succ]))
    go_simp
    go_at_call 13
    refine (impl_StampOk root hh ep r p _ _ _ s _ (s61.ext (by repeat (first | (with_reducible first | exact Ext.refl _ | assumption | apply Ext.alloc | apply Ext.drew | apply Ext.drewN | refine Ext.setCell ?_ ?_ _ | refine Ext.trans ?_ (by assumption)) | (show _ ≤ _; first | omega | (dsimp only; omega) | (simp; done) | (simp; omega))))) (s62.ext (by repeat (first | (with_reducible first | exact Ext.refl _ | assumption | apply Ext.alloc | apply Ext.drew | apply Ext.drewN | refine Ext.setCell ?_ ?_ _ | refine Ext.trans ?_ (by assumption)) | (show _ ≤ _; first | omega | (dsimp only; omega) | (simp; done) | (simp; omega))))) (s63.ext (by repeat (first | (with_reducible first | exact Ext.refl _ | assumption | apply Ext.alloc | apply Ext.drew | apply Ext.drewN | refine Ext.setCell ?_ ?_ _ | refine Ext.trans ?_ (by assumption)) | (show _ ≤ _; first | omega | (dsimp only; omega) | (simp; done) | (simp; omega))))) hs (by exact HT.out.ext (by repeat (first | (with_reducible first | exact Ext.refl _ | assumption | apply Ext.alloc | apply Ext.drew | apply Ext.drewN | refine Ext.setCell ?_ ?_ _ | refine Ext.trans ?_ (by assumption)) | (show _ ≤ _; first | omega | (dsimp only; omega) | (simp; done) | (simp; omega)))))).mono ?_
    rw [HB.out]
    rintro e w8 ⟨rfl, x8⟩
    have y8 : Ext w7 w8 := (by repeat (first | (with_reducible first | exact Ext.refl _ | assumption | apply Ext.alloc | apply Ext.drew | apply Ext.drewN | refine Ext.setCell ?_ ?_ _ | refine Ext.trans ?_ (by assumption)) | (show _ ≤ _; first | omega | (dsimp only; omega) | (simp; done) | (simp; omega))))
    replace P := P.ext y8
    replace X := X.ext y8
    replace Y := Y.ext y8
    have p0c := P.2.1 0 _ rfl
    have p1c := P.2.1 1 _ rfl
    have p2c := P.2.1 2 _ rfl
    have p3c := P.2.1 3 _ rfl
    have x0c := X.2.1 0 _ rfl
    have x1c := X.2.1 1 _ rfl
    have x2c := X.2.1 2 _ rfl
    have x3c := X.2.1 3 _ rfl
    have y0c := Y.2.1 0 _ rfl
    have y1c := Y.2.1 1 _ rfl
    have y2c := Y.2.1 2 _ rfl
    have y3c := Y.2.1 3 _ rfl
    (try dsimp only)
    refine hK.out _ _ (by exact ⟨p0c, p1c, p2c, p3c, x0c, x1c, x2c, x3c, y0c, y1c, y2c, y3c⟩) (fun hHeld => ?_)
    clear hK K
    (refine wpAnyH_take (i := 5) (v := ?_) rfl (by kernel_rfl) (by kernel_rfl) (by kernel_rfl) (fun _ _ _ h => h) (Or.inl ⟨by rfl, ?_⟩) (by assumption) ?_; rotate_left; focus (intro w hSw; (try dsimp only at hSw); (try simp only [List.getElem_toArray, List.getElem_cons_zero, List.getElem_cons_succ]); go_simp; try with_reducible rfl)); (try simp only [List.getElem_toArray, List.getElem_cons_zero, List.getElem_cons_succ]); (try simp only [Act.put, List.setIfInBounds_toArray, List.set_cons_zero, List.set_cons_succ])
    refine wpAnyH_done (by kernel_rfl) ?_ _
    have hself : (R != R) = false := by cases R <;> rfl
    go_wp2_with fail
    refine wp_region_held_drew (S := (fun W => W.cell? ⟨w.heap.size, 0, none⟩ = some (.int .i64 hh) ∧ W.cell? ⟨w.heap.size, 1, none⟩ = some (.int .i64 ep) ∧ W.cell? ⟨w.heap.size, 2, none⟩ = some (.string r) ∧ W.cell? ⟨w.heap.size, 3, none⟩ = some (.string p) ∧ W.cell? ⟨w.heap.size + 1, 0, none⟩ = some (.int .i64 s.at_) ∧ W.cell? ⟨w.heap.size + 1, 1, none⟩ = some (.slice a1 s.op.length c1) ∧ W.cell? ⟨w.heap.size + 1, 2, none⟩ = some (.slice a2 s.sh.length c2) ∧ W.cell? ⟨w.heap.size + 1, 3, none⟩ = some (.slice a3 s.si.length c3) ∧ W.cell? ⟨w6.heap.size, 0, none⟩ = some (.int .i64 s.at_) ∧ W.cell? ⟨w6.heap.size, 1, none⟩ = some (.slice b1 s.op.length d1) ∧ W.cell? ⟨w6.heap.size, 2, none⟩ = some (.slice b2 s.sh.length d2) ∧ W.cell? ⟨w6.heap.size, 3, none⟩ = some (.slice b3 s.si.length d3))) (by kernel_rfl) (by exact ⟨p0c, p1c, p2c, p3c, x0c, x1c, x2c, x3c, y0c, y1c, y2c, y3c⟩) (fun hHeld => ?_)
    (refine wpAnyH_take (i := 0) (v := ?_) rfl (by kernel_rfl) (by kernel_rfl) (by kernel_rfl) (fun _ _ _ h => h) (Or.inl ⟨by rfl, ?_⟩) (by assumption) ?_; rotate_left; focus (intro w hSw; (try dsimp only at hSw); (try simp only [List.getElem_toArray, List.getElem_cons_zero]); go_simp; try with_reducible rfl)); (try simp only [List.getElem_toArray, List.getElem_cons_zero]); (try simp only [Act.put, List.setIfInBounds_toArray, List.set_cons_zero, List.set_cons_succ])
    (refine wpAnyH_take (i := 1) (v := ?_) rfl (by kernel_rfl) (by kernel_rfl) (by kernel_rfl) (fun _ _ _ h => h) (Or.inl ⟨by rfl, ?_⟩) (by assumption) ?_; rotate_left; focus (intro w hSw; (try dsimp only at hSw); (try simp only [List.getElem_toArray, List.getElem_cons_zero, List.getElem_cons_succ]); go_simp; try with_reducible rfl)); (try simp only [List.getElem_toArray, List.getElem_cons_zero, List.getElem_cons_succ]); (try simp only [Act.put, List.setIfInBounds_toArray, List.set_cons_zero, List.set_cons_succ])
    (refine wpAnyH_ready (rs := [2]) (by kernel_rfl) (by simp) ?_; refine AllReadyH.cons rfl (fun K hK => ?_) AllReadyH.nil; (try simp only [List.getElem_toArray, List.getElem_cons_zero, List.getElem_cons_succ]))
    go_simp
    go_at_call 12
    refine (laws_toSig _ _ _ s _ (h1.ext (by repeat (first | (with_reducible first | exact Ext.refl _ | assumption | apply Ext.alloc | apply Ext.drew | apply Ext.drewN | refine Ext.setCell ?_ ?_ _ | refine Ext.trans ?_ (by assumption)) | (show _ ≤ _; first | omega | (dsimp only; omega) | (simp; done) | (simp; omega))))) (h2.ext (by repeat (first | (with_reducible first | exact Ext.refl _ | assumption | apply Ext.alloc | apply Ext.drew | apply Ext.drewN | refine Ext.setCell ?_ ?_ _ | refine Ext.trans ?_ (by assumption)) | (show _ ≤ _; first | omega | (dsimp only; omega) | (simp; done) | (simp; omega))))) (h3.ext (by repeat (first | (with_reducible first | exact Ext.refl _ | assumption | apply Ext.alloc | apply Ext.drew | apply Ext.drewN | refine Ext.setCell ?_ ?_ _ | refine Ext.trans ?_ (by assumption)) | (show _ ≤ _; first | omega | (dsimp only; omega) | (simp; done) | (simp; omega))))) l1 l2 l3).mono ?_
    rintro e w9 ⟨u1, u2, u3, rfl, o1, o2, o3, x9⟩
    obtain ⟨q1, f1, rfl⟩ := o1.strs.form
    obtain ⟨q2, f2, rfl⟩ := o2.strs.form
    obtain ⟨q3, f3, rfl⟩ := o3.strs.form
    have s91 := o1.strs
    have s92 := o2.strs
    have s93 := o3.strs
    clear o1 o2 o3
    have y9 : Ext w8 w9 := (by repeat (first | (with_reducible first | exact Ext.refl _ | assumption | apply Ext.alloc | apply Ext.drew | apply Ext.drewN | refine Ext.setCell ?_ ?_ _ | refine Ext.trans ?_ (by assumption)) | (show _ ≤ _; first | omega | (dsimp only; omega) | (simp; done) | (simp; omega))))
    replace P := P.ext y9
    replace X := X.ext y9
    replace Y := Y.ext y9
    have p0c := P.2.1 0 _ rfl
    have p1c := P.2.1 1 _ rfl
    have p2c := P.2.1 2 _ rfl
    have p3c := P.2.1 3 _ rfl
    have x0c := X.2.1 0 _ rfl
    have x1c := X.2.1 1 _ rfl
    have x2c := X.2.1 2 _ rfl
    have x3c := X.2.1 3 _ rfl
    have y0c := Y.2.1 0 _ rfl
    have y1c := Y.2.1 1 _ rfl
    have y2c := Y.2.1 2 _ rfl
    have y3c := Y.2.1 3 _ rfl
    (try dsimp only)
    refine hK.out _ _ (by exact ⟨p0c, p1c, p2c, p3c, x0c, x1c, x2c, x3c, y0c, y1c, y2c, y3c⟩) (fun hHeld => ?_)
    clear hK K
    (refine wpAnyH_ready (rs := [3]) (by kernel_rfl) (by simp) ?_; refine AllReadyH.cons rfl (fun K hK => ?_) AllReadyH.nil; (try simp only [List.getElem_toArray, List.getElem_cons_zero, List.getElem_cons_succ]))
    go_simp
    go_at_call 14
    refine (laws_eqSigT _ _ _ _ _ _ s _ (s61.ext (by repeat (first | (with_reducible first | exact Ext.refl _ | assumption | apply Ext.alloc | apply Ext.drew | apply Ext.drewN | refine Ext.setCell ?_ ?_ _ | refine Ext.trans ?_ (by assumption)) | (show _ ≤ _; first | omega | (dsimp only; omega) | (simp; done) | (simp; omega))))) (s62.ext (by repeat (first | (with_reducible first | exact Ext.refl _ | assumption | apply Ext.alloc | apply Ext.drew | apply Ext.drewN | refine Ext.setCell ?_ ?_ _ | refine Ext.trans ?_ (by assumption)) | (show _ ≤ _; first | omega | (dsimp only; omega) | (simp; done) | (simp; omega))))) (s63.ext (by repeat (first | (with_reducible first | exact Ext.refl _ | assumption | apply Ext.alloc | apply Ext.drew | apply Ext.drewN | refine Ext.setCell ?_ ?_ _ | refine Ext.trans ?_ (by assumption)) | (show _ ≤ _; first | omega | (dsimp only; omega) | (simp; done) | (simp; omega))))) (s91.ext (by repeat (first | (with_reducible first | exact Ext.refl _ | assumption | apply Ext.alloc | apply Ext.drew | apply Ext.drewN | refine Ext.setCell ?_ ?_ _ | refine Ext.trans ?_ (by assumption)) | (show _ ≤ _; first | omega | (dsimp only; omega) | (simp; done) | (simp; omega))))) (s92.ext (by repeat (first | (with_reducible first | exact Ext.refl _ | assumption | apply Ext.alloc | apply Ext.drew | apply Ext.drewN | refine Ext.setCell ?_ ?_ _ | refine Ext.trans ?_ (by assumption)) | (show _ ≤ _; first | omega | (dsimp only; omega) | (simp; done) | (simp; omega))))) (s93.ext (by repeat (first | (with_reducible first | exact Ext.refl _ | assumption | apply Ext.alloc | apply Ext.drew | apply Ext.drewN | refine Ext.setCell ?_ ?_ _ | refine Ext.trans ?_ (by assumption)) | (show _ ≤ _; first | omega | (dsimp only; omega) | (simp; done) | (simp; omega)))))).mono ?_
    rintro e w10 ⟨rfl, x10⟩
    have y10 : Ext w9 w10 := (by repeat (first | (with_reducible first | exact Ext.refl _ | assumption | apply Ext.alloc | apply Ext.drew | apply Ext.drewN | refine Ext.setCell ?_ ?_ _ | refine Ext.trans ?_ (by assumption)) | (show _ ≤ _; first | omega | (dsimp only; omega) | (simp; done) | (simp; omega))))
    replace P := P.ext y10
    replace X := X.ext y10
    replace Y := Y.ext y10
    have p0c := P.2.1 0 _ rfl
    have p1c := P.2.1 1 _ rfl
    have p2c := P.2.1 2 _ rfl
    have p3c := P.2.1 3 _ rfl
    have x0c := X.2.1 0 _ rfl
    have x1c := X.2.1 1 _ rfl
    have x2c := X.2.1 2 _ rfl
    have x3c := X.2.1 3 _ rfl
    have y0c := Y.2.1 0 _ rfl
    have y1c := Y.2.1 1 _ rfl
    have y2c := Y.2.1 2 _ rfl
    have y3c := Y.2.1 3 _ rfl
    (try dsimp only)
    refine hK.out _ _ (by exact ⟨p0c, p1c, p2c, p3c, x0c, x1c, x2c, x3c, y0c, y1c, y2c, y3c⟩) (fun hHeld => ?_)
    clear hK K
    (refine wpAnyH_take (i := 4) (v := ?_) rfl (by kernel_rfl) (by kernel_rfl) (by kernel_rfl) (fun _ _ _ h => h) (Or.inl ⟨by rfl, ?_⟩) (by assumption) ?_; rotate_left; focus (intro w hSw; (try dsimp only at hSw); (try simp only [List.getElem_toArray, List.getElem_cons_zero, List.getElem_cons_succ]); go_simp; try with_reducible rfl)); (try simp only [List.getElem_toArray, List.getElem_cons_zero, List.getElem_cons_succ]); (try simp only [Act.put, List.setIfInBounds_toArray, List.set_cons_zero, List.set_cons_succ])
    refine wpAnyH_done (by kernel_rfl) ?_ _
    go_wp2
    go_ret
    exact ⟨rfl, (by repeat (first | (with_reducible first | exact Ext.refl _ | assumption | apply Ext.alloc | apply Ext.drew | apply Ext.drewN | refine Ext.setCell ?_ ?_ _ | refine Ext.trans ?_ (by assumption)) | (show _ ≤ _; first | omega | (dsimp only; omega) | (simp; done) | (simp; omega))))⟩

set_option maxRecDepth 100000 in
set_option maxHeartbeats 3200000 in
theorem laws_FnExactSealOk (root : ByteArray) (hh ep : Int) (r p : ByteArray) (s : SigV) (v1 v2 v3 : Value) (w : World) (_hroot : root.size ≤ maxLen) (hr : r.size ≤ maxLen) (hp : p.size ≤ maxLen) (h1 : Strs w v1 s.op) (h2 : Strs w v2 s.sh) (h3 : Strs w v3 s.si) (hs : SigFit s) (hT : Tabs w) :
    Calls Tryd.prog 4 #[.string root, .agg #[.int .i64 hh, .int .i64 ep, .string r, .string p, .int .i64 s.at_, v1, v2, v3]] w fun e w' => e = .returned (.bool true) ∧ Ext w w' := by
  obtain ⟨a1, c1, rfl⟩ := h1.form
  obtain ⟨a2, c2, rfl⟩ := h2.form
  obtain ⟨a3, c3, rfl⟩ := h3.form
  have HT := Lib.hid hT
  clear hT
  by_cases hbig : (1048576 : Int) < root.size
  ·
    go_enter Tryd.func4, Tryd.ntmps4
    go_wp2
    go_ret
    exact ⟨rfl, (by repeat (first | (with_reducible first | exact Ext.refl _ | assumption | apply Ext.alloc | apply Ext.drew | apply Ext.drewN | refine Ext.setCell ?_ ?_ _ | refine Ext.trans ?_ (by assumption)) | (show _ ≤ _; first | omega | (dsimp only; omega) | (simp; done) | (simp; omega))))⟩
  rcases szl_two (sealN r p s) 1048576 (by omega) with hz | ⟨z, hz, hz0, -, hy1⟩
  · have HZ := Lib.hid hz
    clear hz
    go_enter Tryd.func4, Tryd.ntmps4
    go_wp2_with fail
    have P : Bx (w.alloc (Obj.cells #[.int .i64 hh, .int .i64 ep, .string r, .string p, .int .i64 s.at_, .slice a1 s.op.length c1, .slice a2 s.sh.length c2, .slice a3 s.si.length c3] 37)) (w.heap.size) [.int .i64 hh, .int .i64 ep, .string r, .string p, .int .i64 s.at_, .slice a1 s.op.length c1, .slice a2 s.sh.length c2, .slice a3 s.si.length c3] := by
      have e := (Bx.new w #[.int .i64 hh, .int .i64 ep, .string r, .string p, .int .i64 s.at_, .slice a1 s.op.length c1, .slice a2 s.sh.length c2, .slice a3 s.si.length c3] 37)
      exact e
    have x0 : Ext w (w.alloc (Obj.cells #[.int .i64 hh, .int .i64 ep, .string r, .string p, .int .i64 s.at_, .slice a1 s.op.length c1, .slice a2 s.sh.length c2, .slice a3 s.si.length c3] 37)) := ((Ext.refl w).alloc _)
    generalize (w.alloc (Obj.cells #[.int .i64 hh, .int .i64 ep, .string r, .string p, .int .i64 s.at_, .slice a1 s.op.length c1, .slice a2 s.sh.length c2, .slice a3 s.si.length c3] 37)) = W0 at *
    refine (laws_szSeal hh ep r p _ _ _ s _ _ (h1.ext (by repeat (first | (with_reducible first | exact Ext.refl _ | assumption | apply Ext.alloc | apply Ext.drew | apply Ext.drewN | refine Ext.setCell ?_ ?_ _ | refine Ext.trans ?_ (by assumption)) | (show _ ≤ _; first | omega | (dsimp only; omega) | (simp; done) | (simp; omega))))) (h2.ext (by repeat (first | (with_reducible first | exact Ext.refl _ | assumption | apply Ext.alloc | apply Ext.drew | apply Ext.drewN | refine Ext.setCell ?_ ?_ _ | refine Ext.trans ?_ (by assumption)) | (show _ ≤ _; first | omega | (dsimp only; omega) | (simp; done) | (simp; omega))))) (h3.ext (by repeat (first | (with_reducible first | exact Ext.refl _ | assumption | apply Ext.alloc | apply Ext.drew | apply Ext.drewN | refine Ext.setCell ?_ ?_ _ | refine Ext.trans ?_ (by assumption)) | (show _ ≤ _; first | omega | (dsimp only; omega) | (simp; done) | (simp; omega))))) hr hp hs (by omega)).mono ?_
    rw [HZ.out]
    rintro e w1 ⟨rfl, x1⟩
    have y1 : Ext W0 w1 := (by repeat (first | (with_reducible first | exact Ext.refl _ | assumption | apply Ext.alloc | apply Ext.drew | apply Ext.drewN | refine Ext.setCell ?_ ?_ _ | refine Ext.trans ?_ (by assumption)) | (show _ ≤ _; first | omega | (dsimp only; omega) | (simp; done) | (simp; omega))))
    replace P := P.ext y1
    have p0c := P.2.1 0 _ rfl
    have p1c := P.2.1 1 _ rfl
    have p2c := P.2.1 2 _ rfl
    have p3c := P.2.1 3 _ rfl
    have p4c := P.2.1 4 _ rfl
    have p5c := P.2.1 5 _ rfl
    have p6c := P.2.1 6 _ rfl
    have p7c := P.2.1 7 _ rfl
    go_wp2
    go_ret
    exact ⟨rfl, (by repeat (first | (with_reducible first | exact Ext.refl _ | assumption | apply Ext.alloc | apply Ext.drew | apply Ext.drewN | refine Ext.setCell ?_ ?_ _ | refine Ext.trans ?_ (by assumption)) | (show _ ≤ _; first | omega | (dsimp only; omega) | (simp; done) | (simp; omega))))⟩
  · have HZ := Lib.hid hz
    have l1 : s.op.length ≤ 1099511627776 := by have := hy1 (strN s.op) (by simp [sealN, sigN]); unfold strN at this; omega
    have l2 : s.sh.length ≤ 1099511627776 := by have := hy1 (strN s.sh) (by simp [sealN, sigN]); unfold strN at this; omega
    have l3 : s.si.length ≤ 1099511627776 := by have := hy1 (strN s.si) (by simp [sealN, sigN]); unfold strN at this; omega
    clear hz hy1
    go_enter Tryd.func4, Tryd.ntmps4
    go_wp2_with fail
    have P : Bx (w.alloc (Obj.cells #[.int .i64 hh, .int .i64 ep, .string r, .string p, .int .i64 s.at_, .slice a1 s.op.length c1, .slice a2 s.sh.length c2, .slice a3 s.si.length c3] 37)) (w.heap.size) [.int .i64 hh, .int .i64 ep, .string r, .string p, .int .i64 s.at_, .slice a1 s.op.length c1, .slice a2 s.sh.length c2, .slice a3 s.si.length c3] := by
      have e := (Bx.new w #[.int .i64 hh, .int .i64 ep, .string r, .string p, .int .i64 s.at_, .slice a1 s.op.length c1, .slice a2 s.sh.length c2, .slice a3 s.si.length c3] 37)
      exact e
    have x0 : Ext w (w.alloc (Obj.cells #[.int .i64 hh, .int .i64 ep, .string r, .string p, .int .i64 s.at_, .slice a1 s.op.length c1, .slice a2 s.sh.length c2, .slice a3 s.si.length c3] 37)) := ((Ext.refl w).alloc _)
    generalize (w.alloc (Obj.cells #[.int .i64 hh, .int .i64 ep, .string r, .string p, .int .i64 s.at_, .slice a1 s.op.length c1, .slice a2 s.sh.length c2, .slice a3 s.si.length c3] 37)) = W0 at *
    refine (laws_szSeal hh ep r p _ _ _ s _ _ (h1.ext (by repeat (first | (with_reducible first | exact Ext.refl _ | assumption | apply Ext.alloc | apply Ext.drew | apply Ext.drewN | refine Ext.setCell ?_ ?_ _ | refine Ext.trans ?_ (by assumption)) | (show _ ≤ _; first | omega | (dsimp only; omega) | (simp; done) | (simp; omega))))) (h2.ext (by repeat (first | (with_reducible first | exact Ext.refl _ | assumption | apply Ext.alloc | apply Ext.drew | apply Ext.drewN | refine Ext.setCell ?_ ?_ _ | refine Ext.trans ?_ (by assumption)) | (show _ ≤ _; first | omega | (dsimp only; omega) | (simp; done) | (simp; omega))))) (h3.ext (by repeat (first | (with_reducible first | exact Ext.refl _ | assumption | apply Ext.alloc | apply Ext.drew | apply Ext.drewN | refine Ext.setCell ?_ ?_ _ | refine Ext.trans ?_ (by assumption)) | (show _ ≤ _; first | omega | (dsimp only; omega) | (simp; done) | (simp; omega))))) hr hp hs (by omega)).mono ?_
    rw [HZ.out]
    rintro e w1 ⟨rfl, x1⟩
    have y1 : Ext W0 w1 := (by repeat (first | (with_reducible first | exact Ext.refl _ | assumption | apply Ext.alloc | apply Ext.drew | apply Ext.drewN | refine Ext.setCell ?_ ?_ _ | refine Ext.trans ?_ (by assumption)) | (show _ ≤ _; first | omega | (dsimp only; omega) | (simp; done) | (simp; omega))))
    replace P := P.ext y1
    have p0c := P.2.1 0 _ rfl
    have p1c := P.2.1 1 _ rfl
    have p2c := P.2.1 2 _ rfl
    have p3c := P.2.1 3 _ rfl
    have p4c := P.2.1 4 _ rfl
    have p5c := P.2.1 5 _ rfl
    have p6c := P.2.1 6 _ rfl
    have p7c := P.2.1 7 _ rfl
    go_wp2_with fail
    refine (laws_toSeal hh ep r p _ _ _ s _ (h1.ext (by repeat (first | (with_reducible first | exact Ext.refl _ | assumption | apply Ext.alloc | apply Ext.drew | apply Ext.drewN | refine Ext.setCell ?_ ?_ _ | refine Ext.trans ?_ (by assumption)) | (show _ ≤ _; first | omega | (dsimp only; omega) | (simp; done) | (simp; omega))))) (h2.ext (by repeat (first | (with_reducible first | exact Ext.refl _ | assumption | apply Ext.alloc | apply Ext.drew | apply Ext.drewN | refine Ext.setCell ?_ ?_ _ | refine Ext.trans ?_ (by assumption)) | (show _ ≤ _; first | omega | (dsimp only; omega) | (simp; done) | (simp; omega))))) (h3.ext (by repeat (first | (with_reducible first | exact Ext.refl _ | assumption | apply Ext.alloc | apply Ext.drew | apply Ext.drewN | refine Ext.setCell ?_ ?_ _ | refine Ext.trans ?_ (by assumption)) | (show _ ≤ _; first | omega | (dsimp only; omega) | (simp; done) | (simp; omega))))) l1 l2 l3).mono ?_
    rintro e w4 ⟨u1, u2, u3, rfl, o1, o2, o3, x4⟩
    obtain ⟨m1, k1, rfl⟩ := o1.strs.form
    obtain ⟨m2, k2, rfl⟩ := o2.strs.form
    obtain ⟨m3, k3, rfl⟩ := o3.strs.form
    have s41 := o1.strs
    have s42 := o2.strs
    have s43 := o3.strs
    clear o1 o2 o3
    have y4 : Ext w1 w4 := (by repeat (first | (with_reducible first | exact Ext.refl _ | assumption | apply Ext.alloc | apply Ext.drew | apply Ext.drewN | refine Ext.setCell ?_ ?_ _ | refine Ext.trans ?_ (by assumption)) | (show _ ≤ _; first | omega | (dsimp only; omega) | (simp; done) | (simp; omega))))
    replace P := P.ext y4
    have p0c := P.2.1 0 _ rfl
    have p1c := P.2.1 1 _ rfl
    have p2c := P.2.1 2 _ rfl
    have p3c := P.2.1 3 _ rfl
    have p4c := P.2.1 4 _ rfl
    have p5c := P.2.1 5 _ rfl
    have p6c := P.2.1 6 _ rfl
    have p7c := P.2.1 7 _ rfl
    go_wp2_with fail
    refine (spec_SealOk root hh ep r p _ _ _ s _ (s41.ext (by repeat (first | (with_reducible first | exact Ext.refl _ | assumption | apply Ext.alloc | apply Ext.drew | apply Ext.drewN | refine Ext.setCell ?_ ?_ _ | refine Ext.trans ?_ (by assumption)) | (show _ ≤ _; first | omega | (dsimp only; omega) | (simp; done) | (simp; omega))))) (s42.ext (by repeat (first | (with_reducible first | exact Ext.refl _ | assumption | apply Ext.alloc | apply Ext.drew | apply Ext.drewN | refine Ext.setCell ?_ ?_ _ | refine Ext.trans ?_ (by assumption)) | (show _ ≤ _; first | omega | (dsimp only; omega) | (simp; done) | (simp; omega))))) (s43.ext (by repeat (first | (with_reducible first | exact Ext.refl _ | assumption | apply Ext.alloc | apply Ext.drew | apply Ext.drewN | refine Ext.setCell ?_ ?_ _ | refine Ext.trans ?_ (by assumption)) | (show _ ≤ _; first | omega | (dsimp only; omega) | (simp; done) | (simp; omega))))) hs).mono ?_
    rintro e w5 ⟨rfl, x5⟩
    have y5 : Ext w4 w5 := (by repeat (first | (with_reducible first | exact Ext.refl _ | assumption | apply Ext.alloc | apply Ext.drew | apply Ext.drewN | refine Ext.setCell ?_ ?_ _ | refine Ext.trans ?_ (by assumption)) | (show _ ≤ _; first | omega | (dsimp only; omega) | (simp; done) | (simp; omega))))
    replace P := P.ext y5
    have p0c := P.2.1 0 _ rfl
    have p1c := P.2.1 1 _ rfl
    have p2c := P.2.1 2 _ rfl
    have p3c := P.2.1 3 _ rfl
    have p4c := P.2.1 4 _ rfl
    have p5c := P.2.1 5 _ rfl
    have p6c := P.2.1 6 _ rfl
    have p7c := P.2.1 7 _ rfl
    generalize hR : sealOkB root hh ep r p s = R at *
    have HB := Lib.hid hR
    clear hR
    go_wp2_with fail
    refine (laws_toSeal hh ep r p _ _ _ s _ (h1.ext (by repeat (first | (with_reducible first | exact Ext.refl _ | assumption | apply Ext.alloc | apply Ext.drew | apply Ext.drewN | refine Ext.setCell ?_ ?_ _ | refine Ext.trans ?_ (by assumption)) | (show _ ≤ _; first | omega | (dsimp only; omega) | (simp; done) | (simp; omega))))) (h2.ext (by repeat (first | (with_reducible first | exact Ext.refl _ | assumption | apply Ext.alloc | apply Ext.drew | apply Ext.drewN | refine Ext.setCell ?_ ?_ _ | refine Ext.trans ?_ (by assumption)) | (show _ ≤ _; first | omega | (dsimp only; omega) | (simp; done) | (simp; omega))))) (h3.ext (by repeat (first | (with_reducible first | exact Ext.refl _ | assumption | apply Ext.alloc | apply Ext.drew | apply Ext.drewN | refine Ext.setCell ?_ ?_ _ | refine Ext.trans ?_ (by assumption)) | (show _ ≤ _; first | omega | (dsimp only; omega) | (simp; done) | (simp; omega))))) l1 l2 l3).mono ?_
    rintro e w6 ⟨u1, u2, u3, rfl, o1, o2, o3, x6⟩
    obtain ⟨b1, d1, rfl⟩ := o1.strs.form
    obtain ⟨b2, d2, rfl⟩ := o2.strs.form
    obtain ⟨b3, d3, rfl⟩ := o3.strs.form
    have s61 := o1.strs
    have s62 := o2.strs
    have s63 := o3.strs
    clear o1 o2 o3
    have y6 : Ext w5 w6 := (by repeat (first | (with_reducible first | exact Ext.refl _ | assumption | apply Ext.alloc | apply Ext.drew | apply Ext.drewN | refine Ext.setCell ?_ ?_ _ | refine Ext.trans ?_ (by assumption)) | (show _ ≤ _; first | omega | (dsimp only; omega) | (simp; done) | (simp; omega))))
    replace P := P.ext y6
    have p0c := P.2.1 0 _ rfl
    have p1c := P.2.1 1 _ rfl
    have p2c := P.2.1 2 _ rfl
    have p3c := P.2.1 3 _ rfl
    have p4c := P.2.1 4 _ rfl
    have p5c := P.2.1 5 _ rfl
    have p6c := P.2.1 6 _ rfl
    have p7c := P.2.1 7 _ rfl
    go_wp2_with fail
    have Y := Bx.new w6 #[.int .i64 hh, .int .i64 ep, .string r, .string p, .int .i64 s.at_, .slice b1 s.op.length d1, .slice b2 s.sh.length d2, .slice b3 s.si.length d3] 41
    have y6b : Ext w6 (w6.alloc (Obj.cells #[.int .i64 hh, .int .i64 ep, .string r, .string p, .int .i64 s.at_, .slice b1 s.op.length d1, .slice b2 s.sh.length d2, .slice b3 s.si.length d3] 41)) := (Ext.refl w6).alloc _
    replace P := P.ext y6b
    generalize (w6.alloc (Obj.cells #[.int .i64 hh, .int .i64 ep, .string r, .string p, .int .i64 s.at_, .slice b1 s.op.length d1, .slice b2 s.sh.length d2, .slice b3 s.si.length d3] 41)) = W6 at *
    have p0c := P.2.1 0 _ rfl
    have p1c := P.2.1 1 _ rfl
    have p2c := P.2.1 2 _ rfl
    have p3c := P.2.1 3 _ rfl
    have p4c := P.2.1 4 _ rfl
    have p5c := P.2.1 5 _ rfl
    have p6c := P.2.1 6 _ rfl
    have p7c := P.2.1 7 _ rfl
    have y0c := Y.2.1 0 _ rfl
    have y1c := Y.2.1 1 _ rfl
    have y2c := Y.2.1 2 _ rfl
    have y3c := Y.2.1 3 _ rfl
    have y4c := Y.2.1 4 _ rfl
    have y5c := Y.2.1 5 _ rfl
    have y6c := Y.2.1 6 _ rfl
    have y7c := Y.2.1 7 _ rfl
    refine (impl_SealOk root hh ep r p _ _ _ s _ (s61.ext (by repeat (first | (with_reducible first | exact Ext.refl _ | assumption | apply Ext.alloc | apply Ext.drew | apply Ext.drewN | refine Ext.setCell ?_ ?_ _ | refine Ext.trans ?_ (by assumption)) | (show _ ≤ _; first | omega | (dsimp only; omega) | (simp; done) | (simp; omega))))) (s62.ext (by repeat (first | (with_reducible first | exact Ext.refl _ | assumption | apply Ext.alloc | apply Ext.drew | apply Ext.drewN | refine Ext.setCell ?_ ?_ _ | refine Ext.trans ?_ (by assumption)) | (show _ ≤ _; first | omega | (dsimp only; omega) | (simp; done) | (simp; omega))))) (s63.ext (by repeat (first | (with_reducible first | exact Ext.refl _ | assumption | apply Ext.alloc | apply Ext.drew | apply Ext.drewN | refine Ext.setCell ?_ ?_ _ | refine Ext.trans ?_ (by assumption)) | (show _ ≤ _; first | omega | (dsimp only; omega) | (simp; done) | (simp; omega))))) hs (by exact HT.out.ext (by repeat (first | (with_reducible first | exact Ext.refl _ | assumption | apply Ext.alloc | apply Ext.drew | apply Ext.drewN | refine Ext.setCell ?_ ?_ _ | refine Ext.trans ?_ (by assumption)) | (show _ ≤ _; first | omega | (dsimp only; omega) | (simp; done) | (simp; omega)))))).mono ?_
    rw [HB.out]
    rintro e w8 ⟨rfl, x8⟩
    have y8 : Ext W6 w8 := (by repeat (first | (with_reducible first | exact Ext.refl _ | assumption | apply Ext.alloc | apply Ext.drew | apply Ext.drewN | refine Ext.setCell ?_ ?_ _ | refine Ext.trans ?_ (by assumption)) | (show _ ≤ _; first | omega | (dsimp only; omega) | (simp; done) | (simp; omega))))
    replace P := P.ext y8
    replace Y := Y.ext y8
    have p0c := P.2.1 0 _ rfl
    have p1c := P.2.1 1 _ rfl
    have p2c := P.2.1 2 _ rfl
    have p3c := P.2.1 3 _ rfl
    have p4c := P.2.1 4 _ rfl
    have p5c := P.2.1 5 _ rfl
    have p6c := P.2.1 6 _ rfl
    have p7c := P.2.1 7 _ rfl
    have y0c := Y.2.1 0 _ rfl
    have y1c := Y.2.1 1 _ rfl
    have y2c := Y.2.1 2 _ rfl
    have y3c := Y.2.1 3 _ rfl
    have y4c := Y.2.1 4 _ rfl
    have y5c := Y.2.1 5 _ rfl
    have y6c := Y.2.1 6 _ rfl
    have y7c := Y.2.1 7 _ rfl
    have hself : (R != R) = false := by cases R <;> rfl
    go_wp2_with fail
    refine wp_region_held_drew (S := (fun W => W.cell? ⟨w.heap.size, 0, none⟩ = some (.int .i64 hh) ∧ W.cell? ⟨w.heap.size, 1, none⟩ = some (.int .i64 ep) ∧ W.cell? ⟨w.heap.size, 2, none⟩ = some (.string r) ∧ W.cell? ⟨w.heap.size, 3, none⟩ = some (.string p) ∧ W.cell? ⟨w.heap.size, 4, none⟩ = some (.int .i64 s.at_) ∧ W.cell? ⟨w.heap.size, 5, none⟩ = some (.slice a1 s.op.length c1) ∧ W.cell? ⟨w.heap.size, 6, none⟩ = some (.slice a2 s.sh.length c2) ∧ W.cell? ⟨w.heap.size, 7, none⟩ = some (.slice a3 s.si.length c3) ∧ W.cell? ⟨w6.heap.size, 0, none⟩ = some (.int .i64 hh) ∧ W.cell? ⟨w6.heap.size, 1, none⟩ = some (.int .i64 ep) ∧ W.cell? ⟨w6.heap.size, 2, none⟩ = some (.string r) ∧ W.cell? ⟨w6.heap.size, 3, none⟩ = some (.string p) ∧ W.cell? ⟨w6.heap.size, 4, none⟩ = some (.int .i64 s.at_) ∧ W.cell? ⟨w6.heap.size, 5, none⟩ = some (.slice b1 s.op.length d1) ∧ W.cell? ⟨w6.heap.size, 6, none⟩ = some (.slice b2 s.sh.length d2) ∧ W.cell? ⟨w6.heap.size, 7, none⟩ = some (.slice b3 s.si.length d3))) (by kernel_rfl) (by exact ⟨p0c, p1c, p2c, p3c, p4c, p5c, p6c, p7c, y0c, y1c, y2c, y3c, y4c, y5c, y6c, y7c⟩) (fun hHeld => ?_)
    (refine wpAnyH_take (i := 0) (v := ?_) rfl (by kernel_rfl) (by kernel_rfl) (by kernel_rfl) (fun _ _ _ h => h) (Or.inl ⟨by rfl, ?_⟩) (by assumption) ?_; rotate_left; focus (intro w hSw; (try dsimp only at hSw); (try simp only [List.getElem_toArray, List.getElem_cons_zero]); go_simp; try with_reducible rfl)); (try simp only [List.getElem_toArray, List.getElem_cons_zero]); (try simp only [Act.put, List.setIfInBounds_toArray, List.set_cons_zero, List.set_cons_succ])
    (refine wpAnyH_take (i := 1) (v := ?_) rfl (by kernel_rfl) (by kernel_rfl) (by kernel_rfl) (fun _ _ _ h => h) (Or.inl ⟨by rfl, ?_⟩) (by assumption) ?_; rotate_left; focus (intro w hSw; (try dsimp only at hSw); (try simp only [List.getElem_toArray, List.getElem_cons_zero, List.getElem_cons_succ]); go_simp; try with_reducible rfl)); (try simp only [List.getElem_toArray, List.getElem_cons_zero, List.getElem_cons_succ]); (try simp only [Act.put, List.setIfInBounds_toArray, List.set_cons_zero, List.set_cons_succ])
    (refine wpAnyH_ready (rs := [2]) (by kernel_rfl) (by simp) ?_; refine AllReadyH.cons rfl (fun K hK => ?_) AllReadyH.nil; (try simp only [List.getElem_toArray, List.getElem_cons_zero, List.getElem_cons_succ]))
    go_simp
    go_at_call 17
    refine (laws_toSeal hh ep r p _ _ _ s _ (h1.ext (by repeat (first | (with_reducible first | exact Ext.refl _ | assumption | apply Ext.alloc | apply Ext.drew | apply Ext.drewN | refine Ext.setCell ?_ ?_ _ | refine Ext.trans ?_ (by assumption)) | (show _ ≤ _; first | omega | (dsimp only; omega) | (simp; done) | (simp; omega))))) (h2.ext (by repeat (first | (with_reducible first | exact Ext.refl _ | assumption | apply Ext.alloc | apply Ext.drew | apply Ext.drewN | refine Ext.setCell ?_ ?_ _ | refine Ext.trans ?_ (by assumption)) | (show _ ≤ _; first | omega | (dsimp only; omega) | (simp; done) | (simp; omega))))) (h3.ext (by repeat (first | (with_reducible first | exact Ext.refl _ | assumption | apply Ext.alloc | apply Ext.drew | apply Ext.drewN | refine Ext.setCell ?_ ?_ _ | refine Ext.trans ?_ (by assumption)) | (show _ ≤ _; first | omega | (dsimp only; omega) | (simp; done) | (simp; omega))))) l1 l2 l3).mono ?_
    rintro e w9 ⟨u1, u2, u3, rfl, o1, o2, o3, x9⟩
    obtain ⟨q1, f1, rfl⟩ := o1.strs.form
    obtain ⟨q2, f2, rfl⟩ := o2.strs.form
    obtain ⟨q3, f3, rfl⟩ := o3.strs.form
    have s91 := o1.strs
    have s92 := o2.strs
    have s93 := o3.strs
    clear o1 o2 o3
    have y9 : Ext w8 w9 := (by repeat (first | (with_reducible first | exact Ext.refl _ | assumption | apply Ext.alloc | apply Ext.drew | apply Ext.drewN | refine Ext.setCell ?_ ?_ _ | refine Ext.trans ?_ (by assumption)) | (show _ ≤ _; first | omega | (dsimp only; omega) | (simp; done) | (simp; omega))))
    replace P := P.ext y9
    replace Y := Y.ext y9
    have p0c := P.2.1 0 _ rfl
    have p1c := P.2.1 1 _ rfl
    have p2c := P.2.1 2 _ rfl
    have p3c := P.2.1 3 _ rfl
    have p4c := P.2.1 4 _ rfl
    have p5c := P.2.1 5 _ rfl
    have p6c := P.2.1 6 _ rfl
    have p7c := P.2.1 7 _ rfl
    have y0c := Y.2.1 0 _ rfl
    have y1c := Y.2.1 1 _ rfl
    have y2c := Y.2.1 2 _ rfl
    have y3c := Y.2.1 3 _ rfl
    have y4c := Y.2.1 4 _ rfl
    have y5c := Y.2.1 5 _ rfl
    have y6c := Y.2.1 6 _ rfl
    have y7c := Y.2.1 7 _ rfl
    (try dsimp only)
    refine hK.out _ _ (by exact ⟨p0c, p1c, p2c, p3c, p4c, p5c, p6c, p7c, y0c, y1c, y2c, y3c, y4c, y5c, y6c, y7c⟩) (fun hHeld => ?_)
    clear hK K
    (refine wpAnyH_ready (rs := [3]) (by kernel_rfl) (by simp) ?_; refine AllReadyH.cons rfl (fun K hK => ?_) AllReadyH.nil; (try simp only [List.getElem_toArray, List.getElem_cons_zero, List.getElem_cons_succ]))
    go_simp
    go_at_call 19
    refine (laws_eqSealT hh ep r p _ _ _ _ _ _ s _ (s61.ext (by repeat (first | (with_reducible first | exact Ext.refl _ | assumption | apply Ext.alloc | apply Ext.drew | apply Ext.drewN | refine Ext.setCell ?_ ?_ _ | refine Ext.trans ?_ (by assumption)) | (show _ ≤ _; first | omega | (dsimp only; omega) | (simp; done) | (simp; omega))))) (s62.ext (by repeat (first | (with_reducible first | exact Ext.refl _ | assumption | apply Ext.alloc | apply Ext.drew | apply Ext.drewN | refine Ext.setCell ?_ ?_ _ | refine Ext.trans ?_ (by assumption)) | (show _ ≤ _; first | omega | (dsimp only; omega) | (simp; done) | (simp; omega))))) (s63.ext (by repeat (first | (with_reducible first | exact Ext.refl _ | assumption | apply Ext.alloc | apply Ext.drew | apply Ext.drewN | refine Ext.setCell ?_ ?_ _ | refine Ext.trans ?_ (by assumption)) | (show _ ≤ _; first | omega | (dsimp only; omega) | (simp; done) | (simp; omega))))) (s91.ext (by repeat (first | (with_reducible first | exact Ext.refl _ | assumption | apply Ext.alloc | apply Ext.drew | apply Ext.drewN | refine Ext.setCell ?_ ?_ _ | refine Ext.trans ?_ (by assumption)) | (show _ ≤ _; first | omega | (dsimp only; omega) | (simp; done) | (simp; omega))))) (s92.ext (by repeat (first | (with_reducible first | exact Ext.refl _ | assumption | apply Ext.alloc | apply Ext.drew | apply Ext.drewN | refine Ext.setCell ?_ ?_ _ | refine Ext.trans ?_ (by assumption)) | (show _ ≤ _; first | omega | (dsimp only; omega) | (simp; done) | (simp; omega))))) (s93.ext (by repeat (first | (with_reducible first | exact Ext.refl _ | assumption | apply Ext.alloc | apply Ext.drew | apply Ext.drewN | refine Ext.setCell ?_ ?_ _ | refine Ext.trans ?_ (by assumption)) | (show _ ≤ _; first | omega | (dsimp only; omega) | (simp; done) | (simp; omega)))))).mono ?_
    rintro e w10 ⟨rfl, x10⟩
    have y10 : Ext w9 w10 := (by repeat (first | (with_reducible first | exact Ext.refl _ | assumption | apply Ext.alloc | apply Ext.drew | apply Ext.drewN | refine Ext.setCell ?_ ?_ _ | refine Ext.trans ?_ (by assumption)) | (show _ ≤ _; first | omega | (dsimp only; omega) | (simp; done) | (simp; omega))))
    replace P := P.ext y10
    replace Y := Y.ext y10
    have p0c := P.2.1 0 _ rfl
    have p1c := P.2.1 1 _ rfl
    have p2c := P.2.1 2 _ rfl
    have p3c := P.2.1 3 _ rfl
    have p4c := P.2.1 4 _ rfl
    have p5c := P.2.1 5 _ rfl
    have p6c := P.2.1 6 _ rfl
    have p7c := P.2.1 7 _ rfl
    have y0c := Y.2.1 0 _ rfl
    have y1c := Y.2.1 1 _ rfl
    have y2c := Y.2.1 2 _ rfl
    have y3c := Y.2.1 3 _ rfl
    have y4c := Y.2.1 4 _ rfl
    have y5c := Y.2.1 5 _ rfl
    have y6c := Y.2.1 6 _ rfl
    have y7c := Y.2.1 7 _ rfl
    (try dsimp only)
    refine hK.out _ _ (by exact ⟨p0c, p1c, p2c, p3c, p4c, p5c, p6c, p7c, y0c, y1c, y2c, y3c, y4c, y5c, y6c, y7c⟩) (fun hHeld => ?_)
    clear hK K
    (refine wpAnyH_take (i := 4) (v := ?_) rfl (by kernel_rfl) (by kernel_rfl) (by kernel_rfl) (fun _ _ _ h => h) (Or.inl ⟨by rfl, ?_⟩) (by assumption) ?_; rotate_left; focus (intro w hSw; (try dsimp only at hSw); (try simp only [List.getElem_toArray, List.getElem_cons_zero, List.getElem_cons_succ]); go_simp; try with_reducible rfl)); (try simp only [List.getElem_toArray, List.getElem_cons_zero, List.getElem_cons_succ]); (try simp only [Act.put, List.setIfInBounds_toArray, List.set_cons_zero, List.set_cons_succ])
    refine wpAnyH_done (by kernel_rfl) ?_ _
    go_wp2
    go_ret
    exact ⟨rfl, (by repeat (first | (with_reducible first | exact Ext.refl _ | assumption | apply Ext.alloc | apply Ext.drew | apply Ext.drewN | refine Ext.setCell ?_ ?_ _ | refine Ext.trans ?_ (by assumption)) | (show _ ≤ _; first | omega | (dsimp only; omega) | (simp; done) | (simp; omega))))⟩
end Go.Proofs.YtniimhfelnjepaaDoor
