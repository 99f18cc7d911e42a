/- Sound seals, the implementation. -/
import Derived.Test.YtckipgijfgeghaaGreatDoorSigW
import Derived.Test.YtckipgijfgeghaaGreatDoorHHash
import Derived.Test.YtckipgijfgeghaaGreatDoorSeal
import Derived.Test.YtckipgijfgeghaaGreatDoorStTD
namespace Go.Proofs.YtckipgijfgeghaaGreatDoor
open Go.RowKit

set_option maxRecDepth 100000 in
set_option maxHeartbeats 3200000 in
theorem impl_SealOk (root : ByteArray) (hh ep : Int) (r p : ByteArray) (v1 v2 v3 : Value) (s : SigV) (w : World) (h1 : Strs w v1 s.op) (h2 : Strs w v2 s.sh) (h3 : Strs w v3 s.si) (hs : SigFit s) (hT : Tabs w) :
    Calls Tryz.prog 35 #[.string root, .agg #[.int .i64 hh, .int .i64 ep, .string r, .string p, .int .i64 s.at_, v1, v2, v3]] w fun e w' => e = .returned (.bool (sealOkB root hh ep r p s)) ∧ Ext w w' := by
  obtain ⟨a1, c1, rfl⟩ := h1.form
  obtain ⟨a2, c2, rfl⟩ := h2.form
  obtain ⟨a3, c3, rfl⟩ := h3.form
  have HT := Lib.hid hT
  clear hT
  cases hh' : headOk hh ep r p
  · have HB := Lib.hid (show sealOkB root hh ep r p s = false by rw [sealOkB, hh']; rfl)
    have HH := Lib.hid hh'
    clear hh'
    go_enter Tryz.func35, Tryz.ntmps35
    go_wp2
    have P : Bx (w.alloc (Obj.cells #[.int .i64 hh, .int .i64 ep, .string r, .string p, .int .i64 s.at_, .slice a1 s.op.length c1, .slice a2 s.sh.length c2, .slice a3 s.si.length c3] 49)) w.heap.size [.int .i64 hh, .int .i64 ep, .string r, .string p, .int .i64 s.at_, .slice a1 s.op.length c1, .slice a2 s.sh.length c2, .slice a3 s.si.length c3] := Bx.new w _ _
    have x0 : Ext w (w.alloc (Obj.cells #[.int .i64 hh, .int .i64 ep, .string r, .string p, .int .i64 s.at_, .slice a1 s.op.length c1, .slice a2 s.sh.length c2, .slice a3 s.si.length c3] 49)) := (Ext.refl w).alloc _
    generalize (w.alloc (Obj.cells #[.int .i64 hh, .int .i64 ep, .string r, .string p, .int .i64 s.at_, .slice a1 s.op.length c1, .slice a2 s.sh.length c2, .slice a3 s.si.length c3] 49)) = W0 at *
    have p0c := P.2.1 0 _ rfl
    have p1c := P.2.1 1 _ rfl
    have p2c := P.2.1 2 _ rfl
    have p3c := P.2.1 3 _ rfl
    have p4c := P.2.1 4 _ rfl
    have p5c := P.2.1 5 _ rfl
    have p6c := P.2.1 6 _ rfl
    have p7c := P.2.1 7 _ rfl
    refine wp_region_held_drew (S := (fun W => W.cell? ⟨w.heap.size, 0, none⟩ = some (.int .i64 hh) ∧ W.cell? ⟨w.heap.size, 1, none⟩ = some (.int .i64 ep) ∧ W.cell? ⟨w.heap.size, 2, none⟩ = some (.string r) ∧ W.cell? ⟨w.heap.size, 3, none⟩ = some (.string p) ∧ W.cell? ⟨w.heap.size, 4, none⟩ = some (.int .i64 s.at_) ∧ W.cell? ⟨w.heap.size, 5, none⟩ = some (.slice a1 s.op.length c1) ∧ W.cell? ⟨w.heap.size, 6, none⟩ = some (.slice a2 s.sh.length c2) ∧ W.cell? ⟨w.heap.size, 7, none⟩ = some (.slice a3 s.si.length c3))) (by kernel_rfl) (by exact ⟨p0c, p1c, p2c, p3c, p4c, p5c, p6c, p7c⟩) (fun hHeld => ?_)
    (refine wpAnyH_take (i := 0) (v := ?_) rfl (by kernel_rfl) (by kernel_rfl) (by kernel_rfl) (fun _ _ _ h => h) (Or.inl ⟨by rfl, ?_⟩) (by assumption) ?_; rotate_left; focus (intro w hSw; (try dsimp only at hSw); (try simp only [zk1, zk2]); go_simp; try with_reducible rfl)); (try simp only [zk1, zk2]); (try simp only [Act.put, zk4, zk5, zk6])
    (refine wpAnyH_take (i := 1) (v := ?_) rfl (by kernel_rfl) (by kernel_rfl) (by kernel_rfl) (fun _ _ _ h => h) (Or.inl ⟨by rfl, ?_⟩) (by assumption) ?_; rotate_left; focus (intro w hSw; (try dsimp only at hSw); (try simp only [zk1, zk2, zk3]); go_simp; try with_reducible rfl)); (try simp only [zk1, zk2, zk3]); (try simp only [Act.put, zk4, zk5, zk6])
    (refine wpAnyH_ready (rs := [2]) (by kernel_rfl) (by simp) ?_; refine AllReadyH.cons rfl (fun K hK => ?_) AllReadyH.nil; (try simp only [zk1, zk2, zk3]))
    go_simp
    go_at_call 76
    refine (impl_HeadOk _ _ _ _ _).mono ?_
    rw [HH.out]
    rintro e wa ⟨rfl, xa⟩
    have ya : Ext W0 wa := (by repeat (first | (with_reducible first | exact Ext.refl _ | assumption | apply Ext.alloc | apply Ext.drew | apply Ext.drewN | refine Ext.setCell ?_ ?_ _ | refine Ext.trans ?_ (by assumption)) | (show _ ≤ _; first | omega | (dsimp only; omega) | (simp; done) | (simp; omega))))
    replace P := P.ext ya
    have p0c := P.2.1 0 _ rfl
    have p1c := P.2.1 1 _ rfl
    have p2c := P.2.1 2 _ rfl
    have p3c := P.2.1 3 _ rfl
    have p4c := P.2.1 4 _ rfl
    have p5c := P.2.1 5 _ rfl
    have p6c := P.2.1 6 _ rfl
    have p7c := P.2.1 7 _ rfl
    (try dsimp only)
    refine hK.out _ _ (by exact ⟨p0c, p1c, p2c, p3c, p4c, p5c, p6c, p7c⟩) (fun hHeld => ?_)
    clear hK K
    (refine wpAnyH_take (i := 3) (v := ?_) rfl (by kernel_rfl) (by kernel_rfl) (by kernel_rfl) (fun _ _ _ h => h) (Or.inl ⟨by rfl, ?_⟩) (by assumption) ?_; rotate_left; focus (intro w hSw; (try dsimp only at hSw); (try simp only [zk1, zk2, zk3]); go_simp; try with_reducible rfl)); (try simp only [zk1, zk2, zk3]); (try simp only [Act.put, zk4, zk5, zk6])
    (refine wpAnyH_take (i := 4) rfl (by kernel_rfl) (by kernel_rfl) (by kernel_rfl) (fun _ _ _ h => h) (Or.inr ⟨by rfl, rfl⟩) (by assumption) ?_); (try simp only [zk1, zk2, zk3]); (try simp only [Act.put, zk4, zk5, zk6])
    (refine wpAnyH_take (i := 5) rfl (by kernel_rfl) (by kernel_rfl) (by kernel_rfl) (fun _ _ _ h => h) (Or.inr ⟨by rfl, rfl⟩) (by assumption) ?_); (try simp only [zk1, zk2, zk3]); (try simp only [Act.put, zk4, zk5, zk6])
    (refine wpAnyH_take (i := 6) rfl (by kernel_rfl) (by kernel_rfl) (by kernel_rfl) (fun _ _ _ h => h) (Or.inr ⟨by rfl, rfl⟩) (by assumption) ?_); (try simp only [zk1, zk2, zk3]); (try simp only [Act.put, zk4, zk5, zk6])
    (refine wpAnyH_take (i := 7) rfl (by kernel_rfl) (by kernel_rfl) (by kernel_rfl) (fun _ _ _ h => h) (Or.inr ⟨by rfl, rfl⟩) (by assumption) ?_); (try simp only [zk1, zk2, zk3]); (try simp only [Act.put, zk4, zk5, zk6])
    (refine wpAnyH_take (i := 8) rfl (by kernel_rfl) (by kernel_rfl) (by kernel_rfl) (fun _ _ _ h => h) (Or.inr ⟨by rfl, rfl⟩) (by assumption) ?_); (try simp only [zk1, zk2, zk3]); (try simp only [Act.put, zk4, zk5, zk6])
    (refine wpAnyH_take (i := 9) rfl (by kernel_rfl) (by kernel_rfl) (by kernel_rfl) (fun _ _ _ h => h) (Or.inr ⟨by rfl, rfl⟩) (by assumption) ?_); (try simp only [zk1, zk2, zk3]); (try simp only [Act.put, zk4, zk5, zk6])
    (refine wpAnyH_take (i := 10) rfl (by kernel_rfl) (by kernel_rfl) (by kernel_rfl) (fun _ _ _ h => h) (Or.inr ⟨by rfl, rfl⟩) (by assumption) ?_); (try simp only [zk1, zk2, zk3]); (try simp only [Act.put, zk4, zk5, zk6])
    (refine wpAnyH_take (i := 11) rfl (by kernel_rfl) (by kernel_rfl) (by kernel_rfl) (fun _ _ _ h => h) (Or.inr ⟨by rfl, rfl⟩) (by assumption) ?_); (try simp only [zk1, zk2, zk3]); (try simp only [Act.put, zk4, zk5, zk6])
    (refine wpAnyH_take (i := 12) (v := ?_) rfl (by kernel_rfl) (by kernel_rfl) (by kernel_rfl) (fun _ _ _ h => h) (Or.inl ⟨by rfl, ?_⟩) (by assumption) ?_; rotate_left; focus (intro w hSw; (try dsimp only at hSw); (try simp only [zk1, zk2, zk3]); go_simp; try with_reducible rfl)); (try simp only [zk1, zk2, zk3]); (try simp only [Act.put, zk4, zk5, zk6])
    (refine wpAnyH_take (i := 13) (v := ?_) rfl (by kernel_rfl) (by kernel_rfl) (by kernel_rfl) (fun _ _ _ h => h) (Or.inl ⟨by rfl, ?_⟩) (by assumption) ?_; rotate_left; focus (intro w hSw; (try dsimp only at hSw); (try simp only [zk1, zk2, zk3]); go_simp; try with_reducible rfl)); (try simp only [zk1, zk2, zk3]); (try simp only [Act.put, zk4, zk5, zk6])
    (refine wpAnyH_take (i := 14) rfl (by kernel_rfl) (by kernel_rfl) (by kernel_rfl) (fun _ _ _ h => h) (Or.inr ⟨by rfl, rfl⟩) (by assumption) ?_); (try simp only [zk1, zk2, zk3]); (try simp only [Act.put, zk4, zk5, zk6])
    (refine wpAnyH_take (i := 15) rfl (by kernel_rfl) (by kernel_rfl) (by kernel_rfl) (fun _ _ _ h => h) (Or.inr ⟨by rfl, rfl⟩) (by assumption) ?_); (try simp only [zk1, zk2, zk3]); (try simp only [Act.put, zk4, zk5, zk6])
    (refine wpAnyH_take (i := 16) rfl (by kernel_rfl) (by kernel_rfl) (by kernel_rfl) (fun _ _ _ h => h) (Or.inr ⟨by rfl, rfl⟩) (by assumption) ?_); (try simp only [zk1, zk2, zk3]); (try simp only [Act.put, zk4, zk5, zk6])
    (refine wpAnyH_take (i := 17) rfl (by kernel_rfl) (by kernel_rfl) (by kernel_rfl) (fun _ _ _ h => h) (Or.inr ⟨by rfl, rfl⟩) (by assumption) ?_); (try simp only [zk1, zk2, zk3]); (try simp only [Act.put, zk4, zk5, zk6])
    (refine wpAnyH_take (i := 18) rfl (by kernel_rfl) (by kernel_rfl) (by kernel_rfl) (fun _ _ _ h => h) (Or.inr ⟨by rfl, rfl⟩) (by assumption) ?_); (try simp only [zk1, zk2, zk3]); (try simp only [Act.put, zk4, zk5, zk6])
    (refine wpAnyH_take (i := 19) rfl (by kernel_rfl) (by kernel_rfl) (by kernel_rfl) (fun _ _ _ h => h) (Or.inr ⟨by rfl, rfl⟩) (by assumption) ?_); (try simp only [zk1, zk2, zk3]); (try simp only [Act.put, zk4, zk5, zk6])
    (refine wpAnyH_take (i := 20) rfl (by kernel_rfl) (by kernel_rfl) (by kernel_rfl) (fun _ _ _ h => h) (Or.inr ⟨by rfl, rfl⟩) (by assumption) ?_); (try simp only [zk1, zk2, zk3]); (try simp only [Act.put, zk4, zk5, zk6])
    (refine wpAnyH_take (i := 21) (v := ?_) rfl (by kernel_rfl) (by kernel_rfl) (by kernel_rfl) (fun _ _ _ h => h) (Or.inl ⟨by rfl, ?_⟩) (by assumption) ?_; rotate_left; focus (intro w hSw; (try dsimp only at hSw); (try simp only [zk1, zk2, zk3]); go_simp; try with_reducible rfl)); (try simp only [zk1, zk2, zk3]); (try simp only [Act.put, zk4, zk5, zk6])
    (refine wpAnyH_take (i := 22) (v := ?_) rfl (by kernel_rfl) (by kernel_rfl) (by kernel_rfl) (fun _ _ _ h => h) (Or.inl ⟨by rfl, ?_⟩) (by assumption) ?_; rotate_left; focus (intro w hSw; (try dsimp only at hSw); (try simp only [zk1, zk2, zk3]); go_simp; try with_reducible rfl)); (try simp only [zk1, zk2, zk3]); (try simp only [Act.put, zk4, zk5, zk6])
    refine wpAnyH_done (by kernel_rfl) ?_ _
    go_wp2
    go_ret
    exact ⟨ret_bool HB.out.symm, (by repeat (first | (with_reducible first | exact Ext.refl _ | assumption | apply Ext.alloc | apply Ext.drew | apply Ext.drewN | refine Ext.setCell ?_ ?_ _ | refine Ext.trans ?_ (by assumption)) | (show _ ≤ _; first | omega | (dsimp only; omega) | (simp; done) | (simp; omega))))⟩
  by_cases he : s.at_ = sealAt ep
  case neg =>
    have HB := Lib.hid (show sealOkB root hh ep r p s = false by rw [sealOkB, decide_eq_false he]; simp)
    have HH := Lib.hid hh'
    have HE := Lib.hid he
    clear hh' he
    go_enter Tryz.func35, Tryz.ntmps35
    go_wp2
    have P : Bx (w.alloc (Obj.cells #[.int .i64 hh, .int .i64 ep, .string r, .string p, .int .i64 s.at_, .slice a1 s.op.length c1, .slice a2 s.sh.length c2, .slice a3 s.si.length c3] 49)) w.heap.size [.int .i64 hh, .int .i64 ep, .string r, .string p, .int .i64 s.at_, .slice a1 s.op.length c1, .slice a2 s.sh.length c2, .slice a3 s.si.length c3] := Bx.new w _ _
    have x0 : Ext w (w.alloc (Obj.cells #[.int .i64 hh, .int .i64 ep, .string r, .string p, .int .i64 s.at_, .slice a1 s.op.length c1, .slice a2 s.sh.length c2, .slice a3 s.si.length c3] 49)) := (Ext.refl w).alloc _
    generalize (w.alloc (Obj.cells #[.int .i64 hh, .int .i64 ep, .string r, .string p, .int .i64 s.at_, .slice a1 s.op.length c1, .slice a2 s.sh.length c2, .slice a3 s.si.length c3] 49)) = W0 at *
    have p0c := P.2.1 0 _ rfl
    have p1c := P.2.1 1 _ rfl
    have p2c := P.2.1 2 _ rfl
    have p3c := P.2.1 3 _ rfl
    have p4c := P.2.1 4 _ rfl
    have p5c := P.2.1 5 _ rfl
    have p6c := P.2.1 6 _ rfl
    have p7c := P.2.1 7 _ rfl
    refine wp_region_held_drew (S := (fun W => W.cell? ⟨w.heap.size, 0, none⟩ = some (.int .i64 hh) ∧ W.cell? ⟨w.heap.size, 1, none⟩ = some (.int .i64 ep) ∧ W.cell? ⟨w.heap.size, 2, none⟩ = some (.string r) ∧ W.cell? ⟨w.heap.size, 3, none⟩ = some (.string p) ∧ W.cell? ⟨w.heap.size, 4, none⟩ = some (.int .i64 s.at_) ∧ W.cell? ⟨w.heap.size, 5, none⟩ = some (.slice a1 s.op.length c1) ∧ W.cell? ⟨w.heap.size, 6, none⟩ = some (.slice a2 s.sh.length c2) ∧ W.cell? ⟨w.heap.size, 7, none⟩ = some (.slice a3 s.si.length c3))) (by kernel_rfl) (by exact ⟨p0c, p1c, p2c, p3c, p4c, p5c, p6c, p7c⟩) (fun hHeld => ?_)
    (refine wpAnyH_take (i := 0) (v := ?_) rfl (by kernel_rfl) (by kernel_rfl) (by kernel_rfl) (fun _ _ _ h => h) (Or.inl ⟨by rfl, ?_⟩) (by assumption) ?_; rotate_left; focus (intro w hSw; (try dsimp only at hSw); (try simp only [zk1, zk2]); go_simp; try with_reducible rfl)); (try simp only [zk1, zk2]); (try simp only [Act.put, zk4, zk5, zk6])
    (refine wpAnyH_take (i := 1) (v := ?_) rfl (by kernel_rfl) (by kernel_rfl) (by kernel_rfl) (fun _ _ _ h => h) (Or.inl ⟨by rfl, ?_⟩) (by assumption) ?_; rotate_left; focus (intro w hSw; (try dsimp only at hSw); (try simp only [zk1, zk2, zk3]); go_simp; try with_reducible rfl)); (try simp only [zk1, zk2, zk3]); (try simp only [Act.put, zk4, zk5, zk6])
    (refine wpAnyH_ready (rs := [2]) (by kernel_rfl) (by simp) ?_; refine AllReadyH.cons rfl (fun K hK => ?_) AllReadyH.nil; (try simp only [zk1, zk2, zk3]))
    go_simp
    go_at_call 76
    refine (impl_HeadOk _ _ _ _ _).mono ?_
    rw [HH.out]
    rintro e wa ⟨rfl, xa⟩
    have ya : Ext W0 wa := (by repeat (first | (with_reducible first | exact Ext.refl _ | assumption | apply Ext.alloc | apply Ext.drew | apply Ext.drewN | refine Ext.setCell ?_ ?_ _ | refine Ext.trans ?_ (by assumption)) | (show _ ≤ _; first | omega | (dsimp only; omega) | (simp; done) | (simp; omega))))
    replace P := P.ext ya
    have p0c := P.2.1 0 _ rfl
    have p1c := P.2.1 1 _ rfl
    have p2c := P.2.1 2 _ rfl
    have p3c := P.2.1 3 _ rfl
    have p4c := P.2.1 4 _ rfl
    have p5c := P.2.1 5 _ rfl
    have p6c := P.2.1 6 _ rfl
    have p7c := P.2.1 7 _ rfl
    (try dsimp only)
    refine hK.out _ _ (by exact ⟨p0c, p1c, p2c, p3c, p4c, p5c, p6c, p7c⟩) (fun hHeld => ?_)
    clear hK K
    (refine wpAnyH_take (i := 3) (v := ?_) rfl (by kernel_rfl) (by kernel_rfl) (by kernel_rfl) (fun _ _ _ h => h) (Or.inl ⟨by rfl, ?_⟩) (by assumption) ?_; rotate_left; focus (intro w hSw; (try dsimp only at hSw); (try simp only [zk1, zk2, zk3]); go_simp; try with_reducible rfl)); (try simp only [zk1, zk2, zk3]); (try simp only [Act.put, zk4, zk5, zk6])
    (refine wpAnyH_take (i := 4) (v := ?_) rfl (by kernel_rfl) (by kernel_rfl) (by kernel_rfl) (fun _ _ _ h => h) (Or.inl ⟨by rfl, ?_⟩) (by assumption) ?_; rotate_left; focus (intro w hSw; (try dsimp only at hSw); (try simp only [zk1, zk2, zk3]); go_simp; try with_reducible rfl)); (try simp only [zk1, zk2, zk3]); (try simp only [Act.put, zk4, zk5, zk6])
    (refine wpAnyH_take (i := 5) (v := ?_) rfl (by kernel_rfl) (by kernel_rfl) (by kernel_rfl) (fun _ _ _ h => h) (Or.inl ⟨by rfl, ?_⟩) (by assumption) ?_; rotate_left; focus (intro w hSw; (try dsimp only at hSw); (try simp only [zk1, zk2, zk3]); go_simp; try with_reducible rfl)); (try simp only [zk1, zk2, zk3]); (try simp only [Act.put, zk4, zk5, zk6])
    (refine wpAnyH_take (i := 6) (v := ?_) rfl (by kernel_rfl) (by kernel_rfl) (by kernel_rfl) (fun _ _ _ h => h) (Or.inl ⟨by rfl, ?_⟩) (by assumption) ?_; rotate_left; focus (intro w hSw; (try dsimp only at hSw); (try simp only [zk1, zk2, zk3]); go_simp; try with_reducible rfl)); (try simp only [zk1, zk2, zk3]); (try simp only [Act.put, zk4, zk5, zk6])
    (refine wpAnyH_take (i := 7) (v := ?_) rfl (by kernel_rfl) (by kernel_rfl) (by kernel_rfl) (fun _ _ _ h => h) (Or.inl ⟨by rfl, ?_⟩) (by assumption) ?_; rotate_left; focus (intro w hSw; (try dsimp only at hSw); (try simp only [zk1, zk2, zk3]); go_simp; try with_reducible rfl)); (try simp only [zk1, zk2, zk3]); (try simp only [Act.put, zk4, zk5, zk6])
    (refine wpAnyH_take (i := 8) (v := ?_) rfl (by kernel_rfl) (by kernel_rfl) (by kernel_rfl) (fun _ _ _ h => h) (Or.inl ⟨by rfl, ?_⟩) (by assumption) ?_; rotate_left; focus (intro w hSw; (try dsimp only at hSw); (try simp only [zk1, zk2, zk3]); go_simp; try with_reducible rfl)); (try simp only [zk1, zk2, zk3]); (try simp only [Act.put, zk4, zk5, zk6])
    (refine wpAnyH_take (i := 9) (v := ?_) rfl (by kernel_rfl) (by kernel_rfl) (by kernel_rfl) (fun _ _ _ h => h) (Or.inl ⟨by rfl, ?_⟩) (by assumption) ?_; rotate_left; focus (intro w hSw; (try dsimp only at hSw); (try simp only [zk1, zk2, zk3]); go_simp; try with_reducible rfl)); (try simp only [zk1, zk2, zk3]); (try simp only [Act.put, zk4, zk5, zk6])
    (refine wpAnyH_ready (rs := [10]) (by kernel_rfl) (by simp) ?_; refine AllReadyH.cons rfl (fun K hK => ?_) AllReadyH.nil; (try simp only [zk1, zk2, zk3]))
    go_simp
    go_at_call 77
    refine (impl_SealAt _ _).mono ?_
    rintro e wb ⟨rfl, hwb⟩
    have yb : Ext wa wb := by
      rw [← hwb]
      exact (by repeat (first | (with_reducible first | exact Ext.refl _ | assumption | apply Ext.alloc | apply Ext.drew | apply Ext.drewN | refine Ext.setCell ?_ ?_ _ | refine Ext.trans ?_ (by assumption)) | (show _ ≤ _; first | omega | (dsimp only; omega) | (simp; done) | (simp; omega))))
    clear hwb
    replace P := P.ext yb
    have p0c := P.2.1 0 _ rfl
    have p1c := P.2.1 1 _ rfl
    have p2c := P.2.1 2 _ rfl
    have p3c := P.2.1 3 _ rfl
    have p4c := P.2.1 4 _ rfl
    have p5c := P.2.1 5 _ rfl
    have p6c := P.2.1 6 _ rfl
    have p7c := P.2.1 7 _ rfl
    (try dsimp only)
    refine hK.out _ _ (by exact ⟨p0c, p1c, p2c, p3c, p4c, p5c, p6c, p7c⟩) (fun hHeld => ?_)
    clear hK K
    (refine wpAnyH_take (i := 11) (v := .bool false) rfl (by kernel_rfl) (by kernel_rfl) (by kernel_rfl) (fun _ _ _ h => h) (Or.inl ⟨by rfl, ?_⟩) (by assumption) ?_; focus (intro w hSw; (try dsimp only at hSw); (try simp only [zk1, zk2, zk3]); go_simp; simp [HE.out])); (try simp only [zk1, zk2, zk3]); (try simp only [Act.put, zk4, zk5, zk6])
    (refine wpAnyH_take (i := 12) (v := ?_) rfl (by kernel_rfl) (by kernel_rfl) (by kernel_rfl) (fun _ _ _ h => h) (Or.inl ⟨by rfl, ?_⟩) (by assumption) ?_; rotate_left; focus (intro w hSw; (try dsimp only at hSw); (try simp only [zk1, zk2, zk3]); go_simp; try with_reducible rfl)); (try simp only [zk1, zk2, zk3]); (try simp only [Act.put, zk4, zk5, zk6])
    (refine wpAnyH_take (i := 13) (v := ?_) rfl (by kernel_rfl) (by kernel_rfl) (by kernel_rfl) (fun _ _ _ h => h) (Or.inl ⟨by rfl, ?_⟩) (by assumption) ?_; rotate_left; focus (intro w hSw; (try dsimp only at hSw); (try simp only [zk1, zk2, zk3]); go_simp; try with_reducible rfl)); (try simp only [zk1, zk2, zk3]); (try simp only [Act.put, zk4, zk5, zk6])
    (refine wpAnyH_take (i := 14) rfl (by kernel_rfl) (by kernel_rfl) (by kernel_rfl) (fun _ _ _ h => h) (Or.inr ⟨by rfl, rfl⟩) (by assumption) ?_); (try simp only [zk1, zk2, zk3]); (try simp only [Act.put, zk4, zk5, zk6])
    (refine wpAnyH_take (i := 15) rfl (by kernel_rfl) (by kernel_rfl) (by kernel_rfl) (fun _ _ _ h => h) (Or.inr ⟨by rfl, rfl⟩) (by assumption) ?_); (try simp only [zk1, zk2, zk3]); (try simp only [Act.put, zk4, zk5, zk6])
    (refine wpAnyH_take (i := 16) rfl (by kernel_rfl) (by kernel_rfl) (by kernel_rfl) (fun _ _ _ h => h) (Or.inr ⟨by rfl, rfl⟩) (by assumption) ?_); (try simp only [zk1, zk2, zk3]); (try simp only [Act.put, zk4, zk5, zk6])
    (refine wpAnyH_take (i := 17) rfl (by kernel_rfl) (by kernel_rfl) (by kernel_rfl) (fun _ _ _ h => h) (Or.inr ⟨by rfl, rfl⟩) (by assumption) ?_); (try simp only [zk1, zk2, zk3]); (try simp only [Act.put, zk4, zk5, zk6])
    (refine wpAnyH_take (i := 18) rfl (by kernel_rfl) (by kernel_rfl) (by kernel_rfl) (fun _ _ _ h => h) (Or.inr ⟨by rfl, rfl⟩) (by assumption) ?_); (try simp only [zk1, zk2, zk3]); (try simp only [Act.put, zk4, zk5, zk6])
    (refine wpAnyH_take (i := 19) rfl (by kernel_rfl) (by kernel_rfl) (by kernel_rfl) (fun _ _ _ h => h) (Or.inr ⟨by rfl, rfl⟩) (by assumption) ?_); (try simp only [zk1, zk2, zk3]); (try simp only [Act.put, zk4, zk5, zk6])
    (refine wpAnyH_take (i := 20) rfl (by kernel_rfl) (by kernel_rfl) (by kernel_rfl) (fun _ _ _ h => h) (Or.inr ⟨by rfl, rfl⟩) (by assumption) ?_); (try simp only [zk1, zk2, zk3]); (try simp only [Act.put, zk4, zk5, zk6])
    (refine wpAnyH_take (i := 21) (v := ?_) rfl (by kernel_rfl) (by kernel_rfl) (by kernel_rfl) (fun _ _ _ h => h) (Or.inl ⟨by rfl, ?_⟩) (by assumption) ?_; rotate_left; focus (intro w hSw; (try dsimp only at hSw); (try simp only [zk1, zk2, zk3]); go_simp; try with_reducible rfl)); (try simp only [zk1, zk2, zk3]); (try simp only [Act.put, zk4, zk5, zk6])
    (refine wpAnyH_take (i := 22) (v := ?_) rfl (by kernel_rfl) (by kernel_rfl) (by kernel_rfl) (fun _ _ _ h => h) (Or.inl ⟨by rfl, ?_⟩) (by assumption) ?_; rotate_left; focus (intro w hSw; (try dsimp only at hSw); (try simp only [zk1, zk2, zk3]); go_simp; try with_reducible rfl)); (try simp only [zk1, zk2, zk3]); (try simp only [Act.put, zk4, zk5, zk6])
    refine wpAnyH_done (by kernel_rfl) ?_ _
    go_wp2
    go_ret
    exact ⟨ret_bool HB.out.symm, (by repeat (first | (with_reducible first | exact Ext.refl _ | assumption | apply Ext.alloc | apply Ext.drew | apply Ext.drewN | refine Ext.setCell ?_ ?_ _ | refine Ext.trans ?_ (by assumption)) | (show _ ≤ _; first | omega | (dsimp only; omega) | (simp; done) | (simp; omega))))⟩
  have HB := Lib.hid (show sealOkB root hh ep r p s = sigOkB root (headH hh ep r p) s by rw [sealOkB, hh', decide_eq_true he]; rfl)
  have HH := Lib.hid hh'
  have HE := Lib.hid he
  have HS := Lib.hid (headH_le hh ep r p)
  generalize hR : sigOkB root (headH hh ep r p) s = R at HB
  have HR := Lib.hid hR
  clear hR
  clear hh' he
  go_enter Tryz.func35, Tryz.ntmps35
  go_wp2
  have P : Bx (w.alloc (Obj.cells #[.int .i64 hh, .int .i64 ep, .string r, .string p, .int .i64 s.at_, .slice a1 s.op.length c1, .slice a2 s.sh.length c2, .slice a3 s.si.length c3] 49)) w.heap.size [.int .i64 hh, .int .i64 ep, .string r, .string p, .int .i64 s.at_, .slice a1 s.op.length c1, .slice a2 s.sh.length c2, .slice a3 s.si.length c3] := Bx.new w _ _
  have x0 : Ext w (w.alloc (Obj.cells #[.int .i64 hh, .int .i64 ep, .string r, .string p, .int .i64 s.at_, .slice a1 s.op.length c1, .slice a2 s.sh.length c2, .slice a3 s.si.length c3] 49)) := (Ext.refl w).alloc _
  generalize (w.alloc (Obj.cells #[.int .i64 hh, .int .i64 ep, .string r, .string p, .int .i64 s.at_, .slice a1 s.op.length c1, .slice a2 s.sh.length c2, .slice a3 s.si.length c3] 49)) = W0 at *
  have p0c := P.2.1 0 _ rfl
  have p1c := P.2.1 1 _ rfl
  have p2c := P.2.1 2 _ rfl
  have p3c := P.2.1 3 _ rfl
  have p4c := P.2.1 4 _ rfl
  have p5c := P.2.1 5 _ rfl
  have p6c := P.2.1 6 _ rfl
  have p7c := P.2.1 7 _ rfl
  refine wp_region_held_drew (S := (fun W => W.cell? ⟨w.heap.size, 0, none⟩ = some (.int .i64 hh) ∧ W.cell? ⟨w.heap.size, 1, none⟩ = some (.int .i64 ep) ∧ W.cell? ⟨w.heap.size, 2, none⟩ = some (.string r) ∧ W.cell? ⟨w.heap.size, 3, none⟩ = some (.string p) ∧ W.cell? ⟨w.heap.size, 4, none⟩ = some (.int .i64 s.at_) ∧ W.cell? ⟨w.heap.size, 5, none⟩ = some (.slice a1 s.op.length c1) ∧ W.cell? ⟨w.heap.size, 6, none⟩ = some (.slice a2 s.sh.length c2) ∧ W.cell? ⟨w.heap.size, 7, none⟩ = some (.slice a3 s.si.length c3))) (by kernel_rfl) (by exact ⟨p0c, p1c, p2c, p3c, p4c, p5c, p6c, p7c⟩) (fun hHeld => ?_)
  (refine wpAnyH_take (i := 0) (v := ?_) rfl (by kernel_rfl) (by kernel_rfl) (by kernel_rfl) (fun _ _ _ h => h) (Or.inl ⟨by rfl, ?_⟩) (by assumption) ?_; rotate_left; focus (intro w hSw; (try dsimp only at hSw); (try simp only [zk1, zk2]); go_simp; try with_reducible rfl)); (try simp only [zk1, zk2]); (try simp only [Act.put, zk4, zk5, zk6])
  (refine wpAnyH_take (i := 1) (v := ?_) rfl (by kernel_rfl) (by kernel_rfl) (by kernel_rfl) (fun _ _ _ h => h) (Or.inl ⟨by rfl, ?_⟩) (by assumption) ?_; rotate_left; focus (intro w hSw; (try dsimp only at hSw); (try simp only [zk1, zk2, zk3]); go_simp; try with_reducible rfl)); (try simp only [zk1, zk2, zk3]); (try simp only [Act.put, zk4, zk5, zk6])
  (refine wpAnyH_ready (rs := [2]) (by kernel_rfl) (by simp) ?_; refine AllReadyH.cons rfl (fun K hK => ?_) AllReadyH.nil; (try simp only [zk1, zk2, zk3]))
  go_simp
  go_at_call 76
  refine (impl_HeadOk _ _ _ _ _).mono ?_
  rw [HH.out]
  rintro e wa ⟨rfl, xa⟩
  have ya : Ext W0 wa := (by repeat (first | (with_reducible first | exact Ext.refl _ | assumption | apply Ext.alloc | apply Ext.drew | apply Ext.drewN | refine Ext.setCell ?_ ?_ _ | refine Ext.trans ?_ (by assumption)) | (show _ ≤ _; first | omega | (dsimp only; omega) | (simp; done) | (simp; omega))))
  replace P := P.ext ya
  have p0c := P.2.1 0 _ rfl
  have p1c := P.2.1 1 _ rfl
  have p2c := P.2.1 2 _ rfl
  have p3c := P.2.1 3 _ rfl
  have p4c := P.2.1 4 _ rfl
  have p5c := P.2.1 5 _ rfl
  have p6c := P.2.1 6 _ rfl
  have p7c := P.2.1 7 _ rfl
  (try dsimp only)
  refine hK.out _ _ (by exact ⟨p0c, p1c, p2c, p3c, p4c, p5c, p6c, p7c⟩) (fun hHeld => ?_)
  clear hK K
  (refine wpAnyH_take (i := 3) (v := ?_) rfl (by kernel_rfl) (by kernel_rfl) (by kernel_rfl) (fun _ _ _ h => h) (Or.inl ⟨by rfl, ?_⟩) (by assumption) ?_; rotate_left; focus (intro w hSw; (try dsimp only at hSw); (try simp only [zk1, zk2, zk3]); go_simp; try with_reducible rfl)); (try simp only [zk1, zk2, zk3]); (try simp only [Act.put, zk4, zk5, zk6])
  (refine wpAnyH_take (i := 4) (v := ?_) rfl (by kernel_rfl) (by kernel_rfl) (by kernel_rfl) (fun _ _ _ h => h) (Or.inl ⟨by rfl, ?_⟩) (by assumption) ?_; rotate_left; focus (intro w hSw; (try dsimp only at hSw); (try simp only [zk1, zk2, zk3]); go_simp; try with_reducible rfl)); (try simp only [zk1, zk2, zk3]); (try simp only [Act.put, zk4, zk5, zk6])
  (refine wpAnyH_take (i := 5) (v := ?_) rfl (by kernel_rfl) (by kernel_rfl) (by kernel_rfl) (fun _ _ _ h => h) (Or.inl ⟨by rfl, ?_⟩) (by assumption) ?_; rotate_left; focus (intro w hSw; (try dsimp only at hSw); (try simp only [zk1, zk2, zk3]); go_simp; try with_reducible rfl)); (try simp only [zk1, zk2, zk3]); (try simp only [Act.put, zk4, zk5, zk6])
  (refine wpAnyH_take (i := 6) (v := ?_) rfl (by kernel_rfl) (by kernel_rfl) (by kernel_rfl) (fun _ _ _ h => h) (Or.inl ⟨by rfl, ?_⟩) (by assumption) ?_; rotate_left; focus (intro w hSw; (try dsimp only at hSw); (try simp only [zk1, zk2, zk3]); go_simp; try with_reducible rfl)); (try simp only [zk1, zk2, zk3]); (try simp only [Act.put, zk4, zk5, zk6])
  (refine wpAnyH_take (i := 7) (v := ?_) rfl (by kernel_rfl) (by kernel_rfl) (by kernel_rfl) (fun _ _ _ h => h) (Or.inl ⟨by rfl, ?_⟩) (by assumption) ?_; rotate_left; focus (intro w hSw; (try dsimp only at hSw); (try simp only [zk1, zk2, zk3]); go_simp; try with_reducible rfl)); (try simp only [zk1, zk2, zk3]); (try simp only [Act.put, zk4, zk5, zk6])
  (refine wpAnyH_take (i := 8) (v := ?_) rfl (by kernel_rfl) (by kernel_rfl) (by kernel_rfl) (fun _ _ _ h => h) (Or.inl ⟨by rfl, ?_⟩) (by assumption) ?_; rotate_left; focus (intro w hSw; (try dsimp only at hSw); (try simp only [zk1, zk2, zk3]); go_simp; try with_reducible rfl)); (try simp only [zk1, zk2, zk3]); (try simp only [Act.put, zk4, zk5, zk6])
  (refine wpAnyH_take (i := 9) (v := ?_) rfl (by kernel_rfl) (by kernel_rfl) (by kernel_rfl) (fun _ _ _ h => h) (Or.inl ⟨by rfl, ?_⟩) (by assumption) ?_; rotate_left; focus (intro w hSw; (try dsimp only at hSw); (try simp only [zk1, zk2, zk3]); go_simp; try with_reducible rfl)); (try simp only [zk1, zk2, zk3]); (try simp only [Act.put, zk4, zk5, zk6])
  (refine wpAnyH_ready (rs := [10]) (by kernel_rfl) (by simp) ?_; refine AllReadyH.cons rfl (fun K hK => ?_) AllReadyH.nil; (try simp only [zk1, zk2, zk3]))
  go_simp
  go_at_call 77
  refine (impl_SealAt _ _).mono ?_
  rintro e wb ⟨rfl, hwb⟩
  have yb : Ext wa wb := by
    rw [← hwb]
    exact (by repeat (first | (with_reducible first | exact Ext.refl _ | assumption | apply Ext.alloc | apply Ext.drew | apply Ext.drewN | refine Ext.setCell ?_ ?_ _ | refine Ext.trans ?_ (by assumption)) | (show _ ≤ _; first | omega | (dsimp only; omega) | (simp; done) | (simp; omega))))
  clear hwb
  replace P := P.ext yb
  have p0c := P.2.1 0 _ rfl
  have p1c := P.2.1 1 _ rfl
  have p2c := P.2.1 2 _ rfl
  have p3c := P.2.1 3 _ rfl
  have p4c := P.2.1 4 _ rfl
  have p5c := P.2.1 5 _ rfl
  have p6c := P.2.1 6 _ rfl
  have p7c := P.2.1 7 _ rfl
  (try dsimp only)
  refine hK.out _ _ (by exact ⟨p0c, p1c, p2c, p3c, p4c, p5c, p6c, p7c⟩) (fun hHeld => ?_)
  clear hK K
  (refine wpAnyH_take (i := 11) (v := .bool true) rfl (by kernel_rfl) (by kernel_rfl) (by kernel_rfl) (fun _ _ _ h => h) (Or.inl ⟨by rfl, ?_⟩) (by assumption) ?_; focus (intro w hSw; (try dsimp only at hSw); (try simp only [zk1, zk2, zk3]); go_simp; simp [HE.out])); (try simp only [zk1, zk2, zk3]); (try simp only [Act.put, zk4, zk5, zk6])
  (refine wpAnyH_take (i := 12) (v := ?_) rfl (by kernel_rfl) (by kernel_rfl) (by kernel_rfl) (fun _ _ _ h => h) (Or.inl ⟨by rfl, ?_⟩) (by assumption) ?_; rotate_left; focus (intro w hSw; (try dsimp only at hSw); (try simp only [zk1, zk2, zk3]); go_simp; try with_reducible rfl)); (try simp only [zk1, zk2, zk3]); (try simp only [Act.put, zk4, zk5, zk6])
  (refine wpAnyH_take (i := 13) (v := ?_) rfl (by kernel_rfl) (by kernel_rfl) (by kernel_rfl) (fun _ _ _ h => h) (Or.inl ⟨by rfl, ?_⟩) (by assumption) ?_; rotate_left; focus (intro w hSw; (try dsimp only at hSw); (try simp only [zk1, zk2, zk3]); go_simp; try with_reducible rfl)); (try simp only [zk1, zk2, zk3]); (try simp only [Act.put, zk4, zk5, zk6])
  (refine wpAnyH_take (i := 14) (v := ?_) rfl (by kernel_rfl) (by kernel_rfl) (by kernel_rfl) (fun _ _ _ h => h) (Or.inl ⟨by rfl, ?_⟩) (by assumption) ?_; rotate_left; focus (intro w hSw; (try dsimp only at hSw); (try simp only [zk1, zk2, zk3]); go_simp; try with_reducible rfl)); (try simp only [zk1, zk2, zk3]); (try simp only [Act.put, zk4, zk5, zk6])
  (refine wpAnyH_take (i := 15) (v := ?_) rfl (by kernel_rfl) (by kernel_rfl) (by kernel_rfl) (fun _ _ _ h => h) (Or.inl ⟨by rfl, ?_⟩) (by assumption) ?_; rotate_left; focus (intro w hSw; (try dsimp only at hSw); (try simp only [zk1, zk2, zk3]); go_simp; try with_reducible rfl)); (try simp only [zk1, zk2, zk3]); (try simp only [Act.put, zk4, zk5, zk6])
  (refine wpAnyH_take (i := 16) (v := ?_) rfl (by kernel_rfl) (by kernel_rfl) (by kernel_rfl) (fun _ _ _ h => h) (Or.inl ⟨by rfl, ?_⟩) (by assumption) ?_; rotate_left; focus (intro w hSw; (try dsimp only at hSw); (try simp only [zk1, zk2, zk3]); go_simp; try with_reducible rfl)); (try simp only [zk1, zk2, zk3]); (try simp only [Act.put, zk4, zk5, zk6])
  (refine wpAnyH_take (i := 18) (v := ?_) rfl (by kernel_rfl) (by kernel_rfl) (by kernel_rfl) (fun _ _ _ h => h) (Or.inl ⟨by rfl, ?_⟩) (by assumption) ?_; rotate_left; focus (intro w hSw; (try dsimp only at hSw); (try simp only [zk1, zk2, zk3]); go_simp; try with_reducible rfl)); (try simp only [zk1, zk2, zk3]); (try simp only [Act.put, zk4, zk5, zk6])
  (refine wpAnyH_take (i := 19) (v := ?_) rfl (by kernel_rfl) (by kernel_rfl) (by kernel_rfl) (fun _ _ _ h => h) (Or.inl ⟨by rfl, ?_⟩) (by assumption) ?_; rotate_left; focus (intro w hSw; (try dsimp only at hSw); (try simp only [zk1, zk2, zk3]); go_simp; try with_reducible rfl)); (try simp only [zk1, zk2, zk3]); (try simp only [Act.put, zk4, zk5, zk6])
  (refine wpAnyH_ready (rs := [17]) (by kernel_rfl) (by simp) ?_; refine AllReadyH.cons rfl (fun K hK => ?_) AllReadyH.nil; (try simp only [zk1, zk2, zk3]))
  go_simp
  go_at_call 79
  refine (impl_HeadHash _ _ _ _ _ (by exact HT.out.ext (by repeat (first | (with_reducible first | exact Ext.refl _ | assumption | apply Ext.alloc | apply Ext.drew | apply Ext.drewN | refine Ext.setCell ?_ ?_ _ | refine Ext.trans ?_ (by assumption)) | (show _ ≤ _; first | omega | (dsimp only; omega) | (simp; done) | (simp; omega)))))).mono ?_
  rintro e wc ⟨rfl, xc⟩
  have yc : Ext wb wc := (by repeat (first | (with_reducible first | exact Ext.refl _ | assumption | apply Ext.alloc | apply Ext.drew | apply Ext.drewN | refine Ext.setCell ?_ ?_ _ | refine Ext.trans ?_ (by assumption)) | (show _ ≤ _; first | omega | (dsimp only; omega) | (simp; done) | (simp; omega))))
  replace P := P.ext yc
  have p0c := P.2.1 0 _ rfl
  have p1c := P.2.1 1 _ rfl
  have p2c := P.2.1 2 _ rfl
  have p3c := P.2.1 3 _ rfl
  have p4c := P.2.1 4 _ rfl
  have p5c := P.2.1 5 _ rfl
  have p6c := P.2.1 6 _ rfl
  have p7c := P.2.1 7 _ rfl
  (try dsimp only)
  refine hK.out _ _ (by exact ⟨p0c, p1c, p2c, p3c, p4c, p5c, p6c, p7c⟩) (fun hHeld => ?_)
  clear hK K
  (refine wpAnyH_ready (rs := [20]) (by kernel_rfl) (by simp) ?_; refine AllReadyH.cons rfl (fun K hK => ?_) AllReadyH.nil; (try simp only [zk1, zk2, zk3]))
  go_simp
  go_at_call 78
  refine (impl_SigOk root _ _ _ _ s _ (h1.ext (by repeat (first | (with_reducible first | exact Ext.refl _ | assumption | apply Ext.alloc | apply Ext.drew | apply Ext.drewN | refine Ext.setCell ?_ ?_ _ | refine Ext.trans ?_ (by assumption)) | (show _ ≤ _; first | omega | (dsimp only; omega) | (simp; done) | (simp; omega))))) (h2.ext (by repeat (first | (with_reducible first | exact Ext.refl _ | assumption | apply Ext.alloc | apply Ext.drew | apply Ext.drewN | refine Ext.setCell ?_ ?_ _ | refine Ext.trans ?_ (by assumption)) | (show _ ≤ _; first | omega | (dsimp only; omega) | (simp; done) | (simp; omega))))) (h3.ext (by repeat (first | (with_reducible first | exact Ext.refl _ | assumption | apply Ext.alloc | apply Ext.drew | apply Ext.drewN | refine Ext.setCell ?_ ?_ _ | refine Ext.trans ?_ (by assumption)) | (show _ ≤ _; first | omega | (dsimp only; omega) | (simp; done) | (simp; omega))))) hs HS.out (by exact HT.out.ext (by repeat (first | (with_reducible first | exact Ext.refl _ | assumption | apply Ext.alloc | apply Ext.drew | apply Ext.drewN | refine Ext.setCell ?_ ?_ _ | refine Ext.trans ?_ (by assumption)) | (show _ ≤ _; first | omega | (dsimp only; omega) | (simp; done) | (simp; omega)))))).mono ?_
  rw [HR.out]
  rintro e wd ⟨rfl, xd⟩
  have yd : Ext wc wd := (by repeat (first | (with_reducible first | exact Ext.refl _ | assumption | apply Ext.alloc | apply Ext.drew | apply Ext.drewN | refine Ext.setCell ?_ ?_ _ | refine Ext.trans ?_ (by assumption)) | (show _ ≤ _; first | omega | (dsimp only; omega) | (simp; done) | (simp; omega))))
  replace P := P.ext yd
  have p0c := P.2.1 0 _ rfl
  have p1c := P.2.1 1 _ rfl
  have p2c := P.2.1 2 _ rfl
  have p3c := P.2.1 3 _ rfl
  have p4c := P.2.1 4 _ rfl
  have p5c := P.2.1 5 _ rfl
  have p6c := P.2.1 6 _ rfl
  have p7c := P.2.1 7 _ rfl
  (try dsimp only)
  refine hK.out _ _ (by exact ⟨p0c, p1c, p2c, p3c, p4c, p5c, p6c, p7c⟩) (fun hHeld => ?_)
  clear hK K
  (refine wpAnyH_take (i := 21) (v := ?_) rfl (by kernel_rfl) (by kernel_rfl) (by kernel_rfl) (fun _ _ _ h => h) (Or.inl ⟨by rfl, ?_⟩) (by assumption) ?_; rotate_left; focus (intro w hSw; (try dsimp only at hSw); (try simp only [zk1, zk2, zk3]); go_simp; try with_reducible rfl)); (try simp only [zk1, zk2, zk3]); (try simp only [Act.put, zk4, zk5, zk6])
  (refine wpAnyH_take (i := 22) (v := ?_) rfl (by kernel_rfl) (by kernel_rfl) (by kernel_rfl) (fun _ _ _ h => h) (Or.inl ⟨by rfl, ?_⟩) (by assumption) ?_; rotate_left; focus (intro w hSw; (try dsimp only at hSw); (try simp only [zk1, zk2, zk3]); go_simp; try with_reducible rfl)); (try simp only [zk1, zk2, zk3]); (try simp only [Act.put, zk4, zk5, zk6])
  refine wpAnyH_done (by kernel_rfl) ?_ _
  go_wp2
  go_ret
  exact ⟨ret_bool HB.out.symm, (by repeat (first | (with_reducible first | exact Ext.refl _ | assumption | apply Ext.alloc | apply Ext.drew | apply Ext.drewN | refine Ext.setCell ?_ ?_ _ | refine Ext.trans ?_ (by assumption)) | (show _ ≤ _; first | omega | (dsimp only; omega) | (simp; done) | (simp; omega))))⟩
end Go.Proofs.YtckipgijfgeghaaGreatDoor
