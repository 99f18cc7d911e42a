/- L14, Seal, Spoil, Sm. -/
import Derived.Test.YtkphipgfcbckcaaGreatDoorK8
import Derived.Deep.DeepCutAuto
import Derived.Deep.RegionHeld3
import Derived.IntWalk
import Derived.StillTailTactics
namespace Go.Proofs.YtkphipgfcbckcaaGreatDoor
open Go.RowKit

theorem seal_sig {root : ByteArray} {hh ep : Int} {r p : ByteArray} {S : SigV} (h : sealOkB root hh ep r p S = true) : sigWell S = true := by
  rw [sealOkB, Bool.and_eq_true, Bool.and_eq_true] at h
  exact (sigOk_parts h.2.2).1
set_option maxRecDepth 100000 in
set_option maxHeartbeats 12800000 in
theorem spec_l14Copy (hh ep : Int) (r p : ByteArray) (v1 v2 v3 : Value) (S : SigV) (w : World) (h1 : Strs w v1 S.op) (h2 : Strs w v2 S.sh) (h3 : Strs w v3 S.si) (k1 : Solid v1) (k2 : Solid v2) (k3 : Solid v3) (n1 : S.op.length ≤ 1000) (n2 : S.sh.length ≤ 1000) (n3 : S.si.length ≤ 1000) :
    Calls Tryz.prog 70 #[.agg #[.int .i64 hh, .int .i64 ep, .string r, .string p, .int .i64 S.at_, v1, v2, v3]] w fun e w' => ∃ a1 c1 a2 c2 a3 c3, e = .returned (.agg #[.int .i64 hh, .int .i64 ep, .string r, .string p, .int .i64 S.at_, .slice a1 S.op.length c1, .slice a2 S.sh.length c2, .slice a3 S.si.length c3]) ∧ SigOwn w' w.heap.size (.slice a1 S.op.length c1) (.slice a2 S.sh.length c2) (.slice a3 S.si.length c3) S ∧ Ext w w' := by
  obtain ⟨a1, c1, rfl⟩ := h1.form
  obtain ⟨a2, c2, rfl⟩ := h2.form
  obtain ⟨a3, c3, rfl⟩ := h3.form
  have e0 : Ext w ((w.alloc (Obj.cells #[.int .i64 hh, .int .i64 ep, .string r, .string p, .int .i64 S.at_, .slice a1 S.op.length c1, .slice a2 S.sh.length c2, .slice a3 S.si.length c3] 32)).alloc (Obj.cells #[.int .i64 0, .int .i64 0, .string ⟨#[]⟩, .string ⟨#[]⟩, .int .i64 0, .slice none 0 0, .slice none 0 0, .slice none 0 0] 32)) := ((Ext.refl w).alloc _).alloc _
  have P : Bx ((w.alloc (Obj.cells #[.int .i64 hh, .int .i64 ep, .string r, .string p, .int .i64 S.at_, .slice a1 S.op.length c1, .slice a2 S.sh.length c2, .slice a3 S.si.length c3] 32)).alloc (Obj.cells #[.int .i64 0, .int .i64 0, .string ⟨#[]⟩, .string ⟨#[]⟩, .int .i64 0, .slice none 0 0, .slice none 0 0, .slice none 0 0] 32)) w.heap.size [.int .i64 hh, .int .i64 ep, .string r, .string p, .int .i64 S.at_, .slice a1 S.op.length c1, .slice a2 S.sh.length c2, .slice a3 S.si.length c3] := (Bx.new w _ _).ext ((Ext.refl _).alloc _)
  have R : Bx ((w.alloc (Obj.cells #[.int .i64 hh, .int .i64 ep, .string r, .string p, .int .i64 S.at_, .slice a1 S.op.length c1, .slice a2 S.sh.length c2, .slice a3 S.si.length c3] 32)).alloc (Obj.cells #[.int .i64 0, .int .i64 0, .string ⟨#[]⟩, .string ⟨#[]⟩, .int .i64 0, .slice none 0 0, .slice none 0 0, .slice none 0 0] 32)) (w.heap.size + 1) [.int .i64 0, .int .i64 0, .string ⟨#[]⟩, .string ⟨#[]⟩, .int .i64 0, .slice none 0 0, .slice none 0 0, .slice none 0 0] := by have e := Bx.new (w.alloc (Obj.cells #[.int .i64 hh, .int .i64 ep, .string r, .string p, .int .i64 S.at_, .slice a1 S.op.length c1, .slice a2 S.sh.length c2, .slice a3 S.si.length c3] 32)) #[.int .i64 0, .int .i64 0, .string ⟨#[]⟩, .string ⟨#[]⟩, .int .i64 0, .slice none 0 0, .slice none 0 0, .slice none 0 0] 32; rw [World.size_alloc] at e; exact e
  go_enter Tryz.func70, Tryz.ntmps70
  go_wp2_with fail
  generalize (w.alloc (Obj.cells #[.int .i64 hh, .int .i64 ep, .string r, .string p, .int .i64 S.at_, .slice a1 S.op.length c1, .slice a2 S.sh.length c2, .slice a3 S.si.length c3] 32)).alloc (Obj.cells #[.int .i64 0, .int .i64 0, .string ⟨#[]⟩, .string ⟨#[]⟩, .int .i64 0, .slice none 0 0, .slice none 0 0, .slice none 0 0] 32) = w0 at *
  have l0 := R.1
  have X := e0
  clear e0
  refine wp_region_held_drew (S := (fun W => W.cell? ⟨w.heap.size, 0, none⟩ = some (.int .i64 hh) ∧ W.cell? ⟨w.heap.size, 1, none⟩ = some (.int .i64 ep) ∧ W.cell? ⟨w.heap.size, 2, none⟩ = some (.string r) ∧ W.cell? ⟨w.heap.size, 3, none⟩ = some (.string p) ∧ W.cell? ⟨w.heap.size, 4, none⟩ = some (.int .i64 S.at_) ∧ W.cell? ⟨w.heap.size, 5, none⟩ = some (.slice a1 S.op.length c1) ∧ W.cell? ⟨w.heap.size, 6, none⟩ = some (.slice a2 S.sh.length c2) ∧ W.cell? ⟨w.heap.size, 7, none⟩ = some (.slice a3 S.si.length c3))) (by kernel_rfl) (by exact ⟨P.2.1 0 _ rfl, P.2.1 1 _ rfl, P.2.1 2 _ rfl, P.2.1 3 _ rfl, P.2.1 4 _ rfl, P.2.1 5 _ rfl, P.2.1 6 _ rfl, P.2.1 7 _ rfl⟩) (fun hHeld => ?_)
  have xd : Ext w0 w0.drew := (Ext.refl w0).drew
  replace P := P.ext xd
  replace R := R.ext xd
  replace X := X.trans xd
  generalize w0.drew = w1 at *
  clear xd
  have q0 := P.2.1 0 _ rfl
  have q1 := P.2.1 1 _ rfl
  have q2 := P.2.1 2 _ rfl
  have q3 := P.2.1 3 _ rfl
  have q4 := P.2.1 4 _ rfl
  have q5 := P.2.1 5 _ rfl
  have q6 := P.2.1 6 _ rfl
  have q7 := P.2.1 7 _ rfl
  (refine wpAnyH_take (i := 0) (v := ?_) rfl (by kernel_rfl) (by kernel_rfl) (by kernel_rfl) (fun _ _ _ h => h) (Or.inl ⟨by rfl, ?_⟩) (by assumption) ?_; rotate_left; focus (intro w hSw; (try dsimp only at hSw); (try simp only [zk1, zk2]); go_simp; try with_reducible rfl)); (try simp only [zk1, zk2]); (try simp only [Act.put, zk4, zk5, zk6])
  (refine wpAnyH_take (i := 1) (v := ?_) rfl (by kernel_rfl) (by kernel_rfl) (by kernel_rfl) (fun _ _ _ h => h) (Or.inl ⟨by rfl, ?_⟩) (by assumption) ?_; rotate_left; focus (intro w hSw; (try dsimp only at hSw); (try simp only [zk1, zk2, zk3]); go_simp; try with_reducible rfl)); (try simp only [zk1, zk2, zk3]); (try simp only [Act.put, zk4, zk5, zk6])
  (refine wpAnyH_take (i := 2) (v := ?_) rfl (by kernel_rfl) (by kernel_rfl) (by kernel_rfl) (fun _ _ _ h => h) (Or.inl ⟨by rfl, ?_⟩) (by assumption) ?_; rotate_left; focus (intro w hSw; (try dsimp only at hSw); (try simp only [zk1, zk2, zk3]); go_simp; try with_reducible rfl)); (try simp only [zk1, zk2, zk3]); (try simp only [Act.put, zk4, zk5, zk6])
  (refine wpAnyH_take (i := 3) (v := ?_) rfl (by kernel_rfl) (by kernel_rfl) (by kernel_rfl) (fun _ _ _ h => h) (Or.inl ⟨by rfl, ?_⟩) (by assumption) ?_; rotate_left; focus (intro w hSw; (try dsimp only at hSw); (try simp only [zk1, zk2, zk3]); go_simp; try with_reducible rfl)); (try simp only [zk1, zk2, zk3]); (try simp only [Act.put, zk4, zk5, zk6])
  clear q0 q1 q2 q3 q4 q5 q6 q7
  (refine wpAnyH_ready (rs := [4]) (by kernel_rfl) (by simp) ?_; refine AllReadyH.cons rfl (fun K hK => ?_) AllReadyH.nil; (try simp only [zk1, zk2, zk3]))
  go_simp
  go_at_call 89
  refine (spec_l05Copy _ _ _ S _ (h1.ext X) (h2.ext X) (h3.ext X) k1 k2 k3 n1 n2 n3).mono ?_
  rintro e w2 ⟨p1, d1, p2, d2, p3, d3, rfl, sc, x2⟩
  have hw1 : w.heap.size + 1 < w1.heap.size := R.1
  replace P := P.ext x2
  replace R := R.ext x2
  replace X := X.trans x2
  (try dsimp only)
  refine hK.out _ _ (by exact ⟨P.2.1 0 _ rfl, P.2.1 1 _ rfl, P.2.1 2 _ rfl, P.2.1 3 _ rfl, P.2.1 4 _ rfl, P.2.1 5 _ rfl, P.2.1 6 _ rfl, P.2.1 7 _ rfl⟩) (fun hHeld => ?_)
  clear hK K
  (refine wpAnyH_take (i := 5) (v := ?_) rfl (by kernel_rfl) (by kernel_rfl) (by kernel_rfl) (fun _ _ _ h => h) (Or.inl ⟨by rfl, ?_⟩) (by assumption) ?_; rotate_left; focus (intro w hSw; (try dsimp only at hSw); (try simp only [zk1, zk2, zk3]); go_simp; try with_reducible rfl)); (try simp only [zk1, zk2, zk3]); (try simp only [Act.put, zk4, zk5, zk6])
  have z0 := R.2.1 0 _ rfl
  have z1 := R.2.1 1 _ rfl
  have z2 := R.2.1 2 _ rfl
  have z3 := R.2.1 3 _ rfl
  have z4 := R.2.1 4 _ rfl
  have z5 := R.2.1 5 _ rfl
  have z6 := R.2.1 6 _ rfl
  have z7 := R.2.1 7 _ rfl
  have f0 := R.2.2 0
  have f1 := R.2.2 1
  have f2 := R.2.2 2
  have f3 := R.2.2 3
  have f4 := R.2.2 4
  have f5 := R.2.2 5
  have f6 := R.2.2 6
  have f7 := R.2.2 7
  have R9 := ((((((((R.set 0 (.int .i64 hh) (by simp)).set 1 (.int .i64 ep) (by simp)).set 2 (.string r) (by simp)).set 3 (.string p) (by simp)).set 4 (.int .i64 S.at_) (by simp)).set 5 (.slice p1 S.op.length d1) (by simp)).set 6 (.slice p2 S.sh.length d2) (by simp)).set 7 (.slice p3 S.si.length d3) (by simp))
  have P9 := ((((((((P.far (c := w.heap.size + 1) (by omega) 0 (.int .i64 hh)).far (c := w.heap.size + 1) (by omega) 1 (.int .i64 ep)).far (c := w.heap.size + 1) (by omega) 2 (.string r)).far (c := w.heap.size + 1) (by omega) 3 (.string p)).far (c := w.heap.size + 1) (by omega) 4 (.int .i64 S.at_)).far (c := w.heap.size + 1) (by omega) 5 (.slice p1 S.op.length d1)).far (c := w.heap.size + 1) (by omega) 6 (.slice p2 S.sh.length d2)).far (c := w.heap.size + 1) (by omega) 7 (.slice p3 S.si.length d3))
  have X9 : Ext w ((((((((w2.setCell ⟨(w.heap.size + 1), 0, none⟩ (.int .i64 hh)).setCell ⟨(w.heap.size + 1), 1, none⟩ (.int .i64 ep)).setCell ⟨(w.heap.size + 1), 2, none⟩ (.string r)).setCell ⟨(w.heap.size + 1), 3, none⟩ (.string p)).setCell ⟨(w.heap.size + 1), 4, none⟩ (.int .i64 S.at_)).setCell ⟨(w.heap.size + 1), 5, none⟩ (.slice p1 S.op.length d1)).setCell ⟨(w.heap.size + 1), 6, none⟩ (.slice p2 S.sh.length d2)).setCell ⟨(w.heap.size + 1), 7, none⟩ (.slice p3 S.si.length d3)) := ((((((((X.setCell (by dsimp only; omega) (.int .i64 hh)).setCell (by dsimp only; omega) (.int .i64 ep)).setCell (by dsimp only; omega) (.string r)).setCell (by dsimp only; omega) (.string p)).setCell (by dsimp only; omega) (.int .i64 S.at_)).setCell (by dsimp only; omega) (.slice p1 S.op.length d1)).setCell (by dsimp only; omega) (.slice p2 S.sh.length d2)).setCell (by dsimp only; omega) (.slice p3 S.si.length d3))
  have s9 := ((((((((sc.set (b := w.heap.size + 1) hw1 0 (.int .i64 hh)).set (b := w.heap.size + 1) hw1 1 (.int .i64 ep)).set (b := w.heap.size + 1) hw1 2 (.string r)).set (b := w.heap.size + 1) hw1 3 (.string p)).set (b := w.heap.size + 1) hw1 4 (.int .i64 S.at_)).set (b := w.heap.size + 1) hw1 5 (.slice p1 S.op.length d1)).set (b := w.heap.size + 1) hw1 6 (.slice p2 S.sh.length d2)).set (b := w.heap.size + 1) hw1 7 (.slice p3 S.si.length d3))
  (refine wpAnyH_ready (rs := [6]) (by kernel_rfl) (by simp) ?_; refine AllReadyH.cons rfl (fun K hK => ?_) AllReadyH.nil; (try simp only [zk1, zk2, zk3]))
  go_simp
  clear z0 f0 z1 f1 z2 f2 z3 f3 z4 f4 z5 f5 z6 f6 z7 f7 P R X sc
  have P := P9
  have R := R9
  have X := X9
  have sc := s9
  clear P9 R9 X9 s9
  generalize (((((((w2.setCell ⟨(w.heap.size + 1), 0, none⟩ (.int .i64 hh)).setCell ⟨(w.heap.size + 1), 1, none⟩ (.int .i64 ep)).setCell ⟨(w.heap.size + 1), 2, none⟩ (.string r)).setCell ⟨(w.heap.size + 1), 3, none⟩ (.string p)).setCell ⟨(w.heap.size + 1), 4, none⟩ (.int .i64 S.at_)).setCell ⟨(w.heap.size + 1), 5, none⟩ (.slice p1 S.op.length d1)).setCell ⟨(w.heap.size + 1), 6, none⟩ (.slice p2 S.sh.length d2)).setCell ⟨(w.heap.size + 1), 7, none⟩ (.slice p3 S.si.length d3) = w3 at *
  (try dsimp only)
  refine hK.out _ _ (by exact ⟨P.2.1 0 _ rfl, P.2.1 1 _ rfl, P.2.1 2 _ rfl, P.2.1 3 _ rfl, P.2.1 4 _ rfl, P.2.1 5 _ rfl, P.2.1 6 _ rfl, P.2.1 7 _ rfl⟩) (fun hHeld => ?_)
  clear hK K
  refine wpAnyH_done (by kernel_rfl) ?_ _
  have k0 := R.2.1 0 _ rfl
  have k1 := R.2.1 1 _ rfl
  have k2 := R.2.1 2 _ rfl
  have k3 := R.2.1 3 _ rfl
  have k4 := R.2.1 4 _ rfl
  have k5 := R.2.1 5 _ rfl
  have k6 := R.2.1 6 _ rfl
  have k7 := R.2.1 7 _ rfl
  go_wp2
  refine bodyPost_ret (v := .agg #[.int .i64 hh, .int .i64 ep, .string r, .string p, .int .i64 S.at_, .slice p1 S.op.length d1, .slice p2 S.sh.length d2, .slice p3 S.si.length d3]) (by simp [results, Tryz.results70, go_sem, k0, k1, k2, k3, k4, k5, k6, k7]) rfl ?_
  exact ⟨p1, d1, p2, d2, p3, d3, rfl, sc.mono (by omega), X⟩
set_option maxRecDepth 100000 in
set_option maxHeartbeats 12800000 in
theorem spec_l14Any (b : Nat) (w : World) (h : Cur w b) :
    Calls Tryz.prog 36 #[.pointer (some ⟨b, 0, none⟩)] w fun e w' => ∃ (hh ep : Int) (r p root : ByteArray) (S : SigV) (a1 a2 a3 : Option Addr) (c1 c2 c3 : Nat), e = .returned (.tuple #[.agg #[.int .i64 hh, .int .i64 ep, .string r, .string p, .int .i64 S.at_, .slice a1 S.op.length c1, .slice a2 S.sh.length c2, .slice a3 S.si.length c3], .string root]) ∧ SigFit S ∧ SigRd w' w.heap.size (.slice a1 S.op.length c1) (.slice a2 S.sh.length c2) (.slice a3 S.si.length c3) S ∧ Cur w' b ∧ Mut b w w' := by
  have hb := h.lt
  have e0 : Ext w (w.alloc (Obj.cells #[.int .i64 0, .int .i64 0, .string ⟨#[]⟩, .string ⟨#[]⟩, .int .i64 0, .slice none 0 0, .slice none 0 0, .slice none 0 0] 32)) := (Ext.refl _).alloc _
  have R := Bx.new w #[.int .i64 0, .int .i64 0, .string ⟨#[]⟩, .string ⟨#[]⟩, .int .i64 0, .slice none 0 0, .slice none 0 0, .slice none 0 0] 32
  have C := h.ext e0
  have M : Mut b w (w.alloc (Obj.cells #[.int .i64 0, .int .i64 0, .string ⟨#[]⟩, .string ⟨#[]⟩, .int .i64 0, .slice none 0 0, .slice none 0 0, .slice none 0 0] 32)) := Mut.of_ext e0
  have hwb : w.heap.size ≠ b := by omega
  go_enter Tryz.func36, Tryz.ntmps36
  go_wp2_with fail
  generalize w.alloc (Obj.cells #[.int .i64 0, .int .i64 0, .string ⟨#[]⟩, .string ⟨#[]⟩, .int .i64 0, .slice none 0 0, .slice none 0 0, .slice none 0 0] 32) = w0 at *
  clear e0 h
  refine (spec_l01Below b 12 _ C (by decide)).mono ?_
  clear C
  rintro e w1 ⟨k, rfl, hk, C, N⟩
  replace R := R.mut N hwb
  replace M := M.trans N
  clear N
  go_wp2_with fail
  refine (spec_l01Below b 60 _ C (by decide)).mono ?_
  clear C
  rintro e w2 ⟨x, rfl, hx, C, N⟩
  replace R := R.mut N hwb
  replace M := M.trans N
  clear N
  go_wp2_with fail
  refine (spec_l14Seal b _ C).mono ?_
  clear C
  rintro e w3 ⟨hh, ep, r, p, root, S, a1, a2, a3, c1, c2, c3, rfl, hroot, hr, hok, so, C, N⟩
  replace R := R.mut N hwb
  replace M := M.trans N
  clear N
  have HW := Lib.hid (seal_sig hok)
  have HOK := Lib.hid hok
  clear hok
  have e3 : Ext w3 (w3.alloc (Obj.cells #[.int .i64 hh, .int .i64 ep, .string r, .string p, .int .i64 S.at_, .slice a1 S.op.length c1, .slice a2 S.sh.length c2, .slice a3 S.si.length c3] 32)) := (Ext.refl _).alloc _
  have Q := Bx.new w3 #[.int .i64 hh, .int .i64 ep, .string r, .string p, .int .i64 S.at_, .slice a1 S.op.length c1, .slice a2 S.sh.length c2, .slice a3 S.si.length c3] 32
  have hw3 : w.heap.size < w3.heap.size := R.1
  have hb3 := C.lt
  have hm3 := M.size
  replace R := R.ext e3
  replace C := C.ext e3
  replace M := M.trans (Mut.of_ext e3)
  replace so := so.ext e3
  have hq4 := Q.1
  have nqb : w3.heap.size ≠ b := by omega
  have q0 := Q.2.1 0 _ rfl
  have q1 := Q.2.1 1 _ rfl
  have q2 := Q.2.1 2 _ rfl
  have q3 := Q.2.1 3 _ rfl
  have q4 := Q.2.1 4 _ rfl
  have q5 := Q.2.1 5 _ rfl
  have q6 := Q.2.1 6 _ rfl
  have q7 := Q.2.1 7 _ rfl
  go_wp2_with fail
  generalize w3.alloc (Obj.cells #[.int .i64 hh, .int .i64 ep, .string r, .string p, .int .i64 S.at_, .slice a1 S.op.length c1, .slice a2 S.sh.length c2, .slice a3 S.si.length c3] 32) = w4 at *
  generalize w3.heap.size = qb at *
  clear e3
  obtain ⟨-, ⟨n1, -⟩, ⟨n2, -⟩, n3, -⟩ := sigWell_true HW.out
  have N1 := Lib.hid n1
  have N2 := Lib.hid n2
  have N3 := Lib.hid n3
  refine (spec_l14Copy hh ep r p _ _ _ S _ so.1.strs so.2.1.strs so.2.2.1.strs (own_solid so.1) (own_solid so.2.1) (own_solid so.2.2.1) (by omega) (by omega) (by omega)).mono ?_
  rintro e w5 ⟨p1, d1, p2, d2, p3, d3, rfl, sc, x5⟩
  clear so n1 n2 n3 q0 q1 q2 q3 q4 q5 q6 q7
  replace R := R.ext x5
  replace C := C.ext x5
  replace M := M.trans (Mut.of_ext x5)
  replace Q := Q.ext x5
  have z0 := Q.2.1 0 _ rfl
  have z1 := Q.2.1 1 _ rfl
  have z2 := Q.2.1 2 _ rfl
  have z3 := Q.2.1 3 _ rfl
  have z4 := Q.2.1 4 _ rfl
  have z5 := Q.2.1 5 _ rfl
  have z6 := Q.2.1 6 _ rfl
  have z7 := Q.2.1 7 _ rfl
  have f0 := Q.2.2 0
  have f1 := Q.2.2 1
  have f2 := Q.2.2 2
  have f3 := Q.2.2 3
  have f4 := Q.2.2 4
  have f5 := Q.2.2 5
  have f6 := Q.2.2 6
  have f7 := Q.2.2 7
  have R9 := ((((((((R.far (c := qb) (by omega) 0 (.int .i64 hh)).far (c := qb) (by omega) 1 (.int .i64 ep)).far (c := qb) (by omega) 2 (.string r)).far (c := qb) (by omega) 3 (.string p)).far (c := qb) (by omega) 4 (.int .i64 S.at_)).far (c := qb) (by omega) 5 (.slice p1 S.op.length d1)).far (c := qb) (by omega) 6 (.slice p2 S.sh.length d2)).far (c := qb) (by omega) 7 (.slice p3 S.si.length d3))
  have Q9 := ((((((((Q.set 0 (.int .i64 hh) (by simp)).set 1 (.int .i64 ep) (by simp)).set 2 (.string r) (by simp)).set 3 (.string p) (by simp)).set 4 (.int .i64 S.at_) (by simp)).set 5 (.slice p1 S.op.length d1) (by simp)).set 6 (.slice p2 S.sh.length d2) (by simp)).set 7 (.slice p3 S.si.length d3) (by simp))
  have C9 := ((((((((C.far (c := qb) (by omega) 0 (.int .i64 hh)).far (c := qb) (by omega) 1 (.int .i64 ep)).far (c := qb) (by omega) 2 (.string r)).far (c := qb) (by omega) 3 (.string p)).far (c := qb) (by omega) 4 (.int .i64 S.at_)).far (c := qb) (by omega) 5 (.slice p1 S.op.length d1)).far (c := qb) (by omega) 6 (.slice p2 S.sh.length d2)).far (c := qb) (by omega) 7 (.slice p3 S.si.length d3))
  have M9 := ((((((((M.above (k := qb) (by omega) 0 (.int .i64 hh)).above (k := qb) (by omega) 1 (.int .i64 ep)).above (k := qb) (by omega) 2 (.string r)).above (k := qb) (by omega) 3 (.string p)).above (k := qb) (by omega) 4 (.int .i64 S.at_)).above (k := qb) (by omega) 5 (.slice p1 S.op.length d1)).above (k := qb) (by omega) 6 (.slice p2 S.sh.length d2)).above (k := qb) (by omega) 7 (.slice p3 S.si.length d3))
  have s9 := ((((((((sc.set (b := qb) (by omega) 0 (.int .i64 hh)).set (b := qb) (by omega) 1 (.int .i64 ep)).set (b := qb) (by omega) 2 (.string r)).set (b := qb) (by omega) 3 (.string p)).set (b := qb) (by omega) 4 (.int .i64 S.at_)).set (b := qb) (by omega) 5 (.slice p1 S.op.length d1)).set (b := qb) (by omega) 6 (.slice p2 S.sh.length d2)).set (b := qb) (by omega) 7 (.slice p3 S.si.length d3))
  go_upto_region 5 with (fail)
  clear z0 f0 z1 f1 z2 f2 z3 f3 z4 f4 z5 f5 z6 f6 z7 f7 Q R C M sc
  have R := R9
  have Q := Q9
  have C := C9
  have M := M9
  have sc := s9
  clear R9 Q9 C9 M9 s9
  generalize (((((((w5.setCell ⟨qb, 0, none⟩ (.int .i64 hh)).setCell ⟨qb, 1, none⟩ (.int .i64 ep)).setCell ⟨qb, 2, none⟩ (.string r)).setCell ⟨qb, 3, none⟩ (.string p)).setCell ⟨qb, 4, none⟩ (.int .i64 S.at_)).setCell ⟨qb, 5, none⟩ (.slice p1 S.op.length d1)).setCell ⟨qb, 6, none⟩ (.slice p2 S.sh.length d2)).setCell ⟨qb, 7, none⟩ (.slice p3 S.si.length d3) = w6 at *
  have lq6 : qb < w6.heap.size := Q.1
  by_cases h5 : 5 ≤ k
  · have hk0 : ¬ k = 0 := by omega
    have hk1 : ¬ k = 1 := by omega
    have hk2 : ¬ k = 2 := by omega
    have hk3 : ¬ k = 3 := by omega
    have hk4 : ¬ k = 4 := by omega
    have hkb0 : (k == 0) = false := beq_eq_false_iff_ne.2 hk0
    have hkb1 : (k == 1) = false := beq_eq_false_iff_ne.2 hk1
    have hkb2 : (k == 2) = false := beq_eq_false_iff_ne.2 hk2
    have hkb3 : (k == 3) = false := beq_eq_false_iff_ne.2 hk3
    have hkb4 : (k == 4) = false := beq_eq_false_iff_ne.2 hk4
    have SR := (sigRd_of sc).mono (show qb + 1 ≤ _ by omega)
    go_upto_region 16 with (fail)
    have q0 := Q.2.1 0 _ rfl
    have q1 := Q.2.1 1 _ rfl
    have q2 := Q.2.1 2 _ rfl
    have q3 := Q.2.1 3 _ rfl
    have q4 := Q.2.1 4 _ rfl
    have q5 := Q.2.1 5 _ rfl
    have q6 := Q.2.1 6 _ rfl
    have q7 := Q.2.1 7 _ rfl
    have z0 := R.2.1 0 _ rfl
    have z1 := R.2.1 1 _ rfl
    have z2 := R.2.1 2 _ rfl
    have z3 := R.2.1 3 _ rfl
    have z4 := R.2.1 4 _ rfl
    have z5 := R.2.1 5 _ rfl
    have z6 := R.2.1 6 _ rfl
    have z7 := R.2.1 7 _ rfl
    have f0 := R.2.2 0
    have f1 := R.2.2 1
    have f2 := R.2.2 2
    have f3 := R.2.2 3
    have f4 := R.2.2 4
    have f5 := R.2.2 5
    have f6 := R.2.2 6
    have f7 := R.2.2 7
    have RF := ((((((((R.set 0 (.int .i64 hh) (by simp)).set 1 (.int .i64 ep) (by simp)).set 2 (.string r) (by simp)).set 3 (.string p) (by simp)).set 4 (.int .i64 S.at_) (by simp)).set 5 (.slice p1 S.op.length d1) (by simp)).set 6 (.slice p2 S.sh.length d2) (by simp)).set 7 (.slice p3 S.si.length d3) (by simp))
    have CF := ((((((((C.far (c := w.heap.size) (by omega) 0 (.int .i64 hh)).far (c := w.heap.size) (by omega) 1 (.int .i64 ep)).far (c := w.heap.size) (by omega) 2 (.string r)).far (c := w.heap.size) (by omega) 3 (.string p)).far (c := w.heap.size) (by omega) 4 (.int .i64 S.at_)).far (c := w.heap.size) (by omega) 5 (.slice p1 S.op.length d1)).far (c := w.heap.size) (by omega) 6 (.slice p2 S.sh.length d2)).far (c := w.heap.size) (by omega) 7 (.slice p3 S.si.length d3))
    have MF : Mut b w ((((((((w6.setCell ⟨w.heap.size, 0, none⟩ (.int .i64 hh)).setCell ⟨w.heap.size, 1, none⟩ (.int .i64 ep)).setCell ⟨w.heap.size, 2, none⟩ (.string r)).setCell ⟨w.heap.size, 3, none⟩ (.string p)).setCell ⟨w.heap.size, 4, none⟩ (.int .i64 S.at_)).setCell ⟨w.heap.size, 5, none⟩ (.slice p1 S.op.length d1)).setCell ⟨w.heap.size, 6, none⟩ (.slice p2 S.sh.length d2)).setCell ⟨w.heap.size, 7, none⟩ (.slice p3 S.si.length d3)) := ((((((((M.above (k := w.heap.size) (Nat.le_refl _) 0 (.int .i64 hh)).above (k := w.heap.size) (Nat.le_refl _) 1 (.int .i64 ep)).above (k := w.heap.size) (Nat.le_refl _) 2 (.string r)).above (k := w.heap.size) (Nat.le_refl _) 3 (.string p)).above (k := w.heap.size) (Nat.le_refl _) 4 (.int .i64 S.at_)).above (k := w.heap.size) (Nat.le_refl _) 5 (.slice p1 S.op.length d1)).above (k := w.heap.size) (Nat.le_refl _) 6 (.slice p2 S.sh.length d2)).above (k := w.heap.size) (Nat.le_refl _) 7 (.slice p3 S.si.length d3))
    have SF := ((((((((SR.set (c := w.heap.size) (by omega) 0 (.int .i64 hh)).set (c := w.heap.size) (by omega) 1 (.int .i64 ep)).set (c := w.heap.size) (by omega) 2 (.string r)).set (c := w.heap.size) (by omega) 3 (.string p)).set (c := w.heap.size) (by omega) 4 (.int .i64 S.at_)).set (c := w.heap.size) (by omega) 5 (.slice p1 S.op.length d1)).set (c := w.heap.size) (by omega) 6 (.slice p2 S.sh.length d2)).set (c := w.heap.size) (by omega) 7 (.slice p3 S.si.length d3))
    have k0 := RF.2.1 0 _ rfl
    have k1 := RF.2.1 1 _ rfl
    have k2 := RF.2.1 2 _ rfl
    have k3 := RF.2.1 3 _ rfl
    have k4 := RF.2.1 4 _ rfl
    have k5 := RF.2.1 5 _ rfl
    have k6 := RF.2.1 6 _ rfl
    have k7 := RF.2.1 7 _ rfl
    go_wp2
    refine bodyPost_ret (v := .tuple #[.agg #[.int .i64 hh, .int .i64 ep, .string r, .string p, .int .i64 S.at_, .slice p1 S.op.length d1, .slice p2 S.sh.length d2, .slice p3 S.si.length d3], .string root]) (by simp [results, Tryz.results36, go_sem, k0, k1, k2, k3, k4, k5, k6, k7]) rfl ?_
    exact ⟨hh, ep, r, p, root, S, p1, p2, p3, d1, d2, d3, rfl, (show SigFit S from sig_fit HW.out), SF.mono (by omega), CF, MF⟩
  by_cases h0 : k = 0
  · subst h0
    have z0 := Q.2.1 1 _ rfl
    have f0 := Q.2.2 1
    go_upto_region 16 with (fail)
    clear z0 f0
    have Q9 := Q.set 1 (.int .i64 (x % 6)) (by simp)
    have R9 := R.far (c := qb) (by omega) 1 (.int .i64 (x % 6))
    have C9 := C.far (c := qb) (by omega) 1 (.int .i64 (x % 6))
    have M9 := M.above (k := qb) (by omega) 1 (.int .i64 (x % 6))
    have s9 := sc.set (b := qb) (by omega) 1 (.int .i64 (x % 6))
    clear Q R C M sc
    have R := R9
    have Q := Q9
    have C := C9
    have M := M9
    have sc := s9
    clear R9 Q9 C9 M9 s9
    generalize w6.setCell ⟨qb, 1, none⟩ (.int .i64 (x % 6)) = w7 at *
    have SR := (sigRd_of sc).mono (show qb + 1 ≤ _ by omega)
    have q0 := Q.2.1 0 _ rfl
    have q1 := Q.2.1 1 _ rfl
    have q2 := Q.2.1 2 _ rfl
    have q3 := Q.2.1 3 _ rfl
    have q4 := Q.2.1 4 _ rfl
    have q5 := Q.2.1 5 _ rfl
    have q6 := Q.2.1 6 _ rfl
    have q7 := Q.2.1 7 _ rfl
    have z0 := R.2.1 0 _ rfl
    have z1 := R.2.1 1 _ rfl
    have z2 := R.2.1 2 _ rfl
    have z3 := R.2.1 3 _ rfl
    have z4 := R.2.1 4 _ rfl
    have z5 := R.2.1 5 _ rfl
    have z6 := R.2.1 6 _ rfl
    have z7 := R.2.1 7 _ rfl
    have f0 := R.2.2 0
    have f1 := R.2.2 1
    have f2 := R.2.2 2
    have f3 := R.2.2 3
    have f4 := R.2.2 4
    have f5 := R.2.2 5
    have f6 := R.2.2 6
    have f7 := R.2.2 7
    have RF := ((((((((R.set 0 (.int .i64 hh) (by simp)).set 1 (.int .i64 (x % 6)) (by simp)).set 2 (.string r) (by simp)).set 3 (.string p) (by simp)).set 4 (.int .i64 S.at_) (by simp)).set 5 (.slice p1 S.op.length d1) (by simp)).set 6 (.slice p2 S.sh.length d2) (by simp)).set 7 (.slice p3 S.si.length d3) (by simp))
    have CF := ((((((((C.far (c := w.heap.size) (by omega) 0 (.int .i64 hh)).far (c := w.heap.size) (by omega) 1 (.int .i64 (x % 6))).far (c := w.heap.size) (by omega) 2 (.string r)).far (c := w.heap.size) (by omega) 3 (.string p)).far (c := w.heap.size) (by omega) 4 (.int .i64 S.at_)).far (c := w.heap.size) (by omega) 5 (.slice p1 S.op.length d1)).far (c := w.heap.size) (by omega) 6 (.slice p2 S.sh.length d2)).far (c := w.heap.size) (by omega) 7 (.slice p3 S.si.length d3))
    have MF : Mut b w ((((((((w7.setCell ⟨w.heap.size, 0, none⟩ (.int .i64 hh)).setCell ⟨w.heap.size, 1, none⟩ (.int .i64 (x % 6))).setCell ⟨w.heap.size, 2, none⟩ (.string r)).setCell ⟨w.heap.size, 3, none⟩ (.string p)).setCell ⟨w.heap.size, 4, none⟩ (.int .i64 S.at_)).setCell ⟨w.heap.size, 5, none⟩ (.slice p1 S.op.length d1)).setCell ⟨w.heap.size, 6, none⟩ (.slice p2 S.sh.length d2)).setCell ⟨w.heap.size, 7, none⟩ (.slice p3 S.si.length d3)) := ((((((((M.above (k := w.heap.size) (Nat.le_refl _) 0 (.int .i64 hh)).above (k := w.heap.size) (Nat.le_refl _) 1 (.int .i64 (x % 6))).above (k := w.heap.size) (Nat.le_refl _) 2 (.string r)).above (k := w.heap.size) (Nat.le_refl _) 3 (.string p)).above (k := w.heap.size) (Nat.le_refl _) 4 (.int .i64 S.at_)).above (k := w.heap.size) (Nat.le_refl _) 5 (.slice p1 S.op.length d1)).above (k := w.heap.size) (Nat.le_refl _) 6 (.slice p2 S.sh.length d2)).above (k := w.heap.size) (Nat.le_refl _) 7 (.slice p3 S.si.length d3))
    have SF := ((((((((SR.set (c := w.heap.size) (by omega) 0 (.int .i64 hh)).set (c := w.heap.size) (by omega) 1 (.int .i64 (x % 6))).set (c := w.heap.size) (by omega) 2 (.string r)).set (c := w.heap.size) (by omega) 3 (.string p)).set (c := w.heap.size) (by omega) 4 (.int .i64 S.at_)).set (c := w.heap.size) (by omega) 5 (.slice p1 S.op.length d1)).set (c := w.heap.size) (by omega) 6 (.slice p2 S.sh.length d2)).set (c := w.heap.size) (by omega) 7 (.slice p3 S.si.length d3))
    have k0 := RF.2.1 0 _ rfl
    have k1 := RF.2.1 1 _ rfl
    have k2 := RF.2.1 2 _ rfl
    have k3 := RF.2.1 3 _ rfl
    have k4 := RF.2.1 4 _ rfl
    have k5 := RF.2.1 5 _ rfl
    have k6 := RF.2.1 6 _ rfl
    have k7 := RF.2.1 7 _ rfl
    go_wp2
    refine bodyPost_ret (v := .tuple #[.agg #[.int .i64 hh, .int .i64 (x % 6), .string r, .string p, .int .i64 S.at_, .slice p1 S.op.length d1, .slice p2 S.sh.length d2, .slice p3 S.si.length d3], .string root]) (by simp [results, Tryz.results36, go_sem, k0, k1, k2, k3, k4, k5, k6, k7]) rfl ?_
    exact ⟨hh, (x % 6), r, p, root, S, p1, p2, p3, d1, d2, d3, rfl, (show SigFit S from sig_fit HW.out), SF.mono (by omega), CF, MF⟩
  by_cases h1 : k = 1
  · subst h1
    go_wp2_with fail
    refine (spec_l01Long 16 _ _ (by omega)).mono ?_
    rintro e w7 ⟨tx, rfl, htx, x7⟩
    replace R := R.ext x7
    replace C := C.ext x7
    replace M := M.trans (Mut.of_ext x7)
    replace Q := Q.ext x7
    replace sc := sc.ext x7
    have z0 := Q.2.1 2 _ rfl
    have f0 := Q.2.2 2
    go_upto_region 16 with (fail)
    clear z0 f0
    have Q9 := Q.set 2 (.string tx) (by simp)
    have R9 := R.far (c := qb) (by omega) 2 (.string tx)
    have C9 := C.far (c := qb) (by omega) 2 (.string tx)
    have M9 := M.above (k := qb) (by omega) 2 (.string tx)
    have s9 := sc.set (b := qb) (by omega) 2 (.string tx)
    clear Q R C M sc
    have R := R9
    have Q := Q9
    have C := C9
    have M := M9
    have sc := s9
    clear R9 Q9 C9 M9 s9
    generalize w7.setCell ⟨qb, 2, none⟩ (.string tx) = w8 at *
    have SR := (sigRd_of sc).mono (show qb + 1 ≤ _ by omega)
    have q0 := Q.2.1 0 _ rfl
    have q1 := Q.2.1 1 _ rfl
    have q2 := Q.2.1 2 _ rfl
    have q3 := Q.2.1 3 _ rfl
    have q4 := Q.2.1 4 _ rfl
    have q5 := Q.2.1 5 _ rfl
    have q6 := Q.2.1 6 _ rfl
    have q7 := Q.2.1 7 _ rfl
    have z0 := R.2.1 0 _ rfl
    have z1 := R.2.1 1 _ rfl
    have z2 := R.2.1 2 _ rfl
    have z3 := R.2.1 3 _ rfl
    have z4 := R.2.1 4 _ rfl
    have z5 := R.2.1 5 _ rfl
    have z6 := R.2.1 6 _ rfl
    have z7 := R.2.1 7 _ rfl
    have f0 := R.2.2 0
    have f1 := R.2.2 1
    have f2 := R.2.2 2
    have f3 := R.2.2 3
    have f4 := R.2.2 4
    have f5 := R.2.2 5
    have f6 := R.2.2 6
    have f7 := R.2.2 7
    have RF := ((((((((R.set 0 (.int .i64 hh) (by simp)).set 1 (.int .i64 ep) (by simp)).set 2 (.string tx) (by simp)).set 3 (.string p) (by simp)).set 4 (.int .i64 S.at_) (by simp)).set 5 (.slice p1 S.op.length d1) (by simp)).set 6 (.slice p2 S.sh.length d2) (by simp)).set 7 (.slice p3 S.si.length d3) (by simp))
    have CF := ((((((((C.far (c := w.heap.size) (by omega) 0 (.int .i64 hh)).far (c := w.heap.size) (by omega) 1 (.int .i64 ep)).far (c := w.heap.size) (by omega) 2 (.string tx)).far (c := w.heap.size) (by omega) 3 (.string p)).far (c := w.heap.size) (by omega) 4 (.int .i64 S.at_)).far (c := w.heap.size) (by omega) 5 (.slice p1 S.op.length d1)).far (c := w.heap.size) (by omega) 6 (.slice p2 S.sh.length d2)).far (c := w.heap.size) (by omega) 7 (.slice p3 S.si.length d3))
    have MF : Mut b w ((((((((w8.setCell ⟨w.heap.size, 0, none⟩ (.int .i64 hh)).setCell ⟨w.heap.size, 1, none⟩ (.int .i64 ep)).setCell ⟨w.heap.size, 2, none⟩ (.string tx)).setCell ⟨w.heap.size, 3, none⟩ (.string p)).setCell ⟨w.heap.size, 4, none⟩ (.int .i64 S.at_)).setCell ⟨w.heap.size, 5, none⟩ (.slice p1 S.op.length d1)).setCell ⟨w.heap.size, 6, none⟩ (.slice p2 S.sh.length d2)).setCell ⟨w.heap.size, 7, none⟩ (.slice p3 S.si.length d3)) := ((((((((M.above (k := w.heap.size) (Nat.le_refl _) 0 (.int .i64 hh)).above (k := w.heap.size) (Nat.le_refl _) 1 (.int .i64 ep)).above (k := w.heap.size) (Nat.le_refl _) 2 (.string tx)).above (k := w.heap.size) (Nat.le_refl _) 3 (.string p)).above (k := w.heap.size) (Nat.le_refl _) 4 (.int .i64 S.at_)).above (k := w.heap.size) (Nat.le_refl _) 5 (.slice p1 S.op.length d1)).above (k := w.heap.size) (Nat.le_refl _) 6 (.slice p2 S.sh.length d2)).above (k := w.heap.size) (Nat.le_refl _) 7 (.slice p3 S.si.length d3))
    have SF := ((((((((SR.set (c := w.heap.size) (by omega) 0 (.int .i64 hh)).set (c := w.heap.size) (by omega) 1 (.int .i64 ep)).set (c := w.heap.size) (by omega) 2 (.string tx)).set (c := w.heap.size) (by omega) 3 (.string p)).set (c := w.heap.size) (by omega) 4 (.int .i64 S.at_)).set (c := w.heap.size) (by omega) 5 (.slice p1 S.op.length d1)).set (c := w.heap.size) (by omega) 6 (.slice p2 S.sh.length d2)).set (c := w.heap.size) (by omega) 7 (.slice p3 S.si.length d3))
    have k0 := RF.2.1 0 _ rfl
    have k1 := RF.2.1 1 _ rfl
    have k2 := RF.2.1 2 _ rfl
    have k3 := RF.2.1 3 _ rfl
    have k4 := RF.2.1 4 _ rfl
    have k5 := RF.2.1 5 _ rfl
    have k6 := RF.2.1 6 _ rfl
    have k7 := RF.2.1 7 _ rfl
    go_wp2
    refine bodyPost_ret (v := .tuple #[.agg #[.int .i64 hh, .int .i64 ep, .string tx, .string p, .int .i64 S.at_, .slice p1 S.op.length d1, .slice p2 S.sh.length d2, .slice p3 S.si.length d3], .string root]) (by simp [results, Tryz.results36, go_sem, k0, k1, k2, k3, k4, k5, k6, k7]) rfl ?_
    exact ⟨hh, ep, tx, p, root, S, p1, p2, p3, d1, d2, d3, rfl, (show SigFit S from sig_fit HW.out), SF.mono (by omega), CF, MF⟩
  by_cases h2 : k = 2
  · subst h2
    have z0 := Q.2.1 4 _ rfl
    have f0 := Q.2.2 4
    go_upto_region 16 with (fail)
    clear z0 f0
    have Q9 := Q.set 4 (.int .i64 (x % 17)) (by simp)
    have R9 := R.far (c := qb) (by omega) 4 (.int .i64 (x % 17))
    have C9 := C.far (c := qb) (by omega) 4 (.int .i64 (x % 17))
    have M9 := M.above (k := qb) (by omega) 4 (.int .i64 (x % 17))
    have s9 := sc.set (b := qb) (by omega) 4 (.int .i64 (x % 17))
    clear Q R C M sc
    have R := R9
    have Q := Q9
    have C := C9
    have M := M9
    have sc := s9
    clear R9 Q9 C9 M9 s9
    generalize w6.setCell ⟨qb, 4, none⟩ (.int .i64 (x % 17)) = w7 at *
    have SR := (sigRd_of sc).mono (show qb + 1 ≤ _ by omega)
    have q0 := Q.2.1 0 _ rfl
    have q1 := Q.2.1 1 _ rfl
    have q2 := Q.2.1 2 _ rfl
    have q3 := Q.2.1 3 _ rfl
    have q4 := Q.2.1 4 _ rfl
    have q5 := Q.2.1 5 _ rfl
    have q6 := Q.2.1 6 _ rfl
    have q7 := Q.2.1 7 _ rfl
    have z0 := R.2.1 0 _ rfl
    have z1 := R.2.1 1 _ rfl
    have z2 := R.2.1 2 _ rfl
    have z3 := R.2.1 3 _ rfl
    have z4 := R.2.1 4 _ rfl
    have z5 := R.2.1 5 _ rfl
    have z6 := R.2.1 6 _ rfl
    have z7 := R.2.1 7 _ rfl
    have f0 := R.2.2 0
    have f1 := R.2.2 1
    have f2 := R.2.2 2
    have f3 := R.2.2 3
    have f4 := R.2.2 4
    have f5 := R.2.2 5
    have f6 := R.2.2 6
    have f7 := R.2.2 7
    have RF := ((((((((R.set 0 (.int .i64 hh) (by simp)).set 1 (.int .i64 ep) (by simp)).set 2 (.string r) (by simp)).set 3 (.string p) (by simp)).set 4 (.int .i64 (x % 17)) (by simp)).set 5 (.slice p1 S.op.length d1) (by simp)).set 6 (.slice p2 S.sh.length d2) (by simp)).set 7 (.slice p3 S.si.length d3) (by simp))
    have CF := ((((((((C.far (c := w.heap.size) (by omega) 0 (.int .i64 hh)).far (c := w.heap.size) (by omega) 1 (.int .i64 ep)).far (c := w.heap.size) (by omega) 2 (.string r)).far (c := w.heap.size) (by omega) 3 (.string p)).far (c := w.heap.size) (by omega) 4 (.int .i64 (x % 17))).far (c := w.heap.size) (by omega) 5 (.slice p1 S.op.length d1)).far (c := w.heap.size) (by omega) 6 (.slice p2 S.sh.length d2)).far (c := w.heap.size) (by omega) 7 (.slice p3 S.si.length d3))
    have MF : Mut b w ((((((((w7.setCell ⟨w.heap.size, 0, none⟩ (.int .i64 hh)).setCell ⟨w.heap.size, 1, none⟩ (.int .i64 ep)).setCell ⟨w.heap.size, 2, none⟩ (.string r)).setCell ⟨w.heap.size, 3, none⟩ (.string p)).setCell ⟨w.heap.size, 4, none⟩ (.int .i64 (x % 17))).setCell ⟨w.heap.size, 5, none⟩ (.slice p1 S.op.length d1)).setCell ⟨w.heap.size, 6, none⟩ (.slice p2 S.sh.length d2)).setCell ⟨w.heap.size, 7, none⟩ (.slice p3 S.si.length d3)) := ((((((((M.above (k := w.heap.size) (Nat.le_refl _) 0 (.int .i64 hh)).above (k := w.heap.size) (Nat.le_refl _) 1 (.int .i64 ep)).above (k := w.heap.size) (Nat.le_refl _) 2 (.string r)).above (k := w.heap.size) (Nat.le_refl _) 3 (.string p)).above (k := w.heap.size) (Nat.le_refl _) 4 (.int .i64 (x % 17))).above (k := w.heap.size) (Nat.le_refl _) 5 (.slice p1 S.op.length d1)).above (k := w.heap.size) (Nat.le_refl _) 6 (.slice p2 S.sh.length d2)).above (k := w.heap.size) (Nat.le_refl _) 7 (.slice p3 S.si.length d3))
    have SF := ((((((((SR.set (c := w.heap.size) (by omega) 0 (.int .i64 hh)).set (c := w.heap.size) (by omega) 1 (.int .i64 ep)).set (c := w.heap.size) (by omega) 2 (.string r)).set (c := w.heap.size) (by omega) 3 (.string p)).set (c := w.heap.size) (by omega) 4 (.int .i64 (x % 17))).set (c := w.heap.size) (by omega) 5 (.slice p1 S.op.length d1)).set (c := w.heap.size) (by omega) 6 (.slice p2 S.sh.length d2)).set (c := w.heap.size) (by omega) 7 (.slice p3 S.si.length d3))
    have k0 := RF.2.1 0 _ rfl
    have k1 := RF.2.1 1 _ rfl
    have k2 := RF.2.1 2 _ rfl
    have k3 := RF.2.1 3 _ rfl
    have k4 := RF.2.1 4 _ rfl
    have k5 := RF.2.1 5 _ rfl
    have k6 := RF.2.1 6 _ rfl
    have k7 := RF.2.1 7 _ rfl
    go_wp2
    refine bodyPost_ret (v := .tuple #[.agg #[.int .i64 hh, .int .i64 ep, .string r, .string p, .int .i64 (x % 17), .slice p1 S.op.length d1, .slice p2 S.sh.length d2, .slice p3 S.si.length d3], .string root]) (by simp [results, Tryz.results36, go_sem, k0, k1, k2, k3, k4, k5, k6, k7]) rfl ?_
    exact ⟨hh, ep, r, p, root, { S with at_ := x % 17 }, p1, p2, p3, d1, d2, d3, rfl, (show SigFit S from sig_fit HW.out), SF.mono (by omega), CF, MF⟩
  by_cases h4 : k = 4
  · subst h4
    go_wp2_with fail
    refine (spec_l01Long 16 97 _ (by omega)).mono ?_
    rintro e w7 ⟨tx, rfl, htx, x7⟩
    replace R := R.ext x7
    replace C := C.ext x7
    replace M := M.trans (Mut.of_ext x7)
    replace Q := Q.ext x7
    replace sc := sc.ext x7
    have SR := (sigRd_of sc).mono (show qb + 1 ≤ _ by omega)
    go_upto_region 16 with (fail)
    have q0 := Q.2.1 0 _ rfl
    have q1 := Q.2.1 1 _ rfl
    have q2 := Q.2.1 2 _ rfl
    have q3 := Q.2.1 3 _ rfl
    have q4 := Q.2.1 4 _ rfl
    have q5 := Q.2.1 5 _ rfl
    have q6 := Q.2.1 6 _ rfl
    have q7 := Q.2.1 7 _ rfl
    have z0 := R.2.1 0 _ rfl
    have z1 := R.2.1 1 _ rfl
    have z2 := R.2.1 2 _ rfl
    have z3 := R.2.1 3 _ rfl
    have z4 := R.2.1 4 _ rfl
    have z5 := R.2.1 5 _ rfl
    have z6 := R.2.1 6 _ rfl
    have z7 := R.2.1 7 _ rfl
    have f0 := R.2.2 0
    have f1 := R.2.2 1
    have f2 := R.2.2 2
    have f3 := R.2.2 3
    have f4 := R.2.2 4
    have f5 := R.2.2 5
    have f6 := R.2.2 6
    have f7 := R.2.2 7
    have RF := ((((((((R.set 0 (.int .i64 hh) (by simp)).set 1 (.int .i64 ep) (by simp)).set 2 (.string r) (by simp)).set 3 (.string p) (by simp)).set 4 (.int .i64 S.at_) (by simp)).set 5 (.slice p1 S.op.length d1) (by simp)).set 6 (.slice p2 S.sh.length d2) (by simp)).set 7 (.slice p3 S.si.length d3) (by simp))
    have CF := ((((((((C.far (c := w.heap.size) (by omega) 0 (.int .i64 hh)).far (c := w.heap.size) (by omega) 1 (.int .i64 ep)).far (c := w.heap.size) (by omega) 2 (.string r)).far (c := w.heap.size) (by omega) 3 (.string p)).far (c := w.heap.size) (by omega) 4 (.int .i64 S.at_)).far (c := w.heap.size) (by omega) 5 (.slice p1 S.op.length d1)).far (c := w.heap.size) (by omega) 6 (.slice p2 S.sh.length d2)).far (c := w.heap.size) (by omega) 7 (.slice p3 S.si.length d3))
    have MF : Mut b w ((((((((w7.setCell ⟨w.heap.size, 0, none⟩ (.int .i64 hh)).setCell ⟨w.heap.size, 1, none⟩ (.int .i64 ep)).setCell ⟨w.heap.size, 2, none⟩ (.string r)).setCell ⟨w.heap.size, 3, none⟩ (.string p)).setCell ⟨w.heap.size, 4, none⟩ (.int .i64 S.at_)).setCell ⟨w.heap.size, 5, none⟩ (.slice p1 S.op.length d1)).setCell ⟨w.heap.size, 6, none⟩ (.slice p2 S.sh.length d2)).setCell ⟨w.heap.size, 7, none⟩ (.slice p3 S.si.length d3)) := ((((((((M.above (k := w.heap.size) (Nat.le_refl _) 0 (.int .i64 hh)).above (k := w.heap.size) (Nat.le_refl _) 1 (.int .i64 ep)).above (k := w.heap.size) (Nat.le_refl _) 2 (.string r)).above (k := w.heap.size) (Nat.le_refl _) 3 (.string p)).above (k := w.heap.size) (Nat.le_refl _) 4 (.int .i64 S.at_)).above (k := w.heap.size) (Nat.le_refl _) 5 (.slice p1 S.op.length d1)).above (k := w.heap.size) (Nat.le_refl _) 6 (.slice p2 S.sh.length d2)).above (k := w.heap.size) (Nat.le_refl _) 7 (.slice p3 S.si.length d3))
    have SF := ((((((((SR.set (c := w.heap.size) (by omega) 0 (.int .i64 hh)).set (c := w.heap.size) (by omega) 1 (.int .i64 ep)).set (c := w.heap.size) (by omega) 2 (.string r)).set (c := w.heap.size) (by omega) 3 (.string p)).set (c := w.heap.size) (by omega) 4 (.int .i64 S.at_)).set (c := w.heap.size) (by omega) 5 (.slice p1 S.op.length d1)).set (c := w.heap.size) (by omega) 6 (.slice p2 S.sh.length d2)).set (c := w.heap.size) (by omega) 7 (.slice p3 S.si.length d3))
    have k0 := RF.2.1 0 _ rfl
    have k1 := RF.2.1 1 _ rfl
    have k2 := RF.2.1 2 _ rfl
    have k3 := RF.2.1 3 _ rfl
    have k4 := RF.2.1 4 _ rfl
    have k5 := RF.2.1 5 _ rfl
    have k6 := RF.2.1 6 _ rfl
    have k7 := RF.2.1 7 _ rfl
    go_wp2
    refine bodyPost_ret (v := .tuple #[.agg #[.int .i64 hh, .int .i64 ep, .string r, .string p, .int .i64 S.at_, .slice p1 S.op.length d1, .slice p2 S.sh.length d2, .slice p3 S.si.length d3], .string tx]) (by simp [results, Tryz.results36, go_sem, k0, k1, k2, k3, k4, k5, k6, k7]) rfl ?_
    exact ⟨hh, ep, r, p, tx, S, p1, p2, p3, d1, d2, d3, rfl, (show SigFit S from sig_fit HW.out), SF.mono (by omega), CF, MF⟩
  · obtain rfl : k = 3 := by omega
    have hl8 : (S.op.length : Int) = 8 := by rw [N1.out]; rfl
    obtain ⟨g1, cc1, he⟩ := own_form sc.1 (by rw [N1.out]; decide)
    injection he with he1 he2 he3
    subst he1 he3
    clear he2
    obtain ⟨j, hj, hj8⟩ : ∃ j : Nat, x % 8 = j ∧ j < 8 := ⟨(x % 8).toNat, by omega, by omega⟩
    have htm : x.tmod 8 = (j : Int) := by rw [Int.tmod_eq_emod_of_nonneg hx.1]; exact hj
    have hj0 : (0 : Int) ≤ j := by omega
    have hji : (j : Int) < 8 := by omega
    have hjl : (j : Int) < S.op.length := by omega
    go_upto_region 13 with (fail)
    refine wp_region_held_drew (S := (fun W => W.cell? ⟨qb, 5, none⟩ = some (.slice (some ⟨g1, 0, none⟩) S.op.length d1))) (by kernel_rfl) (by exact Q.2.1 5 _ rfl) (fun hHeld => ?_)
    have xd : Ext w6 w6.drew := (Ext.refl w6).drew
    replace R := R.ext xd
    replace C := C.ext xd
    replace M := M.trans (Mut.of_ext xd)
    replace Q := Q.ext xd
    replace sc := sc.ext xd
    generalize w6.drew = w8 at *
    clear xd
    (refine wpAnyH_take (i := 0) (v := ?_) rfl (by kernel_rfl) (by kernel_rfl) (by kernel_rfl) (fun _ _ _ h => h) (Or.inl ⟨by rfl, ?_⟩) (by assumption) ?_; rotate_left; focus (intro w hSw; (try dsimp only at hSw); (try simp only [zk1, zk2]); go_simp; try with_reducible rfl)); (try simp only [zk1, zk2]); (try simp only [Act.put, zk4, zk5, zk6])
    (refine wpAnyH_take (i := 1) (v := ?_) rfl (by kernel_rfl) (by kernel_rfl) (by kernel_rfl) (fun _ _ _ h => h) (Or.inl ⟨by rfl, ?_⟩) (by assumption) ?_; rotate_left; focus (intro w hSw; (try dsimp only at hSw); (try simp only [zk1, zk2, zk3]); go_simp; try with_reducible rfl)); (try simp only [zk1, zk2, zk3]); (try simp only [Act.put, zk4, zk5, zk6])
    (refine wpAnyH_take (i := 2) (v := ?_) rfl (by kernel_rfl) (by kernel_rfl) (by kernel_rfl) (fun _ _ _ h => h) (Or.inl ⟨by rfl, ?_⟩) (by assumption) ?_; rotate_left; focus (intro w hSw; (try dsimp only at hSw); (try simp only [zk1, zk2, zk3]); go_simp; try with_reducible rfl)); (try simp only [zk1, zk2, zk3]); (try simp only [Act.put, zk4, zk5, zk6])
    (refine wpAnyH_take (i := 3) (v := ?_) rfl (by kernel_rfl) (by kernel_rfl) (by kernel_rfl) (fun _ _ _ h => h) (Or.inl ⟨by rfl, ?_⟩) (by assumption) ?_; rotate_left; focus (intro w hSw; (try dsimp only at hSw); (try simp only [zk1, zk2, zk3]); go_simp; try with_reducible rfl)); (try simp only [zk1, zk2, zk3]); (try simp only [Act.put, zk4, zk5, zk6])
    (refine wpAnyH_take (i := 4) (v := .int .i64 j) rfl (by kernel_rfl) (by kernel_rfl) (by kernel_rfl) (fun _ _ _ h => h) (Or.inl ⟨by rfl, ?_⟩) (by assumption) ?_; focus (intro w hSw; (try dsimp only at hSw); (try simp only [zk1, zk2, zk3]); go_simp; (try simp))); (try simp only [zk1, zk2, zk3]); (try simp only [Act.put, zk4, zk5, zk6])
    (refine wpAnyH_take (i := 5) (v := ?_) rfl (by kernel_rfl) (by kernel_rfl) (by kernel_rfl) (fun _ _ _ h => h) (Or.inl ⟨by rfl, ?_⟩) (by assumption) ?_; rotate_left; focus (intro w hSw; (try dsimp only at hSw); (try simp only [zk1, zk2, zk3]); go_simp; try with_reducible rfl)); (try simp only [zk1, zk2, zk3]); (try simp only [Act.put, zk4, zk5, zk6])
    (refine wpAnyH_take (i := 6) (v := ?_) rfl (by kernel_rfl) (by kernel_rfl) (by kernel_rfl) (fun _ _ _ h => h) (Or.inl ⟨by rfl, ?_⟩) (by assumption) ?_; rotate_left; focus (intro w hSw; (try dsimp only at hSw); (try simp only [zk1, zk2, zk3]); go_simp; try with_reducible rfl)); (try simp only [zk1, zk2, zk3]); (try simp only [Act.put, zk4, zk5, zk6])
    (refine wpAnyH_ready (rs := [7]) (by kernel_rfl) (by simp) ?_; refine AllReadyH.cons rfl (fun K hK => ?_) AllReadyH.nil; (try simp only [zk1, zk2, zk3]))
    go_simp
    go_at_call 71
    refine (spec_l01Long 16 _ _ (by omega)).mono ?_
    rintro e w9 ⟨tx, rfl, htx, x9⟩
    replace R := R.ext x9
    replace C := C.ext x9
    replace M := M.trans (Mut.of_ext x9)
    replace Q := Q.ext x9
    replace sc := sc.ext x9
    (try dsimp only)
    refine hK.out _ _ (by exact Q.2.1 5 _ rfl) (fun hHeld => ?_)
    clear hK K
    (refine wpAnyH_take (i := 8) (v := .pointer (some ⟨g1, j, none⟩)) rfl (by kernel_rfl) (by kernel_rfl) (by kernel_rfl) (fun _ _ _ h => h) (Or.inl ⟨by rfl, ?_⟩) (by assumption) ?_; focus (intro w hSw; (try dsimp only at hSw); (try simp only [zk1, zk2, zk3]); go_simp; (try simp))); (try simp only [zk1, zk2, zk3]); (try simp only [Act.put, zk4, zk5, zk6])
    have hce : w9.cell? ⟨g1, j, none⟩ = some (.string (S.op.getD j ⟨#[]⟩)) := by rw [sc.1.cellAt j (by rw [N1.out]; exact hj8), List.getElem?_map, List.getD_eq_getElem?_getD, List.getElem?_eq_getElem (by rw [N1.out]; exact hj8)]; rfl
    have hfe := sc.1.frozenAt j
    have ST := sc.1.stored j (.string tx)
    obtain ⟨o1, gw⟩ := ST
    have hbl := own_lt sc.1 g1 rfl
    have hbl1 := hbl.1
    have Q7 := Q.grew gw (fun e => by injection e with e; omega)
    have R7 := R.grew gw (fun e => by injection e with e; omega)
    have C7 := C.grown gw (fun k hk => by injection hk with hk; omega)
    have M7 := M.grown gw (fun k hk => by injection hk with hk; omega)
    have o2 := own_grown2 sc.2.1 gw (fun k hk e => by injection hk with hk; subst hk; exact sc.2.2.2.1 _ rfl e)
    have o3 := own_grown2 sc.2.2.1 gw (fun k hk e => by injection hk with hk; subst hk; exact sc.2.2.2.2.1 _ rfl e)
    have hof := sc.2.2.2
    have hln : (S.op.set j tx).length = S.op.length := List.length_set
    have so7 : SigOwn (w9.setCell ⟨g1, j, none⟩ (.string tx)) w4.heap.size (.slice (some ⟨g1, 0, none⟩) S.op.length d1) (.slice p2 S.sh.length d2) (.slice p3 S.si.length d3) { S with op := S.op.set j tx } := ⟨by unfold OwnStrs; rw [hln, List.map_set]; exact o1, o2, o3, hof⟩
    (refine wpAnyH_ready (rs := [9]) (by kernel_rfl) (by simp) ?_; refine AllReadyH.cons rfl (fun K hK => ?_) AllReadyH.nil; (try simp only [zk1, zk2, zk3]))
    go_simp
    clear hce hfe o1 o2 o3 gw Q R C M sc
    have Q := Q7
    have R := R7
    have C := C7
    have M := M7
    have sc := so7
    clear Q7 R7 C7 M7 so7
    generalize w9.setCell ⟨g1, j, none⟩ (.string tx) = w7 at *
    (try dsimp only)
    refine hK.out _ _ (by exact Q.2.1 5 _ rfl) (fun hHeld => ?_)
    clear hK K
    refine wpAnyH_done (by kernel_rfl) ?_ _
    have SR := (sigRd_of sc).mono (show qb + 1 ≤ _ by omega)
    go_upto_region 16 with (fail)
    have q0 := Q.2.1 0 _ rfl
    have q1 := Q.2.1 1 _ rfl
    have q2 := Q.2.1 2 _ rfl
    have q3 := Q.2.1 3 _ rfl
    have q4 := Q.2.1 4 _ rfl
    have q5 := Q.2.1 5 _ rfl
    have q6 := Q.2.1 6 _ rfl
    have q7 := Q.2.1 7 _ rfl
    have z0 := R.2.1 0 _ rfl
    have z1 := R.2.1 1 _ rfl
    have z2 := R.2.1 2 _ rfl
    have z3 := R.2.1 3 _ rfl
    have z4 := R.2.1 4 _ rfl
    have z5 := R.2.1 5 _ rfl
    have z6 := R.2.1 6 _ rfl
    have z7 := R.2.1 7 _ rfl
    have f0 := R.2.2 0
    have f1 := R.2.2 1
    have f2 := R.2.2 2
    have f3 := R.2.2 3
    have f4 := R.2.2 4
    have f5 := R.2.2 5
    have f6 := R.2.2 6
    have f7 := R.2.2 7
    have RF := ((((((((R.set 0 (.int .i64 hh) (by simp)).set 1 (.int .i64 ep) (by simp)).set 2 (.string r) (by simp)).set 3 (.string p) (by simp)).set 4 (.int .i64 S.at_) (by simp)).set 5 (.slice (some ⟨g1, 0, none⟩) S.op.length d1) (by simp)).set 6 (.slice p2 S.sh.length d2) (by simp)).set 7 (.slice p3 S.si.length d3) (by simp))
    have CF := ((((((((C.far (c := w.heap.size) (by omega) 0 (.int .i64 hh)).far (c := w.heap.size) (by omega) 1 (.int .i64 ep)).far (c := w.heap.size) (by omega) 2 (.string r)).far (c := w.heap.size) (by omega) 3 (.string p)).far (c := w.heap.size) (by omega) 4 (.int .i64 S.at_)).far (c := w.heap.size) (by omega) 5 (.slice (some ⟨g1, 0, none⟩) S.op.length d1)).far (c := w.heap.size) (by omega) 6 (.slice p2 S.sh.length d2)).far (c := w.heap.size) (by omega) 7 (.slice p3 S.si.length d3))
    have MF : Mut b w ((((((((w7.setCell ⟨w.heap.size, 0, none⟩ (.int .i64 hh)).setCell ⟨w.heap.size, 1, none⟩ (.int .i64 ep)).setCell ⟨w.heap.size, 2, none⟩ (.string r)).setCell ⟨w.heap.size, 3, none⟩ (.string p)).setCell ⟨w.heap.size, 4, none⟩ (.int .i64 S.at_)).setCell ⟨w.heap.size, 5, none⟩ (.slice (some ⟨g1, 0, none⟩) S.op.length d1)).setCell ⟨w.heap.size, 6, none⟩ (.slice p2 S.sh.length d2)).setCell ⟨w.heap.size, 7, none⟩ (.slice p3 S.si.length d3)) := ((((((((M.above (k := w.heap.size) (Nat.le_refl _) 0 (.int .i64 hh)).above (k := w.heap.size) (Nat.le_refl _) 1 (.int .i64 ep)).above (k := w.heap.size) (Nat.le_refl _) 2 (.string r)).above (k := w.heap.size) (Nat.le_refl _) 3 (.string p)).above (k := w.heap.size) (Nat.le_refl _) 4 (.int .i64 S.at_)).above (k := w.heap.size) (Nat.le_refl _) 5 (.slice (some ⟨g1, 0, none⟩) S.op.length d1)).above (k := w.heap.size) (Nat.le_refl _) 6 (.slice p2 S.sh.length d2)).above (k := w.heap.size) (Nat.le_refl _) 7 (.slice p3 S.si.length d3))
    have SF := ((((((((SR.set (c := w.heap.size) (by omega) 0 (.int .i64 hh)).set (c := w.heap.size) (by omega) 1 (.int .i64 ep)).set (c := w.heap.size) (by omega) 2 (.string r)).set (c := w.heap.size) (by omega) 3 (.string p)).set (c := w.heap.size) (by omega) 4 (.int .i64 S.at_)).set (c := w.heap.size) (by omega) 5 (.slice (some ⟨g1, 0, none⟩) S.op.length d1)).set (c := w.heap.size) (by omega) 6 (.slice p2 S.sh.length d2)).set (c := w.heap.size) (by omega) 7 (.slice p3 S.si.length d3))
    have k0 := RF.2.1 0 _ rfl
    have k1 := RF.2.1 1 _ rfl
    have k2 := RF.2.1 2 _ rfl
    have k3 := RF.2.1 3 _ rfl
    have k4 := RF.2.1 4 _ rfl
    have k5 := RF.2.1 5 _ rfl
    have k6 := RF.2.1 6 _ rfl
    have k7 := RF.2.1 7 _ rfl
    go_wp2
    refine bodyPost_ret (v := .tuple #[.agg #[.int .i64 hh, .int .i64 ep, .string r, .string p, .int .i64 S.at_, .slice (some ⟨g1, 0, none⟩) S.op.length d1, .slice p2 S.sh.length d2, .slice p3 S.si.length d3], .string root]) (by simp [results, Tryz.results36, go_sem, k0, k1, k2, k3, k4, k5, k6, k7]) rfl ?_
    exact ⟨hh, ep, r, p, root, { S with op := S.op.set j tx }, some ⟨g1, 0, none⟩, p2, p3, d1, d2, d3, by rw [hln], ⟨fun z hz => by rcases List.mem_or_eq_of_mem_set hz with h | rfl; exact (sig_fit HW.out).1 z h; unfold maxLen; omega, (sig_fit HW.out).2⟩, (by rw [hln]; exact SF.mono (by omega)), CF, MF⟩
end Go.Proofs.YtkphipgfcbckcaaGreatDoor

namespace Go.Proofs.YtkphipgfcbckcaaGreatDoor
open Go.RowKit

def sealOk (hh ep : Int) (r p : ByteArray) (s : SigV) : Bool := headOk hh ep r p && sigWell s
def sealT (hh ep : Int) (r p : ByteArray) (s : SigV) : ByteArray := if sealOk hh ep r p s = true then varT (headText hh ep r p).size ++ headText hh ep r p ++ sigTx s else ⟨#[]⟩
theorem sealT_no {hh ep : Int} {r p : ByteArray} {s : SigV} (h : sealOk hh ep r p s = false) : sealT hh ep r p s = ⟨#[]⟩ := by rw [sealT, if_neg (by rw [h]; decide)]
theorem sealT_yes {hh ep : Int} {r p : ByteArray} {s : SigV} (h : sealOk hh ep r p s = true) : sealT hh ep r p s = varT (headText hh ep r p).size ++ headText hh ep r p ++ sigTx s := by rw [sealT, if_pos h]
theorem headText_34 (h ep : Int) (r p : ByteArray) : (headText h ep r p).size ≤ 34 := by
  cases hh : headOk h ep r p
  · rw [headText, if_neg (by rw [hh]; decide)]; exact Nat.zero_le _
  · obtain ⟨-, -, h1, h2, -⟩ := headOk_true hh
    rw [headText, if_pos hh, ByteArray.size_append, ByteArray.size_append, strOfNums_size]
    simp only [List.length_cons, List.length_nil]
    omega
theorem sigTx_size (s : SigV) : (sigTx s).size ≤ 700000 := by
  cases hw : sigWell s
  · rw [sigTx, if_neg (by rw [hw]; decide)]; exact Nat.zero_le _
  · obtain ⟨-, ⟨-, m1⟩, ⟨-, m2⟩, -, m3⟩ := sigWell_true hw
    have z1 := joinT_size m1
    have z2 := joinT_size m2
    have z3 := joinT_size m3
    rw [sigTx, if_pos hw, sigT, ByteArray.size_append, ByteArray.size_append, ByteArray.size_append, strOfNums_size]
    simp only [List.length_cons, List.length_nil]
    omega

set_option maxHeartbeats 1600000 in
theorem spec_SealText (hh ep : Int) (r p : ByteArray) (v1 v2 v3 : Value) (s : SigV) (w : World) (h1 : Strs w v1 s.op) (h2 : Strs w v2 s.sh) (h3 : Strs w v3 s.si) (hs : SigFit s) :
    Calls Tryz.prog 37 #[.agg #[.int .i64 hh, .int .i64 ep, .string r, .string p, .int .i64 s.at_, v1, v2, v3]] w fun e w' => e = .returned (.tuple #[.string (sealT hh ep r p s), .bool (sealOk hh ep r p s)]) ∧ Ext w w' := by
  obtain ⟨a1, c1, rfl⟩ := h1.form
  obtain ⟨a2, c2, rfl⟩ := h2.form
  obtain ⟨a3, c3, rfl⟩ := h3.form
  have zh := headText_34 hh ep r p
  have zs := sigTx_size s
  cases k1 : headOk hh ep r p
  · cases k2 : sigWell s
    all_goals
      have hno : sealOk hh ep r p s = false := by rw [sealOk, k1]; rfl
      have RO := Lib.hid hno
      have R := Lib.hid (sealT_no hno)
      clear hno
      have K1 := Lib.hid k1
      have K2 := Lib.hid k2
      clear k1 k2
      go_enter Tryz.func37, Tryz.ntmps37
      go_wp2_with fail
      have P := Bx.new w #[.int .i64 hh, .int .i64 ep, .string r, .string p, .int .i64 s.at_, .slice a1 s.op.length c1, .slice a2 s.sh.length c2, .slice a3 s.si.length c3] 32
      have x0 : Ext w (w.alloc (Obj.cells #[.int .i64 hh, .int .i64 ep, .string r, .string p, .int .i64 s.at_, .slice a1 s.op.length c1, .slice a2 s.sh.length c2, .slice a3 s.si.length c3] 32)) := (Ext.refl w).alloc _
      generalize (w.alloc (Obj.cells #[.int .i64 hh, .int .i64 ep, .string r, .string p, .int .i64 s.at_, .slice a1 s.op.length c1, .slice a2 s.sh.length c2, .slice a3 s.si.length c3] 32)) = W0 at *
      refine (spec_HeadText hh ep r p _).mono ?_
      rw [K1.out]
      rintro e w1 ⟨rfl, x1⟩
      have y1 : Ext W0 w1 := (by repeat (first | (with_reducible first | exact Ext.refl _ | assumption | apply Ext.alloc | apply Ext.drew | apply Ext.drewN | refine Ext.setCell ?_ ?_ _ | refine Ext.trans ?_ (by assumption)) | (show _ ≤ _; first | omega | (dsimp only; omega) | (simp; done) | (simp; omega))))
      replace P := P.ext y1
      have p0c := P.2.1 0 _ rfl
      have p1c := P.2.1 1 _ rfl
      have p2c := P.2.1 2 _ rfl
      have p3c := P.2.1 3 _ rfl
      have p4c := P.2.1 4 _ rfl
      have p5c := P.2.1 5 _ rfl
      have p6c := P.2.1 6 _ rfl
      have p7c := P.2.1 7 _ rfl
      go_wp2_with fail
      refine (spec_SigText _ _ _ s _ (h1.ext (by repeat (first | (with_reducible first | exact Ext.refl _ | assumption | apply Ext.alloc | apply Ext.drew | apply Ext.drewN | refine Ext.setCell ?_ ?_ _ | refine Ext.trans ?_ (by assumption)) | (show _ ≤ _; first | omega | (dsimp only; omega) | (simp; done) | (simp; omega))))) (h2.ext (by repeat (first | (with_reducible first | exact Ext.refl _ | assumption | apply Ext.alloc | apply Ext.drew | apply Ext.drewN | refine Ext.setCell ?_ ?_ _ | refine Ext.trans ?_ (by assumption)) | (show _ ≤ _; first | omega | (dsimp only; omega) | (simp; done) | (simp; omega))))) (h3.ext (by repeat (first | (with_reducible first | exact Ext.refl _ | assumption | apply Ext.alloc | apply Ext.drew | apply Ext.drewN | refine Ext.setCell ?_ ?_ _ | refine Ext.trans ?_ (by assumption)) | (show _ ≤ _; first | omega | (dsimp only; omega) | (simp; done) | (simp; omega))))) hs).mono ?_
      rw [K2.out]
      rintro e w2 ⟨rfl, x2⟩
      go_wp2
      go_ret2
      exact ⟨ret_sb R.out.symm RO.out.symm, (by repeat (first | (with_reducible first | exact Ext.refl _ | assumption | apply Ext.alloc | apply Ext.drew | apply Ext.drewN | refine Ext.setCell ?_ ?_ _ | refine Ext.trans ?_ (by assumption)) | (show _ ≤ _; first | omega | (dsimp only; omega) | (simp; done) | (simp; omega))))⟩
  · cases k2 : sigWell s
    · have hno : sealOk hh ep r p s = false := by rw [sealOk, k1, k2]; rfl
      have RO := Lib.hid hno
      have R := Lib.hid (sealT_no hno)
      clear hno
      have K1 := Lib.hid k1
      have K2 := Lib.hid k2
      clear k1 k2
      go_enter Tryz.func37, Tryz.ntmps37
      go_wp2_with fail
      have P := Bx.new w #[.int .i64 hh, .int .i64 ep, .string r, .string p, .int .i64 s.at_, .slice a1 s.op.length c1, .slice a2 s.sh.length c2, .slice a3 s.si.length c3] 32
      have x0 : Ext w (w.alloc (Obj.cells #[.int .i64 hh, .int .i64 ep, .string r, .string p, .int .i64 s.at_, .slice a1 s.op.length c1, .slice a2 s.sh.length c2, .slice a3 s.si.length c3] 32)) := (Ext.refl w).alloc _
      generalize (w.alloc (Obj.cells #[.int .i64 hh, .int .i64 ep, .string r, .string p, .int .i64 s.at_, .slice a1 s.op.length c1, .slice a2 s.sh.length c2, .slice a3 s.si.length c3] 32)) = W0 at *
      refine (spec_HeadText hh ep r p _).mono ?_
      rw [K1.out]
      rintro e w1 ⟨rfl, x1⟩
      have y1 : Ext W0 w1 := (by repeat (first | (with_reducible first | exact Ext.refl _ | assumption | apply Ext.alloc | apply Ext.drew | apply Ext.drewN | refine Ext.setCell ?_ ?_ _ | refine Ext.trans ?_ (by assumption)) | (show _ ≤ _; first | omega | (dsimp only; omega) | (simp; done) | (simp; omega))))
      replace P := P.ext y1
      have p0c := P.2.1 0 _ rfl
      have p1c := P.2.1 1 _ rfl
      have p2c := P.2.1 2 _ rfl
      have p3c := P.2.1 3 _ rfl
      have p4c := P.2.1 4 _ rfl
      have p5c := P.2.1 5 _ rfl
      have p6c := P.2.1 6 _ rfl
      have p7c := P.2.1 7 _ rfl
      go_wp2_with fail
      refine (spec_SigText _ _ _ s _ (h1.ext (by repeat (first | (with_reducible first | exact Ext.refl _ | assumption | apply Ext.alloc | apply Ext.drew | apply Ext.drewN | refine Ext.setCell ?_ ?_ _ | refine Ext.trans ?_ (by assumption)) | (show _ ≤ _; first | omega | (dsimp only; omega) | (simp; done) | (simp; omega))))) (h2.ext (by repeat (first | (with_reducible first | exact Ext.refl _ | assumption | apply Ext.alloc | apply Ext.drew | apply Ext.drewN | refine Ext.setCell ?_ ?_ _ | refine Ext.trans ?_ (by assumption)) | (show _ ≤ _; first | omega | (dsimp only; omega) | (simp; done) | (simp; omega))))) (h3.ext (by repeat (first | (with_reducible first | exact Ext.refl _ | assumption | apply Ext.alloc | apply Ext.drew | apply Ext.drewN | refine Ext.setCell ?_ ?_ _ | refine Ext.trans ?_ (by assumption)) | (show _ ≤ _; first | omega | (dsimp only; omega) | (simp; done) | (simp; omega))))) hs).mono ?_
      rw [K2.out]
      rintro e w2 ⟨rfl, x2⟩
      go_wp2
      go_ret2
      exact ⟨ret_sb R.out.symm RO.out.symm, (by repeat (first | (with_reducible first | exact Ext.refl _ | assumption | apply Ext.alloc | apply Ext.drew | apply Ext.drewN | refine Ext.setCell ?_ ?_ _ | refine Ext.trans ?_ (by assumption)) | (show _ ≤ _; first | omega | (dsimp only; omega) | (simp; done) | (simp; omega))))⟩
    · have hyes : sealOk hh ep r p s = true := by rw [sealOk, k1, k2]; rfl
      have RO := Lib.hid hyes
      have R := Lib.hid (sealT_yes hyes)
      clear hyes
      have K1 := Lib.hid k1
      have K2 := Lib.hid k2
      clear k1 k2
      go_enter Tryz.func37, Tryz.ntmps37
      go_wp2_with fail
      have P := Bx.new w #[.int .i64 hh, .int .i64 ep, .string r, .string p, .int .i64 s.at_, .slice a1 s.op.length c1, .slice a2 s.sh.length c2, .slice a3 s.si.length c3] 32
      have x0 : Ext w (w.alloc (Obj.cells #[.int .i64 hh, .int .i64 ep, .string r, .string p, .int .i64 s.at_, .slice a1 s.op.length c1, .slice a2 s.sh.length c2, .slice a3 s.si.length c3] 32)) := (Ext.refl w).alloc _
      generalize (w.alloc (Obj.cells #[.int .i64 hh, .int .i64 ep, .string r, .string p, .int .i64 s.at_, .slice a1 s.op.length c1, .slice a2 s.sh.length c2, .slice a3 s.si.length c3] 32)) = W0 at *
      refine (spec_HeadText hh ep r p _).mono ?_
      rw [K1.out]
      rintro e w1 ⟨rfl, x1⟩
      have y1 : Ext W0 w1 := (by repeat (first | (with_reducible first | exact Ext.refl _ | assumption | apply Ext.alloc | apply Ext.drew | apply Ext.drewN | refine Ext.setCell ?_ ?_ _ | refine Ext.trans ?_ (by assumption)) | (show _ ≤ _; first | omega | (dsimp only; omega) | (simp; done) | (simp; omega))))
      replace P := P.ext y1
      have p0c := P.2.1 0 _ rfl
      have p1c := P.2.1 1 _ rfl
      have p2c := P.2.1 2 _ rfl
      have p3c := P.2.1 3 _ rfl
      have p4c := P.2.1 4 _ rfl
      have p5c := P.2.1 5 _ rfl
      have p6c := P.2.1 6 _ rfl
      have p7c := P.2.1 7 _ rfl
      go_wp2_with fail
      refine (spec_SigText _ _ _ s _ (h1.ext (by repeat (first | (with_reducible first | exact Ext.refl _ | assumption | apply Ext.alloc | apply Ext.drew | apply Ext.drewN | refine Ext.setCell ?_ ?_ _ | refine Ext.trans ?_ (by assumption)) | (show _ ≤ _; first | omega | (dsimp only; omega) | (simp; done) | (simp; omega))))) (h2.ext (by repeat (first | (with_reducible first | exact Ext.refl _ | assumption | apply Ext.alloc | apply Ext.drew | apply Ext.drewN | refine Ext.setCell ?_ ?_ _ | refine Ext.trans ?_ (by assumption)) | (show _ ≤ _; first | omega | (dsimp only; omega) | (simp; done) | (simp; omega))))) (h3.ext (by repeat (first | (with_reducible first | exact Ext.refl _ | assumption | apply Ext.alloc | apply Ext.drew | apply Ext.drewN | refine Ext.setCell ?_ ?_ _ | refine Ext.trans ?_ (by assumption)) | (show _ ≤ _; first | omega | (dsimp only; omega) | (simp; done) | (simp; omega))))) hs).mono ?_
      rw [K2.out]
      rintro e w2 ⟨rfl, x2⟩
      have zv := varT_size (headText hh ep r p).size
      generalize headText hh ep r p = ht at *
      generalize sigTx s = st at *
      generalize hvt : varT ht.size = vt at *
      have HVT := Lib.hid hvt
      clear hvt
      have hn1 : ¬ (9223372036854775807 < vt.size + ht.size) := by omega
      have hn2 : ¬ (9223372036854775807 < vt.size + ht.size + st.size) := by omega
      have hn3 : (vt ++ ht).size = vt.size + ht.size := ByteArray.size_append
      go_wp2_with fail
      refine (spec_l01Var _ _ (by omega)).mono ?_
      rw [HVT.out]
      rintro e w3 ⟨rfl, x3⟩
      go_wp2
      go_ret2
      exact ⟨ret_sb R.out.symm RO.out.symm, (by repeat (first | (with_reducible first | exact Ext.refl _ | assumption | apply Ext.alloc | apply Ext.drew | apply Ext.drewN | refine Ext.setCell ?_ ?_ _ | refine Ext.trans ?_ (by assumption)) | (show _ ≤ _; first | omega | (dsimp only; omega) | (simp; done) | (simp; omega))))⟩

end Go.Proofs.YtkphipgfcbckcaaGreatDoor

namespace Go.Proofs.YtkphipgfcbckcaaGreatDoor
open Go.RowKit

set_option maxRecDepth 100000 in
set_option maxHeartbeats 1600000 in
theorem spec_l02Spoilt (b : Nat) (s : ByteArray) (w : World) (h : Cur w b) (hs : s.size ≤ 1048576) :
    Calls Tryz.prog 38 #[.pointer (some ⟨b, 0, none⟩), .string s] w fun e w' => ∃ t : ByteArray, e = .returned (.string t) ∧ t.size ≤ s.size + 1 ∧ Cur w' b ∧ Mut b w w' := by
  go_enter Tryz.func38, Tryz.ntmps38
  go_wp2_with fail
  refine (spec_l01Below b 12 _ h (by omega)).mono ?_
  rintro e w1 ⟨k, rfl, hk, C1, M1⟩
  rcases (show k = 0 ∨ k = 1 ∨ (k = 2 ∨ k = 3) ∨ (4 ≤ k) by omega) with rfl | rfl | hk | hk
  · go_wp2_with fail
    refine (spec_l01Text b 1 _ C1 (by omega)).mono ?_
    rintro e w2 ⟨z, rfl, hz, C2, M2⟩
    go_wp2
    go_ret
    exact ⟨_, rfl, by rw [ByteArray.size_append]; omega, C2, M1.trans M2⟩
  · go_wp2_with fail
    refine (spec_l01Below b ((s.size : Int) + 1) _ C1 (by omega)).mono ?_
    rintro e w2 ⟨z, rfl, hz, C2, M2⟩
    obtain ⟨n, rfl⟩ := Int.eq_ofNat_of_zero_le hz.1
    have hn : n ≤ s.size := by omega
    go_wp2
    go_ret
    exact ⟨_, rfl, by rw [ByteArray.size_extract]; omega, C2, M1.trans M2⟩
  · by_cases hz : s.size = 0
    · have hzi : ¬ (0 : Int) < s.size := by omega
      rcases hk with rfl | rfl
      all_goals
        go_wp2
        go_ret
        exact ⟨s, rfl, by omega, C1, M1⟩
    · have hzi : (0 : Int) < s.size := by omega
      rcases hk with rfl | rfl
      all_goals
        go_wp2_with fail
        refine (spec_l01Below b (s.size : Int) _ C1 (by omega)).mono ?_
        rintro e w2 ⟨z, rfl, hz2, C2, M2⟩
        obtain ⟨n, rfl⟩ := Int.eq_ofNat_of_zero_le hz2.1
        have hn : n + 1 ≤ s.size := by omega
        have M2' := M1.trans M2
        have hw1 : IntKind.i64.wrap ((n : Int) + 1) = (n : Int) + 1 := IntWalk.i64_in _ (by omega)
        go_wp2_with fail
        refine wp_region_held_drew (S := fun _ => True) (by kernel_rfl) (by trivial) (fun hHeld => ?_)
        (refine wpAnyH_take (i := 0) (v := ?_) rfl (by kernel_rfl) (by kernel_rfl) (by kernel_rfl) (fun _ _ _ h => h) (Or.inl ⟨by rfl, ?_⟩) (by assumption) ?_; rotate_left; focus (intro w hSw; (try dsimp only at hSw); (try simp only [zk1, zk2]); go_simp; try with_reducible rfl)); (try simp only [zk1, zk2]); (try simp only [Act.put, zk4, zk5, zk6])
        (refine wpAnyH_take (i := 1) (v := ?_) rfl (by kernel_rfl) (by kernel_rfl) (by kernel_rfl) (fun _ _ _ h => h) (Or.inl ⟨by rfl, ?_⟩) (by assumption) ?_; rotate_left; focus (intro w hSw; (try dsimp only at hSw); (try simp only [zk1, zk2, zk3]); go_simp; try with_reducible rfl)); (try simp only [zk1, zk2, zk3]); (try simp only [Act.put, zk4, zk5, zk6])
        (refine wpAnyH_take (i := 2) (v := .string (s.extract 0 n)) rfl (by kernel_rfl) (by kernel_rfl) (by kernel_rfl) (fun _ _ _ h => h) (Or.inl ⟨by rfl, ?_⟩) (by assumption) ?_; focus (intro w hSw; (try dsimp only at hSw); (try simp only [zk1, zk2, zk3]); go_simp; (intros; exfalso; omega))); (try simp only [zk1, zk2, zk3]); (try simp only [Act.put, zk4, zk5, zk6])
        (refine wpAnyH_take (i := 3) (v := ?_) rfl (by kernel_rfl) (by kernel_rfl) (by kernel_rfl) (fun _ _ _ h => h) (Or.inl ⟨by rfl, ?_⟩) (by assumption) ?_; rotate_left; focus (intro w hSw; (try dsimp only at hSw); (try simp only [zk1, zk2, zk3]); go_simp; try with_reducible rfl)); (try simp only [zk1, zk2, zk3]); (try simp only [Act.put, zk4, zk5, zk6])
        (refine wpAnyH_take (i := 6) (v := ?_) rfl (by kernel_rfl) (by kernel_rfl) (by kernel_rfl) (fun _ _ _ h => h) (Or.inl ⟨by rfl, ?_⟩) (by assumption) ?_; rotate_left; focus (intro w hSw; (try dsimp only at hSw); (try simp only [zk1, zk2, zk3]); go_simp; try with_reducible rfl)); (try simp only [zk1, zk2, zk3]); (try simp only [Act.put, zk4, zk5, zk6])
        (refine wpAnyH_take (i := 7) (v := ?_) rfl (by kernel_rfl) (by kernel_rfl) (by kernel_rfl) (fun _ _ _ h => h) (Or.inl ⟨by rfl, ?_⟩) (by assumption) ?_; rotate_left; focus (intro w hSw; (try dsimp only at hSw); (try simp only [zk1, zk2, zk3]); go_simp; try with_reducible rfl)); (try simp only [zk1, zk2, zk3]); (try simp only [Act.put, zk4, zk5, zk6])
        (refine wpAnyH_take (i := 8) (v := ?_) rfl (by kernel_rfl) (by kernel_rfl) (by kernel_rfl) (fun _ _ _ h => h) (Or.inl ⟨by rfl, ?_⟩) (by assumption) ?_; rotate_left; focus (intro w hSw; (try dsimp only at hSw); (try simp only [zk1, zk2, zk3]); go_simp; try with_reducible rfl)); (try simp only [zk1, zk2, zk3]); (try simp only [Act.put, zk4, zk5, zk6])
        (refine wpAnyH_take (i := 9) (v := .string (s.extract (n + 1) s.size)) rfl (by kernel_rfl) (by kernel_rfl) (by kernel_rfl) (fun _ _ _ h => h) (Or.inl ⟨by rfl, ?_⟩) (by assumption) ?_; focus (intro w hSw; (try dsimp only at hSw); (try simp only [zk1, zk2, zk3]); go_simp; (intros; exfalso; omega))); (try simp only [zk1, zk2, zk3]); (try simp only [Act.put, zk4, zk5, zk6])
        (refine wpAnyH_ready (rs := [4]) (by kernel_rfl) (by simp) ?_; refine AllReadyH.cons rfl (fun K hK => ?_) AllReadyH.nil; (try simp only [zk1, zk2, zk3]))
        go_simp
        go_at_call 74
        refine (spec_l01Text b 1 _ (C2.ext (by repeat (first | (with_reducible first | exact Ext.refl _ | assumption | apply Ext.alloc | apply Ext.drew | apply Ext.drewN | refine Ext.setCell ?_ ?_ _ | refine Ext.trans ?_ (by assumption)) | (show _ ≤ _; first | omega | (dsimp only; omega) | (simp; done) | (simp; omega))))) (by omega)).mono ?_
        rintro e w3 ⟨z, rfl, hz3, C3, M3⟩
        (try dsimp only)
        refine hK.out _ _ (by trivial) (fun hHeld => ?_)
        clear hK K
        have q1 : ¬ (9223372036854775807 < (s.extract 0 n).size + z.size) := by rw [ByteArray.size_extract]; omega
        have q2 : ¬ (9223372036854775807 < (s.extract 0 n).size + z.size + (s.extract (n + 1) s.size).size) := by rw [ByteArray.size_extract, ByteArray.size_extract]; omega
        have q3 : ¬ (9223372036854775807 < (s.extract 0 n ++ z).size + (s.extract (n + 1) s.size).size) := by rw [ByteArray.size_append]; exact q2
        (refine wpAnyH_take (i := 5) (v := .string (s.extract 0 n ++ z)) rfl (by kernel_rfl) (by kernel_rfl) (by kernel_rfl) (fun _ _ _ h => h) (Or.inl ⟨by rfl, ?_⟩) (by assumption) ?_; focus (intro w hSw; (try dsimp only at hSw); (try simp only [zk1, zk2, zk3]); go_simp; omega)); (try simp only [zk1, zk2, zk3]); (try simp only [Act.put, zk4, zk5, zk6])
        (refine wpAnyH_take (i := 10) (v := .string (s.extract 0 n ++ z ++ s.extract (n + 1) s.size)) rfl (by kernel_rfl) (by kernel_rfl) (by kernel_rfl) (fun _ _ _ h => h) (Or.inl ⟨by rfl, ?_⟩) (by assumption) ?_; focus (intro w hSw; (try dsimp only at hSw); (try simp only [zk1, zk2, zk3]); go_simp; omega)); (try simp only [zk1, zk2, zk3]); (try simp only [Act.put, zk4, zk5, zk6])
        (refine wpAnyH_take (i := 11) (v := ?_) rfl (by kernel_rfl) (by kernel_rfl) (by kernel_rfl) (fun _ _ _ h => h) (Or.inl ⟨by rfl, ?_⟩) (by assumption) ?_; rotate_left; focus (intro w hSw; (try dsimp only at hSw); (try simp only [zk1, zk2, zk3]); go_simp; try with_reducible rfl)); (try simp only [zk1, zk2, zk3]); (try simp only [Act.put, zk4, zk5, zk6])
        refine wpAnyH_done (by kernel_rfl) ?_ _
        go_wp2
        go_ret
        exact ⟨_, rfl, by rw [ByteArray.size_append, ByteArray.size_append, ByteArray.size_extract, ByteArray.size_extract]; omega, C3, M2'.drew.trans M3⟩
  · have hk0 : k ≠ 0 := by omega
    have hk1 : k ≠ 1 := by omega
    have hk2 : k ≠ 2 := by omega
    have hk3 : k ≠ 3 := by omega
    go_wp2
    go_ret
    exact ⟨s, rfl, by omega, C1, M1⟩
end Go.Proofs.YtkphipgfcbckcaaGreatDoor

namespace Go.Proofs.YtkphipgfcbckcaaGreatDoor
open Go.RowKit

set_option maxHeartbeats 400000 in
theorem laws_sameTexts (v1 v2 : Value) (xs ys : List ByteArray) (w : World) (h1 : Strs w v1 xs) (h2 : Strs w v2 ys) :
    Calls Tryz.prog 44 #[v1, v2] w fun e w' => e = .returned (.bool (decide (xs = ys))) ∧ Ext w w' := by
  obtain ⟨-, a1, c1, rfl, hc1, hm1, g1⟩ := h1
  obtain ⟨-, a2, c2, rfl, hc2, hm2, g2⟩ := h2
  unfold maxLen at hm1 hm2
  by_cases hlen : xs.length = ys.length
  · have hlb : ((xs.length : Int) != ys.length) = false := by simp [hlen]
    have HL := Lib.hid hlen
    clear hlen
    go_enter Tryz.func44, Tryz.ntmps44
    go_wp2
    go_loopw [5] (fun i wr => ∃ k : Nat, k ≤ xs.length ∧ i = .int .i64 k ∧ xs.take k = ys.take k ∧ Ext w wr) (fun i _ => xs.length - (intOf i).toNat)
    case atStart => exact ⟨0, Nat.zero_le _, rfl, rfl, Ext.refl _⟩
    case round =>
      obtain ⟨k, hk, rfl, htk, hx⟩ := hrel
      have HT := Lib.hid htk
      clear htk
      by_cases hlt : k < xs.length
      · rcases g1 with g1 | ⟨b1, o1, rfl, hb1, g1⟩
        · omega
        rcases g2 with g2 | ⟨b2, o2, rfl, hb2, g2⟩
        · have := HL.out; omega
        have hlt2 : k < ys.length := by have := HL.out; omega
        have e1 : wr.cell? ⟨b1, o1 + k, none⟩ = some (.string xs[k]) := (hx.cell b1 (o1 + k) hb1).trans (g1 k _ (by simp [hlt]))
        have e2 : wr.cell? ⟨b2, o2 + k, none⟩ = some (.string ys[k]) := (hx.cell b2 (o2 + k) hb2).trans (g2 k _ (by simp [hlt2]))
        clear g1 g2
        by_cases hq : xs[k] = ys[k]
        · have hqb : (xs[k].toList == ys[k].toList) = true := by simp [hq]
          have HQ := Lib.hid hq
          clear hq
          go_wp2
          go_quiet (fail)
          go_wp2
          go_roundw
          case rel => exact ⟨k + 1, by omega, by go_num, take_eq_succ hlt hlt2 HT.out HQ.out, (by repeat (first | (with_reducible first | exact Ext.refl _ | assumption | apply Ext.alloc | apply Ext.drew | apply Ext.drewN | refine Ext.setCell ?_ ?_ _ | refine Ext.trans ?_ (by assumption)) | (show _ ≤ _; first | omega | (dsimp only; omega) | (simp; done) | (simp; omega))))⟩
          case measure => simp [intOf]; omega
        · have hqb : (xs[k].toList == ys[k].toList) = false := by rw [toList_beq]; simp [hq]
          have hne : xs ≠ ys := fun h => hq (by subst h; rfl)
          clear hq
          go_wp2
          go_quiet (fail)
          go_wp2
          go_ret
          exact ⟨ret_bool (by simp [hne]), (by repeat (first | (with_reducible first | exact Ext.refl _ | assumption | apply Ext.alloc | apply Ext.drew | apply Ext.drewN | refine Ext.setCell ?_ ?_ _ | refine Ext.trans ?_ (by assumption)) | (show _ ≤ _; first | omega | (dsimp only; omega) | (simp; done) | (simp; omega))))⟩
      · have he : xs = ys := by
          have h1 := HT.out
          rw [List.take_of_length_le (by omega), List.take_of_length_le (by have := HL.out; omega)] at h1
          exact h1
        have HE := Lib.hid he
        clear he
        go_wp2
        go_ret
        exact ⟨ret_bool (by simp [HE.out]), (by repeat (first | (with_reducible first | exact Ext.refl _ | assumption | apply Ext.alloc | apply Ext.drew | apply Ext.drewN | refine Ext.setCell ?_ ?_ _ | refine Ext.trans ?_ (by assumption)) | (show _ ≤ _; first | omega | (dsimp only; omega) | (simp; done) | (simp; omega))))⟩
  · have hne : xs ≠ ys := fun h => hlen (by rw [h])
    go_enter Tryz.func44, Tryz.ntmps44
    go_wp2
    go_ret
    exact ⟨ret_bool (by simp [hne]), (by repeat (first | (with_reducible first | exact Ext.refl _ | assumption | apply Ext.alloc | apply Ext.drew | apply Ext.drewN | refine Ext.setCell ?_ ?_ _ | refine Ext.trans ?_ (by assumption)) | (show _ ≤ _; first | omega | (dsimp only; omega) | (simp; done) | (simp; omega))))⟩
set_option maxHeartbeats 1600000 in
theorem laws_sameSigT (v1 v2 v3 u1 u2 u3 : Value) (s : SigV) (w : World) (h1 : Strs w v1 s.op) (h2 : Strs w v2 s.sh) (h3 : Strs w v3 s.si) (g1 : Strs w u1 s.op) (g2 : Strs w u2 s.sh) (g3 : Strs w u3 s.si) :
    Calls Tryz.prog 15 #[.agg #[.int .i64 s.at_, v1, v2, v3], .agg #[.int .i64 s.at_, u1, u2, u3]] w fun e w' => e = .returned (.bool true) ∧ Ext w w' := by
  obtain ⟨a1, c1, rfl⟩ := h1.form
  obtain ⟨a2, c2, rfl⟩ := h2.form
  obtain ⟨a3, c3, rfl⟩ := h3.form
  obtain ⟨b1, d1, rfl⟩ := g1.form
  obtain ⟨b2, d2, rfl⟩ := g2.form
  obtain ⟨b3, d3, rfl⟩ := g3.form
  go_enter Tryz.func15, Tryz.ntmps15
  go_wp2_with fail
  have P : Bx ((w.alloc (Obj.cells #[.int .i64 s.at_, .slice a1 s.op.length c1, .slice a2 s.sh.length c2, .slice a3 s.si.length c3] 30)).alloc (Obj.cells #[.int .i64 s.at_, .slice b1 s.op.length d1, .slice b2 s.sh.length d2, .slice b3 s.si.length d3] 30)) w.heap.size [.int .i64 s.at_, .slice a1 s.op.length c1, .slice a2 s.sh.length c2, .slice a3 s.si.length c3] := (Bx.new w _ _).ext ((Ext.refl _).alloc _)
  have Q : Bx ((w.alloc (Obj.cells #[.int .i64 s.at_, .slice a1 s.op.length c1, .slice a2 s.sh.length c2, .slice a3 s.si.length c3] 30)).alloc (Obj.cells #[.int .i64 s.at_, .slice b1 s.op.length d1, .slice b2 s.sh.length d2, .slice b3 s.si.length d3] 30)) (w.heap.size + 1) [.int .i64 s.at_, .slice b1 s.op.length d1, .slice b2 s.sh.length d2, .slice b3 s.si.length d3] := by
    have e := Bx.new (w.alloc (Obj.cells #[.int .i64 s.at_, .slice a1 s.op.length c1, .slice a2 s.sh.length c2, .slice a3 s.si.length c3] 30)) #[.int .i64 s.at_, .slice b1 s.op.length d1, .slice b2 s.sh.length d2, .slice b3 s.si.length d3] 30
    rw [World.size_alloc] at e
    exact e
  have x0 : Ext w ((w.alloc (Obj.cells #[.int .i64 s.at_, .slice a1 s.op.length c1, .slice a2 s.sh.length c2, .slice a3 s.si.length c3] 30)).alloc (Obj.cells #[.int .i64 s.at_, .slice b1 s.op.length d1, .slice b2 s.sh.length d2, .slice b3 s.si.length d3] 30)) := ((Ext.refl w).alloc _).alloc _
  generalize ((w.alloc (Obj.cells #[.int .i64 s.at_, .slice a1 s.op.length c1, .slice a2 s.sh.length c2, .slice a3 s.si.length c3] 30)).alloc (Obj.cells #[.int .i64 s.at_, .slice b1 s.op.length d1, .slice b2 s.sh.length d2, .slice b3 s.si.length d3] 30)) = W0 at *
  refine (laws_sameTexts _ _ s.op s.op _ (h1.ext (by repeat (first | (with_reducible first | exact Ext.refl _ | assumption | apply Ext.alloc | apply Ext.drew | apply Ext.drewN | refine Ext.setCell ?_ ?_ _ | refine Ext.trans ?_ (by assumption)) | (show _ ≤ _; first | omega | (dsimp only; omega) | (simp; done) | (simp; omega))))) (g1.ext (by repeat (first | (with_reducible first | exact Ext.refl _ | assumption | apply Ext.alloc | apply Ext.drew | apply Ext.drewN | refine Ext.setCell ?_ ?_ _ | refine Ext.trans ?_ (by assumption)) | (show _ ≤ _; first | omega | (dsimp only; omega) | (simp; done) | (simp; omega)))))).mono ?_
  rw [show decide (s.op = s.op) = true by simp]
  rintro e w1 ⟨rfl, x1⟩
  have y1 : Ext W0 w1 := (by repeat (first | (with_reducible first | exact Ext.refl _ | assumption | apply Ext.alloc | apply Ext.drew | apply Ext.drewN | refine Ext.setCell ?_ ?_ _ | refine Ext.trans ?_ (by assumption)) | (show _ ≤ _; first | omega | (dsimp only; omega) | (simp; done) | (simp; omega))))
  replace P := P.ext y1
  replace Q := Q.ext y1
  have p0c := P.2.1 0 _ rfl
  have p1c := P.2.1 1 _ rfl
  have p2c := P.2.1 2 _ rfl
  have p3c := P.2.1 3 _ rfl
  have q0c := Q.2.1 0 _ rfl
  have q1c := Q.2.1 1 _ rfl
  have q2c := Q.2.1 2 _ rfl
  have q3c := Q.2.1 3 _ rfl
  go_wp2_with fail
  refine (laws_sameTexts _ _ s.sh s.sh _ (h2.ext (by repeat (first | (with_reducible first | exact Ext.refl _ | assumption | apply Ext.alloc | apply Ext.drew | apply Ext.drewN | refine Ext.setCell ?_ ?_ _ | refine Ext.trans ?_ (by assumption)) | (show _ ≤ _; first | omega | (dsimp only; omega) | (simp; done) | (simp; omega))))) (g2.ext (by repeat (first | (with_reducible first | exact Ext.refl _ | assumption | apply Ext.alloc | apply Ext.drew | apply Ext.drewN | refine Ext.setCell ?_ ?_ _ | refine Ext.trans ?_ (by assumption)) | (show _ ≤ _; first | omega | (dsimp only; omega) | (simp; done) | (simp; omega)))))).mono ?_
  rw [show decide (s.sh = s.sh) = true by simp]
  rintro e w2 ⟨rfl, x2⟩
  have y2 : Ext w1 w2 := (by repeat (first | (with_reducible first | exact Ext.refl _ | assumption | apply Ext.alloc | apply Ext.drew | apply Ext.drewN | refine Ext.setCell ?_ ?_ _ | refine Ext.trans ?_ (by assumption)) | (show _ ≤ _; first | omega | (dsimp only; omega) | (simp; done) | (simp; omega))))
  replace P := P.ext y2
  replace Q := Q.ext y2
  have p0c := P.2.1 0 _ rfl
  have p1c := P.2.1 1 _ rfl
  have p2c := P.2.1 2 _ rfl
  have p3c := P.2.1 3 _ rfl
  have q0c := Q.2.1 0 _ rfl
  have q1c := Q.2.1 1 _ rfl
  have q2c := Q.2.1 2 _ rfl
  have q3c := Q.2.1 3 _ rfl
  go_wp2_with fail
  refine (laws_sameTexts _ _ s.si s.si _ (h3.ext (by repeat (first | (with_reducible first | exact Ext.refl _ | assumption | apply Ext.alloc | apply Ext.drew | apply Ext.drewN | refine Ext.setCell ?_ ?_ _ | refine Ext.trans ?_ (by assumption)) | (show _ ≤ _; first | omega | (dsimp only; omega) | (simp; done) | (simp; omega))))) (g3.ext (by repeat (first | (with_reducible first | exact Ext.refl _ | assumption | apply Ext.alloc | apply Ext.drew | apply Ext.drewN | refine Ext.setCell ?_ ?_ _ | refine Ext.trans ?_ (by assumption)) | (show _ ≤ _; first | omega | (dsimp only; omega) | (simp; done) | (simp; omega)))))).mono ?_
  rw [show decide (s.si = s.si) = true by simp]
  rintro e w3 ⟨rfl, x3⟩
  have y3 : Ext w2 w3 := (by repeat (first | (with_reducible first | exact Ext.refl _ | assumption | apply Ext.alloc | apply Ext.drew | apply Ext.drewN | refine Ext.setCell ?_ ?_ _ | refine Ext.trans ?_ (by assumption)) | (show _ ≤ _; first | omega | (dsimp only; omega) | (simp; done) | (simp; omega))))
  replace P := P.ext y3
  replace Q := Q.ext y3
  have p0c := P.2.1 0 _ rfl
  have p1c := P.2.1 1 _ rfl
  have p2c := P.2.1 2 _ rfl
  have p3c := P.2.1 3 _ rfl
  have q0c := Q.2.1 0 _ rfl
  have q1c := Q.2.1 1 _ rfl
  have q2c := Q.2.1 2 _ rfl
  have q3c := Q.2.1 3 _ rfl
  go_wp2
  go_ret
  exact ⟨rfl, (by repeat (first | (with_reducible first | exact Ext.refl _ | assumption | apply Ext.alloc | apply Ext.drew | apply Ext.drewN | refine Ext.setCell ?_ ?_ _ | refine Ext.trans ?_ (by assumption)) | (show _ ≤ _; first | omega | (dsimp only; omega) | (simp; done) | (simp; omega))))⟩

end Go.Proofs.YtkphipgfcbckcaaGreatDoor
namespace Go.Proofs.YtkphipgfcbckcaaGreatDoor
open Go.RowKit

theorem OwnM.frozenAt {w : World} {base n g cap : Nat} {xs : List Value} (h : OwnM w base (.slice (some ⟨g, 0, none⟩) n cap) n xs) (j : Nat) (hj : j < n) : w.frozen? ⟨g, j, none⟩ = false := by
  obtain ⟨hl, g', cap', cur, lo, hi, hv, hb, hg, hm, hn, hc, hs, ht⟩ := h
  injection hv with h1 h2 h3
  injection h1 with h1
  injection h1 with h1
  subst h1 h3
  rw [World.frozen?]
  dsimp only
  rw [hg]
  rcases hm with rfl | hm
  · simp
  · simp; omega
end Go.Proofs.YtkphipgfcbckcaaGreatDoor
