/- Any signed text (under way). -/
import Derived.Test.YtliebkhfddmhjaaDoorDSdA
import Derived.Test.YtliebkhfddmhjaaDoorCp3
import Derived.Test.YtliebkhfddmhjaaDoorLkX
import Derived.Test.YtliebkhfddmhjaaDoorDrawH
import Derived.Test.YtliebkhfddmhjaaDoorOvr
import Derived.Deep.DeepCutAuto
namespace Go.Proofs.YtliebkhfddmhjaaDoor
open Go.RowKit

theorem strs_tail {w : World} {g n c : Nat} {xs : List ByteArray} (h : Strs w (.slice (some ⟨g, 0, none⟩) n c) xs) (hn : 1 < xs.length) : Strs w (.slice (some ⟨g, 1, none⟩) (xs.drop 1).length (c - 1)) (xs.drop 1) := by
  obtain ⟨-, a1, c1, hv, hc, hm, hg⟩ := h
  injection hv with e1 e2 e3
  subst e3
  have hl : (xs.drop 1).length = xs.length - 1 := by rw [List.length_drop]
  rcases hg with h0 | ⟨b, o, rfl, hb, hg⟩
  · omega
  · injection e1 with e1
    injection e1 with q1 q2
    subst q1 q2
    refine ⟨by simp, some ⟨g, 1, none⟩, c - 1, rfl, by omega, by omega, Or.inr ⟨g, 1, rfl, hb, fun j u hu => ?_⟩⟩
    have h1 := hg (1 + j) u (by rw [← hu, List.map_drop, List.getElem?_drop])
    rw [Nat.zero_add] at h1
    exact h1
theorem sh_16 {s : SigV} (h : sigWell s = true) {j : Nat} (hj : j < 8) : (s.sh.getD j ⟨#[]⟩).size = 16 := by
  simp only [sigWell, Bool.and_eq_true, decide_eq_true_eq, inB_true] at h
  obtain ⟨-, -, ⟨b1, b2⟩, -⟩ := h
  have hl : s.sh.length = 8 := by omega
  have hw := wide_all b1
  rw [List.getD_eq_getElem?_getD, List.getElem?_eq_getElem (by rw [hl]; exact hj)]
  exact hw _ (List.getElem_mem _)
theorem mut_above {b : Nat} {w w1 : World} (h : Mut b w w1) {k : Nat} (hk : w.heap.size ≤ k) (o : Nat) (u : Value) : Mut b w (w1.setCell ⟨k, o, none⟩ u) :=
  h.grown (row := some k) ⟨rfl, rfl, rfl, by rw [World.size_setCell]; exact Nat.le_refl _, fun j _ hj => Below.heap_setCell _ _ _ _ (by first | exact fun e => hj (congrArg some e) | exact fun e => hj (congrArg some e.symm))⟩ (fun j hj => by injection hj; omega)
set_option maxRecDepth 100000 in
set_option maxHeartbeats 6400000 in
theorem spec_l05Any (b : Nat) (w : World) (h : Cur w b) :
    Calls Tryd.prog 114 #[.pointer (some ⟨b, 0, none⟩)] w fun e w' => ∃ (root text : ByteArray) (S : SigV) (a1 a2 a3 : Option Addr) (c1 c2 c3 : Nat), e = .returned (.tuple #[.string root, .string text, .agg #[.int .i64 S.at_, .slice a1 S.op.length c1, .slice a2 S.sh.length c2, .slice a3 S.si.length c3]]) ∧ root.size = 16 ∧ text.size ≤ 201 ∧ SigFit S ∧ SigRd w' w.heap.size (.slice a1 S.op.length c1) (.slice a2 S.sh.length c2) (.slice a3 S.si.length c3) S ∧ Cur w' b ∧ Mut b w w' := by
  have hb := h.lt
  have e0 : Ext w (w.alloc (Obj.cells #[.int .i64 0, .slice none 0 0, .slice none 0 0, .slice none 0 0] 28)) := (Ext.refl _).alloc _
  have R := Bx.new w #[.int .i64 0, .slice none 0 0, .slice none 0 0, .slice none 0 0] 28
  have C0 := h.ext e0
  have M0 : Mut b w (w.alloc (Obj.cells #[.int .i64 0, .slice none 0 0, .slice none 0 0, .slice none 0 0] 28)) := Mut.of_ext e0
  have hwb : w.heap.size ≠ b := by omega
  go_enter Tryd.func114, Tryd.ntmps114
  go_wp2_with fail
  generalize w.alloc (Obj.cells #[.int .i64 0, .slice none 0 0, .slice none 0 0, .slice none 0 0] 28) = w0 at *
  refine (spec_l01Below b 14 _ C0 (by decide)).mono ?_
  rintro e w1 ⟨k, rfl, hk, C1, M1⟩
  replace R := R.mut M1 hwb
  have M1a := M0.trans M1
  go_wp2_with fail
  refine (spec_l01Below b 60 _ C1 (by decide)).mono ?_
  rintro e w2 ⟨x, rfl, hx, C2, M2⟩
  replace R := R.mut M2 hwb
  have M2a := M1a.trans M2
  go_wp2_with fail
  refine (spec_l05Signed b _ C2).mono ?_
  rintro e w3 ⟨root, text, S, a1, a2, a3, c1, c2, c3, rfl, hr, ht, hok, so, C3, M3⟩
  replace R := R.mut M3 hwb
  have M3a := M2a.trans M3
  have HOK := Lib.hid hok
  clear hok
  have hz3 := M3a.size
  have e3 : Ext w3 (w3.alloc (Obj.cells #[.int .i64 S.at_, .slice a1 S.op.length c1, .slice a2 S.sh.length c2, .slice a3 S.si.length c3] 28)) := (Ext.refl _).alloc _
  have Q := Bx.new w3 #[.int .i64 S.at_, .slice a1 S.op.length c1, .slice a2 S.sh.length c2, .slice a3 S.si.length c3] 28
  have hq4 : w3.heap.size < (w3.alloc (Obj.cells #[.int .i64 S.at_, .slice a1 S.op.length c1, .slice a2 S.sh.length c2, .slice a3 S.si.length c3] 28)).heap.size := Q.1
  have hr3 : w.heap.size < w3.heap.size := R.1
  replace so := so.ext e3
  replace R := R.ext e3
  have C4 := C3.ext e3
  have M4 := M3a.trans (Mut.of_ext e3)
  go_wp2_with fail
  generalize w3.alloc (Obj.cells #[.int .i64 S.at_, .slice a1 S.op.length c1, .slice a2 S.sh.length c2, .slice a3 S.si.length c3] 28) = w4 at *
  obtain ⟨hw, -, -⟩ := sigOk_parts HOK.out
  obtain ⟨-, ⟨n1, -⟩, ⟨n2, -⟩, n3, -⟩ := sigWell_true hw
  have HW := Lib.hid hw
  have N1 := Lib.hid n1
  have N2 := Lib.hid n2
  have N3 := Lib.hid n3
  refine (spec_l05Copy _ _ _ S _ so.1.strs so.2.1.strs so.2.2.1.strs (own_solid so.1) (own_solid so.2.1) (own_solid so.2.2.1) (by omega) (by omega) (by omega)).mono ?_
  clear hw n1 n2 n3 HOK
  rintro e w5 ⟨p1, d1, p2, d2, p3, d3, rfl, sc, x5⟩
  replace R := R.ext x5
  replace Q := Q.ext x5
  have C5 := C4.ext x5
  have M5 := M4.trans (Mut.of_ext x5)
  skip
  have hbw3 : b < w3.heap.size := C3.lt
  have hbw3 : b < w3.heap.size := C3.lt
  have z0 := Q.2.1 0 _ rfl
  have z1 := Q.2.1 1 _ rfl
  have z2 := Q.2.1 2 _ rfl
  have z3 := Q.2.1 3 _ rfl
  have f0 := Q.2.2 0
  have f1 := Q.2.2 1
  have f2 := Q.2.2 2
  have f3 := Q.2.2 3
  have Q6 := ((((Q.set 0 (.int .i64 S.at_) (by simp)).set 1 (.slice p1 S.op.length d1) (by simp)).set 2 (.slice p2 S.sh.length d2) (by simp)).set 3 (.slice p3 S.si.length d3) (by simp))
  have C6 := ((((C5.far (c := w3.heap.size) (by omega) 0 (.int .i64 S.at_)).far (c := w3.heap.size) (by omega) 1 (.slice p1 S.op.length d1)).far (c := w3.heap.size) (by omega) 2 (.slice p2 S.sh.length d2)).far (c := w3.heap.size) (by omega) 3 (.slice p3 S.si.length d3))
  have R6 := ((((R.far (c := w3.heap.size) (by omega) 0 (.int .i64 S.at_)).far (c := w3.heap.size) (by omega) 1 (.slice p1 S.op.length d1)).far (c := w3.heap.size) (by omega) 2 (.slice p2 S.sh.length d2)).far (c := w3.heap.size) (by omega) 3 (.slice p3 S.si.length d3))
  have M6 : Mut b w ((((w5.setCell ⟨w3.heap.size, 0, none⟩ (.int .i64 S.at_)).setCell ⟨w3.heap.size, 1, none⟩ (.slice p1 S.op.length d1)).setCell ⟨w3.heap.size, 2, none⟩ (.slice p2 S.sh.length d2)).setCell ⟨w3.heap.size, 3, none⟩ (.slice p3 S.si.length d3)) := (mut_above (mut_above (mut_above (mut_above M5 (k := w3.heap.size) (by omega) 0 (.int .i64 S.at_)) (k := w3.heap.size) (by omega) 1 (.slice p1 S.op.length d1)) (k := w3.heap.size) (by omega) 2 (.slice p2 S.sh.length d2)) (k := w3.heap.size) (by omega) 3 (.slice p3 S.si.length d3))
  have so6 := sc.below4 (b := w3.heap.size) hq4 (.int .i64 S.at_) (.slice p1 S.op.length d1) (.slice p2 S.sh.length d2) (.slice p3 S.si.length d3)
  go_upto_region 5 with (fail)
  generalize (((w5.setCell ⟨w3.heap.size, 0, none⟩ (.int .i64 S.at_)).setCell ⟨w3.heap.size, 1, none⟩ (.slice p1 S.op.length d1)).setCell ⟨w3.heap.size, 2, none⟩ (.slice p2 S.sh.length d2)).setCell ⟨w3.heap.size, 3, none⟩ (.slice p3 S.si.length d3) = w6 at *
  clear z0 z1 z2 z3 f0 f1 f2 f3 Q R C5 M5 sc
  skip
  by_cases h7 : 7 ≤ k
  · have hk0 : ¬ k = 0 := by omega
    have hk1 : ¬ k = 1 := by omega
    have hk2 : ¬ k = 2 := by omega
    have hk3 : ¬ k = 3 := by omega
    have hk4 : ¬ k = 4 := by omega
    have hk5 : ¬ k = 5 := by omega
    have hk6 : ¬ k = 6 := by omega
    have hkb0 : (k == 0) = false := beq_eq_false_iff_ne.2 hk0
    have hkb1 : (k == 1) = false := beq_eq_false_iff_ne.2 hk1
    have hkb2 : (k == 2) = false := beq_eq_false_iff_ne.2 hk2
    have hkb3 : (k == 3) = false := beq_eq_false_iff_ne.2 hk3
    have hkb4 : (k == 4) = false := beq_eq_false_iff_ne.2 hk4
    have hkb5 : (k == 5) = false := beq_eq_false_iff_ne.2 hk5
    have hkb6 : (k == 6) = false := beq_eq_false_iff_ne.2 hk6
    go_upto_region 20 with (fail)
    refine wp_region_held_drew (S := (fun W => W.cell? ⟨w3.heap.size, 0, none⟩ = some (.int .i64 S.at_) ∧ W.cell? ⟨w3.heap.size, 1, none⟩ = some (.slice p1 S.op.length d1) ∧ W.cell? ⟨w3.heap.size, 2, none⟩ = some (.slice p2 S.sh.length d2) ∧ W.cell? ⟨w3.heap.size, 3, none⟩ = some (.slice p3 S.si.length d3))) (by kernel_rfl) (by exact ⟨Q6.2.1 0 _ rfl, Q6.2.1 1 _ rfl, Q6.2.1 2 _ rfl, Q6.2.1 3 _ rfl⟩) (fun hHeld => ?_)
    have xd : Ext w6 w6.drew := (Ext.refl w6).drew
    replace Q6 := Q6.ext xd
    replace R6 := R6.ext xd
    replace so6 := so6.ext xd
    replace C6 := C6.ext xd
    replace M6 := M6.trans (Mut.of_ext xd)
    generalize w6.drew = w9 at *
    have q0 := Q6.2.1 0 _ rfl
    have q1 := Q6.2.1 1 _ rfl
    have q2 := Q6.2.1 2 _ rfl
    have q3 := Q6.2.1 3 _ rfl
    (refine wpAnyH_take (i := 0) (v := ?_) rfl (by kernel_rfl) (by kernel_rfl) (by kernel_rfl) (fun _ _ _ h => h) (Or.inl ⟨by rfl, ?_⟩) (by assumption) ?_; rotate_left; focus (intro w hSw; (try dsimp only at hSw); (try simp only [List.getElem_toArray, List.getElem_cons_zero]); go_simp; try with_reducible rfl)); (try simp only [List.getElem_toArray, List.getElem_cons_zero]); (try simp only [Act.put, List.setIfInBounds_toArray, List.set_cons_zero, List.set_cons_succ])
    (refine wpAnyH_take (i := 1) (v := ?_) rfl (by kernel_rfl) (by kernel_rfl) (by kernel_rfl) (fun _ _ _ h => h) (Or.inl ⟨by rfl, ?_⟩) (by assumption) ?_; rotate_left; focus (intro w hSw; (try dsimp only at hSw); (try simp only [List.getElem_toArray, List.getElem_cons_zero, List.getElem_cons_succ]); go_simp; try with_reducible rfl)); (try simp only [List.getElem_toArray, List.getElem_cons_zero, List.getElem_cons_succ]); (try simp only [Act.put, List.setIfInBounds_toArray, List.set_cons_zero, List.set_cons_succ])
    (refine wpAnyH_take (i := 2) (v := ?_) rfl (by kernel_rfl) (by kernel_rfl) (by kernel_rfl) (fun _ _ _ h => h) (Or.inl ⟨by rfl, ?_⟩) (by assumption) ?_; rotate_left; focus (intro w hSw; (try dsimp only at hSw); (try simp only [List.getElem_toArray, List.getElem_cons_zero, List.getElem_cons_succ]); go_simp; try with_reducible rfl)); (try simp only [List.getElem_toArray, List.getElem_cons_zero, List.getElem_cons_succ]); (try simp only [Act.put, List.setIfInBounds_toArray, List.set_cons_zero, List.set_cons_succ])
    (refine wpAnyH_take (i := 3) (v := ?_) rfl (by kernel_rfl) (by kernel_rfl) (by kernel_rfl) (fun _ _ _ h => h) (Or.inl ⟨by rfl, ?_⟩) (by assumption) ?_; rotate_left; focus (intro w hSw; (try dsimp only at hSw); (try simp only [List.getElem_toArray, List.getElem_cons_zero, List.getElem_cons_succ]); go_simp; try with_reducible rfl)); (try simp only [List.getElem_toArray, List.getElem_cons_zero, List.getElem_cons_succ]); (try simp only [Act.put, List.setIfInBounds_toArray, List.set_cons_zero, List.set_cons_succ])
    (refine wpAnyH_take (i := 4) (v := ?_) rfl (by kernel_rfl) (by kernel_rfl) (by kernel_rfl) (fun _ _ _ h => h) (Or.inl ⟨by rfl, ?_⟩) (by assumption) ?_; rotate_left; focus (intro w hSw; (try dsimp only at hSw); (try simp only [List.getElem_toArray, List.getElem_cons_zero, List.getElem_cons_succ]); go_simp; try with_reducible rfl)); (try simp only [List.getElem_toArray, List.getElem_cons_zero, List.getElem_cons_succ]); (try simp only [Act.put, List.setIfInBounds_toArray, List.set_cons_zero, List.set_cons_succ])
    clear q0 q1 q2 q3
    have z0 := R6.2.1 0 _ rfl
    have z1 := R6.2.1 1 _ rfl
    have z2 := R6.2.1 2 _ rfl
    have z3 := R6.2.1 3 _ rfl
    have f0 := R6.2.2 0
    have f1 := R6.2.2 1
    have f2 := R6.2.2 2
    have f3 := R6.2.2 3
    have RF := ((((R6.set 0 (.int .i64 S.at_) (by simp)).set 1 (.slice p1 S.op.length d1) (by simp)).set 2 (.slice p2 S.sh.length d2) (by simp)).set 3 (.slice p3 S.si.length d3) (by simp))
    have CF := ((((C6.far (c := w.heap.size) (by omega) 0 (.int .i64 S.at_)).far (c := w.heap.size) (by omega) 1 (.slice p1 S.op.length d1)).far (c := w.heap.size) (by omega) 2 (.slice p2 S.sh.length d2)).far (c := w.heap.size) (by omega) 3 (.slice p3 S.si.length d3))
    have MF : Mut b w ((((w9.setCell ⟨w.heap.size, 0, none⟩ (.int .i64 S.at_)).setCell ⟨w.heap.size, 1, none⟩ (.slice p1 S.op.length d1)).setCell ⟨w.heap.size, 2, none⟩ (.slice p2 S.sh.length d2)).setCell ⟨w.heap.size, 3, none⟩ (.slice p3 S.si.length d3)) := (mut_above (mut_above (mut_above (mut_above M6 (k := w.heap.size) (Nat.le_refl _) 0 (.int .i64 S.at_)) (k := w.heap.size) (Nat.le_refl _) 1 (.slice p1 S.op.length d1)) (k := w.heap.size) (Nat.le_refl _) 2 (.slice p2 S.sh.length d2)) (k := w.heap.size) (Nat.le_refl _) 3 (.slice p3 S.si.length d3))
    have QF := ((((Q6.far (c := w.heap.size) (by omega) 0 (.int .i64 S.at_)).far (c := w.heap.size) (by omega) 1 (.slice p1 S.op.length d1)).far (c := w.heap.size) (by omega) 2 (.slice p2 S.sh.length d2)).far (c := w.heap.size) (by omega) 3 (.slice p3 S.si.length d3))
    have SF := so6.below4 (b := w.heap.size) (by omega) (.int .i64 S.at_) (.slice p1 S.op.length d1) (.slice p2 S.sh.length d2) (.slice p3 S.si.length d3)
    (refine wpAnyH_ready (rs := [5]) (by kernel_rfl) (by simp) ?_; refine AllReadyH.cons rfl (fun K hK => ?_) AllReadyH.nil; (try simp only [List.getElem_toArray, List.getElem_cons_zero, List.getElem_cons_succ]))
    go_simp
    clear z0 z1 z2 z3 f0 f1 f2 f3
    clear Q6
    have Q6 := QF
    generalize (((w9.setCell ⟨w.heap.size, 0, none⟩ (.int .i64 S.at_)).setCell ⟨w.heap.size, 1, none⟩ (.slice p1 S.op.length d1)).setCell ⟨w.heap.size, 2, none⟩ (.slice p2 S.sh.length d2)).setCell ⟨w.heap.size, 3, none⟩ (.slice p3 S.si.length d3) = WF at *
    (try dsimp only)
    refine hK.out _ _ (by exact ⟨Q6.2.1 0 _ rfl, Q6.2.1 1 _ rfl, Q6.2.1 2 _ rfl, Q6.2.1 3 _ rfl⟩) (fun hHeld => ?_)
    clear hK K
    refine wpAnyH_done (by kernel_rfl) ?_ _
    have k0 := RF.2.1 0 _ rfl
    have k1 := RF.2.1 1 _ rfl
    have k2 := RF.2.1 2 _ rfl
    have k3 := RF.2.1 3 _ rfl
    go_wp2
    refine bodyPost_ret (v := .tuple #[.string root, .string text, .agg #[.int .i64 S.at_, .slice p1 S.op.length d1, .slice p2 S.sh.length d2, .slice p3 S.si.length d3]]) (by simp [results, Tryd.results114, go_sem, k0, k1, k2, k3]) rfl ?_
    exact ⟨root, text, S, p1, p2, p3, d1, d2, d3, rfl, hr, (by omega), (show SigFit S from sig_fit HW.out), ((sigRd_of SF).mono (by omega)), CF, MF⟩
  by_cases h4 : k = 4
  · subst h4
    have htx : (text ++ (⟨#[120]⟩ : ByteArray)).size ≤ 201 := by rw [ByteArray.size_append]; have : (⟨#[120]⟩ : ByteArray).size = 1 := rfl; omega
    go_upto_region 20 with (fail)
    refine wp_region_held_drew (S := (fun W => W.cell? ⟨w3.heap.size, 0, none⟩ = some (.int .i64 S.at_) ∧ W.cell? ⟨w3.heap.size, 1, none⟩ = some (.slice p1 S.op.length d1) ∧ W.cell? ⟨w3.heap.size, 2, none⟩ = some (.slice p2 S.sh.length d2) ∧ W.cell? ⟨w3.heap.size, 3, none⟩ = some (.slice p3 S.si.length d3))) (by kernel_rfl) (by exact ⟨Q6.2.1 0 _ rfl, Q6.2.1 1 _ rfl, Q6.2.1 2 _ rfl, Q6.2.1 3 _ rfl⟩) (fun hHeld => ?_)
    have xd : Ext w6 w6.drew := (Ext.refl w6).drew
    replace Q6 := Q6.ext xd
    replace R6 := R6.ext xd
    replace so6 := so6.ext xd
    replace C6 := C6.ext xd
    replace M6 := M6.trans (Mut.of_ext xd)
    generalize w6.drew = w9 at *
    have q0 := Q6.2.1 0 _ rfl
    have q1 := Q6.2.1 1 _ rfl
    have q2 := Q6.2.1 2 _ rfl
    have q3 := Q6.2.1 3 _ rfl
    (refine wpAnyH_take (i := 0) (v := ?_) rfl (by kernel_rfl) (by kernel_rfl) (by kernel_rfl) (fun _ _ _ h => h) (Or.inl ⟨by rfl, ?_⟩) (by assumption) ?_; rotate_left; focus (intro w hSw; (try dsimp only at hSw); (try simp only [List.getElem_toArray, List.getElem_cons_zero]); go_simp; try with_reducible rfl)); (try simp only [List.getElem_toArray, List.getElem_cons_zero]); (try simp only [Act.put, List.setIfInBounds_toArray, List.set_cons_zero, List.set_cons_succ])
    (refine wpAnyH_take (i := 1) (v := ?_) rfl (by kernel_rfl) (by kernel_rfl) (by kernel_rfl) (fun _ _ _ h => h) (Or.inl ⟨by rfl, ?_⟩) (by assumption) ?_; rotate_left; focus (intro w hSw; (try dsimp only at hSw); (try simp only [List.getElem_toArray, List.getElem_cons_zero, List.getElem_cons_succ]); go_simp; try with_reducible rfl)); (try simp only [List.getElem_toArray, List.getElem_cons_zero, List.getElem_cons_succ]); (try simp only [Act.put, List.setIfInBounds_toArray, List.set_cons_zero, List.set_cons_succ])
    (refine wpAnyH_take (i := 2) (v := ?_) rfl (by kernel_rfl) (by kernel_rfl) (by kernel_rfl) (fun _ _ _ h => h) (Or.inl ⟨by rfl, ?_⟩) (by assumption) ?_; rotate_left; focus (intro w hSw; (try dsimp only at hSw); (try simp only [List.getElem_toArray, List.getElem_cons_zero, List.getElem_cons_succ]); go_simp; try with_reducible rfl)); (try simp only [List.getElem_toArray, List.getElem_cons_zero, List.getElem_cons_succ]); (try simp only [Act.put, List.setIfInBounds_toArray, List.set_cons_zero, List.set_cons_succ])
    (refine wpAnyH_take (i := 3) (v := ?_) rfl (by kernel_rfl) (by kernel_rfl) (by kernel_rfl) (fun _ _ _ h => h) (Or.inl ⟨by rfl, ?_⟩) (by assumption) ?_; rotate_left; focus (intro w hSw; (try dsimp only at hSw); (try simp only [List.getElem_toArray, List.getElem_cons_zero, List.getElem_cons_succ]); go_simp; try with_reducible rfl)); (try simp only [List.getElem_toArray, List.getElem_cons_zero, List.getElem_cons_succ]); (try simp only [Act.put, List.setIfInBounds_toArray, List.set_cons_zero, List.set_cons_succ])
    (refine wpAnyH_take (i := 4) (v := ?_) rfl (by kernel_rfl) (by kernel_rfl) (by kernel_rfl) (fun _ _ _ h => h) (Or.inl ⟨by rfl, ?_⟩) (by assumption) ?_; rotate_left; focus (intro w hSw; (try dsimp only at hSw); (try simp only [List.getElem_toArray, List.getElem_cons_zero, List.getElem_cons_succ]); go_simp; try with_reducible rfl)); (try simp only [List.getElem_toArray, List.getElem_cons_zero, List.getElem_cons_succ]); (try simp only [Act.put, List.setIfInBounds_toArray, List.set_cons_zero, List.set_cons_succ])
    clear q0 q1 q2 q3
    have z0 := R6.2.1 0 _ rfl
    have z1 := R6.2.1 1 _ rfl
    have z2 := R6.2.1 2 _ rfl
    have z3 := R6.2.1 3 _ rfl
    have f0 := R6.2.2 0
    have f1 := R6.2.2 1
    have f2 := R6.2.2 2
    have f3 := R6.2.2 3
    have RF := ((((R6.set 0 (.int .i64 S.at_) (by simp)).set 1 (.slice p1 S.op.length d1) (by simp)).set 2 (.slice p2 S.sh.length d2) (by simp)).set 3 (.slice p3 S.si.length d3) (by simp))
    have CF := ((((C6.far (c := w.heap.size) (by omega) 0 (.int .i64 S.at_)).far (c := w.heap.size) (by omega) 1 (.slice p1 S.op.length d1)).far (c := w.heap.size) (by omega) 2 (.slice p2 S.sh.length d2)).far (c := w.heap.size) (by omega) 3 (.slice p3 S.si.length d3))
    have MF : Mut b w ((((w9.setCell ⟨w.heap.size, 0, none⟩ (.int .i64 S.at_)).setCell ⟨w.heap.size, 1, none⟩ (.slice p1 S.op.length d1)).setCell ⟨w.heap.size, 2, none⟩ (.slice p2 S.sh.length d2)).setCell ⟨w.heap.size, 3, none⟩ (.slice p3 S.si.length d3)) := (mut_above (mut_above (mut_above (mut_above M6 (k := w.heap.size) (Nat.le_refl _) 0 (.int .i64 S.at_)) (k := w.heap.size) (Nat.le_refl _) 1 (.slice p1 S.op.length d1)) (k := w.heap.size) (Nat.le_refl _) 2 (.slice p2 S.sh.length d2)) (k := w.heap.size) (Nat.le_refl _) 3 (.slice p3 S.si.length d3))
    have QF := ((((Q6.far (c := w.heap.size) (by omega) 0 (.int .i64 S.at_)).far (c := w.heap.size) (by omega) 1 (.slice p1 S.op.length d1)).far (c := w.heap.size) (by omega) 2 (.slice p2 S.sh.length d2)).far (c := w.heap.size) (by omega) 3 (.slice p3 S.si.length d3))
    have SF := so6.below4 (b := w.heap.size) (by omega) (.int .i64 S.at_) (.slice p1 S.op.length d1) (.slice p2 S.sh.length d2) (.slice p3 S.si.length d3)
    (refine wpAnyH_ready (rs := [5]) (by kernel_rfl) (by simp) ?_; refine AllReadyH.cons rfl (fun K hK => ?_) AllReadyH.nil; (try simp only [List.getElem_toArray, List.getElem_cons_zero, List.getElem_cons_succ]))
    go_simp
    clear z0 z1 z2 z3 f0 f1 f2 f3
    clear Q6
    have Q6 := QF
    generalize (((w9.setCell ⟨w.heap.size, 0, none⟩ (.int .i64 S.at_)).setCell ⟨w.heap.size, 1, none⟩ (.slice p1 S.op.length d1)).setCell ⟨w.heap.size, 2, none⟩ (.slice p2 S.sh.length d2)).setCell ⟨w.heap.size, 3, none⟩ (.slice p3 S.si.length d3) = WF at *
    (try dsimp only)
    refine hK.out _ _ (by exact ⟨Q6.2.1 0 _ rfl, Q6.2.1 1 _ rfl, Q6.2.1 2 _ rfl, Q6.2.1 3 _ rfl⟩) (fun hHeld => ?_)
    clear hK K
    refine wpAnyH_done (by kernel_rfl) ?_ _
    have k0 := RF.2.1 0 _ rfl
    have k1 := RF.2.1 1 _ rfl
    have k2 := RF.2.1 2 _ rfl
    have k3 := RF.2.1 3 _ rfl
    go_wp2
    refine bodyPost_ret (v := .tuple #[.string root, .string (text ++ ⟨#[120]⟩), .agg #[.int .i64 S.at_, .slice p1 S.op.length d1, .slice p2 S.sh.length d2, .slice p3 S.si.length d3]]) (by simp [results, Tryd.results114, go_sem, k0, k1, k2, k3]) rfl ?_
    exact ⟨root, (text ++ ⟨#[120]⟩), S, p1, p2, p3, d1, d2, d3, rfl, hr, htx, (show SigFit S from sig_fit HW.out), ((sigRd_of SF).mono (by omega)), CF, MF⟩
  by_cases h5 : k = 5
  · subst h5
    go_upto_region 20 with (fail)
    refine wp_region_held_drew (S := (fun W => W.cell? ⟨w3.heap.size, 0, none⟩ = some (.int .i64 S.at_) ∧ W.cell? ⟨w3.heap.size, 1, none⟩ = some (.slice p1 S.op.length d1) ∧ W.cell? ⟨w3.heap.size, 2, none⟩ = some (.slice p2 S.sh.length d2) ∧ W.cell? ⟨w3.heap.size, 3, none⟩ = some (.slice p3 S.si.length d3))) (by kernel_rfl) (by exact ⟨Q6.2.1 0 _ rfl, Q6.2.1 1 _ rfl, Q6.2.1 2 _ rfl, Q6.2.1 3 _ rfl⟩) (fun hHeld => ?_)
    have xd : Ext w6 w6.drew := (Ext.refl w6).drew
    replace Q6 := Q6.ext xd
    replace R6 := R6.ext xd
    replace so6 := so6.ext xd
    replace C6 := C6.ext xd
    replace M6 := M6.trans (Mut.of_ext xd)
    generalize w6.drew = w9 at *
    have q0 := Q6.2.1 0 _ rfl
    have q1 := Q6.2.1 1 _ rfl
    have q2 := Q6.2.1 2 _ rfl
    have q3 := Q6.2.1 3 _ rfl
    (refine wpAnyH_take (i := 0) (v := ?_) rfl (by kernel_rfl) (by kernel_rfl) (by kernel_rfl) (fun _ _ _ h => h) (Or.inl ⟨by rfl, ?_⟩) (by assumption) ?_; rotate_left; focus (intro w hSw; (try dsimp only at hSw); (try simp only [List.getElem_toArray, List.getElem_cons_zero]); go_simp; try with_reducible rfl)); (try simp only [List.getElem_toArray, List.getElem_cons_zero]); (try simp only [Act.put, List.setIfInBounds_toArray, List.set_cons_zero, List.set_cons_succ])
    (refine wpAnyH_take (i := 1) (v := ?_) rfl (by kernel_rfl) (by kernel_rfl) (by kernel_rfl) (fun _ _ _ h => h) (Or.inl ⟨by rfl, ?_⟩) (by assumption) ?_; rotate_left; focus (intro w hSw; (try dsimp only at hSw); (try simp only [List.getElem_toArray, List.getElem_cons_zero, List.getElem_cons_succ]); go_simp; try with_reducible rfl)); (try simp only [List.getElem_toArray, List.getElem_cons_zero, List.getElem_cons_succ]); (try simp only [Act.put, List.setIfInBounds_toArray, List.set_cons_zero, List.set_cons_succ])
    (refine wpAnyH_take (i := 2) (v := ?_) rfl (by kernel_rfl) (by kernel_rfl) (by kernel_rfl) (fun _ _ _ h => h) (Or.inl ⟨by rfl, ?_⟩) (by assumption) ?_; rotate_left; focus (intro w hSw; (try dsimp only at hSw); (try simp only [List.getElem_toArray, List.getElem_cons_zero, List.getElem_cons_succ]); go_simp; try with_reducible rfl)); (try simp only [List.getElem_toArray, List.getElem_cons_zero, List.getElem_cons_succ]); (try simp only [Act.put, List.setIfInBounds_toArray, List.set_cons_zero, List.set_cons_succ])
    (refine wpAnyH_take (i := 3) (v := ?_) rfl (by kernel_rfl) (by kernel_rfl) (by kernel_rfl) (fun _ _ _ h => h) (Or.inl ⟨by rfl, ?_⟩) (by assumption) ?_; rotate_left; focus (intro w hSw; (try dsimp only at hSw); (try simp only [List.getElem_toArray, List.getElem_cons_zero, List.getElem_cons_succ]); go_simp; try with_reducible rfl)); (try simp only [List.getElem_toArray, List.getElem_cons_zero, List.getElem_cons_succ]); (try simp only [Act.put, List.setIfInBounds_toArray, List.set_cons_zero, List.set_cons_succ])
    (refine wpAnyH_take (i := 4) (v := ?_) rfl (by kernel_rfl) (by kernel_rfl) (by kernel_rfl) (fun _ _ _ h => h) (Or.inl ⟨by rfl, ?_⟩) (by assumption) ?_; rotate_left; focus (intro w hSw; (try dsimp only at hSw); (try simp only [List.getElem_toArray, List.getElem_cons_zero, List.getElem_cons_succ]); go_simp; try with_reducible rfl)); (try simp only [List.getElem_toArray, List.getElem_cons_zero, List.getElem_cons_succ]); (try simp only [Act.put, List.setIfInBounds_toArray, List.set_cons_zero, List.set_cons_succ])
    clear q0 q1 q2 q3
    have z0 := R6.2.1 0 _ rfl
    have z1 := R6.2.1 1 _ rfl
    have z2 := R6.2.1 2 _ rfl
    have z3 := R6.2.1 3 _ rfl
    have f0 := R6.2.2 0
    have f1 := R6.2.2 1
    have f2 := R6.2.2 2
    have f3 := R6.2.2 3
    have RF := ((((R6.set 0 (.int .i64 S.at_) (by simp)).set 1 (.slice p1 S.op.length d1) (by simp)).set 2 (.slice p2 S.sh.length d2) (by simp)).set 3 (.slice p3 S.si.length d3) (by simp))
    have CF := ((((C6.far (c := w.heap.size) (by omega) 0 (.int .i64 S.at_)).far (c := w.heap.size) (by omega) 1 (.slice p1 S.op.length d1)).far (c := w.heap.size) (by omega) 2 (.slice p2 S.sh.length d2)).far (c := w.heap.size) (by omega) 3 (.slice p3 S.si.length d3))
    have MF : Mut b w ((((w9.setCell ⟨w.heap.size, 0, none⟩ (.int .i64 S.at_)).setCell ⟨w.heap.size, 1, none⟩ (.slice p1 S.op.length d1)).setCell ⟨w.heap.size, 2, none⟩ (.slice p2 S.sh.length d2)).setCell ⟨w.heap.size, 3, none⟩ (.slice p3 S.si.length d3)) := (mut_above (mut_above (mut_above (mut_above M6 (k := w.heap.size) (Nat.le_refl _) 0 (.int .i64 S.at_)) (k := w.heap.size) (Nat.le_refl _) 1 (.slice p1 S.op.length d1)) (k := w.heap.size) (Nat.le_refl _) 2 (.slice p2 S.sh.length d2)) (k := w.heap.size) (Nat.le_refl _) 3 (.slice p3 S.si.length d3))
    have QF := ((((Q6.far (c := w.heap.size) (by omega) 0 (.int .i64 S.at_)).far (c := w.heap.size) (by omega) 1 (.slice p1 S.op.length d1)).far (c := w.heap.size) (by omega) 2 (.slice p2 S.sh.length d2)).far (c := w.heap.size) (by omega) 3 (.slice p3 S.si.length d3))
    have SF := so6.below4 (b := w.heap.size) (by omega) (.int .i64 S.at_) (.slice p1 S.op.length d1) (.slice p2 S.sh.length d2) (.slice p3 S.si.length d3)
    (refine wpAnyH_ready (rs := [5]) (by kernel_rfl) (by simp) ?_; refine AllReadyH.cons rfl (fun K hK => ?_) AllReadyH.nil; (try simp only [List.getElem_toArray, List.getElem_cons_zero, List.getElem_cons_succ]))
    go_simp
    clear z0 z1 z2 z3 f0 f1 f2 f3
    clear Q6
    have Q6 := QF
    generalize (((w9.setCell ⟨w.heap.size, 0, none⟩ (.int .i64 S.at_)).setCell ⟨w.heap.size, 1, none⟩ (.slice p1 S.op.length d1)).setCell ⟨w.heap.size, 2, none⟩ (.slice p2 S.sh.length d2)).setCell ⟨w.heap.size, 3, none⟩ (.slice p3 S.si.length d3) = WF at *
    (try dsimp only)
    refine hK.out _ _ (by exact ⟨Q6.2.1 0 _ rfl, Q6.2.1 1 _ rfl, Q6.2.1 2 _ rfl, Q6.2.1 3 _ rfl⟩) (fun hHeld => ?_)
    clear hK K
    refine wpAnyH_done (by kernel_rfl) ?_ _
    have k0 := RF.2.1 0 _ rfl
    have k1 := RF.2.1 1 _ rfl
    have k2 := RF.2.1 2 _ rfl
    have k3 := RF.2.1 3 _ rfl
    go_wp2
    refine bodyPost_ret (v := .tuple #[.string ⟨#[48, 49, 50, 51, 52, 53, 54, 55, 56, 57, 97, 98, 99, 100, 101, 102]⟩, .string text, .agg #[.int .i64 S.at_, .slice p1 S.op.length d1, .slice p2 S.sh.length d2, .slice p3 S.si.length d3]]) (by simp [results, Tryd.results114, go_sem, k0, k1, k2, k3]) rfl ?_
    exact ⟨⟨#[48, 49, 50, 51, 52, 53, 54, 55, 56, 57, 97, 98, 99, 100, 101, 102]⟩, text, S, p1, p2, p3, d1, d2, d3, rfl, rfl, (by omega), (show SigFit S from sig_fit HW.out), ((sigRd_of SF).mono (by omega)), CF, MF⟩
  by_cases h6 : k = 6
  · subst h6
    obtain ⟨m, hm, hm1⟩ : ∃ m : Nat, 200 + x % 2 = ((200 + m : Nat) : Int) ∧ m ≤ 1 := ⟨(x % 2).toNat, by omega, by omega⟩
    have HM := Lib.hid hm
    clear hm
    go_wp2_with fail
    rw [HM.out]
    refine (spec_l01Long (200 + m) 97 _ (by omega)).mono ?_
    rintro e w7 ⟨tx, rfl, htx, x7⟩
    replace Q6 := Q6.ext x7
    replace R6 := R6.ext x7
    replace so6 := so6.ext x7
    replace C6 := C6.ext x7
    replace M6 := M6.trans (Mut.of_ext x7)
    go_upto_region 20 with (fail)
    refine wp_region_held_drew (S := (fun W => W.cell? ⟨w3.heap.size, 0, none⟩ = some (.int .i64 S.at_) ∧ W.cell? ⟨w3.heap.size, 1, none⟩ = some (.slice p1 S.op.length d1) ∧ W.cell? ⟨w3.heap.size, 2, none⟩ = some (.slice p2 S.sh.length d2) ∧ W.cell? ⟨w3.heap.size, 3, none⟩ = some (.slice p3 S.si.length d3))) (by kernel_rfl) (by exact ⟨Q6.2.1 0 _ rfl, Q6.2.1 1 _ rfl, Q6.2.1 2 _ rfl, Q6.2.1 3 _ rfl⟩) (fun hHeld => ?_)
    have xd : Ext w7 w7.drew := (Ext.refl w7).drew
    replace Q6 := Q6.ext xd
    replace R6 := R6.ext xd
    replace so6 := so6.ext xd
    replace C6 := C6.ext xd
    replace M6 := M6.trans (Mut.of_ext xd)
    generalize w7.drew = w9 at *
    have q0 := Q6.2.1 0 _ rfl
    have q1 := Q6.2.1 1 _ rfl
    have q2 := Q6.2.1 2 _ rfl
    have q3 := Q6.2.1 3 _ rfl
    (refine wpAnyH_take (i := 0) (v := ?_) rfl (by kernel_rfl) (by kernel_rfl) (by kernel_rfl) (fun _ _ _ h => h) (Or.inl ⟨by rfl, ?_⟩) (by assumption) ?_; rotate_left; focus (intro w hSw; (try dsimp only at hSw); (try simp only [List.getElem_toArray, List.getElem_cons_zero]); go_simp; try with_reducible rfl)); (try simp only [List.getElem_toArray, List.getElem_cons_zero]); (try simp only [Act.put, List.setIfInBounds_toArray, List.set_cons_zero, List.set_cons_succ])
    (refine wpAnyH_take (i := 1) (v := ?_) rfl (by kernel_rfl) (by kernel_rfl) (by kernel_rfl) (fun _ _ _ h => h) (Or.inl ⟨by rfl, ?_⟩) (by assumption) ?_; rotate_left; focus (intro w hSw; (try dsimp only at hSw); (try simp only [List.getElem_toArray, List.getElem_cons_zero, List.getElem_cons_succ]); go_simp; try with_reducible rfl)); (try simp only [List.getElem_toArray, List.getElem_cons_zero, List.getElem_cons_succ]); (try simp only [Act.put, List.setIfInBounds_toArray, List.set_cons_zero, List.set_cons_succ])
    (refine wpAnyH_take (i := 2) (v := ?_) rfl (by kernel_rfl) (by kernel_rfl) (by kernel_rfl) (fun _ _ _ h => h) (Or.inl ⟨by rfl, ?_⟩) (by assumption) ?_; rotate_left; focus (intro w hSw; (try dsimp only at hSw); (try simp only [List.getElem_toArray, List.getElem_cons_zero, List.getElem_cons_succ]); go_simp; try with_reducible rfl)); (try simp only [List.getElem_toArray, List.getElem_cons_zero, List.getElem_cons_succ]); (try simp only [Act.put, List.setIfInBounds_toArray, List.set_cons_zero, List.set_cons_succ])
    (refine wpAnyH_take (i := 3) (v := ?_) rfl (by kernel_rfl) (by kernel_rfl) (by kernel_rfl) (fun _ _ _ h => h) (Or.inl ⟨by rfl, ?_⟩) (by assumption) ?_; rotate_left; focus (intro w hSw; (try dsimp only at hSw); (try simp only [List.getElem_toArray, List.getElem_cons_zero, List.getElem_cons_succ]); go_simp; try with_reducible rfl)); (try simp only [List.getElem_toArray, List.getElem_cons_zero, List.getElem_cons_succ]); (try simp only [Act.put, List.setIfInBounds_toArray, List.set_cons_zero, List.set_cons_succ])
    (refine wpAnyH_take (i := 4) (v := ?_) rfl (by kernel_rfl) (by kernel_rfl) (by kernel_rfl) (fun _ _ _ h => h) (Or.inl ⟨by rfl, ?_⟩) (by assumption) ?_; rotate_left; focus (intro w hSw; (try dsimp only at hSw); (try simp only [List.getElem_toArray, List.getElem_cons_zero, List.getElem_cons_succ]); go_simp; try with_reducible rfl)); (try simp only [List.getElem_toArray, List.getElem_cons_zero, List.getElem_cons_succ]); (try simp only [Act.put, List.setIfInBounds_toArray, List.set_cons_zero, List.set_cons_succ])
    clear q0 q1 q2 q3
    have z0 := R6.2.1 0 _ rfl
    have z1 := R6.2.1 1 _ rfl
    have z2 := R6.2.1 2 _ rfl
    have z3 := R6.2.1 3 _ rfl
    have f0 := R6.2.2 0
    have f1 := R6.2.2 1
    have f2 := R6.2.2 2
    have f3 := R6.2.2 3
    have RF := ((((R6.set 0 (.int .i64 S.at_) (by simp)).set 1 (.slice p1 S.op.length d1) (by simp)).set 2 (.slice p2 S.sh.length d2) (by simp)).set 3 (.slice p3 S.si.length d3) (by simp))
    have CF := ((((C6.far (c := w.heap.size) (by omega) 0 (.int .i64 S.at_)).far (c := w.heap.size) (by omega) 1 (.slice p1 S.op.length d1)).far (c := w.heap.size) (by omega) 2 (.slice p2 S.sh.length d2)).far (c := w.heap.size) (by omega) 3 (.slice p3 S.si.length d3))
    have MF : Mut b w ((((w9.setCell ⟨w.heap.size, 0, none⟩ (.int .i64 S.at_)).setCell ⟨w.heap.size, 1, none⟩ (.slice p1 S.op.length d1)).setCell ⟨w.heap.size, 2, none⟩ (.slice p2 S.sh.length d2)).setCell ⟨w.heap.size, 3, none⟩ (.slice p3 S.si.length d3)) := (mut_above (mut_above (mut_above (mut_above M6 (k := w.heap.size) (Nat.le_refl _) 0 (.int .i64 S.at_)) (k := w.heap.size) (Nat.le_refl _) 1 (.slice p1 S.op.length d1)) (k := w.heap.size) (Nat.le_refl _) 2 (.slice p2 S.sh.length d2)) (k := w.heap.size) (Nat.le_refl _) 3 (.slice p3 S.si.length d3))
    have QF := ((((Q6.far (c := w.heap.size) (by omega) 0 (.int .i64 S.at_)).far (c := w.heap.size) (by omega) 1 (.slice p1 S.op.length d1)).far (c := w.heap.size) (by omega) 2 (.slice p2 S.sh.length d2)).far (c := w.heap.size) (by omega) 3 (.slice p3 S.si.length d3))
    have SF := so6.below4 (b := w.heap.size) (by omega) (.int .i64 S.at_) (.slice p1 S.op.length d1) (.slice p2 S.sh.length d2) (.slice p3 S.si.length d3)
    (refine wpAnyH_ready (rs := [5]) (by kernel_rfl) (by simp) ?_; refine AllReadyH.cons rfl (fun K hK => ?_) AllReadyH.nil; (try simp only [List.getElem_toArray, List.getElem_cons_zero, List.getElem_cons_succ]))
    go_simp
    clear z0 z1 z2 z3 f0 f1 f2 f3
    clear Q6
    have Q6 := QF
    generalize (((w9.setCell ⟨w.heap.size, 0, none⟩ (.int .i64 S.at_)).setCell ⟨w.heap.size, 1, none⟩ (.slice p1 S.op.length d1)).setCell ⟨w.heap.size, 2, none⟩ (.slice p2 S.sh.length d2)).setCell ⟨w.heap.size, 3, none⟩ (.slice p3 S.si.length d3) = WF at *
    (try dsimp only)
    refine hK.out _ _ (by exact ⟨Q6.2.1 0 _ rfl, Q6.2.1 1 _ rfl, Q6.2.1 2 _ rfl, Q6.2.1 3 _ rfl⟩) (fun hHeld => ?_)
    clear hK K
    refine wpAnyH_done (by kernel_rfl) ?_ _
    have k0 := RF.2.1 0 _ rfl
    have k1 := RF.2.1 1 _ rfl
    have k2 := RF.2.1 2 _ rfl
    have k3 := RF.2.1 3 _ rfl
    go_wp2
    refine bodyPost_ret (v := .tuple #[.string root, .string tx, .agg #[.int .i64 S.at_, .slice p1 S.op.length d1, .slice p2 S.sh.length d2, .slice p3 S.si.length d3]]) (by simp [results, Tryd.results114, go_sem, k0, k1, k2, k3]) rfl ?_
    exact ⟨root, tx, S, p1, p2, p3, d1, d2, d3, rfl, hr, (by omega), (show SigFit S from sig_fit HW.out), ((sigRd_of SF).mono (by omega)), CF, MF⟩
  by_cases h0 : k = 0
  · subst h0
    have hx4 : x % 4 = 0 ∨ x % 4 = 1 ∨ x % 4 = 2 ∨ x % 4 = 3 := by omega
    have HC6 := Lib.hid hx4
    clear hx4
    rcases HC6.out with hx4 | hx4 | hx4 | hx4
    · have e7 : Ext w6 (w6.alloc (Obj.cells #[.int .i64 (-1), .int .i64 15, .int .i64 16, .int .i64 3] 3)) := (Ext.refl _).alloc _
      replace Q6 := Q6.ext e7
      replace R6 := R6.ext e7
      replace so6 := so6.ext e7
      replace C6 := C6.ext e7
      replace M6 := M6.trans (Mut.of_ext e7)
      have g0 := Q6.2.1 0 _ rfl
      have g1 := Q6.2.2 0
      go_upto_region 20 with (fail)
      replace Q6 := Q6.set 0 (.int .i64 (-1)) (by simp)
      replace R6 := R6.far (c := w3.heap.size) (by omega) 0 (.int .i64 (-1))
      replace so6 := so6.set (b := w3.heap.size) (by omega) 0 (.int .i64 (-1))
      replace C6 := C6.far (c := w3.heap.size) (by omega) 0 (.int .i64 (-1))
      replace M6 := mut_above M6 (k := w3.heap.size) (by omega) 0 (.int .i64 (-1))
      clear g0 g1 e7
      generalize (w6.alloc (Obj.cells #[.int .i64 (-1), .int .i64 15, .int .i64 16, .int .i64 3] 3)).setCell ⟨w3.heap.size, 0, none⟩ (.int .i64 (-1)) = w7 at *
      refine wp_region_held_drew (S := (fun W => W.cell? ⟨w3.heap.size, 0, none⟩ = some (.int .i64 (-1)) ∧ W.cell? ⟨w3.heap.size, 1, none⟩ = some (.slice p1 S.op.length d1) ∧ W.cell? ⟨w3.heap.size, 2, none⟩ = some (.slice p2 S.sh.length d2) ∧ W.cell? ⟨w3.heap.size, 3, none⟩ = some (.slice p3 S.si.length d3))) (by kernel_rfl) (by exact ⟨Q6.2.1 0 _ rfl, Q6.2.1 1 _ rfl, Q6.2.1 2 _ rfl, Q6.2.1 3 _ rfl⟩) (fun hHeld => ?_)
      have xd : Ext w7 w7.drew := (Ext.refl w7).drew
      replace Q6 := Q6.ext xd
      replace R6 := R6.ext xd
      replace so6 := so6.ext xd
      replace C6 := C6.ext xd
      replace M6 := M6.trans (Mut.of_ext xd)
      generalize w7.drew = w9 at *
      have q0 := Q6.2.1 0 _ rfl
      have q1 := Q6.2.1 1 _ rfl
      have q2 := Q6.2.1 2 _ rfl
      have q3 := Q6.2.1 3 _ rfl
      (refine wpAnyH_take (i := 0) (v := ?_) rfl (by kernel_rfl) (by kernel_rfl) (by kernel_rfl) (fun _ _ _ h => h) (Or.inl ⟨by rfl, ?_⟩) (by assumption) ?_; rotate_left; focus (intro w hSw; (try dsimp only at hSw); (try simp only [List.getElem_toArray, List.getElem_cons_zero]); go_simp; try with_reducible rfl)); (try simp only [List.getElem_toArray, List.getElem_cons_zero]); (try simp only [Act.put, List.setIfInBounds_toArray, List.set_cons_zero, List.set_cons_succ])
      (refine wpAnyH_take (i := 1) (v := ?_) rfl (by kernel_rfl) (by kernel_rfl) (by kernel_rfl) (fun _ _ _ h => h) (Or.inl ⟨by rfl, ?_⟩) (by assumption) ?_; rotate_left; focus (intro w hSw; (try dsimp only at hSw); (try simp only [List.getElem_toArray, List.getElem_cons_zero, List.getElem_cons_succ]); go_simp; try with_reducible rfl)); (try simp only [List.getElem_toArray, List.getElem_cons_zero, List.getElem_cons_succ]); (try simp only [Act.put, List.setIfInBounds_toArray, List.set_cons_zero, List.set_cons_succ])
      (refine wpAnyH_take (i := 2) (v := ?_) rfl (by kernel_rfl) (by kernel_rfl) (by kernel_rfl) (fun _ _ _ h => h) (Or.inl ⟨by rfl, ?_⟩) (by assumption) ?_; rotate_left; focus (intro w hSw; (try dsimp only at hSw); (try simp only [List.getElem_toArray, List.getElem_cons_zero, List.getElem_cons_succ]); go_simp; try with_reducible rfl)); (try simp only [List.getElem_toArray, List.getElem_cons_zero, List.getElem_cons_succ]); (try simp only [Act.put, List.setIfInBounds_toArray, List.set_cons_zero, List.set_cons_succ])
      (refine wpAnyH_take (i := 3) (v := ?_) rfl (by kernel_rfl) (by kernel_rfl) (by kernel_rfl) (fun _ _ _ h => h) (Or.inl ⟨by rfl, ?_⟩) (by assumption) ?_; rotate_left; focus (intro w hSw; (try dsimp only at hSw); (try simp only [List.getElem_toArray, List.getElem_cons_zero, List.getElem_cons_succ]); go_simp; try with_reducible rfl)); (try simp only [List.getElem_toArray, List.getElem_cons_zero, List.getElem_cons_succ]); (try simp only [Act.put, List.setIfInBounds_toArray, List.set_cons_zero, List.set_cons_succ])
      (refine wpAnyH_take (i := 4) (v := ?_) rfl (by kernel_rfl) (by kernel_rfl) (by kernel_rfl) (fun _ _ _ h => h) (Or.inl ⟨by rfl, ?_⟩) (by assumption) ?_; rotate_left; focus (intro w hSw; (try dsimp only at hSw); (try simp only [List.getElem_toArray, List.getElem_cons_zero, List.getElem_cons_succ]); go_simp; try with_reducible rfl)); (try simp only [List.getElem_toArray, List.getElem_cons_zero, List.getElem_cons_succ]); (try simp only [Act.put, List.setIfInBounds_toArray, List.set_cons_zero, List.set_cons_succ])
      clear q0 q1 q2 q3
      have z0 := R6.2.1 0 _ rfl
      have z1 := R6.2.1 1 _ rfl
      have z2 := R6.2.1 2 _ rfl
      have z3 := R6.2.1 3 _ rfl
      have f0 := R6.2.2 0
      have f1 := R6.2.2 1
      have f2 := R6.2.2 2
      have f3 := R6.2.2 3
      have RF := ((((R6.set 0 (.int .i64 (-1)) (by simp)).set 1 (.slice p1 S.op.length d1) (by simp)).set 2 (.slice p2 S.sh.length d2) (by simp)).set 3 (.slice p3 S.si.length d3) (by simp))
      have CF := ((((C6.far (c := w.heap.size) (by omega) 0 (.int .i64 (-1))).far (c := w.heap.size) (by omega) 1 (.slice p1 S.op.length d1)).far (c := w.heap.size) (by omega) 2 (.slice p2 S.sh.length d2)).far (c := w.heap.size) (by omega) 3 (.slice p3 S.si.length d3))
      have MF : Mut b w ((((w9.setCell ⟨w.heap.size, 0, none⟩ (.int .i64 (-1))).setCell ⟨w.heap.size, 1, none⟩ (.slice p1 S.op.length d1)).setCell ⟨w.heap.size, 2, none⟩ (.slice p2 S.sh.length d2)).setCell ⟨w.heap.size, 3, none⟩ (.slice p3 S.si.length d3)) := (mut_above (mut_above (mut_above (mut_above M6 (k := w.heap.size) (Nat.le_refl _) 0 (.int .i64 (-1))) (k := w.heap.size) (Nat.le_refl _) 1 (.slice p1 S.op.length d1)) (k := w.heap.size) (Nat.le_refl _) 2 (.slice p2 S.sh.length d2)) (k := w.heap.size) (Nat.le_refl _) 3 (.slice p3 S.si.length d3))
      have QF := ((((Q6.far (c := w.heap.size) (by omega) 0 (.int .i64 (-1))).far (c := w.heap.size) (by omega) 1 (.slice p1 S.op.length d1)).far (c := w.heap.size) (by omega) 2 (.slice p2 S.sh.length d2)).far (c := w.heap.size) (by omega) 3 (.slice p3 S.si.length d3))
      have SF := so6.below4 (b := w.heap.size) (by omega) (.int .i64 (-1)) (.slice p1 S.op.length d1) (.slice p2 S.sh.length d2) (.slice p3 S.si.length d3)
      (refine wpAnyH_ready (rs := [5]) (by kernel_rfl) (by simp) ?_; refine AllReadyH.cons rfl (fun K hK => ?_) AllReadyH.nil; (try simp only [List.getElem_toArray, List.getElem_cons_zero, List.getElem_cons_succ]))
      go_simp
      clear z0 z1 z2 z3 f0 f1 f2 f3
      clear Q6
      have Q6 := QF
      generalize (((w9.setCell ⟨w.heap.size, 0, none⟩ (.int .i64 (-1))).setCell ⟨w.heap.size, 1, none⟩ (.slice p1 S.op.length d1)).setCell ⟨w.heap.size, 2, none⟩ (.slice p2 S.sh.length d2)).setCell ⟨w.heap.size, 3, none⟩ (.slice p3 S.si.length d3) = WF at *
      (try dsimp only)
      refine hK.out _ _ (by exact ⟨Q6.2.1 0 _ rfl, Q6.2.1 1 _ rfl, Q6.2.1 2 _ rfl, Q6.2.1 3 _ rfl⟩) (fun hHeld => ?_)
      clear hK K
      refine wpAnyH_done (by kernel_rfl) ?_ _
      have k0 := RF.2.1 0 _ rfl
      have k1 := RF.2.1 1 _ rfl
      have k2 := RF.2.1 2 _ rfl
      have k3 := RF.2.1 3 _ rfl
      go_wp2
      refine bodyPost_ret (v := .tuple #[.string root, .string text, .agg #[.int .i64 (-1), .slice p1 S.op.length d1, .slice p2 S.sh.length d2, .slice p3 S.si.length d3]]) (by simp [results, Tryd.results114, go_sem, k0, k1, k2, k3]) rfl ?_
      exact ⟨root, text, { S with at_ := -1 }, p1, p2, p3, d1, d2, d3, rfl, hr, (by omega), (show SigFit S from sig_fit HW.out), ((sigRd_of SF).mono (by omega)), CF, MF⟩
    · have e7 : Ext w6 (w6.alloc (Obj.cells #[.int .i64 (-1), .int .i64 15, .int .i64 16, .int .i64 3] 3)) := (Ext.refl _).alloc _
      replace Q6 := Q6.ext e7
      replace R6 := R6.ext e7
      replace so6 := so6.ext e7
      replace C6 := C6.ext e7
      replace M6 := M6.trans (Mut.of_ext e7)
      have g0 := Q6.2.1 0 _ rfl
      have g1 := Q6.2.2 0
      go_upto_region 20 with (fail)
      replace Q6 := Q6.set 0 (.int .i64 (15)) (by simp)
      replace R6 := R6.far (c := w3.heap.size) (by omega) 0 (.int .i64 (15))
      replace so6 := so6.set (b := w3.heap.size) (by omega) 0 (.int .i64 (15))
      replace C6 := C6.far (c := w3.heap.size) (by omega) 0 (.int .i64 (15))
      replace M6 := mut_above M6 (k := w3.heap.size) (by omega) 0 (.int .i64 (15))
      clear g0 g1 e7
      generalize (w6.alloc (Obj.cells #[.int .i64 (-1), .int .i64 15, .int .i64 16, .int .i64 3] 3)).setCell ⟨w3.heap.size, 0, none⟩ (.int .i64 (15)) = w7 at *
      refine wp_region_held_drew (S := (fun W => W.cell? ⟨w3.heap.size, 0, none⟩ = some (.int .i64 (15)) ∧ W.cell? ⟨w3.heap.size, 1, none⟩ = some (.slice p1 S.op.length d1) ∧ W.cell? ⟨w3.heap.size, 2, none⟩ = some (.slice p2 S.sh.length d2) ∧ W.cell? ⟨w3.heap.size, 3, none⟩ = some (.slice p3 S.si.length d3))) (by kernel_rfl) (by exact ⟨Q6.2.1 0 _ rfl, Q6.2.1 1 _ rfl, Q6.2.1 2 _ rfl, Q6.2.1 3 _ rfl⟩) (fun hHeld => ?_)
      have xd : Ext w7 w7.drew := (Ext.refl w7).drew
      replace Q6 := Q6.ext xd
      replace R6 := R6.ext xd
      replace so6 := so6.ext xd
      replace C6 := C6.ext xd
      replace M6 := M6.trans (Mut.of_ext xd)
      generalize w7.drew = w9 at *
      have q0 := Q6.2.1 0 _ rfl
      have q1 := Q6.2.1 1 _ rfl
      have q2 := Q6.2.1 2 _ rfl
      have q3 := Q6.2.1 3 _ rfl
      (refine wpAnyH_take (i := 0) (v := ?_) rfl (by kernel_rfl) (by kernel_rfl) (by kernel_rfl) (fun _ _ _ h => h) (Or.inl ⟨by rfl, ?_⟩) (by assumption) ?_; rotate_left; focus (intro w hSw; (try dsimp only at hSw); (try simp only [List.getElem_toArray, List.getElem_cons_zero]); go_simp; try with_reducible rfl)); (try simp only [List.getElem_toArray, List.getElem_cons_zero]); (try simp only [Act.put, List.setIfInBounds_toArray, List.set_cons_zero, List.set_cons_succ])
      (refine wpAnyH_take (i := 1) (v := ?_) rfl (by kernel_rfl) (by kernel_rfl) (by kernel_rfl) (fun _ _ _ h => h) (Or.inl ⟨by rfl, ?_⟩) (by assumption) ?_; rotate_left; focus (intro w hSw; (try dsimp only at hSw); (try simp only [List.getElem_toArray, List.getElem_cons_zero, List.getElem_cons_succ]); go_simp; try with_reducible rfl)); (try simp only [List.getElem_toArray, List.getElem_cons_zero, List.getElem_cons_succ]); (try simp only [Act.put, List.setIfInBounds_toArray, List.set_cons_zero, List.set_cons_succ])
      (refine wpAnyH_take (i := 2) (v := ?_) rfl (by kernel_rfl) (by kernel_rfl) (by kernel_rfl) (fun _ _ _ h => h) (Or.inl ⟨by rfl, ?_⟩) (by assumption) ?_; rotate_left; focus (intro w hSw; (try dsimp only at hSw); (try simp only [List.getElem_toArray, List.getElem_cons_zero, List.getElem_cons_succ]); go_simp; try with_reducible rfl)); (try simp only [List.getElem_toArray, List.getElem_cons_zero, List.getElem_cons_succ]); (try simp only [Act.put, List.setIfInBounds_toArray, List.set_cons_zero, List.set_cons_succ])
      (refine wpAnyH_take (i := 3) (v := ?_) rfl (by kernel_rfl) (by kernel_rfl) (by kernel_rfl) (fun _ _ _ h => h) (Or.inl ⟨by rfl, ?_⟩) (by assumption) ?_; rotate_left; focus (intro w hSw; (try dsimp only at hSw); (try simp only [List.getElem_toArray, List.getElem_cons_zero, List.getElem_cons_succ]); go_simp; try with_reducible rfl)); (try simp only [List.getElem_toArray, List.getElem_cons_zero, List.getElem_cons_succ]); (try simp only [Act.put, List.setIfInBounds_toArray, List.set_cons_zero, List.set_cons_succ])
      (refine wpAnyH_take (i := 4) (v := ?_) rfl (by kernel_rfl) (by kernel_rfl) (by kernel_rfl) (fun _ _ _ h => h) (Or.inl ⟨by rfl, ?_⟩) (by assumption) ?_; rotate_left; focus (intro w hSw; (try dsimp only at hSw); (try simp only [List.getElem_toArray, List.getElem_cons_zero, List.getElem_cons_succ]); go_simp; try with_reducible rfl)); (try simp only [List.getElem_toArray, List.getElem_cons_zero, List.getElem_cons_succ]); (try simp only [Act.put, List.setIfInBounds_toArray, List.set_cons_zero, List.set_cons_succ])
      clear q0 q1 q2 q3
      have z0 := R6.2.1 0 _ rfl
      have z1 := R6.2.1 1 _ rfl
      have z2 := R6.2.1 2 _ rfl
      have z3 := R6.2.1 3 _ rfl
      have f0 := R6.2.2 0
      have f1 := R6.2.2 1
      have f2 := R6.2.2 2
      have f3 := R6.2.2 3
      have RF := ((((R6.set 0 (.int .i64 (15)) (by simp)).set 1 (.slice p1 S.op.length d1) (by simp)).set 2 (.slice p2 S.sh.length d2) (by simp)).set 3 (.slice p3 S.si.length d3) (by simp))
      have CF := ((((C6.far (c := w.heap.size) (by omega) 0 (.int .i64 (15))).far (c := w.heap.size) (by omega) 1 (.slice p1 S.op.length d1)).far (c := w.heap.size) (by omega) 2 (.slice p2 S.sh.length d2)).far (c := w.heap.size) (by omega) 3 (.slice p3 S.si.length d3))
      have MF : Mut b w ((((w9.setCell ⟨w.heap.size, 0, none⟩ (.int .i64 (15))).setCell ⟨w.heap.size, 1, none⟩ (.slice p1 S.op.length d1)).setCell ⟨w.heap.size, 2, none⟩ (.slice p2 S.sh.length d2)).setCell ⟨w.heap.size, 3, none⟩ (.slice p3 S.si.length d3)) := (mut_above (mut_above (mut_above (mut_above M6 (k := w.heap.size) (Nat.le_refl _) 0 (.int .i64 (15))) (k := w.heap.size) (Nat.le_refl _) 1 (.slice p1 S.op.length d1)) (k := w.heap.size) (Nat.le_refl _) 2 (.slice p2 S.sh.length d2)) (k := w.heap.size) (Nat.le_refl _) 3 (.slice p3 S.si.length d3))
      have QF := ((((Q6.far (c := w.heap.size) (by omega) 0 (.int .i64 (15))).far (c := w.heap.size) (by omega) 1 (.slice p1 S.op.length d1)).far (c := w.heap.size) (by omega) 2 (.slice p2 S.sh.length d2)).far (c := w.heap.size) (by omega) 3 (.slice p3 S.si.length d3))
      have SF := so6.below4 (b := w.heap.size) (by omega) (.int .i64 (15)) (.slice p1 S.op.length d1) (.slice p2 S.sh.length d2) (.slice p3 S.si.length d3)
      (refine wpAnyH_ready (rs := [5]) (by kernel_rfl) (by simp) ?_; refine AllReadyH.cons rfl (fun K hK => ?_) AllReadyH.nil; (try simp only [List.getElem_toArray, List.getElem_cons_zero, List.getElem_cons_succ]))
      go_simp
      clear z0 z1 z2 z3 f0 f1 f2 f3
      clear Q6
      have Q6 := QF
      generalize (((w9.setCell ⟨w.heap.size, 0, none⟩ (.int .i64 (15))).setCell ⟨w.heap.size, 1, none⟩ (.slice p1 S.op.length d1)).setCell ⟨w.heap.size, 2, none⟩ (.slice p2 S.sh.length d2)).setCell ⟨w.heap.size, 3, none⟩ (.slice p3 S.si.length d3) = WF at *
      (try dsimp only)
      refine hK.out _ _ (by exact ⟨Q6.2.1 0 _ rfl, Q6.2.1 1 _ rfl, Q6.2.1 2 _ rfl, Q6.2.1 3 _ rfl⟩) (fun hHeld => ?_)
      clear hK K
      refine wpAnyH_done (by kernel_rfl) ?_ _
      have k0 := RF.2.1 0 _ rfl
      have k1 := RF.2.1 1 _ rfl
      have k2 := RF.2.1 2 _ rfl
      have k3 := RF.2.1 3 _ rfl
      go_wp2
      refine bodyPost_ret (v := .tuple #[.string root, .string text, .agg #[.int .i64 (15), .slice p1 S.op.length d1, .slice p2 S.sh.length d2, .slice p3 S.si.length d3]]) (by simp [results, Tryd.results114, go_sem, k0, k1, k2, k3]) rfl ?_
      exact ⟨root, text, { S with at_ := 15 }, p1, p2, p3, d1, d2, d3, rfl, hr, (by omega), (show SigFit S from sig_fit HW.out), ((sigRd_of SF).mono (by omega)), CF, MF⟩
    · have e7 : Ext w6 (w6.alloc (Obj.cells #[.int .i64 (-1), .int .i64 15, .int .i64 16, .int .i64 3] 3)) := (Ext.refl _).alloc _
      replace Q6 := Q6.ext e7
      replace R6 := R6.ext e7
      replace so6 := so6.ext e7
      replace C6 := C6.ext e7
      replace M6 := M6.trans (Mut.of_ext e7)
      have g0 := Q6.2.1 0 _ rfl
      have g1 := Q6.2.2 0
      go_upto_region 20 with (fail)
      replace Q6 := Q6.set 0 (.int .i64 (16)) (by simp)
      replace R6 := R6.far (c := w3.heap.size) (by omega) 0 (.int .i64 (16))
      replace so6 := so6.set (b := w3.heap.size) (by omega) 0 (.int .i64 (16))
      replace C6 := C6.far (c := w3.heap.size) (by omega) 0 (.int .i64 (16))
      replace M6 := mut_above M6 (k := w3.heap.size) (by omega) 0 (.int .i64 (16))
      clear g0 g1 e7
      generalize (w6.alloc (Obj.cells #[.int .i64 (-1), .int .i64 15, .int .i64 16, .int .i64 3] 3)).setCell ⟨w3.heap.size, 0, none⟩ (.int .i64 (16)) = w7 at *
      refine wp_region_held_drew (S := (fun W => W.cell? ⟨w3.heap.size, 0, none⟩ = some (.int .i64 (16)) ∧ W.cell? ⟨w3.heap.size, 1, none⟩ = some (.slice p1 S.op.length d1) ∧ W.cell? ⟨w3.heap.size, 2, none⟩ = some (.slice p2 S.sh.length d2) ∧ W.cell? ⟨w3.heap.size, 3, none⟩ = some (.slice p3 S.si.length d3))) (by kernel_rfl) (by exact ⟨Q6.2.1 0 _ rfl, Q6.2.1 1 _ rfl, Q6.2.1 2 _ rfl, Q6.2.1 3 _ rfl⟩) (fun hHeld => ?_)
      have xd : Ext w7 w7.drew := (Ext.refl w7).drew
      replace Q6 := Q6.ext xd
      replace R6 := R6.ext xd
      replace so6 := so6.ext xd
      replace C6 := C6.ext xd
      replace M6 := M6.trans (Mut.of_ext xd)
      generalize w7.drew = w9 at *
      have q0 := Q6.2.1 0 _ rfl
      have q1 := Q6.2.1 1 _ rfl
      have q2 := Q6.2.1 2 _ rfl
      have q3 := Q6.2.1 3 _ rfl
      (refine wpAnyH_take (i := 0) (v := ?_) rfl (by kernel_rfl) (by kernel_rfl) (by kernel_rfl) (fun _ _ _ h => h) (Or.inl ⟨by rfl, ?_⟩) (by assumption) ?_; rotate_left; focus (intro w hSw; (try dsimp only at hSw); (try simp only [List.getElem_toArray, List.getElem_cons_zero]); go_simp; try with_reducible rfl)); (try simp only [List.getElem_toArray, List.getElem_cons_zero]); (try simp only [Act.put, List.setIfInBounds_toArray, List.set_cons_zero, List.set_cons_succ])
      (refine wpAnyH_take (i := 1) (v := ?_) rfl (by kernel_rfl) (by kernel_rfl) (by kernel_rfl) (fun _ _ _ h => h) (Or.inl ⟨by rfl, ?_⟩) (by assumption) ?_; rotate_left; focus (intro w hSw; (try dsimp only at hSw); (try simp only [List.getElem_toArray, List.getElem_cons_zero, List.getElem_cons_succ]); go_simp; try with_reducible rfl)); (try simp only [List.getElem_toArray, List.getElem_cons_zero, List.getElem_cons_succ]); (try simp only [Act.put, List.setIfInBounds_toArray, List.set_cons_zero, List.set_cons_succ])
      (refine wpAnyH_take (i := 2) (v := ?_) rfl (by kernel_rfl) (by kernel_rfl) (by kernel_rfl) (fun _ _ _ h => h) (Or.inl ⟨by rfl, ?_⟩) (by assumption) ?_; rotate_left; focus (intro w hSw; (try dsimp only at hSw); (try simp only [List.getElem_toArray, List.getElem_cons_zero, List.getElem_cons_succ]); go_simp; try with_reducible rfl)); (try simp only [List.getElem_toArray, List.getElem_cons_zero, List.getElem_cons_succ]); (try simp only [Act.put, List.setIfInBounds_toArray, List.set_cons_zero, List.set_cons_succ])
      (refine wpAnyH_take (i := 3) (v := ?_) rfl (by kernel_rfl) (by kernel_rfl) (by kernel_rfl) (fun _ _ _ h => h) (Or.inl ⟨by rfl, ?_⟩) (by assumption) ?_; rotate_left; focus (intro w hSw; (try dsimp only at hSw); (try simp only [List.getElem_toArray, List.getElem_cons_zero, List.getElem_cons_succ]); go_simp; try with_reducible rfl)); (try simp only [List.getElem_toArray, List.getElem_cons_zero, List.getElem_cons_succ]); (try simp only [Act.put, List.setIfInBounds_toArray, List.set_cons_zero, List.set_cons_succ])
      (refine wpAnyH_take (i := 4) (v := ?_) rfl (by kernel_rfl) (by kernel_rfl) (by kernel_rfl) (fun _ _ _ h => h) (Or.inl ⟨by rfl, ?_⟩) (by assumption) ?_; rotate_left; focus (intro w hSw; (try dsimp only at hSw); (try simp only [List.getElem_toArray, List.getElem_cons_zero, List.getElem_cons_succ]); go_simp; try with_reducible rfl)); (try simp only [List.getElem_toArray, List.getElem_cons_zero, List.getElem_cons_succ]); (try simp only [Act.put, List.setIfInBounds_toArray, List.set_cons_zero, List.set_cons_succ])
      clear q0 q1 q2 q3
      have z0 := R6.2.1 0 _ rfl
      have z1 := R6.2.1 1 _ rfl
      have z2 := R6.2.1 2 _ rfl
      have z3 := R6.2.1 3 _ rfl
      have f0 := R6.2.2 0
      have f1 := R6.2.2 1
      have f2 := R6.2.2 2
      have f3 := R6.2.2 3
      have RF := ((((R6.set 0 (.int .i64 (16)) (by simp)).set 1 (.slice p1 S.op.length d1) (by simp)).set 2 (.slice p2 S.sh.length d2) (by simp)).set 3 (.slice p3 S.si.length d3) (by simp))
      have CF := ((((C6.far (c := w.heap.size) (by omega) 0 (.int .i64 (16))).far (c := w.heap.size) (by omega) 1 (.slice p1 S.op.length d1)).far (c := w.heap.size) (by omega) 2 (.slice p2 S.sh.length d2)).far (c := w.heap.size) (by omega) 3 (.slice p3 S.si.length d3))
      have MF : Mut b w ((((w9.setCell ⟨w.heap.size, 0, none⟩ (.int .i64 (16))).setCell ⟨w.heap.size, 1, none⟩ (.slice p1 S.op.length d1)).setCell ⟨w.heap.size, 2, none⟩ (.slice p2 S.sh.length d2)).setCell ⟨w.heap.size, 3, none⟩ (.slice p3 S.si.length d3)) := (mut_above (mut_above (mut_above (mut_above M6 (k := w.heap.size) (Nat.le_refl _) 0 (.int .i64 (16))) (k := w.heap.size) (Nat.le_refl _) 1 (.slice p1 S.op.length d1)) (k := w.heap.size) (Nat.le_refl _) 2 (.slice p2 S.sh.length d2)) (k := w.heap.size) (Nat.le_refl _) 3 (.slice p3 S.si.length d3))
      have QF := ((((Q6.far (c := w.heap.size) (by omega) 0 (.int .i64 (16))).far (c := w.heap.size) (by omega) 1 (.slice p1 S.op.length d1)).far (c := w.heap.size) (by omega) 2 (.slice p2 S.sh.length d2)).far (c := w.heap.size) (by omega) 3 (.slice p3 S.si.length d3))
      have SF := so6.below4 (b := w.heap.size) (by omega) (.int .i64 (16)) (.slice p1 S.op.length d1) (.slice p2 S.sh.length d2) (.slice p3 S.si.length d3)
      (refine wpAnyH_ready (rs := [5]) (by kernel_rfl) (by simp) ?_; refine AllReadyH.cons rfl (fun K hK => ?_) AllReadyH.nil; (try simp only [List.getElem_toArray, List.getElem_cons_zero, List.getElem_cons_succ]))
      go_simp
      clear z0 z1 z2 z3 f0 f1 f2 f3
      clear Q6
      have Q6 := QF
      generalize (((w9.setCell ⟨w.heap.size, 0, none⟩ (.int .i64 (16))).setCell ⟨w.heap.size, 1, none⟩ (.slice p1 S.op.length d1)).setCell ⟨w.heap.size, 2, none⟩ (.slice p2 S.sh.length d2)).setCell ⟨w.heap.size, 3, none⟩ (.slice p3 S.si.length d3) = WF at *
      (try dsimp only)
      refine hK.out _ _ (by exact ⟨Q6.2.1 0 _ rfl, Q6.2.1 1 _ rfl, Q6.2.1 2 _ rfl, Q6.2.1 3 _ rfl⟩) (fun hHeld => ?_)
      clear hK K
      refine wpAnyH_done (by kernel_rfl) ?_ _
      have k0 := RF.2.1 0 _ rfl
      have k1 := RF.2.1 1 _ rfl
      have k2 := RF.2.1 2 _ rfl
      have k3 := RF.2.1 3 _ rfl
      go_wp2
      refine bodyPost_ret (v := .tuple #[.string root, .string text, .agg #[.int .i64 (16), .slice p1 S.op.length d1, .slice p2 S.sh.length d2, .slice p3 S.si.length d3]]) (by simp [results, Tryd.results114, go_sem, k0, k1, k2, k3]) rfl ?_
      exact ⟨root, text, { S with at_ := 16 }, p1, p2, p3, d1, d2, d3, rfl, hr, (by omega), (show SigFit S from sig_fit HW.out), ((sigRd_of SF).mono (by omega)), CF, MF⟩
    · have e7 : Ext w6 (w6.alloc (Obj.cells #[.int .i64 (-1), .int .i64 15, .int .i64 16, .int .i64 3] 3)) := (Ext.refl _).alloc _
      replace Q6 := Q6.ext e7
      replace R6 := R6.ext e7
      replace so6 := so6.ext e7
      replace C6 := C6.ext e7
      replace M6 := M6.trans (Mut.of_ext e7)
      have g0 := Q6.2.1 0 _ rfl
      have g1 := Q6.2.2 0
      go_upto_region 20 with (fail)
      replace Q6 := Q6.set 0 (.int .i64 (3)) (by simp)
      replace R6 := R6.far (c := w3.heap.size) (by omega) 0 (.int .i64 (3))
      replace so6 := so6.set (b := w3.heap.size) (by omega) 0 (.int .i64 (3))
      replace C6 := C6.far (c := w3.heap.size) (by omega) 0 (.int .i64 (3))
      replace M6 := mut_above M6 (k := w3.heap.size) (by omega) 0 (.int .i64 (3))
      clear g0 g1 e7
      generalize (w6.alloc (Obj.cells #[.int .i64 (-1), .int .i64 15, .int .i64 16, .int .i64 3] 3)).setCell ⟨w3.heap.size, 0, none⟩ (.int .i64 (3)) = w7 at *
      refine wp_region_held_drew (S := (fun W => W.cell? ⟨w3.heap.size, 0, none⟩ = some (.int .i64 (3)) ∧ W.cell? ⟨w3.heap.size, 1, none⟩ = some (.slice p1 S.op.length d1) ∧ W.cell? ⟨w3.heap.size, 2, none⟩ = some (.slice p2 S.sh.length d2) ∧ W.cell? ⟨w3.heap.size, 3, none⟩ = some (.slice p3 S.si.length d3))) (by kernel_rfl) (by exact ⟨Q6.2.1 0 _ rfl, Q6.2.1 1 _ rfl, Q6.2.1 2 _ rfl, Q6.2.1 3 _ rfl⟩) (fun hHeld => ?_)
      have xd : Ext w7 w7.drew := (Ext.refl w7).drew
      replace Q6 := Q6.ext xd
      replace R6 := R6.ext xd
      replace so6 := so6.ext xd
      replace C6 := C6.ext xd
      replace M6 := M6.trans (Mut.of_ext xd)
      generalize w7.drew = w9 at *
      have q0 := Q6.2.1 0 _ rfl
      have q1 := Q6.2.1 1 _ rfl
      have q2 := Q6.2.1 2 _ rfl
      have q3 := Q6.2.1 3 _ rfl
      (refine wpAnyH_take (i := 0) (v := ?_) rfl (by kernel_rfl) (by kernel_rfl) (by kernel_rfl) (fun _ _ _ h => h) (Or.inl ⟨by rfl, ?_⟩) (by assumption) ?_; rotate_left; focus (intro w hSw; (try dsimp only at hSw); (try simp only [List.getElem_toArray, List.getElem_cons_zero]); go_simp; try with_reducible rfl)); (try simp only [List.getElem_toArray, List.getElem_cons_zero]); (try simp only [Act.put, List.setIfInBounds_toArray, List.set_cons_zero, List.set_cons_succ])
      (refine wpAnyH_take (i := 1) (v := ?_) rfl (by kernel_rfl) (by kernel_rfl) (by kernel_rfl) (fun _ _ _ h => h) (Or.inl ⟨by rfl, ?_⟩) (by assumption) ?_; rotate_left; focus (intro w hSw; (try dsimp only at hSw); (try simp only [List.getElem_toArray, List.getElem_cons_zero, List.getElem_cons_succ]); go_simp; try with_reducible rfl)); (try simp only [List.getElem_toArray, List.getElem_cons_zero, List.getElem_cons_succ]); (try simp only [Act.put, List.setIfInBounds_toArray, List.set_cons_zero, List.set_cons_succ])
      (refine wpAnyH_take (i := 2) (v := ?_) rfl (by kernel_rfl) (by kernel_rfl) (by kernel_rfl) (fun _ _ _ h => h) (Or.inl ⟨by rfl, ?_⟩) (by assumption) ?_; rotate_left; focus (intro w hSw; (try dsimp only at hSw); (try simp only [List.getElem_toArray, List.getElem_cons_zero, List.getElem_cons_succ]); go_simp; try with_reducible rfl)); (try simp only [List.getElem_toArray, List.getElem_cons_zero, List.getElem_cons_succ]); (try simp only [Act.put, List.setIfInBounds_toArray, List.set_cons_zero, List.set_cons_succ])
      (refine wpAnyH_take (i := 3) (v := ?_) rfl (by kernel_rfl) (by kernel_rfl) (by kernel_rfl) (fun _ _ _ h => h) (Or.inl ⟨by rfl, ?_⟩) (by assumption) ?_; rotate_left; focus (intro w hSw; (try dsimp only at hSw); (try simp only [List.getElem_toArray, List.getElem_cons_zero, List.getElem_cons_succ]); go_simp; try with_reducible rfl)); (try simp only [List.getElem_toArray, List.getElem_cons_zero, List.getElem_cons_succ]); (try simp only [Act.put, List.setIfInBounds_toArray, List.set_cons_zero, List.set_cons_succ])
      (refine wpAnyH_take (i := 4) (v := ?_) rfl (by kernel_rfl) (by kernel_rfl) (by kernel_rfl) (fun _ _ _ h => h) (Or.inl ⟨by rfl, ?_⟩) (by assumption) ?_; rotate_left; focus (intro w hSw; (try dsimp only at hSw); (try simp only [List.getElem_toArray, List.getElem_cons_zero, List.getElem_cons_succ]); go_simp; try with_reducible rfl)); (try simp only [List.getElem_toArray, List.getElem_cons_zero, List.getElem_cons_succ]); (try simp only [Act.put, List.setIfInBounds_toArray, List.set_cons_zero, List.set_cons_succ])
      clear q0 q1 q2 q3
      have z0 := R6.2.1 0 _ rfl
      have z1 := R6.2.1 1 _ rfl
      have z2 := R6.2.1 2 _ rfl
      have z3 := R6.2.1 3 _ rfl
      have f0 := R6.2.2 0
      have f1 := R6.2.2 1
      have f2 := R6.2.2 2
      have f3 := R6.2.2 3
      have RF := ((((R6.set 0 (.int .i64 (3)) (by simp)).set 1 (.slice p1 S.op.length d1) (by simp)).set 2 (.slice p2 S.sh.length d2) (by simp)).set 3 (.slice p3 S.si.length d3) (by simp))
      have CF := ((((C6.far (c := w.heap.size) (by omega) 0 (.int .i64 (3))).far (c := w.heap.size) (by omega) 1 (.slice p1 S.op.length d1)).far (c := w.heap.size) (by omega) 2 (.slice p2 S.sh.length d2)).far (c := w.heap.size) (by omega) 3 (.slice p3 S.si.length d3))
      have MF : Mut b w ((((w9.setCell ⟨w.heap.size, 0, none⟩ (.int .i64 (3))).setCell ⟨w.heap.size, 1, none⟩ (.slice p1 S.op.length d1)).setCell ⟨w.heap.size, 2, none⟩ (.slice p2 S.sh.length d2)).setCell ⟨w.heap.size, 3, none⟩ (.slice p3 S.si.length d3)) := (mut_above (mut_above (mut_above (mut_above M6 (k := w.heap.size) (Nat.le_refl _) 0 (.int .i64 (3))) (k := w.heap.size) (Nat.le_refl _) 1 (.slice p1 S.op.length d1)) (k := w.heap.size) (Nat.le_refl _) 2 (.slice p2 S.sh.length d2)) (k := w.heap.size) (Nat.le_refl _) 3 (.slice p3 S.si.length d3))
      have QF := ((((Q6.far (c := w.heap.size) (by omega) 0 (.int .i64 (3))).far (c := w.heap.size) (by omega) 1 (.slice p1 S.op.length d1)).far (c := w.heap.size) (by omega) 2 (.slice p2 S.sh.length d2)).far (c := w.heap.size) (by omega) 3 (.slice p3 S.si.length d3))
      have SF := so6.below4 (b := w.heap.size) (by omega) (.int .i64 (3)) (.slice p1 S.op.length d1) (.slice p2 S.sh.length d2) (.slice p3 S.si.length d3)
      (refine wpAnyH_ready (rs := [5]) (by kernel_rfl) (by simp) ?_; refine AllReadyH.cons rfl (fun K hK => ?_) AllReadyH.nil; (try simp only [List.getElem_toArray, List.getElem_cons_zero, List.getElem_cons_succ]))
      go_simp
      clear z0 z1 z2 z3 f0 f1 f2 f3
      clear Q6
      have Q6 := QF
      generalize (((w9.setCell ⟨w.heap.size, 0, none⟩ (.int .i64 (3))).setCell ⟨w.heap.size, 1, none⟩ (.slice p1 S.op.length d1)).setCell ⟨w.heap.size, 2, none⟩ (.slice p2 S.sh.length d2)).setCell ⟨w.heap.size, 3, none⟩ (.slice p3 S.si.length d3) = WF at *
      (try dsimp only)
      refine hK.out _ _ (by exact ⟨Q6.2.1 0 _ rfl, Q6.2.1 1 _ rfl, Q6.2.1 2 _ rfl, Q6.2.1 3 _ rfl⟩) (fun hHeld => ?_)
      clear hK K
      refine wpAnyH_done (by kernel_rfl) ?_ _
      have k0 := RF.2.1 0 _ rfl
      have k1 := RF.2.1 1 _ rfl
      have k2 := RF.2.1 2 _ rfl
      have k3 := RF.2.1 3 _ rfl
      go_wp2
      refine bodyPost_ret (v := .tuple #[.string root, .string text, .agg #[.int .i64 (3), .slice p1 S.op.length d1, .slice p2 S.sh.length d2, .slice p3 S.si.length d3]]) (by simp [results, Tryd.results114, go_sem, k0, k1, k2, k3]) rfl ?_
      exact ⟨root, text, { S with at_ := 3 }, p1, p2, p3, d1, d2, d3, rfl, hr, (by omega), (show SigFit S from sig_fit HW.out), ((sigRd_of SF).mono (by omega)), CF, MF⟩
  by_cases h2 : k = 2
  · subst h2
    have hl4 : (S.si.length : Int) = 4 := by rw [N3.out]; rfl
    obtain ⟨g3, cc3, he⟩ := own_form so6.2.2.1 (by rw [N3.out]; decide)
    injection he with he1 he2 he3
    subst he1 he3
    clear he2
    have hc3 : 4 ≤ d3 := by have := so6.2.2.1.strs; obtain ⟨-, a9, c9, hv, hc9, -⟩ := this; injection hv with e1 e2 e3; rw [N3.out] at hc9; omega
    have hci : (4 : Int) ≤ d3 := by omega
    have hd1 : ¬ d3 = 1 := by omega
    have HD := Lib.hid hc3
    have q3 := Q6.2.1 3 _ rfl
    have g1 := Q6.2.2 3
    go_upto_region 20 with (fail)
    replace Q6 := Q6.set 3 (.slice (some ⟨g3, 1, none⟩) (S.si.length - 1) (d3 - 1)) (by simp)
    replace R6 := R6.far (c := w3.heap.size) (by omega) 3 (.slice (some ⟨g3, 1, none⟩) (S.si.length - 1) (d3 - 1))
    replace so6 := so6.set (b := w3.heap.size) (by omega) 3 (.slice (some ⟨g3, 1, none⟩) (S.si.length - 1) (d3 - 1))
    replace C6 := C6.far (c := w3.heap.size) (by omega) 3 (.slice (some ⟨g3, 1, none⟩) (S.si.length - 1) (d3 - 1))
    replace M6 := mut_above M6 (k := w3.heap.size) (by omega) 3 (.slice (some ⟨g3, 1, none⟩) (S.si.length - 1) (d3 - 1))
    clear q3 g1
    generalize w6.setCell ⟨w3.heap.size, 3, none⟩ (.slice (some ⟨g3, 1, none⟩) (S.si.length - 1) (d3 - 1)) = w7 at *
    refine wp_region_held_drew (S := (fun W => W.cell? ⟨w3.heap.size, 0, none⟩ = some (.int .i64 S.at_) ∧ W.cell? ⟨w3.heap.size, 1, none⟩ = some (.slice p1 S.op.length d1) ∧ W.cell? ⟨w3.heap.size, 2, none⟩ = some (.slice p2 S.sh.length d2) ∧ W.cell? ⟨w3.heap.size, 3, none⟩ = some (.slice (some ⟨g3, 1, none⟩) (S.si.length - 1) (d3 - 1)))) (by kernel_rfl) (by exact ⟨Q6.2.1 0 _ rfl, Q6.2.1 1 _ rfl, Q6.2.1 2 _ rfl, Q6.2.1 3 _ rfl⟩) (fun hHeld => ?_)
    have xd : Ext w7 w7.drew := (Ext.refl w7).drew
    replace Q6 := Q6.ext xd
    replace R6 := R6.ext xd
    replace so6 := so6.ext xd
    replace C6 := C6.ext xd
    replace M6 := M6.trans (Mut.of_ext xd)
    generalize w7.drew = w9 at *
    have q0 := Q6.2.1 0 _ rfl
    have q1 := Q6.2.1 1 _ rfl
    have q2 := Q6.2.1 2 _ rfl
    have q3 := Q6.2.1 3 _ rfl
    (refine wpAnyH_take (i := 0) (v := ?_) rfl (by kernel_rfl) (by kernel_rfl) (by kernel_rfl) (fun _ _ _ h => h) (Or.inl ⟨by rfl, ?_⟩) (by assumption) ?_; rotate_left; focus (intro w hSw; (try dsimp only at hSw); (try simp only [List.getElem_toArray, List.getElem_cons_zero]); go_simp; try with_reducible rfl)); (try simp only [List.getElem_toArray, List.getElem_cons_zero]); (try simp only [Act.put, List.setIfInBounds_toArray, List.set_cons_zero, List.set_cons_succ])
    (refine wpAnyH_take (i := 1) (v := ?_) rfl (by kernel_rfl) (by kernel_rfl) (by kernel_rfl) (fun _ _ _ h => h) (Or.inl ⟨by rfl, ?_⟩) (by assumption) ?_; rotate_left; focus (intro w hSw; (try dsimp only at hSw); (try simp only [List.getElem_toArray, List.getElem_cons_zero, List.getElem_cons_succ]); go_simp; try with_reducible rfl)); (try simp only [List.getElem_toArray, List.getElem_cons_zero, List.getElem_cons_succ]); (try simp only [Act.put, List.setIfInBounds_toArray, List.set_cons_zero, List.set_cons_succ])
    (refine wpAnyH_take (i := 2) (v := ?_) rfl (by kernel_rfl) (by kernel_rfl) (by kernel_rfl) (fun _ _ _ h => h) (Or.inl ⟨by rfl, ?_⟩) (by assumption) ?_; rotate_left; focus (intro w hSw; (try dsimp only at hSw); (try simp only [List.getElem_toArray, List.getElem_cons_zero, List.getElem_cons_succ]); go_simp; try with_reducible rfl)); (try simp only [List.getElem_toArray, List.getElem_cons_zero, List.getElem_cons_succ]); (try simp only [Act.put, List.setIfInBounds_toArray, List.set_cons_zero, List.set_cons_succ])
    (refine wpAnyH_take (i := 3) (v := ?_) rfl (by kernel_rfl) (by kernel_rfl) (by kernel_rfl) (fun _ _ _ h => h) (Or.inl ⟨by rfl, ?_⟩) (by assumption) ?_; rotate_left; focus (intro w hSw; (try dsimp only at hSw); (try simp only [List.getElem_toArray, List.getElem_cons_zero, List.getElem_cons_succ]); go_simp; try with_reducible rfl)); (try simp only [List.getElem_toArray, List.getElem_cons_zero, List.getElem_cons_succ]); (try simp only [Act.put, List.setIfInBounds_toArray, List.set_cons_zero, List.set_cons_succ])
    (refine wpAnyH_take (i := 4) (v := ?_) rfl (by kernel_rfl) (by kernel_rfl) (by kernel_rfl) (fun _ _ _ h => h) (Or.inl ⟨by rfl, ?_⟩) (by assumption) ?_; rotate_left; focus (intro w hSw; (try dsimp only at hSw); (try simp only [List.getElem_toArray, List.getElem_cons_zero, List.getElem_cons_succ]); go_simp; try with_reducible rfl)); (try simp only [List.getElem_toArray, List.getElem_cons_zero, List.getElem_cons_succ]); (try simp only [Act.put, List.setIfInBounds_toArray, List.set_cons_zero, List.set_cons_succ])
    clear q0 q1 q2 q3
    have z0 := R6.2.1 0 _ rfl
    have z1 := R6.2.1 1 _ rfl
    have z2 := R6.2.1 2 _ rfl
    have z3 := R6.2.1 3 _ rfl
    have f0 := R6.2.2 0
    have f1 := R6.2.2 1
    have f2 := R6.2.2 2
    have f3 := R6.2.2 3
    have RF := ((((R6.set 0 (.int .i64 S.at_) (by simp)).set 1 (.slice p1 S.op.length d1) (by simp)).set 2 (.slice p2 S.sh.length d2) (by simp)).set 3 (.slice (some ⟨g3, 1, none⟩) (S.si.length - 1) (d3 - 1)) (by simp))
    have CF := ((((C6.far (c := w.heap.size) (by omega) 0 (.int .i64 S.at_)).far (c := w.heap.size) (by omega) 1 (.slice p1 S.op.length d1)).far (c := w.heap.size) (by omega) 2 (.slice p2 S.sh.length d2)).far (c := w.heap.size) (by omega) 3 (.slice (some ⟨g3, 1, none⟩) (S.si.length - 1) (d3 - 1)))
    have MF : Mut b w ((((w9.setCell ⟨w.heap.size, 0, none⟩ (.int .i64 S.at_)).setCell ⟨w.heap.size, 1, none⟩ (.slice p1 S.op.length d1)).setCell ⟨w.heap.size, 2, none⟩ (.slice p2 S.sh.length d2)).setCell ⟨w.heap.size, 3, none⟩ (.slice (some ⟨g3, 1, none⟩) (S.si.length - 1) (d3 - 1))) := (mut_above (mut_above (mut_above (mut_above M6 (k := w.heap.size) (Nat.le_refl _) 0 (.int .i64 S.at_)) (k := w.heap.size) (Nat.le_refl _) 1 (.slice p1 S.op.length d1)) (k := w.heap.size) (Nat.le_refl _) 2 (.slice p2 S.sh.length d2)) (k := w.heap.size) (Nat.le_refl _) 3 (.slice (some ⟨g3, 1, none⟩) (S.si.length - 1) (d3 - 1)))
    have QF := ((((Q6.far (c := w.heap.size) (by omega) 0 (.int .i64 S.at_)).far (c := w.heap.size) (by omega) 1 (.slice p1 S.op.length d1)).far (c := w.heap.size) (by omega) 2 (.slice p2 S.sh.length d2)).far (c := w.heap.size) (by omega) 3 (.slice (some ⟨g3, 1, none⟩) (S.si.length - 1) (d3 - 1)))
    have SF := so6.below4 (b := w.heap.size) (by omega) (.int .i64 S.at_) (.slice p1 S.op.length d1) (.slice p2 S.sh.length d2) (.slice (some ⟨g3, 1, none⟩) (S.si.length - 1) (d3 - 1))
    (refine wpAnyH_ready (rs := [5]) (by kernel_rfl) (by simp) ?_; refine AllReadyH.cons rfl (fun K hK => ?_) AllReadyH.nil; (try simp only [List.getElem_toArray, List.getElem_cons_zero, List.getElem_cons_succ]))
    go_simp
    clear z0 z1 z2 z3 f0 f1 f2 f3
    clear Q6
    have Q6 := QF
    generalize (((w9.setCell ⟨w.heap.size, 0, none⟩ (.int .i64 S.at_)).setCell ⟨w.heap.size, 1, none⟩ (.slice p1 S.op.length d1)).setCell ⟨w.heap.size, 2, none⟩ (.slice p2 S.sh.length d2)).setCell ⟨w.heap.size, 3, none⟩ (.slice (some ⟨g3, 1, none⟩) (S.si.length - 1) (d3 - 1)) = WF at *
    (try dsimp only)
    refine hK.out _ _ (by exact ⟨Q6.2.1 0 _ rfl, Q6.2.1 1 _ rfl, Q6.2.1 2 _ rfl, Q6.2.1 3 _ rfl⟩) (fun hHeld => ?_)
    clear hK K
    refine wpAnyH_done (by kernel_rfl) ?_ _
    have k0 := RF.2.1 0 _ rfl
    have k1 := RF.2.1 1 _ rfl
    have k2 := RF.2.1 2 _ rfl
    have k3 := RF.2.1 3 _ rfl
    have hd1 : ¬ d3 = 1 := by omega
    go_wp2
    refine bodyPost_ret (v := .tuple #[.string root, .string text, .agg #[.int .i64 S.at_, .slice p1 S.op.length d1, .slice p2 S.sh.length d2, .slice (some ⟨g3, 1, none⟩) (S.si.length - 1) (d3 - 1)]]) (by simp [results, Tryd.results114, go_sem, k0, k1, k2, k3]) rfl ?_
    exact ⟨root, text, { S with si := S.si.drop 1 }, p1, p2, some ⟨g3, 1, none⟩, d1, d2, d3 - 1, by rw [List.length_drop], hr, (by omega), ⟨(sig_fit HW.out).1, (sig_fit HW.out).2.1, fun z hz => (sig_fit HW.out).2.2 z (List.mem_of_mem_drop hz)⟩, ⟨⟨SF.1.strs, (over_own SF.1).mono (by omega)⟩, ⟨SF.2.1.strs, (over_own SF.2.1).mono (by omega)⟩, strs_tail SF.2.2.1.strs (by have := N3.out; omega), over_at (by have := (own_lt SF.2.2.1 g3 rfl).1; omega)⟩, CF, MF⟩
  by_cases h1 : k = 1
  · subst h1
    have hl8 : (S.op.length : Int) = 8 := by rw [N1.out]; rfl
    obtain ⟨g1, cc1, he⟩ := own_form so6.1 (by rw [N1.out]; decide)
    injection he with he1 he2 he3
    subst he1 he3
    clear he2
    obtain ⟨j, hj, hj8⟩ : ∃ j : Nat, x % 8 = j ∧ j < 8 := ⟨(x % 8).toNat, by omega, by omega⟩
    have hj0 : (0 : Int) ≤ j := by omega
    have hji : (j : Int) < 8 := by omega
    have q1 := Q6.2.1 1 _ rfl
    have hce : w6.cell? ⟨g1, j, none⟩ = some (.string (S.op.getD j ⟨#[]⟩)) := by rw [so6.1.cellAt j (by rw [N1.out]; exact hj8), List.getElem?_map, List.getD_eq_getElem?_getD, List.getElem?_eq_getElem (by rw [N1.out]; exact hj8)]; rfl
    have hfe := so6.1.frozenAt j
    have ST := so6.1.stored j (.string ⟨#[48, 49, 50, 51, 52, 53, 54, 55, 56, 57, 97, 98, 99, 100, 101, 102]⟩)
    obtain ⟨o1, gw⟩ := ST
    have hbl := own_lt so6.1 g1 rfl
    have hbl1 := hbl.1
    have Q7 := Q6.grew gw (fun e => by injection e with e; omega)
    have R7 := R6.grew gw (fun e => by injection e with e; omega)
    have C7 := C6.grown gw (fun k hk => by injection hk with hk; omega)
    have M7 := M6.grown gw (fun k hk => by injection hk with hk; omega)
    have o2 := own_grown2 so6.2.1 gw (fun k hk e => by injection hk with hk; subst hk; exact so6.2.2.2.1 _ rfl e)
    have o3 := own_grown2 so6.2.2.1 gw (fun k hk e => by injection hk with hk; subst hk; exact so6.2.2.2.2.1 _ rfl e)
    have hof := so6.2.2.2
    have hln : (S.op.set j ⟨#[48, 49, 50, 51, 52, 53, 54, 55, 56, 57, 97, 98, 99, 100, 101, 102]⟩).length = S.op.length := List.length_set
    have so7 : SigOwn (w6.setCell ⟨g1, j, none⟩ (.string ⟨#[48, 49, 50, 51, 52, 53, 54, 55, 56, 57, 97, 98, 99, 100, 101, 102]⟩)) w4.heap.size (.slice (some ⟨g1, 0, none⟩) S.op.length d1) (.slice p2 S.sh.length d2) (.slice p3 S.si.length d3) { S with op := S.op.set j ⟨#[48, 49, 50, 51, 52, 53, 54, 55, 56, 57, 97, 98, 99, 100, 101, 102]⟩ } := ⟨by unfold OwnStrs; rw [hln, List.map_set]; exact o1, o2, o3, hof⟩
    go_upto_region 20 with (fail)
    clear q1 hce hfe o1 o2 o3 gw Q6 R6 C6 M6 so6
    have Q6 := Q7
    have R6 := R7
    have C6 := C7
    have M6 := M7
    have so6 := so7
    clear Q7 R7 C7 M7 so7
    generalize w6.setCell ⟨g1, j, none⟩ (.string ⟨#[48, 49, 50, 51, 52, 53, 54, 55, 56, 57, 97, 98, 99, 100, 101, 102]⟩) = w7 at *
    refine wp_region_held_drew (S := (fun W => W.cell? ⟨w3.heap.size, 0, none⟩ = some (.int .i64 S.at_) ∧ W.cell? ⟨w3.heap.size, 1, none⟩ = some (.slice (some ⟨g1, 0, none⟩) S.op.length d1) ∧ W.cell? ⟨w3.heap.size, 2, none⟩ = some (.slice p2 S.sh.length d2) ∧ W.cell? ⟨w3.heap.size, 3, none⟩ = some (.slice p3 S.si.length d3))) (by kernel_rfl) (by exact ⟨Q6.2.1 0 _ rfl, Q6.2.1 1 _ rfl, Q6.2.1 2 _ rfl, Q6.2.1 3 _ rfl⟩) (fun hHeld => ?_)
    have xd : Ext w7 w7.drew := (Ext.refl w7).drew
    replace Q6 := Q6.ext xd
    replace R6 := R6.ext xd
    replace so6 := so6.ext xd
    replace C6 := C6.ext xd
    replace M6 := M6.trans (Mut.of_ext xd)
    generalize w7.drew = w9 at *
    have q0 := Q6.2.1 0 _ rfl
    have q1 := Q6.2.1 1 _ rfl
    have q2 := Q6.2.1 2 _ rfl
    have q3 := Q6.2.1 3 _ rfl
    (refine wpAnyH_take (i := 0) (v := ?_) rfl (by kernel_rfl) (by kernel_rfl) (by kernel_rfl) (fun _ _ _ h => h) (Or.inl ⟨by rfl, ?_⟩) (by assumption) ?_; rotate_left; focus (intro w hSw; (try dsimp only at hSw); (try simp only [List.getElem_toArray, List.getElem_cons_zero]); go_simp; try with_reducible rfl)); (try simp only [List.getElem_toArray, List.getElem_cons_zero]); (try simp only [Act.put, List.setIfInBounds_toArray, List.set_cons_zero, List.set_cons_succ])
    (refine wpAnyH_take (i := 1) (v := ?_) rfl (by kernel_rfl) (by kernel_rfl) (by kernel_rfl) (fun _ _ _ h => h) (Or.inl ⟨by rfl, ?_⟩) (by assumption) ?_; rotate_left; focus (intro w hSw; (try dsimp only at hSw); (try simp only [List.getElem_toArray, List.getElem_cons_zero, List.getElem_cons_succ]); go_simp; try with_reducible rfl)); (try simp only [List.getElem_toArray, List.getElem_cons_zero, List.getElem_cons_succ]); (try simp only [Act.put, List.setIfInBounds_toArray, List.set_cons_zero, List.set_cons_succ])
    (refine wpAnyH_take (i := 2) (v := ?_) rfl (by kernel_rfl) (by kernel_rfl) (by kernel_rfl) (fun _ _ _ h => h) (Or.inl ⟨by rfl, ?_⟩) (by assumption) ?_; rotate_left; focus (intro w hSw; (try dsimp only at hSw); (try simp only [List.getElem_toArray, List.getElem_cons_zero, List.getElem_cons_succ]); go_simp; try with_reducible rfl)); (try simp only [List.getElem_toArray, List.getElem_cons_zero, List.getElem_cons_succ]); (try simp only [Act.put, List.setIfInBounds_toArray, List.set_cons_zero, List.set_cons_succ])
    (refine wpAnyH_take (i := 3) (v := ?_) rfl (by kernel_rfl) (by kernel_rfl) (by kernel_rfl) (fun _ _ _ h => h) (Or.inl ⟨by rfl, ?_⟩) (by assumption) ?_; rotate_left; focus (intro w hSw; (try dsimp only at hSw); (try simp only [List.getElem_toArray, List.getElem_cons_zero, List.getElem_cons_succ]); go_simp; try with_reducible rfl)); (try simp only [List.getElem_toArray, List.getElem_cons_zero, List.getElem_cons_succ]); (try simp only [Act.put, List.setIfInBounds_toArray, List.set_cons_zero, List.set_cons_succ])
    (refine wpAnyH_take (i := 4) (v := ?_) rfl (by kernel_rfl) (by kernel_rfl) (by kernel_rfl) (fun _ _ _ h => h) (Or.inl ⟨by rfl, ?_⟩) (by assumption) ?_; rotate_left; focus (intro w hSw; (try dsimp only at hSw); (try simp only [List.getElem_toArray, List.getElem_cons_zero, List.getElem_cons_succ]); go_simp; try with_reducible rfl)); (try simp only [List.getElem_toArray, List.getElem_cons_zero, List.getElem_cons_succ]); (try simp only [Act.put, List.setIfInBounds_toArray, List.set_cons_zero, List.set_cons_succ])
    clear q0 q1 q2 q3
    have z0 := R6.2.1 0 _ rfl
    have z1 := R6.2.1 1 _ rfl
    have z2 := R6.2.1 2 _ rfl
    have z3 := R6.2.1 3 _ rfl
    have f0 := R6.2.2 0
    have f1 := R6.2.2 1
    have f2 := R6.2.2 2
    have f3 := R6.2.2 3
    have RF := ((((R6.set 0 (.int .i64 S.at_) (by simp)).set 1 (.slice (some ⟨g1, 0, none⟩) S.op.length d1) (by simp)).set 2 (.slice p2 S.sh.length d2) (by simp)).set 3 (.slice p3 S.si.length d3) (by simp))
    have CF := ((((C6.far (c := w.heap.size) (by omega) 0 (.int .i64 S.at_)).far (c := w.heap.size) (by omega) 1 (.slice (some ⟨g1, 0, none⟩) S.op.length d1)).far (c := w.heap.size) (by omega) 2 (.slice p2 S.sh.length d2)).far (c := w.heap.size) (by omega) 3 (.slice p3 S.si.length d3))
    have MF : Mut b w ((((w9.setCell ⟨w.heap.size, 0, none⟩ (.int .i64 S.at_)).setCell ⟨w.heap.size, 1, none⟩ (.slice (some ⟨g1, 0, none⟩) S.op.length d1)).setCell ⟨w.heap.size, 2, none⟩ (.slice p2 S.sh.length d2)).setCell ⟨w.heap.size, 3, none⟩ (.slice p3 S.si.length d3)) := (mut_above (mut_above (mut_above (mut_above M6 (k := w.heap.size) (Nat.le_refl _) 0 (.int .i64 S.at_)) (k := w.heap.size) (Nat.le_refl _) 1 (.slice (some ⟨g1, 0, none⟩) S.op.length d1)) (k := w.heap.size) (Nat.le_refl _) 2 (.slice p2 S.sh.length d2)) (k := w.heap.size) (Nat.le_refl _) 3 (.slice p3 S.si.length d3))
    have QF := ((((Q6.far (c := w.heap.size) (by omega) 0 (.int .i64 S.at_)).far (c := w.heap.size) (by omega) 1 (.slice (some ⟨g1, 0, none⟩) S.op.length d1)).far (c := w.heap.size) (by omega) 2 (.slice p2 S.sh.length d2)).far (c := w.heap.size) (by omega) 3 (.slice p3 S.si.length d3))
    have SF := so6.below4 (b := w.heap.size) (by omega) (.int .i64 S.at_) (.slice (some ⟨g1, 0, none⟩) S.op.length d1) (.slice p2 S.sh.length d2) (.slice p3 S.si.length d3)
    (refine wpAnyH_ready (rs := [5]) (by kernel_rfl) (by simp) ?_; refine AllReadyH.cons rfl (fun K hK => ?_) AllReadyH.nil; (try simp only [List.getElem_toArray, List.getElem_cons_zero, List.getElem_cons_succ]))
    go_simp
    clear z0 z1 z2 z3 f0 f1 f2 f3
    clear Q6
    have Q6 := QF
    generalize (((w9.setCell ⟨w.heap.size, 0, none⟩ (.int .i64 S.at_)).setCell ⟨w.heap.size, 1, none⟩ (.slice (some ⟨g1, 0, none⟩) S.op.length d1)).setCell ⟨w.heap.size, 2, none⟩ (.slice p2 S.sh.length d2)).setCell ⟨w.heap.size, 3, none⟩ (.slice p3 S.si.length d3) = WF at *
    (try dsimp only)
    refine hK.out _ _ (by exact ⟨Q6.2.1 0 _ rfl, Q6.2.1 1 _ rfl, Q6.2.1 2 _ rfl, Q6.2.1 3 _ rfl⟩) (fun hHeld => ?_)
    clear hK K
    refine wpAnyH_done (by kernel_rfl) ?_ _
    have k0 := RF.2.1 0 _ rfl
    have k1 := RF.2.1 1 _ rfl
    have k2 := RF.2.1 2 _ rfl
    have k3 := RF.2.1 3 _ rfl
    go_wp2
    refine bodyPost_ret (v := .tuple #[.string root, .string text, .agg #[.int .i64 S.at_, .slice (some ⟨g1, 0, none⟩) S.op.length d1, .slice p2 S.sh.length d2, .slice p3 S.si.length d3]]) (by simp [results, Tryd.results114, go_sem, k0, k1, k2, k3]) rfl ?_
    exact ⟨root, text, { S with op := S.op.set j ⟨#[48, 49, 50, 51, 52, 53, 54, 55, 56, 57, 97, 98, 99, 100, 101, 102]⟩ }, some ⟨g1, 0, none⟩, p2, p3, d1, d2, d3, by rw [hln], hr, (by omega), ⟨fun z hz => by rcases List.mem_or_eq_of_mem_set hz with h | rfl; exact (sig_fit HW.out).1 z h; unfold maxLen; decide, (sig_fit HW.out).2⟩, by rw [hln]; exact (sigRd_of SF).mono (by omega), CF, MF⟩
  · obtain rfl : k = 3 := by omega
    have hl8 : (S.sh.length : Int) = 8 := by rw [N2.out]; rfl
    obtain ⟨g2, cc2, he⟩ := own_form so6.2.1 (by rw [N2.out]; decide)
    injection he with he1 he2 he3
    subst he1 he3
    clear he2
    obtain ⟨j, hj, hj8⟩ : ∃ j : Nat, x % 8 = j ∧ j < 8 := ⟨(x % 8).toNat, by omega, by omega⟩
    have htm : x.tmod 8 = (j : Int) := by rw [Int.tmod_eq_emod_of_nonneg hx.1]; exact hj
    have hj0 : (0 : Int) ≤ j := by omega
    have hji : (j : Int) < 8 := by omega
    have h16 : (S.sh.getD j ⟨#[]⟩).size = 16 := sh_16 HW.out hj8
    obtain ⟨z, hz⟩ : ∃ z, S.sh.getD j ⟨#[]⟩ = z := ⟨_, rfl⟩
    rw [hz] at h16
    have HZ := Lib.hid hz
    clear hz
    have h16i : (z.size : Int) = 16 := by omega
    have hjl : (j : Int) < S.sh.length := by omega
    have hz1 : (1 : Int) ≤ z.size := by omega
    have hbl := own_lt so6.2.1 g2 rfl
    have hbl2 := hbl.2
    go_upto_region 13 with (fail)
    refine wp_region_held_drew (S := (fun W => W.cell? ⟨w3.heap.size, 0, none⟩ = some (.int .i64 S.at_) ∧ W.cell? ⟨w3.heap.size, 2, none⟩ = some (.slice (some ⟨g2, 0, none⟩) S.sh.length d2))) (by kernel_rfl) (by exact ⟨Q6.2.1 0 _ rfl, Q6.2.1 2 _ rfl⟩) (fun hHeld => ?_)
    have xd : Ext w6 w6.drew := (Ext.refl w6).drew
    replace Q6 := Q6.ext xd
    replace R6 := R6.ext xd
    replace so6 := so6.ext xd
    replace C6 := C6.ext xd
    replace M6 := M6.trans (Mut.of_ext xd)
    generalize w6.drew = w8 at *
    (refine wpAnyH_take (i := 0) (v := ?_) rfl (by kernel_rfl) (by kernel_rfl) (by kernel_rfl) (fun _ _ _ h => h) (Or.inl ⟨by rfl, ?_⟩) (by assumption) ?_; rotate_left; focus (intro w hSw; (try dsimp only at hSw); (try simp only [List.getElem_toArray, List.getElem_cons_zero]); go_simp; try with_reducible rfl)); (try simp only [List.getElem_toArray, List.getElem_cons_zero]); (try simp only [Act.put, List.setIfInBounds_toArray, List.set_cons_zero, List.set_cons_succ])
    (refine wpAnyH_take (i := 1) (v := ?_) rfl (by kernel_rfl) (by kernel_rfl) (by kernel_rfl) (fun _ _ _ h => h) (Or.inl ⟨by rfl, ?_⟩) (by assumption) ?_; rotate_left; focus (intro w hSw; (try dsimp only at hSw); (try simp only [List.getElem_toArray, List.getElem_cons_zero, List.getElem_cons_succ]); go_simp; try with_reducible rfl)); (try simp only [List.getElem_toArray, List.getElem_cons_zero, List.getElem_cons_succ]); (try simp only [Act.put, List.setIfInBounds_toArray, List.set_cons_zero, List.set_cons_succ])
    (refine wpAnyH_take (i := 2) (v := ?_) rfl (by kernel_rfl) (by kernel_rfl) (by kernel_rfl) (fun _ _ _ h => h) (Or.inl ⟨by rfl, ?_⟩) (by assumption) ?_; rotate_left; focus (intro w hSw; (try dsimp only at hSw); (try simp only [List.getElem_toArray, List.getElem_cons_zero, List.getElem_cons_succ]); go_simp; try with_reducible rfl)); (try simp only [List.getElem_toArray, List.getElem_cons_zero, List.getElem_cons_succ]); (try simp only [Act.put, List.setIfInBounds_toArray, List.set_cons_zero, List.set_cons_succ])
    (refine wpAnyH_take (i := 3) (v := .int .i64 j) rfl (by kernel_rfl) (by kernel_rfl) (by kernel_rfl) (fun _ _ _ h => h) (Or.inl ⟨by rfl, ?_⟩) (by assumption) ?_; focus (intro w hSw; (try dsimp only at hSw); (try simp only [List.getElem_toArray, List.getElem_cons_zero, List.getElem_cons_succ]); go_simp; (try simp))); (try simp only [List.getElem_toArray, List.getElem_cons_zero, List.getElem_cons_succ]); (try simp only [Act.put, List.setIfInBounds_toArray, List.set_cons_zero, List.set_cons_succ])
    (refine wpAnyH_take (i := 4) (v := ?_) rfl (by kernel_rfl) (by kernel_rfl) (by kernel_rfl) (fun _ _ _ h => h) (Or.inl ⟨by rfl, ?_⟩) (by assumption) ?_; rotate_left; focus (intro w hSw; (try dsimp only at hSw); (try simp only [List.getElem_toArray, List.getElem_cons_zero, List.getElem_cons_succ]); go_simp; try with_reducible rfl)); (try simp only [List.getElem_toArray, List.getElem_cons_zero, List.getElem_cons_succ]); (try simp only [Act.put, List.setIfInBounds_toArray, List.set_cons_zero, List.set_cons_succ])
    (refine wpAnyH_take (i := 5) (v := ?_) rfl (by kernel_rfl) (by kernel_rfl) (by kernel_rfl) (fun _ _ _ h => h) (Or.inl ⟨by rfl, ?_⟩) (by assumption) ?_; rotate_left; focus (intro w hSw; (try dsimp only at hSw); (try simp only [List.getElem_toArray, List.getElem_cons_zero, List.getElem_cons_succ]); go_simp; try with_reducible rfl)); (try simp only [List.getElem_toArray, List.getElem_cons_zero, List.getElem_cons_succ]); (try simp only [Act.put, List.setIfInBounds_toArray, List.set_cons_zero, List.set_cons_succ])
    (refine wpAnyH_take (i := 6) (v := ?_) rfl (by kernel_rfl) (by kernel_rfl) (by kernel_rfl) (fun _ _ _ h => h) (Or.inl ⟨by rfl, ?_⟩) (by assumption) ?_; rotate_left; focus (intro w hSw; (try dsimp only at hSw); (try simp only [List.getElem_toArray, List.getElem_cons_zero, List.getElem_cons_succ]); go_simp; try with_reducible rfl)); (try simp only [List.getElem_toArray, List.getElem_cons_zero, List.getElem_cons_succ]); (try simp only [Act.put, List.setIfInBounds_toArray, List.set_cons_zero, List.set_cons_succ])
    (refine wpAnyH_take (i := 7) (v := .int .i64 j) rfl (by kernel_rfl) (by kernel_rfl) (by kernel_rfl) (fun _ _ _ h => h) (Or.inl ⟨by rfl, ?_⟩) (by assumption) ?_; focus (intro w hSw; (try dsimp only at hSw); (try simp only [List.getElem_toArray, List.getElem_cons_zero, List.getElem_cons_succ]); go_simp; (try simp))); (try simp only [List.getElem_toArray, List.getElem_cons_zero, List.getElem_cons_succ]); (try simp only [Act.put, List.setIfInBounds_toArray, List.set_cons_zero, List.set_cons_succ])
    (refine wpAnyH_take (i := 8) (v := .pointer (some ⟨g2, j, none⟩)) rfl (by kernel_rfl) (by kernel_rfl) (by kernel_rfl) (fun _ _ _ h => h) (Or.inl ⟨by rfl, ?_⟩) (by assumption) ?_; focus (intro w hSw; (try dsimp only at hSw); (try simp only [List.getElem_toArray, List.getElem_cons_zero, List.getElem_cons_succ]); go_simp; (try simp))); (try simp only [List.getElem_toArray, List.getElem_cons_zero, List.getElem_cons_succ]); (try simp only [Act.put, List.setIfInBounds_toArray, List.set_cons_zero, List.set_cons_succ])
    have hce : w8.cell? ⟨g2, j, none⟩ = some (.string z) := by rw [so6.2.1.cellAt j (by rw [N2.out]; exact hj8), List.getElem?_map, List.getElem?_eq_getElem (by rw [N2.out]; exact hj8), ← HZ.out, List.getD_eq_getElem?_getD, List.getElem?_eq_getElem (by rw [N2.out]; exact hj8)]; rfl
    have hfe := so6.2.1.frozenAt j
    (refine wpAnyH_ready (rs := [9]) (by kernel_rfl) (by simp) ?_; refine AllReadyH.cons rfl (fun K hK => ?_) AllReadyH.nil; (try simp only [List.getElem_toArray, List.getElem_cons_zero, List.getElem_cons_succ]))
    go_simp
    (try dsimp only)
    refine hK.out _ _ (by exact ⟨Q6.2.1 0 _ rfl, Q6.2.1 2 _ rfl⟩) (fun hHeld => ?_)
    clear hK K
    (refine wpAnyH_take (i := 10) (v := .string (z.extract 1 16)) rfl (by kernel_rfl) (by kernel_rfl) (by kernel_rfl) (fun _ _ _ h => h) (Or.inl ⟨by rfl, ?_⟩) (by assumption) ?_; focus (intro w hSw; (try dsimp only at hSw); (try simp only [List.getElem_toArray, List.getElem_cons_zero, List.getElem_cons_succ]); go_simp; (try simp))); (try simp only [List.getElem_toArray, List.getElem_cons_zero, List.getElem_cons_succ]); (try simp only [Act.put, List.setIfInBounds_toArray, List.set_cons_zero, List.set_cons_succ])
    (refine wpAnyH_take (i := 11) (v := .pointer (some ⟨g2, j, none⟩)) rfl (by kernel_rfl) (by kernel_rfl) (by kernel_rfl) (fun _ _ _ h => h) (Or.inl ⟨by rfl, ?_⟩) (by assumption) ?_; focus (intro w hSw; (try dsimp only at hSw); (try simp only [List.getElem_toArray, List.getElem_cons_zero, List.getElem_cons_succ]); go_simp; (try simp))); (try simp only [List.getElem_toArray, List.getElem_cons_zero, List.getElem_cons_succ]); (try simp only [Act.put, List.setIfInBounds_toArray, List.set_cons_zero, List.set_cons_succ])
    have ST := so6.2.1.stored j (.string (z.extract 1 16))
    obtain ⟨o1, gw⟩ := ST
    have hblb := own_lt so6.2.1 g2 rfl
    have hblc := hblb.1
    have Q7 := Q6.grew gw (fun e => by injection e with e; omega)
    have R7 := R6.grew gw (fun e => by injection e with e; omega)
    have C7 := C6.grown gw (fun k hk => by injection hk with hk; omega)
    have M7 := M6.grown gw (fun k hk => by injection hk with hk; omega)
    have hof := so6.2.2.2
    have o2 := own_grown2 so6.1 gw (fun k hk e => by injection hk with hk; subst hk; exact so6.2.2.2.1.symm _ rfl e)
    have o3 := own_grown2 so6.2.2.1 gw (fun k hk e => by injection hk with hk; subst hk; exact so6.2.2.2.2.2 _ rfl e)
    have hln : (S.sh.set j (z.extract 1 16)).length = S.sh.length := List.length_set
    have so7 : SigOwn (w8.setCell ⟨g2, j, none⟩ (.string (z.extract 1 16))) w4.heap.size (.slice p1 S.op.length d1) (.slice (some ⟨g2, 0, none⟩) S.sh.length d2) (.slice p3 S.si.length d3) { S with sh := S.sh.set j (z.extract 1 16) } := ⟨o2, by unfold OwnStrs; rw [hln, List.map_set]; exact o1, o3, hof⟩
    (refine wpAnyH_ready (rs := [12]) (by kernel_rfl) (by simp) ?_; refine AllReadyH.cons rfl (fun K hK => ?_) AllReadyH.nil; (try simp only [List.getElem_toArray, List.getElem_cons_zero, List.getElem_cons_succ]))
    go_simp
    clear hce hfe o1 o2 o3 gw Q6 R6 C6 M6 so6
    have Q6 := Q7
    have R6 := R7
    have C6 := C7
    have M6 := M7
    have so6 := so7
    clear Q7 R7 C7 M7 so7
    generalize w8.setCell ⟨g2, j, none⟩ (.string (z.extract 1 16)) = w7 at *
    (try dsimp only)
    refine hK.out _ _ (by exact ⟨Q6.2.1 0 _ rfl, Q6.2.1 2 _ rfl⟩) (fun hHeld => ?_)
    clear hK K
    refine wpAnyH_done (by kernel_rfl) ?_ _
    go_upto_region 20 with (fail)
    refine wp_region_held_drew (S := (fun W => W.cell? ⟨w3.heap.size, 0, none⟩ = some (.int .i64 S.at_) ∧ W.cell? ⟨w3.heap.size, 1, none⟩ = some (.slice p1 S.op.length d1) ∧ W.cell? ⟨w3.heap.size, 2, none⟩ = some (.slice (some ⟨g2, 0, none⟩) S.sh.length d2) ∧ W.cell? ⟨w3.heap.size, 3, none⟩ = some (.slice p3 S.si.length d3))) (by kernel_rfl) (by exact ⟨Q6.2.1 0 _ rfl, Q6.2.1 1 _ rfl, Q6.2.1 2 _ rfl, Q6.2.1 3 _ rfl⟩) (fun hHeld => ?_)
    have xd : Ext w7 w7.drew := (Ext.refl w7).drew
    replace Q6 := Q6.ext xd
    replace R6 := R6.ext xd
    replace so6 := so6.ext xd
    replace C6 := C6.ext xd
    replace M6 := M6.trans (Mut.of_ext xd)
    generalize w7.drew = w9 at *
    have q0 := Q6.2.1 0 _ rfl
    have q1 := Q6.2.1 1 _ rfl
    have q2 := Q6.2.1 2 _ rfl
    have q3 := Q6.2.1 3 _ rfl
    (refine wpAnyH_take (i := 0) (v := ?_) rfl (by kernel_rfl) (by kernel_rfl) (by kernel_rfl) (fun _ _ _ h => h) (Or.inl ⟨by rfl, ?_⟩) (by assumption) ?_; rotate_left; focus (intro w hSw; (try dsimp only at hSw); (try simp only [List.getElem_toArray, List.getElem_cons_zero]); go_simp; try with_reducible rfl)); (try simp only [List.getElem_toArray, List.getElem_cons_zero]); (try simp only [Act.put, List.setIfInBounds_toArray, List.set_cons_zero, List.set_cons_succ])
    (refine wpAnyH_take (i := 1) (v := ?_) rfl (by kernel_rfl) (by kernel_rfl) (by kernel_rfl) (fun _ _ _ h => h) (Or.inl ⟨by rfl, ?_⟩) (by assumption) ?_; rotate_left; focus (intro w hSw; (try dsimp only at hSw); (try simp only [List.getElem_toArray, List.getElem_cons_zero, List.getElem_cons_succ]); go_simp; try with_reducible rfl)); (try simp only [List.getElem_toArray, List.getElem_cons_zero, List.getElem_cons_succ]); (try simp only [Act.put, List.setIfInBounds_toArray, List.set_cons_zero, List.set_cons_succ])
    (refine wpAnyH_take (i := 2) (v := ?_) rfl (by kernel_rfl) (by kernel_rfl) (by kernel_rfl) (fun _ _ _ h => h) (Or.inl ⟨by rfl, ?_⟩) (by assumption) ?_; rotate_left; focus (intro w hSw; (try dsimp only at hSw); (try simp only [List.getElem_toArray, List.getElem_cons_zero, List.getElem_cons_succ]); go_simp; try with_reducible rfl)); (try simp only [List.getElem_toArray, List.getElem_cons_zero, List.getElem_cons_succ]); (try simp only [Act.put, List.setIfInBounds_toArray, List.set_cons_zero, List.set_cons_succ])
    (refine wpAnyH_take (i := 3) (v := ?_) rfl (by kernel_rfl) (by kernel_rfl) (by kernel_rfl) (fun _ _ _ h => h) (Or.inl ⟨by rfl, ?_⟩) (by assumption) ?_; rotate_left; focus (intro w hSw; (try dsimp only at hSw); (try simp only [List.getElem_toArray, List.getElem_cons_zero, List.getElem_cons_succ]); go_simp; try with_reducible rfl)); (try simp only [List.getElem_toArray, List.getElem_cons_zero, List.getElem_cons_succ]); (try simp only [Act.put, List.setIfInBounds_toArray, List.set_cons_zero, List.set_cons_succ])
    (refine wpAnyH_take (i := 4) (v := ?_) rfl (by kernel_rfl) (by kernel_rfl) (by kernel_rfl) (fun _ _ _ h => h) (Or.inl ⟨by rfl, ?_⟩) (by assumption) ?_; rotate_left; focus (intro w hSw; (try dsimp only at hSw); (try simp only [List.getElem_toArray, List.getElem_cons_zero, List.getElem_cons_succ]); go_simp; try with_reducible rfl)); (try simp only [List.getElem_toArray, List.getElem_cons_zero, List.getElem_cons_succ]); (try simp only [Act.put, List.setIfInBounds_toArray, List.set_cons_zero, List.set_cons_succ])
    clear q0 q1 q2 q3
    have z0 := R6.2.1 0 _ rfl
    have z1 := R6.2.1 1 _ rfl
    have z2 := R6.2.1 2 _ rfl
    have z3 := R6.2.1 3 _ rfl
    have f0 := R6.2.2 0
    have f1 := R6.2.2 1
    have f2 := R6.2.2 2
    have f3 := R6.2.2 3
    have RF := ((((R6.set 0 (.int .i64 S.at_) (by simp)).set 1 (.slice p1 S.op.length d1) (by simp)).set 2 (.slice (some ⟨g2, 0, none⟩) S.sh.length d2) (by simp)).set 3 (.slice p3 S.si.length d3) (by simp))
    have CF := ((((C6.far (c := w.heap.size) (by omega) 0 (.int .i64 S.at_)).far (c := w.heap.size) (by omega) 1 (.slice p1 S.op.length d1)).far (c := w.heap.size) (by omega) 2 (.slice (some ⟨g2, 0, none⟩) S.sh.length d2)).far (c := w.heap.size) (by omega) 3 (.slice p3 S.si.length d3))
    have MF : Mut b w ((((w9.setCell ⟨w.heap.size, 0, none⟩ (.int .i64 S.at_)).setCell ⟨w.heap.size, 1, none⟩ (.slice p1 S.op.length d1)).setCell ⟨w.heap.size, 2, none⟩ (.slice (some ⟨g2, 0, none⟩) S.sh.length d2)).setCell ⟨w.heap.size, 3, none⟩ (.slice p3 S.si.length d3)) := (mut_above (mut_above (mut_above (mut_above M6 (k := w.heap.size) (Nat.le_refl _) 0 (.int .i64 S.at_)) (k := w.heap.size) (Nat.le_refl _) 1 (.slice p1 S.op.length d1)) (k := w.heap.size) (Nat.le_refl _) 2 (.slice (some ⟨g2, 0, none⟩) S.sh.length d2)) (k := w.heap.size) (Nat.le_refl _) 3 (.slice p3 S.si.length d3))
    have QF := ((((Q6.far (c := w.heap.size) (by omega) 0 (.int .i64 S.at_)).far (c := w.heap.size) (by omega) 1 (.slice p1 S.op.length d1)).far (c := w.heap.size) (by omega) 2 (.slice (some ⟨g2, 0, none⟩) S.sh.length d2)).far (c := w.heap.size) (by omega) 3 (.slice p3 S.si.length d3))
    have SF := so6.below4 (b := w.heap.size) (by omega) (.int .i64 S.at_) (.slice p1 S.op.length d1) (.slice (some ⟨g2, 0, none⟩) S.sh.length d2) (.slice p3 S.si.length d3)
    (refine wpAnyH_ready (rs := [5]) (by kernel_rfl) (by simp) ?_; refine AllReadyH.cons rfl (fun K hK => ?_) AllReadyH.nil; (try simp only [List.getElem_toArray, List.getElem_cons_zero, List.getElem_cons_succ]))
    go_simp
    clear z0 z1 z2 z3 f0 f1 f2 f3
    clear Q6
    have Q6 := QF
    generalize (((w9.setCell ⟨w.heap.size, 0, none⟩ (.int .i64 S.at_)).setCell ⟨w.heap.size, 1, none⟩ (.slice p1 S.op.length d1)).setCell ⟨w.heap.size, 2, none⟩ (.slice (some ⟨g2, 0, none⟩) S.sh.length d2)).setCell ⟨w.heap.size, 3, none⟩ (.slice p3 S.si.length d3) = WF at *
    (try dsimp only)
    refine hK.out _ _ (by exact ⟨Q6.2.1 0 _ rfl, Q6.2.1 1 _ rfl, Q6.2.1 2 _ rfl, Q6.2.1 3 _ rfl⟩) (fun hHeld => ?_)
    clear hK K
    refine wpAnyH_done (by kernel_rfl) ?_ _
    have k0 := RF.2.1 0 _ rfl
    have k1 := RF.2.1 1 _ rfl
    have k2 := RF.2.1 2 _ rfl
    have k3 := RF.2.1 3 _ rfl
    go_wp2
    refine bodyPost_ret (v := .tuple #[.string root, .string text, .agg #[.int .i64 S.at_, .slice p1 S.op.length d1, .slice (some ⟨g2, 0, none⟩) S.sh.length d2, .slice p3 S.si.length d3]]) (by simp [results, Tryd.results114, go_sem, k0, k1, k2, k3]) rfl ?_
    exact ⟨root, text, { S with sh := S.sh.set j (z.extract 1 16) }, p1, some ⟨g2, 0, none⟩, p3, d1, d2, d3, by rw [hln], hr, (by omega), ⟨(sig_fit HW.out).1, fun y hy => by rcases List.mem_or_eq_of_mem_set hy with h | rfl; exact (sig_fit HW.out).2.1 y h; (rw [ByteArray.size_extract]; unfold maxLen; omega), (sig_fit HW.out).2.2⟩, by rw [hln]; exact (sigRd_of SF).mono (by omega), CF, MF⟩
end Go.Proofs.YtliebkhfddmhjaaDoor
