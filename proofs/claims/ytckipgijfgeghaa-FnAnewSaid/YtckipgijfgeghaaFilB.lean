/- Files of a disk: places and validity, the reference. -/
import Derived.Test.YtckipgijfgeghaaFil
import Derived.Test.YtckipgijfgeghaaApp
namespace Go.Proofs.Ytckipgijfgeghaa
open Go.RowKit

theorem spec_l06Name (s : ByteArray) (w : World) :
    Calls Try.prog 81 #[.string s] w fun e w' => e = .returned (.bool (inB s.size 1 8)) ∧ w = w' := by
  go_enter Try.func81, Try.ntmps81
  go_wp2_with (go_at_call 82; refine (spec_l01In _ _ _ _).mono ?_; rintro e w' ⟨rfl, rfl⟩)
  go_ret
  exact ⟨rfl, rfl⟩

set_option maxHeartbeats 800000 in
theorem spec_l06At (v : Value) (xs : List Fil) (n : ByteArray) (w : World) (h : Fls w v xs) :
    Calls Try.prog 83 #[.agg #[v], .string n] w fun e w' => e = .returned (.int .i64 (fAt xs n)) ∧ Ext w w' := by
  obtain ⟨-, a1, c1, rfl, hc1, hm1, g1⟩ := h
  unfold maxLen at hm1
  go_enter Try.func83, Try.ntmps83
  go_wp2
  have x0 : Ext w (w.alloc (Obj.cells #[.slice a1 xs.length c1] 38)) := (Ext.refl w).alloc _
  have z0 : (w.alloc (Obj.cells #[.slice a1 xs.length c1] 38)).cell? ⟨w.heap.size, 0, none⟩ = some (.slice a1 xs.length c1) := by simp
  have y0 : w.heap.size < (w.alloc (Obj.cells #[.slice a1 xs.length c1] 38)).heap.size := by rw [World.size_alloc]; omega
  generalize w.alloc (Obj.cells #[.slice a1 xs.length c1] 38) = w0 at *
  go_loopw [5] (fun i wr => ∃ k : Nat, k ≤ xs.length ∧ i = .int .i64 k ∧ (∀ f ∈ xs.take k, f.name ≠ n) ∧ Ext w0 wr) (fun i _ => xs.length - (intOf i).toNat)
  case atStart => exact ⟨0, Nat.zero_le _, rfl, by simp, Ext.refl _⟩
  case round =>
    obtain ⟨k, hk, rfl, hall, hy⟩ := hrel
    have z1 : wr.cell? ⟨w.heap.size, 0, none⟩ = some (.slice a1 xs.length c1) := (hy.cell _ 0 y0).trans z0
    have hx := x0.trans hy
    clear z0
    have HA := Lib.hid hall
    clear hall
    by_cases hlt : k < xs.length
    · rcases g1 with g1 | ⟨b1, o1, rfl, hb1, g1⟩
      · omega
      have e1 : wr.cell? ⟨b1, o1 + k * 3, none⟩ = some (.string xs[k].name) := (hx.cell b1 _ hb1).trans (g1 _ _ (fil_c0 xs k hlt))
      clear g1
      by_cases hq : xs[k].name = n
      · have hqb : (xs[k].name.toList == n.toList) = true := by rw [toList_beq]; simp [hq]
        have HR := Lib.hid (fAt_some hlt HA.out hq)
        clear hq
        go_wp2
        go_ret
        exact ⟨ret_int HR.out.symm, (by repeat (first | (with_reducible first | exact Ext.refl _ | assumption | apply Ext.alloc | apply Ext.drew | apply Ext.drewN | refine Ext.setCell ?_ ?_ _ | refine Ext.trans ?_ (by assumption)) | (show _ ≤ _; first | omega | (dsimp only; omega) | (simp; done) | (simp; omega))))⟩
      · have hqb : (xs[k].name.toList == n.toList) = false := by rw [toList_beq]; simp [hq]
        have HT := Lib.hid (take_ne hlt HA.out hq)
        clear hq
        go_wp2
        go_roundw
        case rel => exact ⟨k + 1, by omega, by go_num, HT.out, (by repeat (first | (with_reducible first | exact Ext.refl _ | assumption | apply Ext.alloc | apply Ext.drew | apply Ext.drewN | refine Ext.setCell ?_ ?_ _ | refine Ext.trans ?_ (by assumption)) | (show _ ≤ _; first | omega | (dsimp only; omega) | (simp; done) | (simp; omega))))⟩
        case measure => simp [intOf]; omega
    · have HR := Lib.hid (fAt_none (xs := xs) (n := n) (by have h1 := HA.out; rw [List.take_of_length_le (by omega)] at h1; exact h1))
      go_wp2
      go_ret
      exact ⟨ret_int HR.out.symm, hx⟩

set_option maxHeartbeats 1600000 in
theorem spec_DiskOk (v : Value) (xs : List Fil) (w : World) (h : Fls w v xs) (hs : FilFit xs) :
    Calls Try.prog 50 #[.agg #[v]] w fun e w' => e = .returned (.bool (diskOk xs)) ∧ Ext w w' := by
  obtain ⟨-, a1, c1, rfl, hc1, hm1, g1⟩ := h
  unfold maxLen at hm1
  by_cases hlen : xs.length ≤ 30
  · have d9 : decide ((30 : Int) < xs.length) = false := by simp; omega
    go_enter Try.func50, Try.ntmps50
    go_wp2
    have x0 : Ext w (w.alloc (Obj.cells #[.slice a1 xs.length c1] 38)) := (Ext.refl w).alloc _
    have z0 : (w.alloc (Obj.cells #[.slice a1 xs.length c1] 38)).cell? ⟨w.heap.size, 0, none⟩ = some (.slice a1 xs.length c1) := by simp
    have y0 : w.heap.size < (w.alloc (Obj.cells #[.slice a1 xs.length c1] 38)).heap.size := by rw [World.size_alloc]; omega
    generalize w.alloc (Obj.cells #[.slice a1 xs.length c1] 38) = w0 at *
    go_loopw [3, 4] (fun i _ wr => ∃ k : Nat, k ≤ xs.length ∧ i = .int .i64 k ∧ (∀ i, i < k → filAt xs i = true) ∧ Ext w0 wr) (fun i _ _ => xs.length - (intOf i).toNat)
    case atStart => exact ⟨0, Nat.zero_le _, rfl, by omega, Ext.refl _⟩
    case round =>
      obtain ⟨k, hk, rfl, hall, hx⟩ := hrel
      have HA := Lib.hid hall
      have z1 : wr.cell? ⟨w.heap.size, 0, none⟩ = some (.slice a1 xs.length c1) := (hx.cell _ 0 y0).trans z0
      have y1 : w.heap.size < wr.heap.size := Nat.lt_of_lt_of_le y0 hx.size
      have hy := x0.trans hx
      clear hall z0
      by_cases hlt : k < xs.length
      · rcases g1 with g1 | ⟨b1, o1, rfl, hb1, g1⟩
        · omega
        have e1 : wr.cell? ⟨b1, o1 + k * 3, none⟩ = some (.string xs[k].name) := (hy.cell b1 _ hb1).trans (g1 _ _ (fil_c0 xs k hlt))
        have e2 : wr.cell? ⟨b1, o1 + k * 3 + 1, none⟩ = some (.string xs[k].text) := (hy.cell b1 _ hb1).trans (g1 _ _ (fil_c1 xs k hlt))
        have e3 : wr.cell? ⟨b1, o1 + k * 3 + 2, none⟩ = some (.int .i64 xs[k].kept) := (hy.cell b1 _ hb1).trans (g1 _ _ (fil_c2 xs k hlt))
        have s2 := (hs xs[k] (List.getElem_mem hlt)).2
        have l1 : b1 < wr.heap.size := Nat.lt_of_lt_of_le hb1 hy.size
        have hgd : xs.getD k noFil = xs[k] := by simp [hlt]
        unfold maxLen at s2
        cases hn : fnOk xs[k]
        · have hr : diskOk xs = false := diskOk_bad hlt (by cases k <;> simp only [filAt, filOk, hgd, hn, Bool.false_and])
          have HR := Lib.hid hr
          have HN : ∀ W, Calls Try.prog 81 #[.string xs[k].name] W fun e w' => e = .returned (.bool false) ∧ W = w' := fun W => by rw [← hn]; exact spec_l06Name _ W
          have HC := Lib.hid HN
          clear hr g1 hs hgd hn HN
          go_wp2
          go_quiet ((go_at_call 81; exact quiet_left (HC.out _)))
          go_wp2
          go_ret
          exact ⟨ret_bool HR.out.symm, (by repeat (first | (with_reducible first | exact Ext.refl _ | assumption | apply Ext.alloc | apply Ext.drew | apply Ext.drewN | refine Ext.setCell ?_ ?_ _ | refine Ext.trans ?_ (by assumption)) | (show _ ≤ _; first | omega | (dsimp only; omega) | (simp; done) | (simp; omega))))⟩
        have HN : ∀ W, Calls Try.prog 81 #[.string xs[k].name] W fun e w' => e = .returned (.bool true) ∧ W = w' := fun W => by rw [← hn]; exact spec_l06Name _ W
        have HC := Lib.hid HN
        have HNn := Lib.hid hn
        clear hn HN
        by_cases h20 : 20000 < xs[k].text.size
        · have d3 : decide (xs[k].text.size ≤ 20000) = false := decide_eq_false (by omega)
          have hr : diskOk xs = false := diskOk_bad hlt (by cases k <;> simp only [filAt, filOk, hgd, d3, Bool.false_and, Bool.and_false])
          clear d3
          have HR := Lib.hid hr
          have d0 : decide ((20000 : Int) < xs[k].text.size) = true := by simp; omega
          clear hr g1 hs hgd
          go_wp2
          go_quiet ((go_at_call 81; exact quiet_left (HC.out _)))
          go_wp2
          go_ret
          exact ⟨ret_bool HR.out.symm, (by repeat (first | (with_reducible first | exact Ext.refl _ | assumption | apply Ext.alloc | apply Ext.drew | apply Ext.drewN | refine Ext.setCell ?_ ?_ _ | refine Ext.trans ?_ (by assumption)) | (show _ ≤ _; first | omega | (dsimp only; omega) | (simp; done) | (simp; omega))))⟩
        have d0 : decide ((20000 : Int) < xs[k].text.size) = false := by simp; omega
        have HD2 := Lib.hid (show decide (xs[k].text.size ≤ 20000) = true from decide_eq_true (by omega))
        cases hv : fkOk xs[k]
        · have hr : diskOk xs = false := diskOk_bad hlt (by cases k <;> simp only [filAt, filOk, hgd, hv, Bool.false_and, Bool.and_false])
          have HR := Lib.hid hr
          have HV : ∀ W, Calls Try.prog 82 #[.int .i64 xs[k].kept, .int .i64 0, .int .i64 xs[k].text.size] W fun e w' => e = .returned (.bool false) ∧ W = w' := fun W => by rw [← hv]; exact spec_l01In _ _ _ W
          have HD := Lib.hid HV
          clear hr g1 hs hgd hv HV
          go_wp2
          go_quiet ((first | (go_at_call 81; exact quiet_left (HC.out _)) | (go_at_call 82; exact quiet_left (HD.out _))))
          go_wp2
          go_ret
          exact ⟨ret_bool HR.out.symm, (by repeat (first | (with_reducible first | exact Ext.refl _ | assumption | apply Ext.alloc | apply Ext.drew | apply Ext.drewN | refine Ext.setCell ?_ ?_ _ | refine Ext.trans ?_ (by assumption)) | (show _ ≤ _; first | omega | (dsimp only; omega) | (simp; done) | (simp; omega))))⟩
        have HV : ∀ W, Calls Try.prog 82 #[.int .i64 xs[k].kept, .int .i64 0, .int .i64 xs[k].text.size] W fun e w' => e = .returned (.bool true) ∧ W = w' := fun W => by rw [← hv]; exact spec_l01In _ _ _ W
        have HD := Lib.hid HV
        have HVv := Lib.hid hv
        clear hv HV
        by_cases hk0 : k = 0
        · subst hk0
          have hgood : filAt xs 0 = true := by simp only [filAt, filOk, hgd, HNn.out, HVv.out, HD2.out, Bool.and_self]
          have HG := Lib.hid hgood
          rw [Nat.zero_mul, Nat.add_zero] at e1 e2 e3
          clear g1 hs hgd hgood
          go_wp2
          go_quiet ((first | (go_at_call 81; exact quiet_left (HC.out _)) | (go_at_call 82; exact quiet_left (HD.out _))))
          go_wp2
          go_roundw
          case rel => exact ⟨0 + 1, by omega, by go_num, fgood_succ HA.out HG.out, (by repeat (first | (with_reducible first | exact Ext.refl _ | assumption | apply Ext.alloc | apply Ext.drew | apply Ext.drewN | refine Ext.setCell ?_ ?_ _ | refine Ext.trans ?_ (by assumption)) | (show _ ≤ _; first | omega | (dsimp only; omega) | (simp; done) | (simp; omega))))⟩
          case measure => simp [intOf]; omega
        obtain ⟨j, hj⟩ : ∃ j, k = j + 1 := ⟨k - 1, by omega⟩
        have hlj : j < xs.length := by omega
        have e4 : wr.cell? ⟨b1, o1 + j * 3, none⟩ = some (.string xs[j].name) := (hy.cell b1 _ hb1).trans (g1 _ _ (fil_c0 xs j hlj))
        have hgj : xs.getD j noFil = xs[j] := by simp [hlj]
        have d2 : decide (0 < k) = true := by simp; omega
        have w1 : IntKind.i64.wrap ((k : Int) - 1) = (j : Int) := by rw [IntKind.wrap_i64]; omega
        have hgood : filAt xs k = Op.bytesLess xs[j].name.toList xs[k].name.toList := by
          subst hj
          simp only [filAt, filOk, hgd, hgj, HNn.out, HVv.out, HD2.out, Bool.true_and]
        clear g1 hs hj
        cases hls : Op.bytesLess xs[j].name.toList xs[k].name.toList
        · rw [hls] at hgood
          have hr : diskOk xs = false := diskOk_bad hlt hgood
          have HR := Lib.hid hr
          clear hr hgood hgd hgj
          go_wp2
          go_quiet ((first | (go_at_call 81; exact quiet_left (HC.out _)) | (go_at_call 82; exact quiet_left (HD.out _))))
          go_wp2
          go_ret
          exact ⟨ret_bool HR.out.symm, (by repeat (first | (with_reducible first | exact Ext.refl _ | assumption | apply Ext.alloc | apply Ext.drew | apply Ext.drewN | refine Ext.setCell ?_ ?_ _ | refine Ext.trans ?_ (by assumption)) | (show _ ≤ _; first | omega | (dsimp only; omega) | (simp; done) | (simp; omega))))⟩
        · rw [hls] at hgood
          have HG := Lib.hid hgood
          clear hgood hgd hgj
          go_wp2
          go_quiet ((first | (go_at_call 81; exact quiet_left (HC.out _)) | (go_at_call 82; exact quiet_left (HD.out _))))
          go_wp2
          go_roundw
          case rel => exact ⟨k + 1, by omega, by go_num, fgood_succ HA.out HG.out, (by repeat (first | (with_reducible first | exact Ext.refl _ | assumption | apply Ext.alloc | apply Ext.drew | apply Ext.drewN | refine Ext.setCell ?_ ?_ _ | refine Ext.trans ?_ (by assumption)) | (show _ ≤ _; first | omega | (dsimp only; omega) | (simp; done) | (simp; omega))))⟩
          case measure => simp [intOf]; omega
      · have HE := Lib.hid (diskOk_true (fun i hi => HA.out i (by omega)) hlen)
        go_wp2
        go_ret
        exact ⟨ret_bool HE.out.symm, (by repeat (first | (with_reducible first | exact Ext.refl _ | assumption | apply Ext.alloc | apply Ext.drew | apply Ext.drewN | refine Ext.setCell ?_ ?_ _ | refine Ext.trans ?_ (by assumption)) | (show _ ≤ _; first | omega | (dsimp only; omega) | (simp; done) | (simp; omega))))⟩
  · have HE := Lib.hid (diskOk_long (xs := xs) (by omega))
    have d9 : decide ((30 : Int) < xs.length) = true := by simp; omega
    go_enter Try.func50, Try.ntmps50
    go_wp2
    go_ret
    exact ⟨ret_bool HE.out.symm, (by repeat (first | (with_reducible first | exact Ext.refl _ | assumption | apply Ext.alloc | apply Ext.drew | apply Ext.drewN | refine Ext.setCell ?_ ?_ _ | refine Ext.trans ?_ (by assumption)) | (show _ ≤ _; first | omega | (dsimp only; omega) | (simp; done) | (simp; omega))))⟩
end Go.Proofs.Ytckipgijfgeghaa
