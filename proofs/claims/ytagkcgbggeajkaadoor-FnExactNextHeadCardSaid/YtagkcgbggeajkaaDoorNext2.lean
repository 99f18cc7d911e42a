/- The head behind a chain: the reference; the law on NextHead. -/
import Derived.Test.YtagkcgbggeajkaaDoorNext
namespace Go.Proofs.YtagkcgbggeajkaaDoor
open Go.RowKit

set_option maxRecDepth 100000 in
set_option maxHeartbeats 3200000 in
theorem spec_NextHead (v : Value) (xs : List Hd) (house : Int) (root : ByteArray) (w : World) (h : Hds w v xs) (hb : xs.length ≤ 1099511627776) :
    Calls Tryd.prog 18 #[v, .int .i64 house, .string root] w fun e w' => e = .returned (nxV xs house root) ∧ Ext w w' := by
  obtain ⟨a, c, rfl⟩ := h.form
  have hw1 : IntKind.i64.wrap ((xs.length : Int) + 1) = (xs.length : Int) + 1 := IntWalk.i64_in _ (by omega)
  by_cases hn : xs.length = 0
  · cases hc : chainOk xs house
    · have R := Lib.hid (nx_no (xs := xs) (house := house) (root := root) (by rw [nxOk, hc]; rfl))
      have HC := Lib.hid hc
      clear hc
      have LL := Lib.hid (show lastH xs = ⟨#[]⟩ by rw [lastH, if_pos hn])
      have hgt : ¬ ((0 : Int) < xs.length) := by omega
      have hgn : ¬ (0 < xs.length) := by omega
      clear hn
      go_enter Tryd.func18, Tryd.ntmps18
      go_wp2_with fail
      have p0 : ((w.alloc (Obj.cells #[.int .i64 0, .int .i64 0, .string ⟨#[]⟩, .string ⟨#[]⟩] 30)).alloc (Obj.cells #[.int .i64 house, .int .i64 ((xs.length : Int) + 1), .string root, .string ⟨#[]⟩] 30)).cell? ⟨w.heap.size + 1, 0, none⟩ = some (.int .i64 house) := by simp [go_sem]
      have p1 : ((w.alloc (Obj.cells #[.int .i64 0, .int .i64 0, .string ⟨#[]⟩, .string ⟨#[]⟩] 30)).alloc (Obj.cells #[.int .i64 house, .int .i64 ((xs.length : Int) + 1), .string root, .string ⟨#[]⟩] 30)).cell? ⟨w.heap.size + 1, 1, none⟩ = some (.int .i64 ((xs.length : Int) + 1)) := by simp [go_sem]
      have p2 : ((w.alloc (Obj.cells #[.int .i64 0, .int .i64 0, .string ⟨#[]⟩, .string ⟨#[]⟩] 30)).alloc (Obj.cells #[.int .i64 house, .int .i64 ((xs.length : Int) + 1), .string root, .string ⟨#[]⟩] 30)).cell? ⟨w.heap.size + 1, 2, none⟩ = some (.string root) := by simp [go_sem]
      have p3 : ((w.alloc (Obj.cells #[.int .i64 0, .int .i64 0, .string ⟨#[]⟩, .string ⟨#[]⟩] 30)).alloc (Obj.cells #[.int .i64 house, .int .i64 ((xs.length : Int) + 1), .string root, .string ⟨#[]⟩] 30)).cell? ⟨w.heap.size + 1, 3, none⟩ = some (.string ⟨#[]⟩) := by simp [go_sem]
      have r0 : ((w.alloc (Obj.cells #[.int .i64 0, .int .i64 0, .string ⟨#[]⟩, .string ⟨#[]⟩] 30)).alloc (Obj.cells #[.int .i64 house, .int .i64 ((xs.length : Int) + 1), .string root, .string ⟨#[]⟩] 30)).cell? ⟨w.heap.size, 0, none⟩ = some (.int .i64 0) := by simp [go_sem]
      have r1 : ((w.alloc (Obj.cells #[.int .i64 0, .int .i64 0, .string ⟨#[]⟩, .string ⟨#[]⟩] 30)).alloc (Obj.cells #[.int .i64 house, .int .i64 ((xs.length : Int) + 1), .string root, .string ⟨#[]⟩] 30)).cell? ⟨w.heap.size, 1, none⟩ = some (.int .i64 0) := by simp [go_sem]
      have r2 : ((w.alloc (Obj.cells #[.int .i64 0, .int .i64 0, .string ⟨#[]⟩, .string ⟨#[]⟩] 30)).alloc (Obj.cells #[.int .i64 house, .int .i64 ((xs.length : Int) + 1), .string root, .string ⟨#[]⟩] 30)).cell? ⟨w.heap.size, 2, none⟩ = some (.string ⟨#[]⟩) := by simp [go_sem]
      have r3 : ((w.alloc (Obj.cells #[.int .i64 0, .int .i64 0, .string ⟨#[]⟩, .string ⟨#[]⟩] 30)).alloc (Obj.cells #[.int .i64 house, .int .i64 ((xs.length : Int) + 1), .string root, .string ⟨#[]⟩] 30)).cell? ⟨w.heap.size, 3, none⟩ = some (.string ⟨#[]⟩) := by simp [go_sem]
      have fr : ∀ j, ((w.alloc (Obj.cells #[.int .i64 0, .int .i64 0, .string ⟨#[]⟩, .string ⟨#[]⟩] 30)).alloc (Obj.cells #[.int .i64 house, .int .i64 ((xs.length : Int) + 1), .string root, .string ⟨#[]⟩] 30)).frozen? ⟨w.heap.size, j, none⟩ = false := fun j => by simp [go_sem]
      have x0 : Ext w ((w.alloc (Obj.cells #[.int .i64 0, .int .i64 0, .string ⟨#[]⟩, .string ⟨#[]⟩] 30)).alloc (Obj.cells #[.int .i64 house, .int .i64 ((xs.length : Int) + 1), .string root, .string ⟨#[]⟩] 30)) := ((Ext.refl w).alloc _).alloc _
      have l0 : w.heap.size < ((w.alloc (Obj.cells #[.int .i64 0, .int .i64 0, .string ⟨#[]⟩, .string ⟨#[]⟩] 30)).alloc (Obj.cells #[.int .i64 house, .int .i64 ((xs.length : Int) + 1), .string root, .string ⟨#[]⟩] 30)).heap.size := by rw [World.size_alloc, World.size_alloc]; omega
      have l1 : w.heap.size + 1 < ((w.alloc (Obj.cells #[.int .i64 0, .int .i64 0, .string ⟨#[]⟩, .string ⟨#[]⟩] 30)).alloc (Obj.cells #[.int .i64 house, .int .i64 ((xs.length : Int) + 1), .string root, .string ⟨#[]⟩] 30)).heap.size := by rw [World.size_alloc, World.size_alloc]; omega
      generalize ((w.alloc (Obj.cells #[.int .i64 0, .int .i64 0, .string ⟨#[]⟩, .string ⟨#[]⟩] 30)).alloc (Obj.cells #[.int .i64 house, .int .i64 ((xs.length : Int) + 1), .string root, .string ⟨#[]⟩] 30)) = W at *
      rw [← LL.out] at p3
      refine (spec_ChainOk _ xs house _ (h.ext (by repeat (first | (with_reducible first | exact Ext.refl _ | assumption | apply Ext.alloc | apply Ext.drew | apply Ext.drewN | refine Ext.setCell ?_ ?_ _ | refine Ext.trans ?_ (by assumption)) | (show _ ≤ _; first | omega | (dsimp only; omega) | (simp; done) | (simp; omega))))) hb).mono ?_
      rw [HC.out]
      rintro e w2 ⟨rfl, x2⟩
      have y2 : Ext W w2 := (by repeat (first | (with_reducible first | exact Ext.refl _ | assumption | apply Ext.alloc | apply Ext.drew | apply Ext.drewN | refine Ext.setCell ?_ ?_ _ | refine Ext.trans ?_ (by assumption)) | (show _ ≤ _; first | omega | (dsimp only; omega) | (simp; done) | (simp; omega))))
      replace p0 := (y2.cell _ _ l1).trans p0
      replace p1 := (y2.cell _ _ l1).trans p1
      replace p2 := (y2.cell _ _ l1).trans p2
      replace p3 := (y2.cell _ _ l1).trans p3
      replace r0 := (y2.cell _ _ l0).trans r0
      replace r1 := (y2.cell _ _ l0).trans r1
      replace r2 := (y2.cell _ _ l0).trans r2
      replace r3 := (y2.cell _ _ l0).trans r3
      replace fr := fun j => (y2.frozen _ j l0).trans (fr j)
      replace l1 := Nat.lt_of_lt_of_le l1 y2.size
      replace l0 := Nat.lt_of_lt_of_le l0 y2.size
      go_wp2
      refine bodyPost_ret (v := .tuple #[.agg #[.int .i64 0, .int .i64 0, .string ⟨#[]⟩, .string ⟨#[]⟩], .bool false]) (by simp [results, Tryd.results18, go_sem, r0, r1, r2, r3]) rfl ⟨by rw [R.out], (by repeat (first | (with_reducible first | exact Ext.refl _ | assumption | apply Ext.alloc | apply Ext.drew | apply Ext.drewN | refine Ext.setCell ?_ ?_ _ | refine Ext.trans ?_ (by assumption)) | (show _ ≤ _; first | omega | (dsimp only; omega) | (simp; done) | (simp; omega))))⟩
    · cases hh : headOk house ((xs.length : Int) + 1) root (lastH xs)
      · have R := Lib.hid (nx_no (xs := xs) (house := house) (root := root) (by rw [nxOk, hc, hh]; rfl))
        have HC := Lib.hid hc
        have HH := Lib.hid hh
        clear hc hh
        have LL := Lib.hid (show lastH xs = ⟨#[]⟩ by rw [lastH, if_pos hn])
        have hgt : ¬ ((0 : Int) < xs.length) := by omega
        have hgn : ¬ (0 < xs.length) := by omega
        clear hn
        go_enter Tryd.func18, Tryd.ntmps18
        go_wp2_with fail
        have p0 : ((w.alloc (Obj.cells #[.int .i64 0, .int .i64 0, .string ⟨#[]⟩, .string ⟨#[]⟩] 30)).alloc (Obj.cells #[.int .i64 house, .int .i64 ((xs.length : Int) + 1), .string root, .string ⟨#[]⟩] 30)).cell? ⟨w.heap.size + 1, 0, none⟩ = some (.int .i64 house) := by simp [go_sem]
        have p1 : ((w.alloc (Obj.cells #[.int .i64 0, .int .i64 0, .string ⟨#[]⟩, .string ⟨#[]⟩] 30)).alloc (Obj.cells #[.int .i64 house, .int .i64 ((xs.length : Int) + 1), .string root, .string ⟨#[]⟩] 30)).cell? ⟨w.heap.size + 1, 1, none⟩ = some (.int .i64 ((xs.length : Int) + 1)) := by simp [go_sem]
        have p2 : ((w.alloc (Obj.cells #[.int .i64 0, .int .i64 0, .string ⟨#[]⟩, .string ⟨#[]⟩] 30)).alloc (Obj.cells #[.int .i64 house, .int .i64 ((xs.length : Int) + 1), .string root, .string ⟨#[]⟩] 30)).cell? ⟨w.heap.size + 1, 2, none⟩ = some (.string root) := by simp [go_sem]
        have p3 : ((w.alloc (Obj.cells #[.int .i64 0, .int .i64 0, .string ⟨#[]⟩, .string ⟨#[]⟩] 30)).alloc (Obj.cells #[.int .i64 house, .int .i64 ((xs.length : Int) + 1), .string root, .string ⟨#[]⟩] 30)).cell? ⟨w.heap.size + 1, 3, none⟩ = some (.string ⟨#[]⟩) := by simp [go_sem]
        have r0 : ((w.alloc (Obj.cells #[.int .i64 0, .int .i64 0, .string ⟨#[]⟩, .string ⟨#[]⟩] 30)).alloc (Obj.cells #[.int .i64 house, .int .i64 ((xs.length : Int) + 1), .string root, .string ⟨#[]⟩] 30)).cell? ⟨w.heap.size, 0, none⟩ = some (.int .i64 0) := by simp [go_sem]
        have r1 : ((w.alloc (Obj.cells #[.int .i64 0, .int .i64 0, .string ⟨#[]⟩, .string ⟨#[]⟩] 30)).alloc (Obj.cells #[.int .i64 house, .int .i64 ((xs.length : Int) + 1), .string root, .string ⟨#[]⟩] 30)).cell? ⟨w.heap.size, 1, none⟩ = some (.int .i64 0) := by simp [go_sem]
        have r2 : ((w.alloc (Obj.cells #[.int .i64 0, .int .i64 0, .string ⟨#[]⟩, .string ⟨#[]⟩] 30)).alloc (Obj.cells #[.int .i64 house, .int .i64 ((xs.length : Int) + 1), .string root, .string ⟨#[]⟩] 30)).cell? ⟨w.heap.size, 2, none⟩ = some (.string ⟨#[]⟩) := by simp [go_sem]
        have r3 : ((w.alloc (Obj.cells #[.int .i64 0, .int .i64 0, .string ⟨#[]⟩, .string ⟨#[]⟩] 30)).alloc (Obj.cells #[.int .i64 house, .int .i64 ((xs.length : Int) + 1), .string root, .string ⟨#[]⟩] 30)).cell? ⟨w.heap.size, 3, none⟩ = some (.string ⟨#[]⟩) := by simp [go_sem]
        have fr : ∀ j, ((w.alloc (Obj.cells #[.int .i64 0, .int .i64 0, .string ⟨#[]⟩, .string ⟨#[]⟩] 30)).alloc (Obj.cells #[.int .i64 house, .int .i64 ((xs.length : Int) + 1), .string root, .string ⟨#[]⟩] 30)).frozen? ⟨w.heap.size, j, none⟩ = false := fun j => by simp [go_sem]
        have x0 : Ext w ((w.alloc (Obj.cells #[.int .i64 0, .int .i64 0, .string ⟨#[]⟩, .string ⟨#[]⟩] 30)).alloc (Obj.cells #[.int .i64 house, .int .i64 ((xs.length : Int) + 1), .string root, .string ⟨#[]⟩] 30)) := ((Ext.refl w).alloc _).alloc _
        have l0 : w.heap.size < ((w.alloc (Obj.cells #[.int .i64 0, .int .i64 0, .string ⟨#[]⟩, .string ⟨#[]⟩] 30)).alloc (Obj.cells #[.int .i64 house, .int .i64 ((xs.length : Int) + 1), .string root, .string ⟨#[]⟩] 30)).heap.size := by rw [World.size_alloc, World.size_alloc]; omega
        have l1 : w.heap.size + 1 < ((w.alloc (Obj.cells #[.int .i64 0, .int .i64 0, .string ⟨#[]⟩, .string ⟨#[]⟩] 30)).alloc (Obj.cells #[.int .i64 house, .int .i64 ((xs.length : Int) + 1), .string root, .string ⟨#[]⟩] 30)).heap.size := by rw [World.size_alloc, World.size_alloc]; omega
        generalize ((w.alloc (Obj.cells #[.int .i64 0, .int .i64 0, .string ⟨#[]⟩, .string ⟨#[]⟩] 30)).alloc (Obj.cells #[.int .i64 house, .int .i64 ((xs.length : Int) + 1), .string root, .string ⟨#[]⟩] 30)) = W at *
        rw [← LL.out] at p3
        refine (spec_ChainOk _ xs house _ (h.ext (by repeat (first | (with_reducible first | exact Ext.refl _ | assumption | apply Ext.alloc | apply Ext.drew | apply Ext.drewN | refine Ext.setCell ?_ ?_ _ | refine Ext.trans ?_ (by assumption)) | (show _ ≤ _; first | omega | (dsimp only; omega) | (simp; done) | (simp; omega))))) hb).mono ?_
        rw [HC.out]
        rintro e w2 ⟨rfl, x2⟩
        have y2 : Ext W w2 := (by repeat (first | (with_reducible first | exact Ext.refl _ | assumption | apply Ext.alloc | apply Ext.drew | apply Ext.drewN | refine Ext.setCell ?_ ?_ _ | refine Ext.trans ?_ (by assumption)) | (show _ ≤ _; first | omega | (dsimp only; omega) | (simp; done) | (simp; omega))))
        replace p0 := (y2.cell _ _ l1).trans p0
        replace p1 := (y2.cell _ _ l1).trans p1
        replace p2 := (y2.cell _ _ l1).trans p2
        replace p3 := (y2.cell _ _ l1).trans p3
        replace r0 := (y2.cell _ _ l0).trans r0
        replace r1 := (y2.cell _ _ l0).trans r1
        replace r2 := (y2.cell _ _ l0).trans r2
        replace r3 := (y2.cell _ _ l0).trans r3
        replace fr := fun j => (y2.frozen _ j l0).trans (fr j)
        replace l1 := Nat.lt_of_lt_of_le l1 y2.size
        replace l0 := Nat.lt_of_lt_of_le l0 y2.size
        go_wp2_with fail
        refine (spec_HeadOk _ _ _ _ _).mono ?_
        rw [HH.out]
        rintro e w3 ⟨rfl, x3⟩
        have y3 : Ext w2 w3 := (by repeat (first | (with_reducible first | exact Ext.refl _ | assumption | apply Ext.alloc | apply Ext.drew | apply Ext.drewN | refine Ext.setCell ?_ ?_ _ | refine Ext.trans ?_ (by assumption)) | (show _ ≤ _; first | omega | (dsimp only; omega) | (simp; done) | (simp; omega))))
        replace p0 := (y3.cell _ _ l1).trans p0
        replace p1 := (y3.cell _ _ l1).trans p1
        replace p2 := (y3.cell _ _ l1).trans p2
        replace p3 := (y3.cell _ _ l1).trans p3
        replace r0 := (y3.cell _ _ l0).trans r0
        replace r1 := (y3.cell _ _ l0).trans r1
        replace r2 := (y3.cell _ _ l0).trans r2
        replace r3 := (y3.cell _ _ l0).trans r3
        replace fr := fun j => (y3.frozen _ j l0).trans (fr j)
        replace l1 := Nat.lt_of_lt_of_le l1 y3.size
        replace l0 := Nat.lt_of_lt_of_le l0 y3.size
        go_wp2
        refine bodyPost_ret (v := .tuple #[.agg #[.int .i64 0, .int .i64 0, .string ⟨#[]⟩, .string ⟨#[]⟩], .bool false]) (by simp [results, Tryd.results18, go_sem, r0, r1, r2, r3]) rfl ⟨by rw [R.out], (by repeat (first | (with_reducible first | exact Ext.refl _ | assumption | apply Ext.alloc | apply Ext.drew | apply Ext.drewN | refine Ext.setCell ?_ ?_ _ | refine Ext.trans ?_ (by assumption)) | (show _ ≤ _; first | omega | (dsimp only; omega) | (simp; done) | (simp; omega))))⟩
      · have R := Lib.hid (nx_yes (xs := xs) (house := house) (root := root) (by rw [nxOk, hc, hh]; rfl))
        have HC := Lib.hid hc
        have HH := Lib.hid hh
        clear hc hh
        have LL := Lib.hid (show lastH xs = ⟨#[]⟩ by rw [lastH, if_pos hn])
        have hgt : ¬ ((0 : Int) < xs.length) := by omega
        have hgn : ¬ (0 < xs.length) := by omega
        clear hn
        go_enter Tryd.func18, Tryd.ntmps18
        go_wp2_with fail
        have p0 : ((w.alloc (Obj.cells #[.int .i64 0, .int .i64 0, .string ⟨#[]⟩, .string ⟨#[]⟩] 30)).alloc (Obj.cells #[.int .i64 house, .int .i64 ((xs.length : Int) + 1), .string root, .string ⟨#[]⟩] 30)).cell? ⟨w.heap.size + 1, 0, none⟩ = some (.int .i64 house) := by simp [go_sem]
        have p1 : ((w.alloc (Obj.cells #[.int .i64 0, .int .i64 0, .string ⟨#[]⟩, .string ⟨#[]⟩] 30)).alloc (Obj.cells #[.int .i64 house, .int .i64 ((xs.length : Int) + 1), .string root, .string ⟨#[]⟩] 30)).cell? ⟨w.heap.size + 1, 1, none⟩ = some (.int .i64 ((xs.length : Int) + 1)) := by simp [go_sem]
        have p2 : ((w.alloc (Obj.cells #[.int .i64 0, .int .i64 0, .string ⟨#[]⟩, .string ⟨#[]⟩] 30)).alloc (Obj.cells #[.int .i64 house, .int .i64 ((xs.length : Int) + 1), .string root, .string ⟨#[]⟩] 30)).cell? ⟨w.heap.size + 1, 2, none⟩ = some (.string root) := by simp [go_sem]
        have p3 : ((w.alloc (Obj.cells #[.int .i64 0, .int .i64 0, .string ⟨#[]⟩, .string ⟨#[]⟩] 30)).alloc (Obj.cells #[.int .i64 house, .int .i64 ((xs.length : Int) + 1), .string root, .string ⟨#[]⟩] 30)).cell? ⟨w.heap.size + 1, 3, none⟩ = some (.string ⟨#[]⟩) := by simp [go_sem]
        have r0 : ((w.alloc (Obj.cells #[.int .i64 0, .int .i64 0, .string ⟨#[]⟩, .string ⟨#[]⟩] 30)).alloc (Obj.cells #[.int .i64 house, .int .i64 ((xs.length : Int) + 1), .string root, .string ⟨#[]⟩] 30)).cell? ⟨w.heap.size, 0, none⟩ = some (.int .i64 0) := by simp [go_sem]
        have r1 : ((w.alloc (Obj.cells #[.int .i64 0, .int .i64 0, .string ⟨#[]⟩, .string ⟨#[]⟩] 30)).alloc (Obj.cells #[.int .i64 house, .int .i64 ((xs.length : Int) + 1), .string root, .string ⟨#[]⟩] 30)).cell? ⟨w.heap.size, 1, none⟩ = some (.int .i64 0) := by simp [go_sem]
        have r2 : ((w.alloc (Obj.cells #[.int .i64 0, .int .i64 0, .string ⟨#[]⟩, .string ⟨#[]⟩] 30)).alloc (Obj.cells #[.int .i64 house, .int .i64 ((xs.length : Int) + 1), .string root, .string ⟨#[]⟩] 30)).cell? ⟨w.heap.size, 2, none⟩ = some (.string ⟨#[]⟩) := by simp [go_sem]
        have r3 : ((w.alloc (Obj.cells #[.int .i64 0, .int .i64 0, .string ⟨#[]⟩, .string ⟨#[]⟩] 30)).alloc (Obj.cells #[.int .i64 house, .int .i64 ((xs.length : Int) + 1), .string root, .string ⟨#[]⟩] 30)).cell? ⟨w.heap.size, 3, none⟩ = some (.string ⟨#[]⟩) := by simp [go_sem]
        have fr : ∀ j, ((w.alloc (Obj.cells #[.int .i64 0, .int .i64 0, .string ⟨#[]⟩, .string ⟨#[]⟩] 30)).alloc (Obj.cells #[.int .i64 house, .int .i64 ((xs.length : Int) + 1), .string root, .string ⟨#[]⟩] 30)).frozen? ⟨w.heap.size, j, none⟩ = false := fun j => by simp [go_sem]
        have x0 : Ext w ((w.alloc (Obj.cells #[.int .i64 0, .int .i64 0, .string ⟨#[]⟩, .string ⟨#[]⟩] 30)).alloc (Obj.cells #[.int .i64 house, .int .i64 ((xs.length : Int) + 1), .string root, .string ⟨#[]⟩] 30)) := ((Ext.refl w).alloc _).alloc _
        have l0 : w.heap.size < ((w.alloc (Obj.cells #[.int .i64 0, .int .i64 0, .string ⟨#[]⟩, .string ⟨#[]⟩] 30)).alloc (Obj.cells #[.int .i64 house, .int .i64 ((xs.length : Int) + 1), .string root, .string ⟨#[]⟩] 30)).heap.size := by rw [World.size_alloc, World.size_alloc]; omega
        have l1 : w.heap.size + 1 < ((w.alloc (Obj.cells #[.int .i64 0, .int .i64 0, .string ⟨#[]⟩, .string ⟨#[]⟩] 30)).alloc (Obj.cells #[.int .i64 house, .int .i64 ((xs.length : Int) + 1), .string root, .string ⟨#[]⟩] 30)).heap.size := by rw [World.size_alloc, World.size_alloc]; omega
        generalize ((w.alloc (Obj.cells #[.int .i64 0, .int .i64 0, .string ⟨#[]⟩, .string ⟨#[]⟩] 30)).alloc (Obj.cells #[.int .i64 house, .int .i64 ((xs.length : Int) + 1), .string root, .string ⟨#[]⟩] 30)) = W at *
        rw [← LL.out] at p3
        refine (spec_ChainOk _ xs house _ (h.ext (by repeat (first | (with_reducible first | exact Ext.refl _ | assumption | apply Ext.alloc | apply Ext.drew | apply Ext.drewN | refine Ext.setCell ?_ ?_ _ | refine Ext.trans ?_ (by assumption)) | (show _ ≤ _; first | omega | (dsimp only; omega) | (simp; done) | (simp; omega))))) hb).mono ?_
        rw [HC.out]
        rintro e w2 ⟨rfl, x2⟩
        have y2 : Ext W w2 := (by repeat (first | (with_reducible first | exact Ext.refl _ | assumption | apply Ext.alloc | apply Ext.drew | apply Ext.drewN | refine Ext.setCell ?_ ?_ _ | refine Ext.trans ?_ (by assumption)) | (show _ ≤ _; first | omega | (dsimp only; omega) | (simp; done) | (simp; omega))))
        replace p0 := (y2.cell _ _ l1).trans p0
        replace p1 := (y2.cell _ _ l1).trans p1
        replace p2 := (y2.cell _ _ l1).trans p2
        replace p3 := (y2.cell _ _ l1).trans p3
        replace r0 := (y2.cell _ _ l0).trans r0
        replace r1 := (y2.cell _ _ l0).trans r1
        replace r2 := (y2.cell _ _ l0).trans r2
        replace r3 := (y2.cell _ _ l0).trans r3
        replace fr := fun j => (y2.frozen _ j l0).trans (fr j)
        replace l1 := Nat.lt_of_lt_of_le l1 y2.size
        replace l0 := Nat.lt_of_lt_of_le l0 y2.size
        go_wp2_with fail
        refine (spec_HeadOk _ _ _ _ _).mono ?_
        rw [HH.out]
        rintro e w3 ⟨rfl, x3⟩
        have y3 : Ext w2 w3 := (by repeat (first | (with_reducible first | exact Ext.refl _ | assumption | apply Ext.alloc | apply Ext.drew | apply Ext.drewN | refine Ext.setCell ?_ ?_ _ | refine Ext.trans ?_ (by assumption)) | (show _ ≤ _; first | omega | (dsimp only; omega) | (simp; done) | (simp; omega))))
        replace p0 := (y3.cell _ _ l1).trans p0
        replace p1 := (y3.cell _ _ l1).trans p1
        replace p2 := (y3.cell _ _ l1).trans p2
        replace p3 := (y3.cell _ _ l1).trans p3
        replace r0 := (y3.cell _ _ l0).trans r0
        replace r1 := (y3.cell _ _ l0).trans r1
        replace r2 := (y3.cell _ _ l0).trans r2
        replace r3 := (y3.cell _ _ l0).trans r3
        replace fr := fun j => (y3.frozen _ j l0).trans (fr j)
        replace l1 := Nat.lt_of_lt_of_le l1 y3.size
        replace l0 := Nat.lt_of_lt_of_le l0 y3.size
        go_wp2
        refine bodyPost_ret (v := .tuple #[.agg #[.int .i64 house, .int .i64 ((xs.length : Int) + 1), .string root, .string (lastH xs)], .bool true]) (by simp [results, Tryd.results18, go_sem, r0, r1, r2, r3]) rfl ⟨by rw [R.out], (by repeat (first | (with_reducible first | exact Ext.refl _ | assumption | apply Ext.alloc | apply Ext.drew | apply Ext.drewN | refine Ext.setCell ?_ ?_ _ | refine Ext.trans ?_ (by assumption)) | (show _ ≤ _; first | omega | (dsimp only; omega) | (simp; done) | (simp; omega))))⟩
  · cases hc : chainOk xs house
    · have R := Lib.hid (nx_no (xs := xs) (house := house) (root := root) (by rw [nxOk, hc]; rfl))
      have HC := Lib.hid hc
      clear hc
      obtain ⟨j, hj⟩ : ∃ j, xs.length = j + 1 := ⟨xs.length - 1, by omega⟩
      have hlt : j < xs.length := by omega
      have hR : lastH xs = hdH2 xs[j] := by rw [lastH, if_neg hn, show xs.length - 1 = j by omega, getD_hd _ _ hlt]
      obtain ⟨-, a1, c1, hv, hc1, hm1, g1⟩ := id h
      injection hv with e1 e2 e3
      subst e1 e3
      rcases g1 with g1 | ⟨b1, o1, rfl, hb1, g1⟩
      · omega
      have e1 : w.cell? ⟨b1, o1 + j * 4, none⟩ = some (.int .i64 xs[j].house) := g1 _ _ (hd_c0 xs _ hlt)
      have e2 : w.cell? ⟨b1, o1 + j * 4 + 1, none⟩ = some (.int .i64 xs[j].epoch) := g1 _ _ (hd_c1 xs _ hlt)
      have e3 : w.cell? ⟨b1, o1 + j * 4 + 2, none⟩ = some (.string xs[j].root) := g1 _ _ (hd_c2 xs _ hlt)
      have e4 : w.cell? ⟨b1, o1 + j * 4 + 3, none⟩ = some (.string xs[j].prev) := g1 _ _ (hd_c3 xs _ hlt)
      generalize xs[j] = z at *
      have LL := Lib.hid hR
      have hgt : (0 : Int) < xs.length := by omega
      have hgn : 0 < xs.length := by omega
      have hw2 : IntKind.i64.wrap ((xs.length : Int) - 1) = (j : Int) := by rw [IntWalk.i64_in _ (by omega)]; omega
      have hj0 : (0 : Int) ≤ (j : Int) := by omega
      have hj1 : (j : Int) < xs.length := by omega
      clear g1 hn hR hj
      go_enter Tryd.func18, Tryd.ntmps18
      go_wp2_with fail
      refine (spec_HeadHash _ _ _ _ _).mono ?_
      rintro e w1 ⟨rfl, x1⟩
      have E_x1 := Old.of x1; (repeat (first | (replace E_x1 := Old.undrew E_x1) | (replace E_x1 := Old.undrewN E_x1))); have c_E_x1 := Old.cell E_x1; have f_E_x1 := Old.frozen E_x1; have z_E_x1 := Old.size E_x1; try simp only [World.size_alloc] at c_E_x1 f_E_x1 z_E_x1; try have l_E_x1 := Nat.lt_of_succ_le z_E_x1; try have m_E_x1 := Nat.lt_of_succ_lt l_E_x1; try have n_E_x1 := Nat.lt_of_succ_lt m_E_x1
      have r0 := c_E_x1 (w.heap.size) 0 (by omega); simp [go_sem] at r0; have r1 := c_E_x1 (w.heap.size) 1 (by omega); simp [go_sem] at r1; have r2 := c_E_x1 (w.heap.size) 2 (by omega); simp [go_sem] at r2; have r3 := c_E_x1 (w.heap.size) 3 (by omega); simp [go_sem] at r3
      have p0 := c_E_x1 (w.heap.size + 1) 0 (by omega); simp [go_sem] at p0; have p1 := c_E_x1 (w.heap.size + 1) 1 (by omega); simp [go_sem] at p1; have p2 := c_E_x1 (w.heap.size + 1) 2 (by omega); simp [go_sem] at p2; have p3 := c_E_x1 (w.heap.size + 1) 3 (by omega); simp [go_sem] at p3
      have xw : Ext w w1 := (by repeat (first | (with_reducible first | exact Ext.refl _ | assumption | apply Ext.alloc | apply Ext.drew | apply Ext.drewN | refine Ext.setCell ?_ ?_ _ | refine Ext.trans ?_ (by assumption)) | (show _ ≤ _; first | omega | (dsimp only; omega) | (simp; done) | (simp; omega))))
      have fr1 : ∀ j, w1.frozen? ⟨w.heap.size, j, none⟩ = false := fun j => by rw [f_E_x1 _ _ (by omega)]; simp [go_sem]
      have fr2 : ∀ j, w1.frozen? ⟨w.heap.size + 1, j, none⟩ = false := fun j => by rw [f_E_x1 _ _ (by omega)]; simp [go_sem]
      have la : w.heap.size < w1.heap.size := by omega
      have lb : w.heap.size + 1 < w1.heap.size := by omega
      clear c_E_x1 f_E_x1
      go_wp2_with fail
      replace p3 : (w1.setCell ⟨w.heap.size + 1, 3, none⟩ (.string (headH z.house z.epoch z.root z.prev))).cell? ⟨w.heap.size + 1, 3, none⟩ = some (.string (lastH xs)) := by rw [LL.out, hdH2]; simp [go_sem, p3]
      replace p0 : (w1.setCell ⟨w.heap.size + 1, 3, none⟩ (.string (headH z.house z.epoch z.root z.prev))).cell? ⟨w.heap.size + 1, 0, none⟩ = some (.int .i64 house) := by simp [go_sem, p0]
      replace p1 : (w1.setCell ⟨w.heap.size + 1, 3, none⟩ (.string (headH z.house z.epoch z.root z.prev))).cell? ⟨w.heap.size + 1, 1, none⟩ = some (.int .i64 ((xs.length : Int) + 1)) := by simp [go_sem, p1]
      replace p2 : (w1.setCell ⟨w.heap.size + 1, 3, none⟩ (.string (headH z.house z.epoch z.root z.prev))).cell? ⟨w.heap.size + 1, 2, none⟩ = some (.string root) := by simp [go_sem, p2]
      replace r0 : (w1.setCell ⟨w.heap.size + 1, 3, none⟩ (.string (headH z.house z.epoch z.root z.prev))).cell? ⟨w.heap.size, 0, none⟩ = some (.int .i64 0) := by simp [go_sem, r0]
      replace r1 : (w1.setCell ⟨w.heap.size + 1, 3, none⟩ (.string (headH z.house z.epoch z.root z.prev))).cell? ⟨w.heap.size, 1, none⟩ = some (.int .i64 0) := by simp [go_sem, r1]
      replace r2 : (w1.setCell ⟨w.heap.size + 1, 3, none⟩ (.string (headH z.house z.epoch z.root z.prev))).cell? ⟨w.heap.size, 2, none⟩ = some (.string ⟨#[]⟩) := by simp [go_sem, r2]
      replace r3 : (w1.setCell ⟨w.heap.size + 1, 3, none⟩ (.string (headH z.house z.epoch z.root z.prev))).cell? ⟨w.heap.size, 3, none⟩ = some (.string ⟨#[]⟩) := by simp [go_sem, r3]
      have fr : ∀ j, (w1.setCell ⟨w.heap.size + 1, 3, none⟩ (.string (headH z.house z.epoch z.root z.prev))).frozen? ⟨w.heap.size, j, none⟩ = false := fun j => by simp [go_sem, fr1]
      have x0 : Ext w (w1.setCell ⟨w.heap.size + 1, 3, none⟩ (.string (headH z.house z.epoch z.root z.prev))) := xw.setCell (by dsimp only; omega) _
      have l0 : w.heap.size < (w1.setCell ⟨w.heap.size + 1, 3, none⟩ (.string (headH z.house z.epoch z.root z.prev))).heap.size := by rw [World.size_setCell]; exact la
      have l1 : w.heap.size + 1 < (w1.setCell ⟨w.heap.size + 1, 3, none⟩ (.string (headH z.house z.epoch z.root z.prev))).heap.size := by rw [World.size_setCell]; exact lb
      generalize (w1.setCell ⟨w.heap.size + 1, 3, none⟩ (.string (headH z.house z.epoch z.root z.prev))) = W at *
      refine (spec_ChainOk _ xs house _ (h.ext (by repeat (first | (with_reducible first | exact Ext.refl _ | assumption | apply Ext.alloc | apply Ext.drew | apply Ext.drewN | refine Ext.setCell ?_ ?_ _ | refine Ext.trans ?_ (by assumption)) | (show _ ≤ _; first | omega | (dsimp only; omega) | (simp; done) | (simp; omega))))) hb).mono ?_
      rw [HC.out]
      rintro e w2 ⟨rfl, x2⟩
      have y2 : Ext W w2 := (by repeat (first | (with_reducible first | exact Ext.refl _ | assumption | apply Ext.alloc | apply Ext.drew | apply Ext.drewN | refine Ext.setCell ?_ ?_ _ | refine Ext.trans ?_ (by assumption)) | (show _ ≤ _; first | omega | (dsimp only; omega) | (simp; done) | (simp; omega))))
      replace p0 := (y2.cell _ _ l1).trans p0
      replace p1 := (y2.cell _ _ l1).trans p1
      replace p2 := (y2.cell _ _ l1).trans p2
      replace p3 := (y2.cell _ _ l1).trans p3
      replace r0 := (y2.cell _ _ l0).trans r0
      replace r1 := (y2.cell _ _ l0).trans r1
      replace r2 := (y2.cell _ _ l0).trans r2
      replace r3 := (y2.cell _ _ l0).trans r3
      replace fr := fun j => (y2.frozen _ j l0).trans (fr j)
      replace l1 := Nat.lt_of_lt_of_le l1 y2.size
      replace l0 := Nat.lt_of_lt_of_le l0 y2.size
      go_wp2
      refine bodyPost_ret (v := .tuple #[.agg #[.int .i64 0, .int .i64 0, .string ⟨#[]⟩, .string ⟨#[]⟩], .bool false]) (by simp [results, Tryd.results18, go_sem, r0, r1, r2, r3]) rfl ⟨by rw [R.out], (by repeat (first | (with_reducible first | exact Ext.refl _ | assumption | apply Ext.alloc | apply Ext.drew | apply Ext.drewN | refine Ext.setCell ?_ ?_ _ | refine Ext.trans ?_ (by assumption)) | (show _ ≤ _; first | omega | (dsimp only; omega) | (simp; done) | (simp; omega))))⟩
    · cases hh : headOk house ((xs.length : Int) + 1) root (lastH xs)
      · have R := Lib.hid (nx_no (xs := xs) (house := house) (root := root) (by rw [nxOk, hc, hh]; rfl))
        have HC := Lib.hid hc
        have HH := Lib.hid hh
        clear hc hh
        obtain ⟨j, hj⟩ : ∃ j, xs.length = j + 1 := ⟨xs.length - 1, by omega⟩
        have hlt : j < xs.length := by omega
        have hR : lastH xs = hdH2 xs[j] := by rw [lastH, if_neg hn, show xs.length - 1 = j by omega, getD_hd _ _ hlt]
        obtain ⟨-, a1, c1, hv, hc1, hm1, g1⟩ := id h
        injection hv with e1 e2 e3
        subst e1 e3
        rcases g1 with g1 | ⟨b1, o1, rfl, hb1, g1⟩
        · omega
        have e1 : w.cell? ⟨b1, o1 + j * 4, none⟩ = some (.int .i64 xs[j].house) := g1 _ _ (hd_c0 xs _ hlt)
        have e2 : w.cell? ⟨b1, o1 + j * 4 + 1, none⟩ = some (.int .i64 xs[j].epoch) := g1 _ _ (hd_c1 xs _ hlt)
        have e3 : w.cell? ⟨b1, o1 + j * 4 + 2, none⟩ = some (.string xs[j].root) := g1 _ _ (hd_c2 xs _ hlt)
        have e4 : w.cell? ⟨b1, o1 + j * 4 + 3, none⟩ = some (.string xs[j].prev) := g1 _ _ (hd_c3 xs _ hlt)
        generalize xs[j] = z at *
        have LL := Lib.hid hR
        have hgt : (0 : Int) < xs.length := by omega
        have hgn : 0 < xs.length := by omega
        have hw2 : IntKind.i64.wrap ((xs.length : Int) - 1) = (j : Int) := by rw [IntWalk.i64_in _ (by omega)]; omega
        have hj0 : (0 : Int) ≤ (j : Int) := by omega
        have hj1 : (j : Int) < xs.length := by omega
        clear g1 hn hR hj
        go_enter Tryd.func18, Tryd.ntmps18
        go_wp2_with fail
        refine (spec_HeadHash _ _ _ _ _).mono ?_
        rintro e w1 ⟨rfl, x1⟩
        have E_x1 := Old.of x1; (repeat (first | (replace E_x1 := Old.undrew E_x1) | (replace E_x1 := Old.undrewN E_x1))); have c_E_x1 := Old.cell E_x1; have f_E_x1 := Old.frozen E_x1; have z_E_x1 := Old.size E_x1; try simp only [World.size_alloc] at c_E_x1 f_E_x1 z_E_x1; try have l_E_x1 := Nat.lt_of_succ_le z_E_x1; try have m_E_x1 := Nat.lt_of_succ_lt l_E_x1; try have n_E_x1 := Nat.lt_of_succ_lt m_E_x1
        have r0 := c_E_x1 (w.heap.size) 0 (by omega); simp [go_sem] at r0; have r1 := c_E_x1 (w.heap.size) 1 (by omega); simp [go_sem] at r1; have r2 := c_E_x1 (w.heap.size) 2 (by omega); simp [go_sem] at r2; have r3 := c_E_x1 (w.heap.size) 3 (by omega); simp [go_sem] at r3
        have p0 := c_E_x1 (w.heap.size + 1) 0 (by omega); simp [go_sem] at p0; have p1 := c_E_x1 (w.heap.size + 1) 1 (by omega); simp [go_sem] at p1; have p2 := c_E_x1 (w.heap.size + 1) 2 (by omega); simp [go_sem] at p2; have p3 := c_E_x1 (w.heap.size + 1) 3 (by omega); simp [go_sem] at p3
        have xw : Ext w w1 := (by repeat (first | (with_reducible first | exact Ext.refl _ | assumption | apply Ext.alloc | apply Ext.drew | apply Ext.drewN | refine Ext.setCell ?_ ?_ _ | refine Ext.trans ?_ (by assumption)) | (show _ ≤ _; first | omega | (dsimp only; omega) | (simp; done) | (simp; omega))))
        have fr1 : ∀ j, w1.frozen? ⟨w.heap.size, j, none⟩ = false := fun j => by rw [f_E_x1 _ _ (by omega)]; simp [go_sem]
        have fr2 : ∀ j, w1.frozen? ⟨w.heap.size + 1, j, none⟩ = false := fun j => by rw [f_E_x1 _ _ (by omega)]; simp [go_sem]
        have la : w.heap.size < w1.heap.size := by omega
        have lb : w.heap.size + 1 < w1.heap.size := by omega
        clear c_E_x1 f_E_x1
        go_wp2_with fail
        replace p3 : (w1.setCell ⟨w.heap.size + 1, 3, none⟩ (.string (headH z.house z.epoch z.root z.prev))).cell? ⟨w.heap.size + 1, 3, none⟩ = some (.string (lastH xs)) := by rw [LL.out, hdH2]; simp [go_sem, p3]
        replace p0 : (w1.setCell ⟨w.heap.size + 1, 3, none⟩ (.string (headH z.house z.epoch z.root z.prev))).cell? ⟨w.heap.size + 1, 0, none⟩ = some (.int .i64 house) := by simp [go_sem, p0]
        replace p1 : (w1.setCell ⟨w.heap.size + 1, 3, none⟩ (.string (headH z.house z.epoch z.root z.prev))).cell? ⟨w.heap.size + 1, 1, none⟩ = some (.int .i64 ((xs.length : Int) + 1)) := by simp [go_sem, p1]
        replace p2 : (w1.setCell ⟨w.heap.size + 1, 3, none⟩ (.string (headH z.house z.epoch z.root z.prev))).cell? ⟨w.heap.size + 1, 2, none⟩ = some (.string root) := by simp [go_sem, p2]
        replace r0 : (w1.setCell ⟨w.heap.size + 1, 3, none⟩ (.string (headH z.house z.epoch z.root z.prev))).cell? ⟨w.heap.size, 0, none⟩ = some (.int .i64 0) := by simp [go_sem, r0]
        replace r1 : (w1.setCell ⟨w.heap.size + 1, 3, none⟩ (.string (headH z.house z.epoch z.root z.prev))).cell? ⟨w.heap.size, 1, none⟩ = some (.int .i64 0) := by simp [go_sem, r1]
        replace r2 : (w1.setCell ⟨w.heap.size + 1, 3, none⟩ (.string (headH z.house z.epoch z.root z.prev))).cell? ⟨w.heap.size, 2, none⟩ = some (.string ⟨#[]⟩) := by simp [go_sem, r2]
        replace r3 : (w1.setCell ⟨w.heap.size + 1, 3, none⟩ (.string (headH z.house z.epoch z.root z.prev))).cell? ⟨w.heap.size, 3, none⟩ = some (.string ⟨#[]⟩) := by simp [go_sem, r3]
        have fr : ∀ j, (w1.setCell ⟨w.heap.size + 1, 3, none⟩ (.string (headH z.house z.epoch z.root z.prev))).frozen? ⟨w.heap.size, j, none⟩ = false := fun j => by simp [go_sem, fr1]
        have x0 : Ext w (w1.setCell ⟨w.heap.size + 1, 3, none⟩ (.string (headH z.house z.epoch z.root z.prev))) := xw.setCell (by dsimp only; omega) _
        have l0 : w.heap.size < (w1.setCell ⟨w.heap.size + 1, 3, none⟩ (.string (headH z.house z.epoch z.root z.prev))).heap.size := by rw [World.size_setCell]; exact la
        have l1 : w.heap.size + 1 < (w1.setCell ⟨w.heap.size + 1, 3, none⟩ (.string (headH z.house z.epoch z.root z.prev))).heap.size := by rw [World.size_setCell]; exact lb
        generalize (w1.setCell ⟨w.heap.size + 1, 3, none⟩ (.string (headH z.house z.epoch z.root z.prev))) = W at *
        refine (spec_ChainOk _ xs house _ (h.ext (by repeat (first | (with_reducible first | exact Ext.refl _ | assumption | apply Ext.alloc | apply Ext.drew | apply Ext.drewN | refine Ext.setCell ?_ ?_ _ | refine Ext.trans ?_ (by assumption)) | (show _ ≤ _; first | omega | (dsimp only; omega) | (simp; done) | (simp; omega))))) hb).mono ?_
        rw [HC.out]
        rintro e w2 ⟨rfl, x2⟩
        have y2 : Ext W w2 := (by repeat (first | (with_reducible first | exact Ext.refl _ | assumption | apply Ext.alloc | apply Ext.drew | apply Ext.drewN | refine Ext.setCell ?_ ?_ _ | refine Ext.trans ?_ (by assumption)) | (show _ ≤ _; first | omega | (dsimp only; omega) | (simp; done) | (simp; omega))))
        replace p0 := (y2.cell _ _ l1).trans p0
        replace p1 := (y2.cell _ _ l1).trans p1
        replace p2 := (y2.cell _ _ l1).trans p2
        replace p3 := (y2.cell _ _ l1).trans p3
        replace r0 := (y2.cell _ _ l0).trans r0
        replace r1 := (y2.cell _ _ l0).trans r1
        replace r2 := (y2.cell _ _ l0).trans r2
        replace r3 := (y2.cell _ _ l0).trans r3
        replace fr := fun j => (y2.frozen _ j l0).trans (fr j)
        replace l1 := Nat.lt_of_lt_of_le l1 y2.size
        replace l0 := Nat.lt_of_lt_of_le l0 y2.size
        go_wp2_with fail
        refine (spec_HeadOk _ _ _ _ _).mono ?_
        rw [HH.out]
        rintro e w3 ⟨rfl, x3⟩
        have y3 : Ext w2 w3 := (by repeat (first | (with_reducible first | exact Ext.refl _ | assumption | apply Ext.alloc | apply Ext.drew | apply Ext.drewN | refine Ext.setCell ?_ ?_ _ | refine Ext.trans ?_ (by assumption)) | (show _ ≤ _; first | omega | (dsimp only; omega) | (simp; done) | (simp; omega))))
        replace p0 := (y3.cell _ _ l1).trans p0
        replace p1 := (y3.cell _ _ l1).trans p1
        replace p2 := (y3.cell _ _ l1).trans p2
        replace p3 := (y3.cell _ _ l1).trans p3
        replace r0 := (y3.cell _ _ l0).trans r0
        replace r1 := (y3.cell _ _ l0).trans r1
        replace r2 := (y3.cell _ _ l0).trans r2
        replace r3 := (y3.cell _ _ l0).trans r3
        replace fr := fun j => (y3.frozen _ j l0).trans (fr j)
        replace l1 := Nat.lt_of_lt_of_le l1 y3.size
        replace l0 := Nat.lt_of_lt_of_le l0 y3.size
        go_wp2
        refine bodyPost_ret (v := .tuple #[.agg #[.int .i64 0, .int .i64 0, .string ⟨#[]⟩, .string ⟨#[]⟩], .bool false]) (by simp [results, Tryd.results18, go_sem, r0, r1, r2, r3]) rfl ⟨by rw [R.out], (by repeat (first | (with_reducible first | exact Ext.refl _ | assumption | apply Ext.alloc | apply Ext.drew | apply Ext.drewN | refine Ext.setCell ?_ ?_ _ | refine Ext.trans ?_ (by assumption)) | (show _ ≤ _; first | omega | (dsimp only; omega) | (simp; done) | (simp; omega))))⟩
      · have R := Lib.hid (nx_yes (xs := xs) (house := house) (root := root) (by rw [nxOk, hc, hh]; rfl))
        have HC := Lib.hid hc
        have HH := Lib.hid hh
        clear hc hh
        obtain ⟨j, hj⟩ : ∃ j, xs.length = j + 1 := ⟨xs.length - 1, by omega⟩
        have hlt : j < xs.length := by omega
        have hR : lastH xs = hdH2 xs[j] := by rw [lastH, if_neg hn, show xs.length - 1 = j by omega, getD_hd _ _ hlt]
        obtain ⟨-, a1, c1, hv, hc1, hm1, g1⟩ := id h
        injection hv with e1 e2 e3
        subst e1 e3
        rcases g1 with g1 | ⟨b1, o1, rfl, hb1, g1⟩
        · omega
        have e1 : w.cell? ⟨b1, o1 + j * 4, none⟩ = some (.int .i64 xs[j].house) := g1 _ _ (hd_c0 xs _ hlt)
        have e2 : w.cell? ⟨b1, o1 + j * 4 + 1, none⟩ = some (.int .i64 xs[j].epoch) := g1 _ _ (hd_c1 xs _ hlt)
        have e3 : w.cell? ⟨b1, o1 + j * 4 + 2, none⟩ = some (.string xs[j].root) := g1 _ _ (hd_c2 xs _ hlt)
        have e4 : w.cell? ⟨b1, o1 + j * 4 + 3, none⟩ = some (.string xs[j].prev) := g1 _ _ (hd_c3 xs _ hlt)
        generalize xs[j] = z at *
        have LL := Lib.hid hR
        have hgt : (0 : Int) < xs.length := by omega
        have hgn : 0 < xs.length := by omega
        have hw2 : IntKind.i64.wrap ((xs.length : Int) - 1) = (j : Int) := by rw [IntWalk.i64_in _ (by omega)]; omega
        have hj0 : (0 : Int) ≤ (j : Int) := by omega
        have hj1 : (j : Int) < xs.length := by omega
        clear g1 hn hR hj
        go_enter Tryd.func18, Tryd.ntmps18
        go_wp2_with fail
        refine (spec_HeadHash _ _ _ _ _).mono ?_
        rintro e w1 ⟨rfl, x1⟩
        have E_x1 := Old.of x1; (repeat (first | (replace E_x1 := Old.undrew E_x1) | (replace E_x1 := Old.undrewN E_x1))); have c_E_x1 := Old.cell E_x1; have f_E_x1 := Old.frozen E_x1; have z_E_x1 := Old.size E_x1; try simp only [World.size_alloc] at c_E_x1 f_E_x1 z_E_x1; try have l_E_x1 := Nat.lt_of_succ_le z_E_x1; try have m_E_x1 := Nat.lt_of_succ_lt l_E_x1; try have n_E_x1 := Nat.lt_of_succ_lt m_E_x1
        have r0 := c_E_x1 (w.heap.size) 0 (by omega); simp [go_sem] at r0; have r1 := c_E_x1 (w.heap.size) 1 (by omega); simp [go_sem] at r1; have r2 := c_E_x1 (w.heap.size) 2 (by omega); simp [go_sem] at r2; have r3 := c_E_x1 (w.heap.size) 3 (by omega); simp [go_sem] at r3
        have p0 := c_E_x1 (w.heap.size + 1) 0 (by omega); simp [go_sem] at p0; have p1 := c_E_x1 (w.heap.size + 1) 1 (by omega); simp [go_sem] at p1; have p2 := c_E_x1 (w.heap.size + 1) 2 (by omega); simp [go_sem] at p2; have p3 := c_E_x1 (w.heap.size + 1) 3 (by omega); simp [go_sem] at p3
        have xw : Ext w w1 := (by repeat (first | (with_reducible first | exact Ext.refl _ | assumption | apply Ext.alloc | apply Ext.drew | apply Ext.drewN | refine Ext.setCell ?_ ?_ _ | refine Ext.trans ?_ (by assumption)) | (show _ ≤ _; first | omega | (dsimp only; omega) | (simp; done) | (simp; omega))))
        have fr1 : ∀ j, w1.frozen? ⟨w.heap.size, j, none⟩ = false := fun j => by rw [f_E_x1 _ _ (by omega)]; simp [go_sem]
        have fr2 : ∀ j, w1.frozen? ⟨w.heap.size + 1, j, none⟩ = false := fun j => by rw [f_E_x1 _ _ (by omega)]; simp [go_sem]
        have la : w.heap.size < w1.heap.size := by omega
        have lb : w.heap.size + 1 < w1.heap.size := by omega
        clear c_E_x1 f_E_x1
        go_wp2_with fail
        replace p3 : (w1.setCell ⟨w.heap.size + 1, 3, none⟩ (.string (headH z.house z.epoch z.root z.prev))).cell? ⟨w.heap.size + 1, 3, none⟩ = some (.string (lastH xs)) := by rw [LL.out, hdH2]; simp [go_sem, p3]
        replace p0 : (w1.setCell ⟨w.heap.size + 1, 3, none⟩ (.string (headH z.house z.epoch z.root z.prev))).cell? ⟨w.heap.size + 1, 0, none⟩ = some (.int .i64 house) := by simp [go_sem, p0]
        replace p1 : (w1.setCell ⟨w.heap.size + 1, 3, none⟩ (.string (headH z.house z.epoch z.root z.prev))).cell? ⟨w.heap.size + 1, 1, none⟩ = some (.int .i64 ((xs.length : Int) + 1)) := by simp [go_sem, p1]
        replace p2 : (w1.setCell ⟨w.heap.size + 1, 3, none⟩ (.string (headH z.house z.epoch z.root z.prev))).cell? ⟨w.heap.size + 1, 2, none⟩ = some (.string root) := by simp [go_sem, p2]
        replace r0 : (w1.setCell ⟨w.heap.size + 1, 3, none⟩ (.string (headH z.house z.epoch z.root z.prev))).cell? ⟨w.heap.size, 0, none⟩ = some (.int .i64 0) := by simp [go_sem, r0]
        replace r1 : (w1.setCell ⟨w.heap.size + 1, 3, none⟩ (.string (headH z.house z.epoch z.root z.prev))).cell? ⟨w.heap.size, 1, none⟩ = some (.int .i64 0) := by simp [go_sem, r1]
        replace r2 : (w1.setCell ⟨w.heap.size + 1, 3, none⟩ (.string (headH z.house z.epoch z.root z.prev))).cell? ⟨w.heap.size, 2, none⟩ = some (.string ⟨#[]⟩) := by simp [go_sem, r2]
        replace r3 : (w1.setCell ⟨w.heap.size + 1, 3, none⟩ (.string (headH z.house z.epoch z.root z.prev))).cell? ⟨w.heap.size, 3, none⟩ = some (.string ⟨#[]⟩) := by simp [go_sem, r3]
        have fr : ∀ j, (w1.setCell ⟨w.heap.size + 1, 3, none⟩ (.string (headH z.house z.epoch z.root z.prev))).frozen? ⟨w.heap.size, j, none⟩ = false := fun j => by simp [go_sem, fr1]
        have x0 : Ext w (w1.setCell ⟨w.heap.size + 1, 3, none⟩ (.string (headH z.house z.epoch z.root z.prev))) := xw.setCell (by dsimp only; omega) _
        have l0 : w.heap.size < (w1.setCell ⟨w.heap.size + 1, 3, none⟩ (.string (headH z.house z.epoch z.root z.prev))).heap.size := by rw [World.size_setCell]; exact la
        have l1 : w.heap.size + 1 < (w1.setCell ⟨w.heap.size + 1, 3, none⟩ (.string (headH z.house z.epoch z.root z.prev))).heap.size := by rw [World.size_setCell]; exact lb
        generalize (w1.setCell ⟨w.heap.size + 1, 3, none⟩ (.string (headH z.house z.epoch z.root z.prev))) = W at *
        refine (spec_ChainOk _ xs house _ (h.ext (by repeat (first | (with_reducible first | exact Ext.refl _ | assumption | apply Ext.alloc | apply Ext.drew | apply Ext.drewN | refine Ext.setCell ?_ ?_ _ | refine Ext.trans ?_ (by assumption)) | (show _ ≤ _; first | omega | (dsimp only; omega) | (simp; done) | (simp; omega))))) hb).mono ?_
        rw [HC.out]
        rintro e w2 ⟨rfl, x2⟩
        have y2 : Ext W w2 := (by repeat (first | (with_reducible first | exact Ext.refl _ | assumption | apply Ext.alloc | apply Ext.drew | apply Ext.drewN | refine Ext.setCell ?_ ?_ _ | refine Ext.trans ?_ (by assumption)) | (show _ ≤ _; first | omega | (dsimp only; omega) | (simp; done) | (simp; omega))))
        replace p0 := (y2.cell _ _ l1).trans p0
        replace p1 := (y2.cell _ _ l1).trans p1
        replace p2 := (y2.cell _ _ l1).trans p2
        replace p3 := (y2.cell _ _ l1).trans p3
        replace r0 := (y2.cell _ _ l0).trans r0
        replace r1 := (y2.cell _ _ l0).trans r1
        replace r2 := (y2.cell _ _ l0).trans r2
        replace r3 := (y2.cell _ _ l0).trans r3
        replace fr := fun j => (y2.frozen _ j l0).trans (fr j)
        replace l1 := Nat.lt_of_lt_of_le l1 y2.size
        replace l0 := Nat.lt_of_lt_of_le l0 y2.size
        go_wp2_with fail
        refine (spec_HeadOk _ _ _ _ _).mono ?_
        rw [HH.out]
        rintro e w3 ⟨rfl, x3⟩
        have y3 : Ext w2 w3 := (by repeat (first | (with_reducible first | exact Ext.refl _ | assumption | apply Ext.alloc | apply Ext.drew | apply Ext.drewN | refine Ext.setCell ?_ ?_ _ | refine Ext.trans ?_ (by assumption)) | (show _ ≤ _; first | omega | (dsimp only; omega) | (simp; done) | (simp; omega))))
        replace p0 := (y3.cell _ _ l1).trans p0
        replace p1 := (y3.cell _ _ l1).trans p1
        replace p2 := (y3.cell _ _ l1).trans p2
        replace p3 := (y3.cell _ _ l1).trans p3
        replace r0 := (y3.cell _ _ l0).trans r0
        replace r1 := (y3.cell _ _ l0).trans r1
        replace r2 := (y3.cell _ _ l0).trans r2
        replace r3 := (y3.cell _ _ l0).trans r3
        replace fr := fun j => (y3.frozen _ j l0).trans (fr j)
        replace l1 := Nat.lt_of_lt_of_le l1 y3.size
        replace l0 := Nat.lt_of_lt_of_le l0 y3.size
        go_wp2
        refine bodyPost_ret (v := .tuple #[.agg #[.int .i64 house, .int .i64 ((xs.length : Int) + 1), .string root, .string (lastH xs)], .bool true]) (by simp [results, Tryd.results18, go_sem, r0, r1, r2, r3]) rfl ⟨by rw [R.out], (by repeat (first | (with_reducible first | exact Ext.refl _ | assumption | apply Ext.alloc | apply Ext.drew | apply Ext.drewN | refine Ext.setCell ?_ ?_ _ | refine Ext.trans ?_ (by assumption)) | (show _ ≤ _; first | omega | (dsimp only; omega) | (simp; done) | (simp; omega))))⟩

set_option maxHeartbeats 1600000 in
theorem laws_FnExactNextHead (v : Value) (xs : List Hd) (house : Int) (root : ByteArray) (w : World) (h : Hds w v xs) (hs : HeadFit xs) (hr : root.size ≤ maxLen) (hT : Tabs w) :
    Calls Tryd.prog 4 #[v, .int .i64 house, .string root] w fun e w' => e = .returned (.bool true) ∧ Ext w w' := by
  have HT := Lib.hid hT
  clear hT
  obtain ⟨a, c, rfl⟩ := h.form
  unfold maxLen at hr
  by_cases hbig : 1048576 < root.size
  · go_enter Tryd.func4, Tryd.ntmps4
    go_wp2
    go_ret
    exact ⟨rfl, (by repeat (first | (with_reducible first | exact Ext.refl _ | assumption | apply Ext.alloc | apply Ext.drew | apply Ext.drewN | refine Ext.setCell ?_ ?_ _ | refine Ext.trans ?_ (by assumption)) | (show _ ≤ _; first | omega | (dsimp only; omega) | (simp; done) | (simp; omega))))⟩
  rcases szr_cases (xs.length + headBytes xs) with ⟨hz, -⟩ | ⟨z, hz, hz0, hz1, -⟩
  · have HZ := Lib.hid hz
    clear hz
    go_enter Tryd.func4, Tryd.ntmps4
    go_wp2_with (go_at_call 13; refine (laws_szHeadS _ xs _ _ (h.ext (by repeat (first | (with_reducible first | exact Ext.refl _ | assumption | apply Ext.alloc | apply Ext.drew | apply Ext.drewN | refine Ext.setCell ?_ ?_ _ | refine Ext.trans ?_ (by assumption)) | (show _ ≤ _; first | omega | (dsimp only; omega) | (simp; done) | (simp; omega))))) (by omega) hs).mono ?_; rw [HZ.out]; rintro e w1 ⟨rfl, x1⟩)
    go_ret
    exact ⟨rfl, (by repeat (first | (with_reducible first | exact Ext.refl _ | assumption | apply Ext.alloc | apply Ext.drew | apply Ext.drewN | refine Ext.setCell ?_ ?_ _ | refine Ext.trans ?_ (by assumption)) | (show _ ≤ _; first | omega | (dsimp only; omega) | (simp; done) | (simp; omega))))⟩
  · have HZ := Lib.hid hz
    have hlen : xs.length ≤ 1099511627776 := by omega
    clear hz hz1
    go_enter Tryd.func4, Tryd.ntmps4
    go_wp2_with (go_at_call 13; refine (laws_szHeadS _ xs _ _ (h.ext (by repeat (first | (with_reducible first | exact Ext.refl _ | assumption | apply Ext.alloc | apply Ext.drew | apply Ext.drewN | refine Ext.setCell ?_ ?_ _ | refine Ext.trans ?_ (by assumption)) | (show _ ≤ _; first | omega | (dsimp only; omega) | (simp; done) | (simp; omega))))) (by omega) hs).mono ?_; rw [HZ.out]; rintro e w1 ⟨rfl, x1⟩)
    refine (laws_toHeadS _ xs _ (h.ext (by repeat (first | (with_reducible first | exact Ext.refl _ | assumption | apply Ext.alloc | apply Ext.drew | apply Ext.drewN | refine Ext.setCell ?_ ?_ _ | refine Ext.trans ?_ (by assumption)) | (show _ ≤ _; first | omega | (dsimp only; omega) | (simp; done) | (simp; omega))))) hlen).mono ?_
    rintro e w2 ⟨a2, d2, rfl, o2, x2⟩
    have s2 := o2.hds
    clear o2
    go_wp2_with fail
    refine (spec_NextHead _ xs house root _ (s2.ext (by repeat (first | (with_reducible first | exact Ext.refl _ | assumption | apply Ext.alloc | apply Ext.drew | apply Ext.drewN | refine Ext.setCell ?_ ?_ _ | refine Ext.trans ?_ (by assumption)) | (show _ ≤ _; first | omega | (dsimp only; omega) | (simp; done) | (simp; omega))))) hlen).mono ?_
    unfold nxV
    rintro e w3 ⟨rfl, x3⟩
    clear s2
    go_wp2_with fail
    refine (laws_toHeadS _ xs _ (h.ext (by repeat (first | (with_reducible first | exact Ext.refl _ | assumption | apply Ext.alloc | apply Ext.drew | apply Ext.drewN | refine Ext.setCell ?_ ?_ _ | refine Ext.trans ?_ (by assumption)) | (show _ ≤ _; first | omega | (dsimp only; omega) | (simp; done) | (simp; omega))))) hlen).mono ?_
    rintro e w4 ⟨a4, d4, rfl, o4, x4⟩
    have E_x4 := Old.of x4; (repeat (first | (replace E_x4 := Old.undrew E_x4) | (replace E_x4 := Old.undrewN E_x4))); have c_E_x4 := Old.cell E_x4; have f_E_x4 := Old.frozen E_x4; have z_E_x4 := Old.size E_x4; try simp only [World.size_alloc] at c_E_x4 f_E_x4 z_E_x4; try have l_E_x4 := Nat.lt_of_succ_le z_E_x4; try have m_E_x4 := Nat.lt_of_succ_lt l_E_x4; try have n_E_x4 := Nat.lt_of_succ_lt m_E_x4
    have s4 := o4.hds
    clear o4
    go_wp2_with fail
    refine (impl_NextHead _ xs house root _ (s4.ext (by repeat (first | (with_reducible first | exact Ext.refl _ | assumption | apply Ext.alloc | apply Ext.drew | apply Ext.drewN | refine Ext.setCell ?_ ?_ _ | refine Ext.trans ?_ (by assumption)) | (show _ ≤ _; first | omega | (dsimp only; omega) | (simp; done) | (simp; omega))))) hlen (by exact HT.out.ext (by repeat (first | (with_reducible first | exact Ext.refl _ | assumption | apply Ext.alloc | apply Ext.drew | apply Ext.drewN | refine Ext.setCell ?_ ?_ _ | refine Ext.trans ?_ (by assumption)) | (show _ ≤ _; first | omega | (dsimp only; omega) | (simp; done) | (simp; omega)))))).mono ?_
    unfold nxV
    rintro e w5 ⟨rfl, x5⟩
    have E_x5 := Old.via E_x4 x5 (by repeat (first | (with_reducible first | exact Ext.refl _ | assumption | apply Ext.alloc | apply Ext.drew | apply Ext.drewN | refine Ext.setCell ?_ ?_ _ | refine Ext.trans ?_ (by assumption)) | (show _ ≤ _; first | omega | (dsimp only; omega) | (simp; done) | (simp; omega)))); clear c_E_x4 f_E_x4; (repeat (first | (replace E_x5 := Old.undrew E_x5) | (replace E_x5 := Old.undrewN E_x5))); have c_E_x5 := Old.cell E_x5; have f_E_x5 := Old.frozen E_x5; have z_E_x5 := Old.size E_x5; try simp only [World.size_alloc] at c_E_x5 f_E_x5 z_E_x5; try have l_E_x5 := Nat.lt_of_succ_le z_E_x5; try have m_E_x5 := Nat.lt_of_succ_lt l_E_x5; try have n_E_x5 := Nat.lt_of_succ_lt m_E_x5
    go_wp2_with fail
    refine (laws_eqHead _ _ _ _ _ _ _ _ _).mono ?_
    rintro e w6 ⟨rfl, x6⟩
    go_wp2_with fail
    refine (laws_toHeadS _ xs _ (h.ext (by repeat (first | (with_reducible first | exact Ext.refl _ | assumption | apply Ext.alloc | apply Ext.drew | apply Ext.drewN | refine Ext.setCell ?_ ?_ _ | refine Ext.trans ?_ (by assumption)) | (show _ ≤ _; first | omega | (dsimp only; omega) | (simp; done) | (simp; omega))))) hlen).mono ?_
    rintro e w7 ⟨a7, d7, rfl, o7, x7⟩
    have s7 := o7.hds
    clear o7
    go_wp2_with fail
    refine (laws_eqHeadS _ _ xs xs _ (s4.ext (by repeat (first | (with_reducible first | exact Ext.refl _ | assumption | apply Ext.alloc | apply Ext.drew | apply Ext.drewN | refine Ext.setCell ?_ ?_ _ | refine Ext.trans ?_ (by assumption)) | (show _ ≤ _; first | omega | (dsimp only; omega) | (simp; done) | (simp; omega))))) (s7.ext (by repeat (first | (with_reducible first | exact Ext.refl _ | assumption | apply Ext.alloc | apply Ext.drew | apply Ext.drewN | refine Ext.setCell ?_ ?_ _ | refine Ext.trans ?_ (by assumption)) | (show _ ≤ _; first | omega | (dsimp only; omega) | (simp; done) | (simp; omega)))))).mono ?_
    rintro e w8 ⟨rfl, x8⟩
    go_wp2
    go_ret
    exact ⟨rfl, (by repeat (first | (with_reducible first | exact Ext.refl _ | assumption | apply Ext.alloc | apply Ext.drew | apply Ext.drewN | refine Ext.setCell ?_ ?_ _ | refine Ext.trans ?_ (by assumption)) | (show _ ≤ _; first | omega | (dsimp only; omega) | (simp; done) | (simp; omega))))⟩
end Go.Proofs.YtagkcgbggeajkaaDoor
