/- NxtA, DrwA. -/
import Derived.Test.YtkphipgfcbckcaaGreatDoorK7
import Derived.Deep.AppendLies
namespace Go.Proofs.YtkphipgfcbckcaaGreatDoor
open Go.RowKit

def pickI (ok : Bool) (n : Int) : Int := if ok = true then n else 0
def pickS (ok : Bool) (s : ByteArray) : ByteArray := if ok = true then s else ⟨#[]⟩
def nxOk (xs : List Hd) (house : Int) (root : ByteArray) : Bool := chainOk xs house && headOk house ((xs.length : Int) + 1) root (lastH xs)
/-- what is handed back -/
def nxV (xs : List Hd) (house : Int) (root : ByteArray) : Value := .tuple #[.agg #[.int .i64 (pickI (nxOk xs house root) house), .int .i64 (pickI (nxOk xs house root) ((xs.length : Int) + 1)), .string (pickS (nxOk xs house root) root), .string (pickS (nxOk xs house root) (lastH xs))], .bool (nxOk xs house root)]
theorem nx_no {xs : List Hd} {house : Int} {root : ByteArray} (h : nxOk xs house root = false) : nxV xs house root = .tuple #[.agg #[.int .i64 0, .int .i64 0, .string ⟨#[]⟩, .string ⟨#[]⟩], .bool false] := by
  simp [nxV, h, pickI, pickS]
theorem nx_yes {xs : List Hd} {house : Int} {root : ByteArray} (h : nxOk xs house root = true) : nxV xs house root = .tuple #[.agg #[.int .i64 house, .int .i64 ((xs.length : Int) + 1), .string root, .string (lastH xs)], .bool true] := by
  simp [nxV, h, pickI, pickS]

end Go.Proofs.YtkphipgfcbckcaaGreatDoor
namespace Go.Proofs.YtkphipgfcbckcaaGreatDoor
open Go.RowKit

set_option maxRecDepth 100000 in
set_option maxHeartbeats 3200000 in
theorem spec_NextHead (v : Value) (xs : List Hd) (house : Int) (root : ByteArray) (w : World) (h : Hds w v xs) (hb : xs.length ≤ 1099511627776) :
    Calls Tryz.prog 101 #[v, .int .i64 house, .string root] w fun e w' => e = .returned (nxV xs house root) ∧ Ext w w' := by
  obtain ⟨a, c, rfl⟩ := h.form
  have hw1 : IntKind.i64.wrap ((xs.length : Int) + 1) = (xs.length : Int) + 1 := IntWalk.i64_in _ (by omega)
  by_cases hn : xs.length = 0
  · cases hc : chainOk xs house
    · have R := Lib.hid (nx_no (xs := xs) (house := house) (root := root) (by rw [nxOk, hc]; rfl))
      have HC := Lib.hid hc
      clear hc
      have LL := Lib.hid (show lastH xs = ⟨#[]⟩ by rw [lastH, if_pos hn])
      have hgt : ¬ ((0 : Int) < xs.length) := by omega
      have hgn : ¬ (0 < xs.length) := by omega
      clear hn
      go_enter Tryz.func101, Tryz.ntmps101
      go_wp2_with fail
      have p0 : ((w.alloc (Obj.cells #[.int .i64 0, .int .i64 0, .string ⟨#[]⟩, .string ⟨#[]⟩] 26)).alloc (Obj.cells #[.int .i64 house, .int .i64 ((xs.length : Int) + 1), .string root, .string ⟨#[]⟩] 26)).cell? ⟨w.heap.size + 1, 0, none⟩ = some (.int .i64 house) := by simp [go_sem]
      have p1 : ((w.alloc (Obj.cells #[.int .i64 0, .int .i64 0, .string ⟨#[]⟩, .string ⟨#[]⟩] 26)).alloc (Obj.cells #[.int .i64 house, .int .i64 ((xs.length : Int) + 1), .string root, .string ⟨#[]⟩] 26)).cell? ⟨w.heap.size + 1, 1, none⟩ = some (.int .i64 ((xs.length : Int) + 1)) := by simp [go_sem]
      have p2 : ((w.alloc (Obj.cells #[.int .i64 0, .int .i64 0, .string ⟨#[]⟩, .string ⟨#[]⟩] 26)).alloc (Obj.cells #[.int .i64 house, .int .i64 ((xs.length : Int) + 1), .string root, .string ⟨#[]⟩] 26)).cell? ⟨w.heap.size + 1, 2, none⟩ = some (.string root) := by simp [go_sem]
      have p3 : ((w.alloc (Obj.cells #[.int .i64 0, .int .i64 0, .string ⟨#[]⟩, .string ⟨#[]⟩] 26)).alloc (Obj.cells #[.int .i64 house, .int .i64 ((xs.length : Int) + 1), .string root, .string ⟨#[]⟩] 26)).cell? ⟨w.heap.size + 1, 3, none⟩ = some (.string ⟨#[]⟩) := by simp [go_sem]
      have r0 : ((w.alloc (Obj.cells #[.int .i64 0, .int .i64 0, .string ⟨#[]⟩, .string ⟨#[]⟩] 26)).alloc (Obj.cells #[.int .i64 house, .int .i64 ((xs.length : Int) + 1), .string root, .string ⟨#[]⟩] 26)).cell? ⟨w.heap.size, 0, none⟩ = some (.int .i64 0) := by simp [go_sem]
      have r1 : ((w.alloc (Obj.cells #[.int .i64 0, .int .i64 0, .string ⟨#[]⟩, .string ⟨#[]⟩] 26)).alloc (Obj.cells #[.int .i64 house, .int .i64 ((xs.length : Int) + 1), .string root, .string ⟨#[]⟩] 26)).cell? ⟨w.heap.size, 1, none⟩ = some (.int .i64 0) := by simp [go_sem]
      have r2 : ((w.alloc (Obj.cells #[.int .i64 0, .int .i64 0, .string ⟨#[]⟩, .string ⟨#[]⟩] 26)).alloc (Obj.cells #[.int .i64 house, .int .i64 ((xs.length : Int) + 1), .string root, .string ⟨#[]⟩] 26)).cell? ⟨w.heap.size, 2, none⟩ = some (.string ⟨#[]⟩) := by simp [go_sem]
      have r3 : ((w.alloc (Obj.cells #[.int .i64 0, .int .i64 0, .string ⟨#[]⟩, .string ⟨#[]⟩] 26)).alloc (Obj.cells #[.int .i64 house, .int .i64 ((xs.length : Int) + 1), .string root, .string ⟨#[]⟩] 26)).cell? ⟨w.heap.size, 3, none⟩ = some (.string ⟨#[]⟩) := by simp [go_sem]
      have fr : ∀ j, ((w.alloc (Obj.cells #[.int .i64 0, .int .i64 0, .string ⟨#[]⟩, .string ⟨#[]⟩] 26)).alloc (Obj.cells #[.int .i64 house, .int .i64 ((xs.length : Int) + 1), .string root, .string ⟨#[]⟩] 26)).frozen? ⟨w.heap.size, j, none⟩ = false := fun j => by simp [go_sem]
      have x0 : Ext w ((w.alloc (Obj.cells #[.int .i64 0, .int .i64 0, .string ⟨#[]⟩, .string ⟨#[]⟩] 26)).alloc (Obj.cells #[.int .i64 house, .int .i64 ((xs.length : Int) + 1), .string root, .string ⟨#[]⟩] 26)) := ((Ext.refl w).alloc _).alloc _
      have l0 : w.heap.size < ((w.alloc (Obj.cells #[.int .i64 0, .int .i64 0, .string ⟨#[]⟩, .string ⟨#[]⟩] 26)).alloc (Obj.cells #[.int .i64 house, .int .i64 ((xs.length : Int) + 1), .string root, .string ⟨#[]⟩] 26)).heap.size := by rw [World.size_alloc, World.size_alloc]; omega
      have l1 : w.heap.size + 1 < ((w.alloc (Obj.cells #[.int .i64 0, .int .i64 0, .string ⟨#[]⟩, .string ⟨#[]⟩] 26)).alloc (Obj.cells #[.int .i64 house, .int .i64 ((xs.length : Int) + 1), .string root, .string ⟨#[]⟩] 26)).heap.size := by rw [World.size_alloc, World.size_alloc]; omega
      generalize ((w.alloc (Obj.cells #[.int .i64 0, .int .i64 0, .string ⟨#[]⟩, .string ⟨#[]⟩] 26)).alloc (Obj.cells #[.int .i64 house, .int .i64 ((xs.length : Int) + 1), .string root, .string ⟨#[]⟩] 26)) = W at *
      rw [← LL.out] at p3
      refine (spec_ChainOk _ xs house _ (h.ext (by repeat (first | (with_reducible first | exact Ext.refl _ | assumption | apply Ext.alloc | apply Ext.drew | apply Ext.drewN | refine Ext.setCell ?_ ?_ _ | refine Ext.trans ?_ (by assumption)) | (show _ ≤ _; first | omega | (dsimp only; omega) | (simp; done) | (simp; omega))))) hb).mono ?_
      rw [HC.out]
      rintro e w2 ⟨rfl, x2⟩
      have y2 : Ext W w2 := (by repeat (first | (with_reducible first | exact Ext.refl _ | assumption | apply Ext.alloc | apply Ext.drew | apply Ext.drewN | refine Ext.setCell ?_ ?_ _ | refine Ext.trans ?_ (by assumption)) | (show _ ≤ _; first | omega | (dsimp only; omega) | (simp; done) | (simp; omega))))
      replace p0 := (y2.cell _ _ l1).trans p0
      replace p1 := (y2.cell _ _ l1).trans p1
      replace p2 := (y2.cell _ _ l1).trans p2
      replace p3 := (y2.cell _ _ l1).trans p3
      replace r0 := (y2.cell _ _ l0).trans r0
      replace r1 := (y2.cell _ _ l0).trans r1
      replace r2 := (y2.cell _ _ l0).trans r2
      replace r3 := (y2.cell _ _ l0).trans r3
      replace fr := fun j => (y2.frozen _ j l0).trans (fr j)
      replace l1 := Nat.lt_of_lt_of_le l1 y2.size
      replace l0 := Nat.lt_of_lt_of_le l0 y2.size
      go_wp2
      refine bodyPost_ret (v := .tuple #[.agg #[.int .i64 0, .int .i64 0, .string ⟨#[]⟩, .string ⟨#[]⟩], .bool false]) (by simp [results, Tryz.results101, go_sem, r0, r1, r2, r3]) rfl ⟨by rw [R.out], (by repeat (first | (with_reducible first | exact Ext.refl _ | assumption | apply Ext.alloc | apply Ext.drew | apply Ext.drewN | refine Ext.setCell ?_ ?_ _ | refine Ext.trans ?_ (by assumption)) | (show _ ≤ _; first | omega | (dsimp only; omega) | (simp; done) | (simp; omega))))⟩
    · cases hh : headOk house ((xs.length : Int) + 1) root (lastH xs)
      · have R := Lib.hid (nx_no (xs := xs) (house := house) (root := root) (by rw [nxOk, hc, hh]; rfl))
        have HC := Lib.hid hc
        have HH := Lib.hid hh
        clear hc hh
        have LL := Lib.hid (show lastH xs = ⟨#[]⟩ by rw [lastH, if_pos hn])
        have hgt : ¬ ((0 : Int) < xs.length) := by omega
        have hgn : ¬ (0 < xs.length) := by omega
        clear hn
        go_enter Tryz.func101, Tryz.ntmps101
        go_wp2_with fail
        have p0 : ((w.alloc (Obj.cells #[.int .i64 0, .int .i64 0, .string ⟨#[]⟩, .string ⟨#[]⟩] 26)).alloc (Obj.cells #[.int .i64 house, .int .i64 ((xs.length : Int) + 1), .string root, .string ⟨#[]⟩] 26)).cell? ⟨w.heap.size + 1, 0, none⟩ = some (.int .i64 house) := by simp [go_sem]
        have p1 : ((w.alloc (Obj.cells #[.int .i64 0, .int .i64 0, .string ⟨#[]⟩, .string ⟨#[]⟩] 26)).alloc (Obj.cells #[.int .i64 house, .int .i64 ((xs.length : Int) + 1), .string root, .string ⟨#[]⟩] 26)).cell? ⟨w.heap.size + 1, 1, none⟩ = some (.int .i64 ((xs.length : Int) + 1)) := by simp [go_sem]
        have p2 : ((w.alloc (Obj.cells #[.int .i64 0, .int .i64 0, .string ⟨#[]⟩, .string ⟨#[]⟩] 26)).alloc (Obj.cells #[.int .i64 house, .int .i64 ((xs.length : Int) + 1), .string root, .string ⟨#[]⟩] 26)).cell? ⟨w.heap.size + 1, 2, none⟩ = some (.string root) := by simp [go_sem]
        have p3 : ((w.alloc (Obj.cells #[.int .i64 0, .int .i64 0, .string ⟨#[]⟩, .string ⟨#[]⟩] 26)).alloc (Obj.cells #[.int .i64 house, .int .i64 ((xs.length : Int) + 1), .string root, .string ⟨#[]⟩] 26)).cell? ⟨w.heap.size + 1, 3, none⟩ = some (.string ⟨#[]⟩) := by simp [go_sem]
        have r0 : ((w.alloc (Obj.cells #[.int .i64 0, .int .i64 0, .string ⟨#[]⟩, .string ⟨#[]⟩] 26)).alloc (Obj.cells #[.int .i64 house, .int .i64 ((xs.length : Int) + 1), .string root, .string ⟨#[]⟩] 26)).cell? ⟨w.heap.size, 0, none⟩ = some (.int .i64 0) := by simp [go_sem]
        have r1 : ((w.alloc (Obj.cells #[.int .i64 0, .int .i64 0, .string ⟨#[]⟩, .string ⟨#[]⟩] 26)).alloc (Obj.cells #[.int .i64 house, .int .i64 ((xs.length : Int) + 1), .string root, .string ⟨#[]⟩] 26)).cell? ⟨w.heap.size, 1, none⟩ = some (.int .i64 0) := by simp [go_sem]
        have r2 : ((w.alloc (Obj.cells #[.int .i64 0, .int .i64 0, .string ⟨#[]⟩, .string ⟨#[]⟩] 26)).alloc (Obj.cells #[.int .i64 house, .int .i64 ((xs.length : Int) + 1), .string root, .string ⟨#[]⟩] 26)).cell? ⟨w.heap.size, 2, none⟩ = some (.string ⟨#[]⟩) := by simp [go_sem]
        have r3 : ((w.alloc (Obj.cells #[.int .i64 0, .int .i64 0, .string ⟨#[]⟩, .string ⟨#[]⟩] 26)).alloc (Obj.cells #[.int .i64 house, .int .i64 ((xs.length : Int) + 1), .string root, .string ⟨#[]⟩] 26)).cell? ⟨w.heap.size, 3, none⟩ = some (.string ⟨#[]⟩) := by simp [go_sem]
        have fr : ∀ j, ((w.alloc (Obj.cells #[.int .i64 0, .int .i64 0, .string ⟨#[]⟩, .string ⟨#[]⟩] 26)).alloc (Obj.cells #[.int .i64 house, .int .i64 ((xs.length : Int) + 1), .string root, .string ⟨#[]⟩] 26)).frozen? ⟨w.heap.size, j, none⟩ = false := fun j => by simp [go_sem]
        have x0 : Ext w ((w.alloc (Obj.cells #[.int .i64 0, .int .i64 0, .string ⟨#[]⟩, .string ⟨#[]⟩] 26)).alloc (Obj.cells #[.int .i64 house, .int .i64 ((xs.length : Int) + 1), .string root, .string ⟨#[]⟩] 26)) := ((Ext.refl w).alloc _).alloc _
        have l0 : w.heap.size < ((w.alloc (Obj.cells #[.int .i64 0, .int .i64 0, .string ⟨#[]⟩, .string ⟨#[]⟩] 26)).alloc (Obj.cells #[.int .i64 house, .int .i64 ((xs.length : Int) + 1), .string root, .string ⟨#[]⟩] 26)).heap.size := by rw [World.size_alloc, World.size_alloc]; omega
        have l1 : w.heap.size + 1 < ((w.alloc (Obj.cells #[.int .i64 0, .int .i64 0, .string ⟨#[]⟩, .string ⟨#[]⟩] 26)).alloc (Obj.cells #[.int .i64 house, .int .i64 ((xs.length : Int) + 1), .string root, .string ⟨#[]⟩] 26)).heap.size := by rw [World.size_alloc, World.size_alloc]; omega
        generalize ((w.alloc (Obj.cells #[.int .i64 0, .int .i64 0, .string ⟨#[]⟩, .string ⟨#[]⟩] 26)).alloc (Obj.cells #[.int .i64 house, .int .i64 ((xs.length : Int) + 1), .string root, .string ⟨#[]⟩] 26)) = W at *
        rw [← LL.out] at p3
        refine (spec_ChainOk _ xs house _ (h.ext (by repeat (first | (with_reducible first | exact Ext.refl _ | assumption | apply Ext.alloc | apply Ext.drew | apply Ext.drewN | refine Ext.setCell ?_ ?_ _ | refine Ext.trans ?_ (by assumption)) | (show _ ≤ _; first | omega | (dsimp only; omega) | (simp; done) | (simp; omega))))) hb).mono ?_
        rw [HC.out]
        rintro e w2 ⟨rfl, x2⟩
        have y2 : Ext W w2 := (by repeat (first | (with_reducible first | exact Ext.refl _ | assumption | apply Ext.alloc | apply Ext.drew | apply Ext.drewN | refine Ext.setCell ?_ ?_ _ | refine Ext.trans ?_ (by assumption)) | (show _ ≤ _; first | omega | (dsimp only; omega) | (simp; done) | (simp; omega))))
        replace p0 := (y2.cell _ _ l1).trans p0
        replace p1 := (y2.cell _ _ l1).trans p1
        replace p2 := (y2.cell _ _ l1).trans p2
        replace p3 := (y2.cell _ _ l1).trans p3
        replace r0 := (y2.cell _ _ l0).trans r0
        replace r1 := (y2.cell _ _ l0).trans r1
        replace r2 := (y2.cell _ _ l0).trans r2
        replace r3 := (y2.cell _ _ l0).trans r3
        replace fr := fun j => (y2.frozen _ j l0).trans (fr j)
        replace l1 := Nat.lt_of_lt_of_le l1 y2.size
        replace l0 := Nat.lt_of_lt_of_le l0 y2.size
        go_wp2_with fail
        refine (spec_HeadOk _ _ _ _ _).mono ?_
        rw [HH.out]
        rintro e w3 ⟨rfl, x3⟩
        have y3 : Ext w2 w3 := (by repeat (first | (with_reducible first | exact Ext.refl _ | assumption | apply Ext.alloc | apply Ext.drew | apply Ext.drewN | refine Ext.setCell ?_ ?_ _ | refine Ext.trans ?_ (by assumption)) | (show _ ≤ _; first | omega | (dsimp only; omega) | (simp; done) | (simp; omega))))
        replace p0 := (y3.cell _ _ l1).trans p0
        replace p1 := (y3.cell _ _ l1).trans p1
        replace p2 := (y3.cell _ _ l1).trans p2
        replace p3 := (y3.cell _ _ l1).trans p3
        replace r0 := (y3.cell _ _ l0).trans r0
        replace r1 := (y3.cell _ _ l0).trans r1
        replace r2 := (y3.cell _ _ l0).trans r2
        replace r3 := (y3.cell _ _ l0).trans r3
        replace fr := fun j => (y3.frozen _ j l0).trans (fr j)
        replace l1 := Nat.lt_of_lt_of_le l1 y3.size
        replace l0 := Nat.lt_of_lt_of_le l0 y3.size
        go_wp2
        refine bodyPost_ret (v := .tuple #[.agg #[.int .i64 0, .int .i64 0, .string ⟨#[]⟩, .string ⟨#[]⟩], .bool false]) (by simp [results, Tryz.results101, go_sem, r0, r1, r2, r3]) rfl ⟨by rw [R.out], (by repeat (first | (with_reducible first | exact Ext.refl _ | assumption | apply Ext.alloc | apply Ext.drew | apply Ext.drewN | refine Ext.setCell ?_ ?_ _ | refine Ext.trans ?_ (by assumption)) | (show _ ≤ _; first | omega | (dsimp only; omega) | (simp; done) | (simp; omega))))⟩
      · have R := Lib.hid (nx_yes (xs := xs) (house := house) (root := root) (by rw [nxOk, hc, hh]; rfl))
        have HC := Lib.hid hc
        have HH := Lib.hid hh
        clear hc hh
        have LL := Lib.hid (show lastH xs = ⟨#[]⟩ by rw [lastH, if_pos hn])
        have hgt : ¬ ((0 : Int) < xs.length) := by omega
        have hgn : ¬ (0 < xs.length) := by omega
        clear hn
        go_enter Tryz.func101, Tryz.ntmps101
        go_wp2_with fail
        have p0 : ((w.alloc (Obj.cells #[.int .i64 0, .int .i64 0, .string ⟨#[]⟩, .string ⟨#[]⟩] 26)).alloc (Obj.cells #[.int .i64 house, .int .i64 ((xs.length : Int) + 1), .string root, .string ⟨#[]⟩] 26)).cell? ⟨w.heap.size + 1, 0, none⟩ = some (.int .i64 house) := by simp [go_sem]
        have p1 : ((w.alloc (Obj.cells #[.int .i64 0, .int .i64 0, .string ⟨#[]⟩, .string ⟨#[]⟩] 26)).alloc (Obj.cells #[.int .i64 house, .int .i64 ((xs.length : Int) + 1), .string root, .string ⟨#[]⟩] 26)).cell? ⟨w.heap.size + 1, 1, none⟩ = some (.int .i64 ((xs.length : Int) + 1)) := by simp [go_sem]
        have p2 : ((w.alloc (Obj.cells #[.int .i64 0, .int .i64 0, .string ⟨#[]⟩, .string ⟨#[]⟩] 26)).alloc (Obj.cells #[.int .i64 house, .int .i64 ((xs.length : Int) + 1), .string root, .string ⟨#[]⟩] 26)).cell? ⟨w.heap.size + 1, 2, none⟩ = some (.string root) := by simp [go_sem]
        have p3 : ((w.alloc (Obj.cells #[.int .i64 0, .int .i64 0, .string ⟨#[]⟩, .string ⟨#[]⟩] 26)).alloc (Obj.cells #[.int .i64 house, .int .i64 ((xs.length : Int) + 1), .string root, .string ⟨#[]⟩] 26)).cell? ⟨w.heap.size + 1, 3, none⟩ = some (.string ⟨#[]⟩) := by simp [go_sem]
        have r0 : ((w.alloc (Obj.cells #[.int .i64 0, .int .i64 0, .string ⟨#[]⟩, .string ⟨#[]⟩] 26)).alloc (Obj.cells #[.int .i64 house, .int .i64 ((xs.length : Int) + 1), .string root, .string ⟨#[]⟩] 26)).cell? ⟨w.heap.size, 0, none⟩ = some (.int .i64 0) := by simp [go_sem]
        have r1 : ((w.alloc (Obj.cells #[.int .i64 0, .int .i64 0, .string ⟨#[]⟩, .string ⟨#[]⟩] 26)).alloc (Obj.cells #[.int .i64 house, .int .i64 ((xs.length : Int) + 1), .string root, .string ⟨#[]⟩] 26)).cell? ⟨w.heap.size, 1, none⟩ = some (.int .i64 0) := by simp [go_sem]
        have r2 : ((w.alloc (Obj.cells #[.int .i64 0, .int .i64 0, .string ⟨#[]⟩, .string ⟨#[]⟩] 26)).alloc (Obj.cells #[.int .i64 house, .int .i64 ((xs.length : Int) + 1), .string root, .string ⟨#[]⟩] 26)).cell? ⟨w.heap.size, 2, none⟩ = some (.string ⟨#[]⟩) := by simp [go_sem]
        have r3 : ((w.alloc (Obj.cells #[.int .i64 0, .int .i64 0, .string ⟨#[]⟩, .string ⟨#[]⟩] 26)).alloc (Obj.cells #[.int .i64 house, .int .i64 ((xs.length : Int) + 1), .string root, .string ⟨#[]⟩] 26)).cell? ⟨w.heap.size, 3, none⟩ = some (.string ⟨#[]⟩) := by simp [go_sem]
        have fr : ∀ j, ((w.alloc (Obj.cells #[.int .i64 0, .int .i64 0, .string ⟨#[]⟩, .string ⟨#[]⟩] 26)).alloc (Obj.cells #[.int .i64 house, .int .i64 ((xs.length : Int) + 1), .string root, .string ⟨#[]⟩] 26)).frozen? ⟨w.heap.size, j, none⟩ = false := fun j => by simp [go_sem]
        have x0 : Ext w ((w.alloc (Obj.cells #[.int .i64 0, .int .i64 0, .string ⟨#[]⟩, .string ⟨#[]⟩] 26)).alloc (Obj.cells #[.int .i64 house, .int .i64 ((xs.length : Int) + 1), .string root, .string ⟨#[]⟩] 26)) := ((Ext.refl w).alloc _).alloc _
        have l0 : w.heap.size < ((w.alloc (Obj.cells #[.int .i64 0, .int .i64 0, .string ⟨#[]⟩, .string ⟨#[]⟩] 26)).alloc (Obj.cells #[.int .i64 house, .int .i64 ((xs.length : Int) + 1), .string root, .string ⟨#[]⟩] 26)).heap.size := by rw [World.size_alloc, World.size_alloc]; omega
        have l1 : w.heap.size + 1 < ((w.alloc (Obj.cells #[.int .i64 0, .int .i64 0, .string ⟨#[]⟩, .string ⟨#[]⟩] 26)).alloc (Obj.cells #[.int .i64 house, .int .i64 ((xs.length : Int) + 1), .string root, .string ⟨#[]⟩] 26)).heap.size := by rw [World.size_alloc, World.size_alloc]; omega
        generalize ((w.alloc (Obj.cells #[.int .i64 0, .int .i64 0, .string ⟨#[]⟩, .string ⟨#[]⟩] 26)).alloc (Obj.cells #[.int .i64 house, .int .i64 ((xs.length : Int) + 1), .string root, .string ⟨#[]⟩] 26)) = W at *
        rw [← LL.out] at p3
        refine (spec_ChainOk _ xs house _ (h.ext (by repeat (first | (with_reducible first | exact Ext.refl _ | assumption | apply Ext.alloc | apply Ext.drew | apply Ext.drewN | refine Ext.setCell ?_ ?_ _ | refine Ext.trans ?_ (by assumption)) | (show _ ≤ _; first | omega | (dsimp only; omega) | (simp; done) | (simp; omega))))) hb).mono ?_
        rw [HC.out]
        rintro e w2 ⟨rfl, x2⟩
        have y2 : Ext W w2 := (by repeat (first | (with_reducible first | exact Ext.refl _ | assumption | apply Ext.alloc | apply Ext.drew | apply Ext.drewN | refine Ext.setCell ?_ ?_ _ | refine Ext.trans ?_ (by assumption)) | (show _ ≤ _; first | omega | (dsimp only; omega) | (simp; done) | (simp; omega))))
        replace p0 := (y2.cell _ _ l1).trans p0
        replace p1 := (y2.cell _ _ l1).trans p1
        replace p2 := (y2.cell _ _ l1).trans p2
        replace p3 := (y2.cell _ _ l1).trans p3
        replace r0 := (y2.cell _ _ l0).trans r0
        replace r1 := (y2.cell _ _ l0).trans r1
        replace r2 := (y2.cell _ _ l0).trans r2
        replace r3 := (y2.cell _ _ l0).trans r3
        replace fr := fun j => (y2.frozen _ j l0).trans (fr j)
        replace l1 := Nat.lt_of_lt_of_le l1 y2.size
        replace l0 := Nat.lt_of_lt_of_le l0 y2.size
        go_wp2_with fail
        refine (spec_HeadOk _ _ _ _ _).mono ?_
        rw [HH.out]
        rintro e w3 ⟨rfl, x3⟩
        have y3 : Ext w2 w3 := (by repeat (first | (with_reducible first | exact Ext.refl _ | assumption | apply Ext.alloc | apply Ext.drew | apply Ext.drewN | refine Ext.setCell ?_ ?_ _ | refine Ext.trans ?_ (by assumption)) | (show _ ≤ _; first | omega | (dsimp only; omega) | (simp; done) | (simp; omega))))
        replace p0 := (y3.cell _ _ l1).trans p0
        replace p1 := (y3.cell _ _ l1).trans p1
        replace p2 := (y3.cell _ _ l1).trans p2
        replace p3 := (y3.cell _ _ l1).trans p3
        replace r0 := (y3.cell _ _ l0).trans r0
        replace r1 := (y3.cell _ _ l0).trans r1
        replace r2 := (y3.cell _ _ l0).trans r2
        replace r3 := (y3.cell _ _ l0).trans r3
        replace fr := fun j => (y3.frozen _ j l0).trans (fr j)
        replace l1 := Nat.lt_of_lt_of_le l1 y3.size
        replace l0 := Nat.lt_of_lt_of_le l0 y3.size
        go_wp2
        refine bodyPost_ret (v := .tuple #[.agg #[.int .i64 house, .int .i64 ((xs.length : Int) + 1), .string root, .string (lastH xs)], .bool true]) (by simp [results, Tryz.results101, go_sem, r0, r1, r2, r3]) rfl ⟨by rw [R.out], (by repeat (first | (with_reducible first | exact Ext.refl _ | assumption | apply Ext.alloc | apply Ext.drew | apply Ext.drewN | refine Ext.setCell ?_ ?_ _ | refine Ext.trans ?_ (by assumption)) | (show _ ≤ _; first | omega | (dsimp only; omega) | (simp; done) | (simp; omega))))⟩
  · cases hc : chainOk xs house
    · have R := Lib.hid (nx_no (xs := xs) (house := house) (root := root) (by rw [nxOk, hc]; rfl))
      have HC := Lib.hid hc
      clear hc
      obtain ⟨j, hj⟩ : ∃ j, xs.length = j + 1 := ⟨xs.length - 1, by omega⟩
      have hlt : j < xs.length := by omega
      have hR : lastH xs = hdH2 xs[j] := by rw [lastH, if_neg hn, show xs.length - 1 = j by omega, getD_hd _ _ hlt]
      obtain ⟨-, a1, c1, hv, hc1, hm1, g1⟩ := id h
      injection hv with e1 e2 e3
      subst e1 e3
      rcases g1 with g1 | ⟨b1, o1, rfl, hb1, g1⟩
      · omega
      have e1 : w.cell? ⟨b1, o1 + j * 4, none⟩ = some (.int .i64 xs[j].house) := g1 _ _ (hd_c0 xs _ hlt)
      have e2 : w.cell? ⟨b1, o1 + j * 4 + 1, none⟩ = some (.int .i64 xs[j].epoch) := g1 _ _ (hd_c1 xs _ hlt)
      have e3 : w.cell? ⟨b1, o1 + j * 4 + 2, none⟩ = some (.string xs[j].root) := g1 _ _ (hd_c2 xs _ hlt)
      have e4 : w.cell? ⟨b1, o1 + j * 4 + 3, none⟩ = some (.string xs[j].prev) := g1 _ _ (hd_c3 xs _ hlt)
      generalize xs[j] = z at *
      have LL := Lib.hid hR
      have hgt : (0 : Int) < xs.length := by omega
      have hgn : 0 < xs.length := by omega
      have hw2 : IntKind.i64.wrap ((xs.length : Int) - 1) = (j : Int) := by rw [IntWalk.i64_in _ (by omega)]; omega
      have hj0 : (0 : Int) ≤ (j : Int) := by omega
      have hj1 : (j : Int) < xs.length := by omega
      clear g1 hn hR hj
      go_enter Tryz.func101, Tryz.ntmps101
      go_wp2_with fail
      refine (spec_HeadHash _ _ _ _ _).mono ?_
      rintro e w1 ⟨rfl, x1⟩
      have E_x1 := Old.of x1; (repeat (first | (replace E_x1 := Old.undrew E_x1) | (replace E_x1 := Old.undrewN E_x1))); have c_E_x1 := Old.cell E_x1; have f_E_x1 := Old.frozen E_x1; have z_E_x1 := Old.size E_x1; try simp only [World.size_alloc] at c_E_x1 f_E_x1 z_E_x1; try have l_E_x1 := Nat.lt_of_succ_le z_E_x1; try have m_E_x1 := Nat.lt_of_succ_lt l_E_x1; try have n_E_x1 := Nat.lt_of_succ_lt m_E_x1
      have r0 := c_E_x1 (w.heap.size) 0 (by omega); simp [go_sem] at r0; have r1 := c_E_x1 (w.heap.size) 1 (by omega); simp [go_sem] at r1; have r2 := c_E_x1 (w.heap.size) 2 (by omega); simp [go_sem] at r2; have r3 := c_E_x1 (w.heap.size) 3 (by omega); simp [go_sem] at r3
      have p0 := c_E_x1 (w.heap.size + 1) 0 (by omega); simp [go_sem] at p0; have p1 := c_E_x1 (w.heap.size + 1) 1 (by omega); simp [go_sem] at p1; have p2 := c_E_x1 (w.heap.size + 1) 2 (by omega); simp [go_sem] at p2; have p3 := c_E_x1 (w.heap.size + 1) 3 (by omega); simp [go_sem] at p3
      have xw : Ext w w1 := (by repeat (first | (with_reducible first | exact Ext.refl _ | assumption | apply Ext.alloc | apply Ext.drew | apply Ext.drewN | refine Ext.setCell ?_ ?_ _ | refine Ext.trans ?_ (by assumption)) | (show _ ≤ _; first | omega | (dsimp only; omega) | (simp; done) | (simp; omega))))
      have fr1 : ∀ j, w1.frozen? ⟨w.heap.size, j, none⟩ = false := fun j => by rw [f_E_x1 _ _ (by omega)]; simp [go_sem]
      have fr2 : ∀ j, w1.frozen? ⟨w.heap.size + 1, j, none⟩ = false := fun j => by rw [f_E_x1 _ _ (by omega)]; simp [go_sem]
      have la : w.heap.size < w1.heap.size := by omega
      have lb : w.heap.size + 1 < w1.heap.size := by omega
      clear c_E_x1 f_E_x1
      go_wp2_with fail
      replace p3 : (w1.setCell ⟨w.heap.size + 1, 3, none⟩ (.string (headH z.house z.epoch z.root z.prev))).cell? ⟨w.heap.size + 1, 3, none⟩ = some (.string (lastH xs)) := by rw [LL.out, hdH2]; simp [go_sem, p3]
      replace p0 : (w1.setCell ⟨w.heap.size + 1, 3, none⟩ (.string (headH z.house z.epoch z.root z.prev))).cell? ⟨w.heap.size + 1, 0, none⟩ = some (.int .i64 house) := by simp [go_sem, p0]
      replace p1 : (w1.setCell ⟨w.heap.size + 1, 3, none⟩ (.string (headH z.house z.epoch z.root z.prev))).cell? ⟨w.heap.size + 1, 1, none⟩ = some (.int .i64 ((xs.length : Int) + 1)) := by simp [go_sem, p1]
      replace p2 : (w1.setCell ⟨w.heap.size + 1, 3, none⟩ (.string (headH z.house z.epoch z.root z.prev))).cell? ⟨w.heap.size + 1, 2, none⟩ = some (.string root) := by simp [go_sem, p2]
      replace r0 : (w1.setCell ⟨w.heap.size + 1, 3, none⟩ (.string (headH z.house z.epoch z.root z.prev))).cell? ⟨w.heap.size, 0, none⟩ = some (.int .i64 0) := by simp [go_sem, r0]
      replace r1 : (w1.setCell ⟨w.heap.size + 1, 3, none⟩ (.string (headH z.house z.epoch z.root z.prev))).cell? ⟨w.heap.size, 1, none⟩ = some (.int .i64 0) := by simp [go_sem, r1]
      replace r2 : (w1.setCell ⟨w.heap.size + 1, 3, none⟩ (.string (headH z.house z.epoch z.root z.prev))).cell? ⟨w.heap.size, 2, none⟩ = some (.string ⟨#[]⟩) := by simp [go_sem, r2]
      replace r3 : (w1.setCell ⟨w.heap.size + 1, 3, none⟩ (.string (headH z.house z.epoch z.root z.prev))).cell? ⟨w.heap.size, 3, none⟩ = some (.string ⟨#[]⟩) := by simp [go_sem, r3]
      have fr : ∀ j, (w1.setCell ⟨w.heap.size + 1, 3, none⟩ (.string (headH z.house z.epoch z.root z.prev))).frozen? ⟨w.heap.size, j, none⟩ = false := fun j => by simp [go_sem, fr1]
      have x0 : Ext w (w1.setCell ⟨w.heap.size + 1, 3, none⟩ (.string (headH z.house z.epoch z.root z.prev))) := xw.setCell (by dsimp only; omega) _
      have l0 : w.heap.size < (w1.setCell ⟨w.heap.size + 1, 3, none⟩ (.string (headH z.house z.epoch z.root z.prev))).heap.size := by rw [World.size_setCell]; exact la
      have l1 : w.heap.size + 1 < (w1.setCell ⟨w.heap.size + 1, 3, none⟩ (.string (headH z.house z.epoch z.root z.prev))).heap.size := by rw [World.size_setCell]; exact lb
      generalize (w1.setCell ⟨w.heap.size + 1, 3, none⟩ (.string (headH z.house z.epoch z.root z.prev))) = W at *
      refine (spec_ChainOk _ xs house _ (h.ext (by repeat (first | (with_reducible first | exact Ext.refl _ | assumption | apply Ext.alloc | apply Ext.drew | apply Ext.drewN | refine Ext.setCell ?_ ?_ _ | refine Ext.trans ?_ (by assumption)) | (show _ ≤ _; first | omega | (dsimp only; omega) | (simp; done) | (simp; omega))))) hb).mono ?_
      rw [HC.out]
      rintro e w2 ⟨rfl, x2⟩
      have y2 : Ext W w2 := (by repeat (first | (with_reducible first | exact Ext.refl _ | assumption | apply Ext.alloc | apply Ext.drew | apply Ext.drewN | refine Ext.setCell ?_ ?_ _ | refine Ext.trans ?_ (by assumption)) | (show _ ≤ _; first | omega | (dsimp only; omega) | (simp; done) | (simp; omega))))
      replace p0 := (y2.cell _ _ l1).trans p0
      replace p1 := (y2.cell _ _ l1).trans p1
      replace p2 := (y2.cell _ _ l1).trans p2
      replace p3 := (y2.cell _ _ l1).trans p3
      replace r0 := (y2.cell _ _ l0).trans r0
      replace r1 := (y2.cell _ _ l0).trans r1
      replace r2 := (y2.cell _ _ l0).trans r2
      replace r3 := (y2.cell _ _ l0).trans r3
      replace fr := fun j => (y2.frozen _ j l0).trans (fr j)
      replace l1 := Nat.lt_of_lt_of_le l1 y2.size
      replace l0 := Nat.lt_of_lt_of_le l0 y2.size
      go_wp2
      refine bodyPost_ret (v := .tuple #[.agg #[.int .i64 0, .int .i64 0, .string ⟨#[]⟩, .string ⟨#[]⟩], .bool false]) (by simp [results, Tryz.results101, go_sem, r0, r1, r2, r3]) rfl ⟨by rw [R.out], (by repeat (first | (with_reducible first | exact Ext.refl _ | assumption | apply Ext.alloc | apply Ext.drew | apply Ext.drewN | refine Ext.setCell ?_ ?_ _ | refine Ext.trans ?_ (by assumption)) | (show _ ≤ _; first | omega | (dsimp only; omega) | (simp; done) | (simp; omega))))⟩
    · cases hh : headOk house ((xs.length : Int) + 1) root (lastH xs)
      · have R := Lib.hid (nx_no (xs := xs) (house := house) (root := root) (by rw [nxOk, hc, hh]; rfl))
        have HC := Lib.hid hc
        have HH := Lib.hid hh
        clear hc hh
        obtain ⟨j, hj⟩ : ∃ j, xs.length = j + 1 := ⟨xs.length - 1, by omega⟩
        have hlt : j < xs.length := by omega
        have hR : lastH xs = hdH2 xs[j] := by rw [lastH, if_neg hn, show xs.length - 1 = j by omega, getD_hd _ _ hlt]
        obtain ⟨-, a1, c1, hv, hc1, hm1, g1⟩ := id h
        injection hv with e1 e2 e3
        subst e1 e3
        rcases g1 with g1 | ⟨b1, o1, rfl, hb1, g1⟩
        · omega
        have e1 : w.cell? ⟨b1, o1 + j * 4, none⟩ = some (.int .i64 xs[j].house) := g1 _ _ (hd_c0 xs _ hlt)
        have e2 : w.cell? ⟨b1, o1 + j * 4 + 1, none⟩ = some (.int .i64 xs[j].epoch) := g1 _ _ (hd_c1 xs _ hlt)
        have e3 : w.cell? ⟨b1, o1 + j * 4 + 2, none⟩ = some (.string xs[j].root) := g1 _ _ (hd_c2 xs _ hlt)
        have e4 : w.cell? ⟨b1, o1 + j * 4 + 3, none⟩ = some (.string xs[j].prev) := g1 _ _ (hd_c3 xs _ hlt)
        generalize xs[j] = z at *
        have LL := Lib.hid hR
        have hgt : (0 : Int) < xs.length := by omega
        have hgn : 0 < xs.length := by omega
        have hw2 : IntKind.i64.wrap ((xs.length : Int) - 1) = (j : Int) := by rw [IntWalk.i64_in _ (by omega)]; omega
        have hj0 : (0 : Int) ≤ (j : Int) := by omega
        have hj1 : (j : Int) < xs.length := by omega
        clear g1 hn hR hj
        go_enter Tryz.func101, Tryz.ntmps101
        go_wp2_with fail
        refine (spec_HeadHash _ _ _ _ _).mono ?_
        rintro e w1 ⟨rfl, x1⟩
        have E_x1 := Old.of x1; (repeat (first | (replace E_x1 := Old.undrew E_x1) | (replace E_x1 := Old.undrewN E_x1))); have c_E_x1 := Old.cell E_x1; have f_E_x1 := Old.frozen E_x1; have z_E_x1 := Old.size E_x1; try simp only [World.size_alloc] at c_E_x1 f_E_x1 z_E_x1; try have l_E_x1 := Nat.lt_of_succ_le z_E_x1; try have m_E_x1 := Nat.lt_of_succ_lt l_E_x1; try have n_E_x1 := Nat.lt_of_succ_lt m_E_x1
        have r0 := c_E_x1 (w.heap.size) 0 (by omega); simp [go_sem] at r0; have r1 := c_E_x1 (w.heap.size) 1 (by omega); simp [go_sem] at r1; have r2 := c_E_x1 (w.heap.size) 2 (by omega); simp [go_sem] at r2; have r3 := c_E_x1 (w.heap.size) 3 (by omega); simp [go_sem] at r3
        have p0 := c_E_x1 (w.heap.size + 1) 0 (by omega); simp [go_sem] at p0; have p1 := c_E_x1 (w.heap.size + 1) 1 (by omega); simp [go_sem] at p1; have p2 := c_E_x1 (w.heap.size + 1) 2 (by omega); simp [go_sem] at p2; have p3 := c_E_x1 (w.heap.size + 1) 3 (by omega); simp [go_sem] at p3
        have xw : Ext w w1 := (by repeat (first | (with_reducible first | exact Ext.refl _ | assumption | apply Ext.alloc | apply Ext.drew | apply Ext.drewN | refine Ext.setCell ?_ ?_ _ | refine Ext.trans ?_ (by assumption)) | (show _ ≤ _; first | omega | (dsimp only; omega) | (simp; done) | (simp; omega))))
        have fr1 : ∀ j, w1.frozen? ⟨w.heap.size, j, none⟩ = false := fun j => by rw [f_E_x1 _ _ (by omega)]; simp [go_sem]
        have fr2 : ∀ j, w1.frozen? ⟨w.heap.size + 1, j, none⟩ = false := fun j => by rw [f_E_x1 _ _ (by omega)]; simp [go_sem]
        have la : w.heap.size < w1.heap.size := by omega
        have lb : w.heap.size + 1 < w1.heap.size := by omega
        clear c_E_x1 f_E_x1
        go_wp2_with fail
        replace p3 : (w1.setCell ⟨w.heap.size + 1, 3, none⟩ (.string (headH z.house z.epoch z.root z.prev))).cell? ⟨w.heap.size + 1, 3, none⟩ = some (.string (lastH xs)) := by rw [LL.out, hdH2]; simp [go_sem, p3]
        replace p0 : (w1.setCell ⟨w.heap.size + 1, 3, none⟩ (.string (headH z.house z.epoch z.root z.prev))).cell? ⟨w.heap.size + 1, 0, none⟩ = some (.int .i64 house) := by simp [go_sem, p0]
        replace p1 : (w1.setCell ⟨w.heap.size + 1, 3, none⟩ (.string (headH z.house z.epoch z.root z.prev))).cell? ⟨w.heap.size + 1, 1, none⟩ = some (.int .i64 ((xs.length : Int) + 1)) := by simp [go_sem, p1]
        replace p2 : (w1.setCell ⟨w.heap.size + 1, 3, none⟩ (.string (headH z.house z.epoch z.root z.prev))).cell? ⟨w.heap.size + 1, 2, none⟩ = some (.string root) := by simp [go_sem, p2]
        replace r0 : (w1.setCell ⟨w.heap.size + 1, 3, none⟩ (.string (headH z.house z.epoch z.root z.prev))).cell? ⟨w.heap.size, 0, none⟩ = some (.int .i64 0) := by simp [go_sem, r0]
        replace r1 : (w1.setCell ⟨w.heap.size + 1, 3, none⟩ (.string (headH z.house z.epoch z.root z.prev))).cell? ⟨w.heap.size, 1, none⟩ = some (.int .i64 0) := by simp [go_sem, r1]
        replace r2 : (w1.setCell ⟨w.heap.size + 1, 3, none⟩ (.string (headH z.house z.epoch z.root z.prev))).cell? ⟨w.heap.size, 2, none⟩ = some (.string ⟨#[]⟩) := by simp [go_sem, r2]
        replace r3 : (w1.setCell ⟨w.heap.size + 1, 3, none⟩ (.string (headH z.house z.epoch z.root z.prev))).cell? ⟨w.heap.size, 3, none⟩ = some (.string ⟨#[]⟩) := by simp [go_sem, r3]
        have fr : ∀ j, (w1.setCell ⟨w.heap.size + 1, 3, none⟩ (.string (headH z.house z.epoch z.root z.prev))).frozen? ⟨w.heap.size, j, none⟩ = false := fun j => by simp [go_sem, fr1]
        have x0 : Ext w (w1.setCell ⟨w.heap.size + 1, 3, none⟩ (.string (headH z.house z.epoch z.root z.prev))) := xw.setCell (by dsimp only; omega) _
        have l0 : w.heap.size < (w1.setCell ⟨w.heap.size + 1, 3, none⟩ (.string (headH z.house z.epoch z.root z.prev))).heap.size := by rw [World.size_setCell]; exact la
        have l1 : w.heap.size + 1 < (w1.setCell ⟨w.heap.size + 1, 3, none⟩ (.string (headH z.house z.epoch z.root z.prev))).heap.size := by rw [World.size_setCell]; exact lb
        generalize (w1.setCell ⟨w.heap.size + 1, 3, none⟩ (.string (headH z.house z.epoch z.root z.prev))) = W at *
        refine (spec_ChainOk _ xs house _ (h.ext (by repeat (first | (with_reducible first | exact Ext.refl _ | assumption | apply Ext.alloc | apply Ext.drew | apply Ext.drewN | refine Ext.setCell ?_ ?_ _ | refine Ext.trans ?_ (by assumption)) | (show _ ≤ _; first | omega | (dsimp only; omega) | (simp; done) | (simp; omega))))) hb).mono ?_
        rw [HC.out]
        rintro e w2 ⟨rfl, x2⟩
        have y2 : Ext W w2 := (by repeat (first | (with_reducible first | exact Ext.refl _ | assumption | apply Ext.alloc | apply Ext.drew | apply Ext.drewN | refine Ext.setCell ?_ ?_ _ | refine Ext.trans ?_ (by assumption)) | (show _ ≤ _; first | omega | (dsimp only; omega) | (simp; done) | (simp; omega))))
        replace p0 := (y2.cell _ _ l1).trans p0
        replace p1 := (y2.cell _ _ l1).trans p1
        replace p2 := (y2.cell _ _ l1).trans p2
        replace p3 := (y2.cell _ _ l1).trans p3
        replace r0 := (y2.cell _ _ l0).trans r0
        replace r1 := (y2.cell _ _ l0).trans r1
        replace r2 := (y2.cell _ _ l0).trans r2
        replace r3 := (y2.cell _ _ l0).trans r3
        replace fr := fun j => (y2.frozen _ j l0).trans (fr j)
        replace l1 := Nat.lt_of_lt_of_le l1 y2.size
        replace l0 := Nat.lt_of_lt_of_le l0 y2.size
        go_wp2_with fail
        refine (spec_HeadOk _ _ _ _ _).mono ?_
        rw [HH.out]
        rintro e w3 ⟨rfl, x3⟩
        have y3 : Ext w2 w3 := (by repeat (first | (with_reducible first | exact Ext.refl _ | assumption | apply Ext.alloc | apply Ext.drew | apply Ext.drewN | refine Ext.setCell ?_ ?_ _ | refine Ext.trans ?_ (by assumption)) | (show _ ≤ _; first | omega | (dsimp only; omega) | (simp; done) | (simp; omega))))
        replace p0 := (y3.cell _ _ l1).trans p0
        replace p1 := (y3.cell _ _ l1).trans p1
        replace p2 := (y3.cell _ _ l1).trans p2
        replace p3 := (y3.cell _ _ l1).trans p3
        replace r0 := (y3.cell _ _ l0).trans r0
        replace r1 := (y3.cell _ _ l0).trans r1
        replace r2 := (y3.cell _ _ l0).trans r2
        replace r3 := (y3.cell _ _ l0).trans r3
        replace fr := fun j => (y3.frozen _ j l0).trans (fr j)
        replace l1 := Nat.lt_of_lt_of_le l1 y3.size
        replace l0 := Nat.lt_of_lt_of_le l0 y3.size
        go_wp2
        refine bodyPost_ret (v := .tuple #[.agg #[.int .i64 0, .int .i64 0, .string ⟨#[]⟩, .string ⟨#[]⟩], .bool false]) (by simp [results, Tryz.results101, go_sem, r0, r1, r2, r3]) rfl ⟨by rw [R.out], (by repeat (first | (with_reducible first | exact Ext.refl _ | assumption | apply Ext.alloc | apply Ext.drew | apply Ext.drewN | refine Ext.setCell ?_ ?_ _ | refine Ext.trans ?_ (by assumption)) | (show _ ≤ _; first | omega | (dsimp only; omega) | (simp; done) | (simp; omega))))⟩
      · have R := Lib.hid (nx_yes (xs := xs) (house := house) (root := root) (by rw [nxOk, hc, hh]; rfl))
        have HC := Lib.hid hc
        have HH := Lib.hid hh
        clear hc hh
        obtain ⟨j, hj⟩ : ∃ j, xs.length = j + 1 := ⟨xs.length - 1, by omega⟩
        have hlt : j < xs.length := by omega
        have hR : lastH xs = hdH2 xs[j] := by rw [lastH, if_neg hn, show xs.length - 1 = j by omega, getD_hd _ _ hlt]
        obtain ⟨-, a1, c1, hv, hc1, hm1, g1⟩ := id h
        injection hv with e1 e2 e3
        subst e1 e3
        rcases g1 with g1 | ⟨b1, o1, rfl, hb1, g1⟩
        · omega
        have e1 : w.cell? ⟨b1, o1 + j * 4, none⟩ = some (.int .i64 xs[j].house) := g1 _ _ (hd_c0 xs _ hlt)
        have e2 : w.cell? ⟨b1, o1 + j * 4 + 1, none⟩ = some (.int .i64 xs[j].epoch) := g1 _ _ (hd_c1 xs _ hlt)
        have e3 : w.cell? ⟨b1, o1 + j * 4 + 2, none⟩ = some (.string xs[j].root) := g1 _ _ (hd_c2 xs _ hlt)
        have e4 : w.cell? ⟨b1, o1 + j * 4 + 3, none⟩ = some (.string xs[j].prev) := g1 _ _ (hd_c3 xs _ hlt)
        generalize xs[j] = z at *
        have LL := Lib.hid hR
        have hgt : (0 : Int) < xs.length := by omega
        have hgn : 0 < xs.length := by omega
        have hw2 : IntKind.i64.wrap ((xs.length : Int) - 1) = (j : Int) := by rw [IntWalk.i64_in _ (by omega)]; omega
        have hj0 : (0 : Int) ≤ (j : Int) := by omega
        have hj1 : (j : Int) < xs.length := by omega
        clear g1 hn hR hj
        go_enter Tryz.func101, Tryz.ntmps101
        go_wp2_with fail
        refine (spec_HeadHash _ _ _ _ _).mono ?_
        rintro e w1 ⟨rfl, x1⟩
        have E_x1 := Old.of x1; (repeat (first | (replace E_x1 := Old.undrew E_x1) | (replace E_x1 := Old.undrewN E_x1))); have c_E_x1 := Old.cell E_x1; have f_E_x1 := Old.frozen E_x1; have z_E_x1 := Old.size E_x1; try simp only [World.size_alloc] at c_E_x1 f_E_x1 z_E_x1; try have l_E_x1 := Nat.lt_of_succ_le z_E_x1; try have m_E_x1 := Nat.lt_of_succ_lt l_E_x1; try have n_E_x1 := Nat.lt_of_succ_lt m_E_x1
        have r0 := c_E_x1 (w.heap.size) 0 (by omega); simp [go_sem] at r0; have r1 := c_E_x1 (w.heap.size) 1 (by omega); simp [go_sem] at r1; have r2 := c_E_x1 (w.heap.size) 2 (by omega); simp [go_sem] at r2; have r3 := c_E_x1 (w.heap.size) 3 (by omega); simp [go_sem] at r3
        have p0 := c_E_x1 (w.heap.size + 1) 0 (by omega); simp [go_sem] at p0; have p1 := c_E_x1 (w.heap.size + 1) 1 (by omega); simp [go_sem] at p1; have p2 := c_E_x1 (w.heap.size + 1) 2 (by omega); simp [go_sem] at p2; have p3 := c_E_x1 (w.heap.size + 1) 3 (by omega); simp [go_sem] at p3
        have xw : Ext w w1 := (by repeat (first | (with_reducible first | exact Ext.refl _ | assumption | apply Ext.alloc | apply Ext.drew | apply Ext.drewN | refine Ext.setCell ?_ ?_ _ | refine Ext.trans ?_ (by assumption)) | (show _ ≤ _; first | omega | (dsimp only; omega) | (simp; done) | (simp; omega))))
        have fr1 : ∀ j, w1.frozen? ⟨w.heap.size, j, none⟩ = false := fun j => by rw [f_E_x1 _ _ (by omega)]; simp [go_sem]
        have fr2 : ∀ j, w1.frozen? ⟨w.heap.size + 1, j, none⟩ = false := fun j => by rw [f_E_x1 _ _ (by omega)]; simp [go_sem]
        have la : w.heap.size < w1.heap.size := by omega
        have lb : w.heap.size + 1 < w1.heap.size := by omega
        clear c_E_x1 f_E_x1
        go_wp2_with fail
        replace p3 : (w1.setCell ⟨w.heap.size + 1, 3, none⟩ (.string (headH z.house z.epoch z.root z.prev))).cell? ⟨w.heap.size + 1, 3, none⟩ = some (.string (lastH xs)) := by rw [LL.out, hdH2]; simp [go_sem, p3]
        replace p0 : (w1.setCell ⟨w.heap.size + 1, 3, none⟩ (.string (headH z.house z.epoch z.root z.prev))).cell? ⟨w.heap.size + 1, 0, none⟩ = some (.int .i64 house) := by simp [go_sem, p0]
        replace p1 : (w1.setCell ⟨w.heap.size + 1, 3, none⟩ (.string (headH z.house z.epoch z.root z.prev))).cell? ⟨w.heap.size + 1, 1, none⟩ = some (.int .i64 ((xs.length : Int) + 1)) := by simp [go_sem, p1]
        replace p2 : (w1.setCell ⟨w.heap.size + 1, 3, none⟩ (.string (headH z.house z.epoch z.root z.prev))).cell? ⟨w.heap.size + 1, 2, none⟩ = some (.string root) := by simp [go_sem, p2]
        replace r0 : (w1.setCell ⟨w.heap.size + 1, 3, none⟩ (.string (headH z.house z.epoch z.root z.prev))).cell? ⟨w.heap.size, 0, none⟩ = some (.int .i64 0) := by simp [go_sem, r0]
        replace r1 : (w1.setCell ⟨w.heap.size + 1, 3, none⟩ (.string (headH z.house z.epoch z.root z.prev))).cell? ⟨w.heap.size, 1, none⟩ = some (.int .i64 0) := by simp [go_sem, r1]
        replace r2 : (w1.setCell ⟨w.heap.size + 1, 3, none⟩ (.string (headH z.house z.epoch z.root z.prev))).cell? ⟨w.heap.size, 2, none⟩ = some (.string ⟨#[]⟩) := by simp [go_sem, r2]
        replace r3 : (w1.setCell ⟨w.heap.size + 1, 3, none⟩ (.string (headH z.house z.epoch z.root z.prev))).cell? ⟨w.heap.size, 3, none⟩ = some (.string ⟨#[]⟩) := by simp [go_sem, r3]
        have fr : ∀ j, (w1.setCell ⟨w.heap.size + 1, 3, none⟩ (.string (headH z.house z.epoch z.root z.prev))).frozen? ⟨w.heap.size, j, none⟩ = false := fun j => by simp [go_sem, fr1]
        have x0 : Ext w (w1.setCell ⟨w.heap.size + 1, 3, none⟩ (.string (headH z.house z.epoch z.root z.prev))) := xw.setCell (by dsimp only; omega) _
        have l0 : w.heap.size < (w1.setCell ⟨w.heap.size + 1, 3, none⟩ (.string (headH z.house z.epoch z.root z.prev))).heap.size := by rw [World.size_setCell]; exact la
        have l1 : w.heap.size + 1 < (w1.setCell ⟨w.heap.size + 1, 3, none⟩ (.string (headH z.house z.epoch z.root z.prev))).heap.size := by rw [World.size_setCell]; exact lb
        generalize (w1.setCell ⟨w.heap.size + 1, 3, none⟩ (.string (headH z.house z.epoch z.root z.prev))) = W at *
        refine (spec_ChainOk _ xs house _ (h.ext (by repeat (first | (with_reducible first | exact Ext.refl _ | assumption | apply Ext.alloc | apply Ext.drew | apply Ext.drewN | refine Ext.setCell ?_ ?_ _ | refine Ext.trans ?_ (by assumption)) | (show _ ≤ _; first | omega | (dsimp only; omega) | (simp; done) | (simp; omega))))) hb).mono ?_
        rw [HC.out]
        rintro e w2 ⟨rfl, x2⟩
        have y2 : Ext W w2 := (by repeat (first | (with_reducible first | exact Ext.refl _ | assumption | apply Ext.alloc | apply Ext.drew | apply Ext.drewN | refine Ext.setCell ?_ ?_ _ | refine Ext.trans ?_ (by assumption)) | (show _ ≤ _; first | omega | (dsimp only; omega) | (simp; done) | (simp; omega))))
        replace p0 := (y2.cell _ _ l1).trans p0
        replace p1 := (y2.cell _ _ l1).trans p1
        replace p2 := (y2.cell _ _ l1).trans p2
        replace p3 := (y2.cell _ _ l1).trans p3
        replace r0 := (y2.cell _ _ l0).trans r0
        replace r1 := (y2.cell _ _ l0).trans r1
        replace r2 := (y2.cell _ _ l0).trans r2
        replace r3 := (y2.cell _ _ l0).trans r3
        replace fr := fun j => (y2.frozen _ j l0).trans (fr j)
        replace l1 := Nat.lt_of_lt_of_le l1 y2.size
        replace l0 := Nat.lt_of_lt_of_le l0 y2.size
        go_wp2_with fail
        refine (spec_HeadOk _ _ _ _ _).mono ?_
        rw [HH.out]
        rintro e w3 ⟨rfl, x3⟩
        have y3 : Ext w2 w3 := (by repeat (first | (with_reducible first | exact Ext.refl _ | assumption | apply Ext.alloc | apply Ext.drew | apply Ext.drewN | refine Ext.setCell ?_ ?_ _ | refine Ext.trans ?_ (by assumption)) | (show _ ≤ _; first | omega | (dsimp only; omega) | (simp; done) | (simp; omega))))
        replace p0 := (y3.cell _ _ l1).trans p0
        replace p1 := (y3.cell _ _ l1).trans p1
        replace p2 := (y3.cell _ _ l1).trans p2
        replace p3 := (y3.cell _ _ l1).trans p3
        replace r0 := (y3.cell _ _ l0).trans r0
        replace r1 := (y3.cell _ _ l0).trans r1
        replace r2 := (y3.cell _ _ l0).trans r2
        replace r3 := (y3.cell _ _ l0).trans r3
        replace fr := fun j => (y3.frozen _ j l0).trans (fr j)
        replace l1 := Nat.lt_of_lt_of_le l1 y3.size
        replace l0 := Nat.lt_of_lt_of_le l0 y3.size
        go_wp2
        refine bodyPost_ret (v := .tuple #[.agg #[.int .i64 house, .int .i64 ((xs.length : Int) + 1), .string root, .string (lastH xs)], .bool true]) (by simp [results, Tryz.results101, go_sem, r0, r1, r2, r3]) rfl ⟨by rw [R.out], (by repeat (first | (with_reducible first | exact Ext.refl _ | assumption | apply Ext.alloc | apply Ext.drew | apply Ext.drewN | refine Ext.setCell ?_ ?_ _ | refine Ext.trans ?_ (by assumption)) | (show _ ≤ _; first | omega | (dsimp only; omega) | (simp; done) | (simp; omega))))⟩

end Go.Proofs.YtkphipgfcbckcaaGreatDoor

namespace Go.Proofs.YtkphipgfcbckcaaGreatDoor
open Go.RowKit

theorem good_snoc {xs : List Hd} {z : Hd} {house : Int} {k : Nat} (hk : k < xs.length) : goodHd (xs ++ [z]) house k = goodHd xs house k := by
  unfold goodHd
  rw [List.getElem?_append_left hk]
  have e : prevT (xs ++ [z]) k = prevT xs k := by unfold prevT; rw [List.take_append_of_le_length (by omega)]
  rw [e]
theorem chain_snoc {xs : List Hd} {house : Int} {root : ByteArray} (h : chainOk xs house = true) (hh : headOk house ((xs.length : Int) + 1) root (lastH xs) = true) : chainOk (xs ++ [⟨house, (xs.length : Int) + 1, root, lastH xs⟩]) house = true := by
  rw [chainOk, List.all_eq_true] at h ⊢
  intro k hk
  rw [List.mem_range, List.length_append, List.length_singleton] at hk
  by_cases hlt : k < xs.length
  · rw [good_snoc hlt]
    exact h k (List.mem_range.2 hlt)
  · obtain rfl : k = xs.length := by omega
    unfold goodHd
    rw [List.getElem?_append_right (Nat.le_refl _), Nat.sub_self]
    have e : prevT (xs ++ [⟨house, (xs.length : Int) + 1, root, lastH xs⟩]) xs.length = lastH xs := by unfold prevT; rw [List.take_left]
    simp only [List.getElem?_cons_zero, e, hh]
    simp
theorem hd_one (l : Hd) : ∀ u ∈ l.cells, u.oneCell' = true := by
  intro u hu
  simp [Hd.cells] at hu
  rcases hu with rfl | rfl | rfl | rfl <;> rfl
theorem hds_snoc (xs : List Hd) (l : Hd) : (xs ++ [l]).flatMap Hd.cells = xs.flatMap Hd.cells ++ l.cells := by simp
set_option maxRecDepth 100000 in
set_option maxHeartbeats 1600000 in
theorem spec_l13Chain (b : Nat) (w : World) (h : Cur w b) :
    Calls Tryz.prog 84 #[.pointer (some ⟨b, 0, none⟩)] w fun e w' => ∃ (xs : List Hd) (g c : Nat) (house : Int), e = .returned (.tuple #[.slice (some ⟨g, 0, none⟩) xs.length c, .int .i64 house]) ∧ (0 ≤ house ∧ house < 3) ∧ xs.length ≤ 4 ∧ chainOk xs house = true ∧ OwnHds w' w.heap.size (.slice (some ⟨g, 0, none⟩) xs.length c) xs ∧ Cur w' b ∧ Mut b w w' := by
  obtain ⟨i0, hi, hz0, hz1, hz2⟩ := info_parts infoHead
  have hb := h.lt
  go_enter Tryz.func84, Tryz.ntmps84
  go_wp2_with fail
  refine (spec_l01Below b 3 _ h (by omega)).mono ?_
  rintro e w1 ⟨house, rfl, hhouse, C1, M1⟩
  have hs1 := M1.size
  go_wp2
  go_loopw [5, 6] (fun v i wr => ∃ (k : Nat) (xs : List Hd) (g c : Nat), i = .int .i64 k ∧ k ≤ 4 ∧ xs.length ≤ k ∧ v = .slice (some ⟨g, 0, none⟩) xs.length c ∧ chainOk xs house = true ∧ OwnHds wr w.heap.size (.slice (some ⟨g, 0, none⟩) xs.length c) xs ∧ Cur wr b ∧ Mut b w wr) (fun _ i _ => 4 - (intOf i).toNat)
  case atStart => exact ⟨0, [], _, _, rfl, by omega, Nat.le_refl _, rfl, rfl, World.ownsRow_lit w1 #[] 0 hs1 (Nat.zero_le _) rfl, C1.ext (by repeat (first | (with_reducible first | exact Ext.refl _ | assumption | apply Ext.alloc | apply Ext.drew | apply Ext.drewN | refine Ext.setCell ?_ ?_ _ | refine Ext.trans ?_ (by assumption)) | (show _ ≤ _; first | omega | (dsimp only; omega) | (simp; done) | (simp; omega)))), M1.trans (Mut.of_ext (by repeat (first | (with_reducible first | exact Ext.refl _ | assumption | apply Ext.alloc | apply Ext.drew | apply Ext.drewN | refine Ext.setCell ?_ ?_ _ | refine Ext.trans ?_ (by assumption)) | (show _ ≤ _; first | omega | (dsimp only; omega) | (simp; done) | (simp; omega)))))⟩
  case round =>
    obtain ⟨k, xs, g, c, rfl, hk4, hxk, rfl, hch, hown, hc, hm⟩ := hrel
    have hsz := hm.size
    have HO := Lib.hid hown
    have HCH := Lib.hid hch
    clear hown hch
    go_wp2_with fail
    refine (spec_l01Below b 5 _ hc (by omega)).mono ?_
    rintro e w2 ⟨y, rfl, hy, C2, M2⟩
    have M2' := hm.trans M2
    have O2 := Lib.hid (own_grown HO.out M2 (fun k hk => by injection hk with hk; omega))
    by_cases hlt : (k : Int) < y
    · go_wp2_with fail
      refine (spec_l13Root b _ C2).mono ?_
      rintro e w3 ⟨root, rfl, hroot, C3, M3⟩
      have M3' := M2'.trans M3
      have O3 := Lib.hid (own_grown O2.out M3 (fun k hk => by injection hk with hk; omega))
      go_wp2_with fail
      refine (spec_NextHead _ xs house root _ (Row.of_owns O3.out) (by omega)).mono ?_
      rintro e w4 ⟨rfl, x4⟩
      have C4 := C3.ext x4
      have M4' := M3'.trans (Mut.of_ext x4)
      have O4 := Lib.hid (own_ext O3.out x4)
      have hs4 := M4'.size
      cases hn : nxOk xs house root
      · rw [nx_no hn]
        clear hn
        go_wp2
        go_roundw
        case rel => exact ⟨k + 1, xs, g, c, by go_num, by omega, by omega, rfl, HCH.out, own_ext O4.out (by repeat (first | (with_reducible first | exact Ext.refl _ | assumption | apply Ext.alloc | apply Ext.drew | apply Ext.drewN | refine Ext.setCell ?_ ?_ _ | refine Ext.trans ?_ (by assumption)) | (show _ ≤ _; first | omega | (dsimp only; omega) | (simp; done) | (simp; omega)))), C4.ext (by repeat (first | (with_reducible first | exact Ext.refl _ | assumption | apply Ext.alloc | apply Ext.drew | apply Ext.drewN | refine Ext.setCell ?_ ?_ _ | refine Ext.trans ?_ (by assumption)) | (show _ ≤ _; first | omega | (dsimp only; omega) | (simp; done) | (simp; omega)))), M4'.trans (Mut.of_ext (by repeat (first | (with_reducible first | exact Ext.refl _ | assumption | apply Ext.alloc | apply Ext.drew | apply Ext.drewN | refine Ext.setCell ?_ ?_ _ | refine Ext.trans ?_ (by assumption)) | (show _ ≤ _; first | omega | (dsimp only; omega) | (simp; done) | (simp; omega)))))⟩
        case measure => simp [intOf]; omega
      · rw [nx_yes hn]
        have hn2 : headOk house ((xs.length : Int) + 1) root (lastH xs) = true := by
          rw [nxOk, Bool.and_eq_true] at hn
          exact hn.2
        have HS := Lib.hid (chain_snoc HCH.out hn2)
        have HF := Lib.hid (hds_snoc xs ⟨house, (xs.length : Int) + 1, root, lastH xs⟩)
        clear hn hn2
        generalize lastH xs = prev at *
        go_wp2_with (at_builtin; refine wpList_append_own _ rfl (.tmp 27) (.tmp 29) 78 rfl w.heap.size 26 i0 _ 4 48 Tryz.underlying78 hi hz0 hz1 hz2 rfl (by decide) _ _ _ rfl ((O4.out.alloc _).alloc _) ⟨w4.heap.size + 1, 0, none⟩ 1 1 [.int .i64 house, .int .i64 ((xs.length : Int) + 1), .string root, .string prev] rfl rfl ?c1 ?c2 ?c3 ?c4 ?c5 ?_)
        case c1 => exact World.news_of_block (by simpa [World.size_alloc] using heap_alloc_new (w4.alloc (Obj.cells #[.int .i64 house, .int .i64 ((xs.length : Int) + 1), .string root, .string prev] 26)) (Obj.cells #[.int .i64 house, .int .i64 ((xs.length : Int) + 1), .string root, .string prev] 26))
        case c2 => exact hd_one ⟨house, (xs.length : Int) + 1, root, prev⟩
        case c3 => unfold maxLen; omega
        case c4 => omega
        case c5 => simp; omega
        intro v' w5 own5 hgrow _
        obtain ⟨g', c', rfl⟩ := own_form own5 (by omega)
        have O5 := Lib.hid own5
        have M5 : Mut b w w5 := ((M4'.alloc _).alloc _).grown hgrow (fun k hk => (own_lt O4.out k hk).1)
        have C5 : Cur w5 b := ((C4.ext ((Ext.refl _).alloc _)).ext ((Ext.refl _).alloc _)).grown hgrow (fun k hk => by have := (own_lt O4.out k hk).1; omega)
        clear own5 hgrow
        go_wp2
        go_roundw
        case rel => exact ⟨k + 1, xs ++ [⟨house, (xs.length : Int) + 1, root, prev⟩], g', c', by go_num, by omega, by simp; omega, by simp, HS.out, by unfold OwnHds; rw [HF.out, List.length_append]; exact O5.out, C5, M5⟩
        case measure => simp [intOf]; omega
    · go_wp2
      refine bodyPost_ret (v := .tuple #[.slice (some ⟨g, 0, none⟩) xs.length c, .int .i64 house]) (by simp [results, Tryz.results84, go_sem]) rfl ⟨xs, g, c, house, rfl, hhouse, by omega, HCH.out, O2.out, C2, M2'⟩
def HdFit (l : Hd) : Prop := l.root.size ≤ 32 ∧ l.prev.size ≤ 32
theorem chain_fit {xs : List Hd} {house : Int} (h : chainOk xs house = true) : ∀ l ∈ xs, HdFit l := by
  intro l hl
  obtain ⟨k, hk, rfl⟩ := List.getElem_of_mem hl
  rw [chainOk, List.all_eq_true] at h
  have h2 := h k (List.mem_range.2 hk)
  rw [good_eq hk, Bool.and_eq_true] at h2
  obtain ⟨-, -, h3, h4, -⟩ := headOk_true h2.1
  exact ⟨by omega, by omega⟩
theorem hd_put (u : Value) (l' : Hd) (j : Nat) (hj : j < 4) : ∀ (xs : List Hd) (i : Nat) (hi : i < xs.length), (xs[i].cells.set j u = l'.cells) → (xs.flatMap Hd.cells).set (i * 4 + j) u = (xs.set i l').flatMap Hd.cells
  | [], i, h, _ => by simp at h
  | x :: t, 0, _, e => by
    simp only [List.getElem_cons_zero] at e
    rw [List.set_cons_zero, List.flatMap_cons, List.flatMap_cons, Nat.zero_mul, Nat.zero_add, List.set_append_left _ _ (by rw [Hd.cells_len]; exact hj), e]
  | x :: t, i + 1, h, e => by
    have ih := hd_put u l' j hj t i (by simpa using h) (by simpa using e)
    rw [List.set_cons_succ, List.flatMap_cons, List.flatMap_cons, List.set_append_right _ _ (by rw [Hd.cells_len]; omega), Hd.cells_len, show (i + 1) * 4 + j - 4 = i * 4 + j by omega, ih]
theorem fit_set {xs : List Hd} (h : ∀ l ∈ xs, HdFit l) (i : Nat) {l' : Hd} (hl : HdFit l') : ∀ l ∈ xs.set i l', HdFit l := by
  intro l hm
  rcases List.mem_or_eq_of_mem_set hm with hm | rfl
  · exact h l hm
  · exact hl
end Go.Proofs.YtkphipgfcbckcaaGreatDoor
namespace Go.Proofs.YtkphipgfcbckcaaGreatDoor
open Go.RowKit

theorem hds_ones (xs : List Hd) : ∀ u ∈ xs.flatMap Hd.cells, u.oneCell' = true := by
  intro u hu
  rw [List.mem_flatMap] at hu
  obtain ⟨l, -, hl⟩ := hu
  exact hd_one l u hl
set_option maxRecDepth 100000 in
set_option maxHeartbeats 1600000 in
theorem spec_l13Any (b : Nat) (w : World) (h : Cur w b) :
    Calls Tryz.prog 49 #[.pointer (some ⟨b, 0, none⟩)] w fun e w' => ∃ (ys : List Hd) (g c : Nat) (house : Int), e = .returned (.tuple #[.slice (some ⟨g, 0, none⟩) ys.length c, .int .i64 house]) ∧ (∀ l ∈ ys, HdFit l) ∧ ys.length ≤ 4 ∧ (0 ≤ house ∧ house < 3) ∧ OwnHds w' w.heap.size (.slice (some ⟨g, 0, none⟩) ys.length c) ys ∧ Cur w' b ∧ Mut b w w' := by
  obtain ⟨i0, hi, hz0, hz1, hz2⟩ := info_parts infoHead
  have hb := h.lt
  go_enter Tryz.func49, Tryz.ntmps49
  go_wp2_with fail
  refine (spec_l01Below b 10 _ h (by omega)).mono ?_
  rintro e w1 ⟨k, rfl, hk, C1, M1⟩
  go_wp2_with fail
  refine (spec_l01Below b 60 _ C1 (by omega)).mono ?_
  rintro e w2 ⟨x, rfl, hx, C2, M2⟩
  have M2' := M1.trans M2
  have hs2 := M2'.size
  go_wp2_with fail
  refine (spec_l13Chain b _ C2).mono ?_
  rintro e w3 ⟨xs, g, c, house, rfl, hhouse, h4, hch, hown, C3, M3⟩
  have M3' := M2'.trans M3
  have hs3 := M3'.size
  have HF := Lib.hid (chain_fit hch)
  have O3 := Lib.hid hown
  clear hch hown
  have OL := World.ownsRow_lit (e := 26) (size := 4) w3 #[] 0 hs3 (Nat.zero_le _) rfl
  go_wp2_with (at_builtin; refine wpList_append_own _ rfl (.tmp 19) (.tmp 20) 78 rfl w.heap.size 26 i0 _ 4 48 Tryz.underlying78 hi hz0 hz1 hz2 rfl (by decide) _ _ _ rfl OL ⟨g, 0, none⟩ xs.length c (xs.flatMap Hd.cells) rfl (flat_length Hd.cells_len xs) ?c1 (hds_ones xs) ?c3 ?c4 ?c5 ?_)
  case c1 =>
    intro j u hj
    have hjl : j < (xs.flatMap Hd.cells).length := (List.getElem?_eq_some_iff.1 hj).1
    rw [flat_length Hd.cells_len] at hjl
    have e := (O3.out.alloc (Obj.cells #[] 26)).cellAt j hjl
    rw [hj] at e
    rw [show (⟨g, 0, none⟩ : Addr).add j = ⟨g, 0 + j, none⟩ from by unfold Addr.add; split <;> simp_all, Nat.zero_add]
    exact e
  case c3 => unfold maxLen; omega
  case c4 => omega
  case c5 => simp; omega
  intro v' w4 own4 hgrow hiff
  obtain ⟨g4, c4, rfl⟩ : ∃ g4 c4, v' = .slice (some ⟨g4, 0, none⟩) xs.length c4 := by
    rcases own4.2 with ⟨hn, -⟩ | ⟨g4, c4, -, hv, -⟩
    · exact absurd hn hiff
    · exact ⟨g4, c4, hv⟩
  have M4 : Mut b w w4 := (M3'.alloc _).grown hgrow (fun k hk => (own_lt OL k hk).1)
  have C4 : Cur w4 b := (C3.ext ((Ext.refl _).alloc _)).grown hgrow (fun k hk => by have := (own_lt OL k hk).1; omega)
  have O4 := Lib.hid own4
  clear own4 hgrow hiff OL O3 M3' M2'
  by_cases h0 : xs.length = 0
  · have hgt : ¬ (0 : Int) < xs.length := by omega
    clear h0
    go_wp2
    refine bodyPost_ret (v := .tuple #[.slice (some ⟨g4, 0, none⟩) xs.length c4, .int .i64 house]) (by simp [results, Tryz.results49, go_sem]) rfl ⟨xs, g4, c4, house, by first | rfl | simp, HF.out, by first | exact h4 | (simp; omega), hhouse, O4.out, C4, M4⟩
  · have hgt : (0 : Int) < xs.length := by omega
    have hne : (xs.length : Int) ≠ 0 := by omega
    obtain ⟨i, hi⟩ : ∃ i : Nat, x % (xs.length : Int) = i := ⟨(x % (xs.length : Int)).toNat, by have := Int.emod_nonneg x hne; omega⟩
    have hil : i < xs.length := by have := Int.emod_lt_of_pos x hgt; omega
    have hilt := hil
    have hil0 : (0 : Int) ≤ i := by omega
    have hil1 : (i : Int) < xs.length := by omega
    have hg4 : w.heap.size ≤ g4 := (own_lt O4.out g4 rfl).1
    obtain ⟨n20, h20⟩ : ∃ n : Nat, x % 20 = n := ⟨(x % 20).toNat, by omega⟩
    rcases (show k = 0 ∨ k = 1 ∨ k = 2 ∨ k = 3 ∨ (4 ≤ k) by omega) with hk | hk | hk | hk | hk
    · obtain rfl : k = 0 := hk
      have e2 : w4.cell? ⟨g4, i * 4 + 1, none⟩ = some (.int .i64 xs[i].epoch) := by
        rw [O4.out.cellAt (i * 4 + 1) (by omega)]
        exact hd_c1 xs i hilt
      have e3 : w4.frozen? ⟨g4, i * 4 + 1, none⟩ = false := O4.out.frozenAt _
      have O5 := O4.out
      have C5 := C4
      have M5 := M4
      have S := O5.stored (i * 4 + 1) (.int .i64 (x % 7))
      have HPE := hd_put (.int .i64 (x % 7)) ⟨xs[i].house, x % 7, xs[i].root, xs[i].prev⟩ 1 (by omega) xs i hilt rfl
      (try rw [Nat.add_zero] at HPE)
      rw [HPE] at S
      have OS := Lib.hid S.1
      have GS := S.2
      have MS := M5.grown GS (fun k hk => by have e : g4 = k := (by injection hk); omega)
      have CS := C5.grown GS (fun k hk => by have e : g4 = k := (by injection hk); omega)
      have FS := fit_set HF.out i (l' := ⟨xs[i].house, x % 7, xs[i].root, xs[i].prev⟩) ⟨(HF.out _ (List.getElem_mem hilt)).1, (HF.out _ (List.getElem_mem hilt)).2⟩
      clear S GS O5
      go_wp2
      refine bodyPost_ret (v := .tuple #[.slice (some ⟨g4, 0, none⟩) xs.length c4, .int .i64 house]) (by simp [results, Tryz.results49, go_sem]) rfl ⟨xs.set i ⟨xs[i].house, x % 7, xs[i].root, xs[i].prev⟩, g4, c4, house, by first | rfl | simp, FS, by first | exact h4 | (simp; omega), hhouse, by unfold OwnHds; rw [List.length_set]; exact OS.out, CS, MS⟩
    · obtain rfl : k = 1 := hk
      have e2 : w4.cell? ⟨g4, i * 4 + 2, none⟩ = some (.string xs[i].root) := by
        rw [O4.out.cellAt (i * 4 + 2) (by omega)]
        exact hd_c2 xs i hilt
      have e3 : w4.frozen? ⟨g4, i * 4 + 2, none⟩ = false := O4.out.frozenAt _
      go_wp2_with fail
      refine (spec_l01Long n20 97 _ (by omega)).mono ?_
      rintro e w5 ⟨z, rfl, hz, x5⟩
      have O5 := own_ext O4.out x5
      have lg : g4 < w4.heap.size := (own_lt O4.out g4 rfl).2
      replace e2 := (x5.cell _ _ lg).trans e2
      replace e3 := (x5.frozen _ _ lg).trans e3
      have C5 := C4.ext x5
      have M5 := M4.trans (Mut.of_ext x5)
      have S := O5.stored (i * 4 + 2) (.string z)
      have HPE := hd_put (.string z) ⟨xs[i].house, xs[i].epoch, z, xs[i].prev⟩ 2 (by omega) xs i hilt rfl
      (try rw [Nat.add_zero] at HPE)
      rw [HPE] at S
      have OS := Lib.hid S.1
      have GS := S.2
      have MS := M5.grown GS (fun k hk => by have e : g4 = k := (by injection hk); omega)
      have CS := C5.grown GS (fun k hk => by have e : g4 = k := (by injection hk); omega)
      have FS := fit_set HF.out i (l' := ⟨xs[i].house, xs[i].epoch, z, xs[i].prev⟩) ⟨by show z.size ≤ 32; omega, (HF.out _ (List.getElem_mem hilt)).2⟩
      clear S GS O5
      go_wp2
      refine bodyPost_ret (v := .tuple #[.slice (some ⟨g4, 0, none⟩) xs.length c4, .int .i64 house]) (by simp [results, Tryz.results49, go_sem]) rfl ⟨xs.set i ⟨xs[i].house, xs[i].epoch, z, xs[i].prev⟩, g4, c4, house, by first | rfl | simp, FS, by first | exact h4 | (simp; omega), hhouse, by unfold OwnHds; rw [List.length_set]; exact OS.out, CS, MS⟩
    · obtain rfl : k = 2 := hk
      have e2 : w4.cell? ⟨g4, i * 4 + 3, none⟩ = some (.string xs[i].prev) := by
        rw [O4.out.cellAt (i * 4 + 3) (by omega)]
        exact hd_c3 xs i hilt
      have e3 : w4.frozen? ⟨g4, i * 4 + 3, none⟩ = false := O4.out.frozenAt _
      go_wp2_with fail
      refine (spec_l01Long 16 98 _ (by omega)).mono ?_
      rintro e w5 ⟨z, rfl, hz, x5⟩
      have O5 := own_ext O4.out x5
      have lg : g4 < w4.heap.size := (own_lt O4.out g4 rfl).2
      replace e2 := (x5.cell _ _ lg).trans e2
      replace e3 := (x5.frozen _ _ lg).trans e3
      have C5 := C4.ext x5
      have M5 := M4.trans (Mut.of_ext x5)
      have S := O5.stored (i * 4 + 3) (.string z)
      have HPE := hd_put (.string z) ⟨xs[i].house, xs[i].epoch, xs[i].root, z⟩ 3 (by omega) xs i hilt rfl
      (try rw [Nat.add_zero] at HPE)
      rw [HPE] at S
      have OS := Lib.hid S.1
      have GS := S.2
      have MS := M5.grown GS (fun k hk => by have e : g4 = k := (by injection hk); omega)
      have CS := C5.grown GS (fun k hk => by have e : g4 = k := (by injection hk); omega)
      have FS := fit_set HF.out i (l' := ⟨xs[i].house, xs[i].epoch, xs[i].root, z⟩) ⟨(HF.out _ (List.getElem_mem hilt)).1, by show z.size ≤ 32; omega⟩
      clear S GS O5
      go_wp2
      refine bodyPost_ret (v := .tuple #[.slice (some ⟨g4, 0, none⟩) xs.length c4, .int .i64 house]) (by simp [results, Tryz.results49, go_sem]) rfl ⟨xs.set i ⟨xs[i].house, xs[i].epoch, xs[i].root, z⟩, g4, c4, house, by first | rfl | simp, FS, by first | exact h4 | (simp; omega), hhouse, by unfold OwnHds; rw [List.length_set]; exact OS.out, CS, MS⟩
    · obtain rfl : k = 3 := hk
      have e2 : w4.cell? ⟨g4, i * 4, none⟩ = some (.int .i64 xs[i].house) := by
        rw [O4.out.cellAt (i * 4) (by omega)]
        exact hd_c0 xs i hilt
      have e3 : w4.frozen? ⟨g4, i * 4, none⟩ = false := O4.out.frozenAt _
      have O5 := O4.out
      have C5 := C4
      have M5 := M4
      have S := O5.stored (i * 4) (.int .i64 (x % 5 - 1))
      have HPE := hd_put (.int .i64 (x % 5 - 1)) ⟨x % 5 - 1, xs[i].epoch, xs[i].root, xs[i].prev⟩ 0 (by omega) xs i hilt rfl
      (try rw [Nat.add_zero] at HPE)
      rw [HPE] at S
      have OS := Lib.hid S.1
      have GS := S.2
      have MS := M5.grown GS (fun k hk => by have e : g4 = k := (by injection hk); omega)
      have CS := C5.grown GS (fun k hk => by have e : g4 = k := (by injection hk); omega)
      have FS := fit_set HF.out i (l' := ⟨x % 5 - 1, xs[i].epoch, xs[i].root, xs[i].prev⟩) ⟨(HF.out _ (List.getElem_mem hilt)).1, (HF.out _ (List.getElem_mem hilt)).2⟩
      clear S GS O5
      go_wp2
      refine bodyPost_ret (v := .tuple #[.slice (some ⟨g4, 0, none⟩) xs.length c4, .int .i64 house]) (by simp [results, Tryz.results49, go_sem]) rfl ⟨xs.set i ⟨x % 5 - 1, xs[i].epoch, xs[i].root, xs[i].prev⟩, g4, c4, house, by first | rfl | simp, FS, by first | exact h4 | (simp; omega), hhouse, by unfold OwnHds; rw [List.length_set]; exact OS.out, CS, MS⟩
    · have hk0 : k ≠ 0 := by omega
      have hk1 : k ≠ 1 := by omega
      have hk2 : k ≠ 2 := by omega
      have hk3 : k ≠ 3 := by omega
      go_wp2
      refine bodyPost_ret (v := .tuple #[.slice (some ⟨g4, 0, none⟩) xs.length c4, .int .i64 house]) (by simp [results, Tryz.results49, go_sem]) rfl ⟨xs, g4, c4, house, by first | rfl | simp, HF.out, by first | exact h4 | (simp; omega), hhouse, O4.out, C4, M4⟩
end Go.Proofs.YtkphipgfcbckcaaGreatDoor
namespace Go.Proofs.YtkphipgfcbckcaaGreatDoor
open Go.RowKit

theorem Mut.above {b : Nat} {w w1 : World} (h : Mut b w w1) {k : Nat} (hk : w.heap.size ≤ k) (o : Nat) (u : Value) : Mut b w (w1.setCell ⟨k, o, none⟩ u) :=
  h.grown (row := some k) ⟨rfl, rfl, rfl, by rw [World.size_setCell]; exact Nat.le_refl _, fun j _ hj => Below.heap_setCell _ _ _ _ (by first | exact fun e => hj (congrArg some e) | exact fun e => hj (congrArg some e.symm))⟩ (fun j hj => by injection hj; omega)
theorem Cur.above {b : Nat} {w : World} (h : Cur w b) {k : Nat} (hk : b < k) (o : Nat) (u : Value) : Cur (w.setCell ⟨k, o, none⟩ u) b :=
  h.grown (row := some k) ⟨rfl, rfl, rfl, by rw [World.size_setCell]; exact Nat.le_refl _, fun j _ hj => Below.heap_setCell _ _ _ _ (by first | exact fun e => hj (congrArg some e) | exact fun e => hj (congrArg some e.symm))⟩ (fun j hj => by injection hj; omega)
set_option maxRecDepth 100000 in
set_option maxHeartbeats 1600000 in
theorem spec_l13Head (b : Nat) (w : World) (h : Cur w b) :
    Calls Tryz.prog 21 #[.pointer (some ⟨b, 0, none⟩)] w fun e w' => ∃ l : Hd, e = .returned l.val ∧ HdFit l ∧ Cur w' b ∧ Mut b w w' := by
  have hb := h.lt
  go_enter Tryz.func21, Tryz.ntmps21
  go_wp2_with fail
  have C0 := h.ext ((Ext.refl w).alloc (Obj.cells #[.int .i64 0, .int .i64 0, .string ⟨#[]⟩, .string ⟨#[]⟩] 26))
  refine (spec_l13Any b _ C0).mono ?_
  rintro e w1 ⟨xs, g, c, house, rfl, hfit, h4, hhouse, hown, C1, M1⟩
  have hbn : w.heap.size ≠ b := by omega
  have hl0 : w.heap.size < (w.alloc (Obj.cells #[.int .i64 0, .int .i64 0, .string ⟨#[]⟩, .string ⟨#[]⟩] 26)).heap.size := by simp
  have hs1 := M1.size
  rw [World.size_alloc] at hs1
  have p0 := M1.cell w.heap.size 0 hl0 hbn; simp [go_sem] at p0
  have p1 := M1.cell w.heap.size 1 hl0 hbn; simp [go_sem] at p1
  have p2 := M1.cell w.heap.size 2 hl0 hbn; simp [go_sem] at p2
  have p3 := M1.cell w.heap.size 3 hl0 hbn; simp [go_sem] at p3
  have f0 := M1.frozen w.heap.size 0 hl0 hbn; simp [go_sem] at f0
  have f1 := M1.frozen w.heap.size 1 hl0 hbn; simp [go_sem] at f1
  have f2 := M1.frozen w.heap.size 2 hl0 hbn; simp [go_sem] at f2
  have f3 := M1.frozen w.heap.size 3 hl0 hbn; simp [go_sem] at f3
  have M1' : Mut b w w1 := ((Mut.refl b w).alloc _).trans M1
  have O1 := Lib.hid hown
  have R0 := Tryz.results21
  clear hown C0
  by_cases hz : xs.length = 0
  · have hzi : ((xs.length : Nat) : Int) = 0 := by omega
    clear hz O1
    go_wp2_with fail
    refine (spec_l13Root b _ C1).mono ?_
    rintro e w2 ⟨r, rfl, hr, C2, M2⟩
    have q0 := (M2.cell _ _ hs1 hbn).trans p0
    have q1 := (M2.cell _ _ hs1 hbn).trans p1
    have q2 := (M2.cell _ _ hs1 hbn).trans p2
    have q3 := (M2.cell _ _ hs1 hbn).trans p3
    have k0 := (M2.frozen _ _ hs1 hbn).trans f0
    have k1 := (M2.frozen _ _ hs1 hbn).trans f1
    have k2 := (M2.frozen _ _ hs1 hbn).trans f2
    have k3 := (M2.frozen _ _ hs1 hbn).trans f3
    have M2' := M1'.trans M2
    clear p0 p1 p2 p3 f0 f1 f2 f3
    go_wp2
    refine bodyPost_ret (v := Hd.val ⟨house, 1, r, ⟨#[]⟩⟩) ?_ rfl ⟨⟨house, 1, r, ⟨#[]⟩⟩, rfl, ⟨by show r.size ≤ 32; omega, Nat.zero_le _⟩, (((C2.above hb _ _).above hb _ _).above hb _ _).above hb _ _, (((M2'.above (Nat.le_refl _) _ _).above (Nat.le_refl _) _ _).above (Nat.le_refl _) _ _).above (Nat.le_refl _) _ _⟩
    simp [results, Tryz.results21, go_sem, q0, q1, q2, q3, Hd.val]
  · obtain ⟨m, hm⟩ : ∃ m, xs.length = m + 1 := ⟨xs.length - 1, by omega⟩
    have hml : m < xs.length := by omega
    have hzi : ((xs.length : Nat) : Int) ≠ 0 := by omega
    have i0 : (0 : Int) ≤ m := by omega
    have i1 : (m : Int) < xs.length := by omega
    have i2 : IntKind.i64.wrap ((xs.length : Int) - 1) = (m : Int) := by rw [IntWalk.i64_in _ (by omega)]; omega
    have i3 : ((xs.length : Int) - 1) = (m : Int) := by omega
    have HM := Lib.hid hm
    have e0 := (O1.out.cellAt (m * 4) (by omega)).trans (hd_c0 xs m hml)
    have e1 := (O1.out.cellAt (m * 4 + 1) (by omega)).trans (hd_c1 xs m hml)
    have e2 := (O1.out.cellAt (m * 4 + 2) (by omega)).trans (hd_c2 xs m hml)
    have e3 := (O1.out.cellAt (m * 4 + 3) (by omega)).trans (hd_c3 xs m hml)
    have hft := hfit _ (List.getElem_mem hml)
    generalize xs[m] = l at *
    clear hm hz O1
    go_wp2
    refine bodyPost_ret (v := Hd.val ⟨l.house, l.epoch, l.root, l.prev⟩) ?_ rfl ⟨⟨l.house, l.epoch, l.root, l.prev⟩, rfl, hft, (((C1.above hb _ _).above hb _ _).above hb _ _).above hb _ _, (((M1'.above (Nat.le_refl _) _ _).above (Nat.le_refl _) _ _).above (Nat.le_refl _) _ _).above (Nat.le_refl _) _ _⟩
    simp [results, Tryz.results21, go_sem, p0, p1, p2, p3, Hd.val]
end Go.Proofs.YtkphipgfcbckcaaGreatDoor
