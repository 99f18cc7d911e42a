/- Next, Next2 in one text. -/
import Derived.Test.YtliebkhfddmhjaaDoorChain2
namespace Go.Proofs.YtliebkhfddmhjaaDoor
open Go.RowKit

def pickI (ok : Bool) (n : Int) : Int := if ok = true then n else 0
def pickS (ok : Bool) (s : ByteArray) : ByteArray := if ok = true then s else ⟨#[]⟩
def nxOk (xs : List Hd) (house : Int) (root : ByteArray) : Bool := chainOk xs house && headOk house ((xs.length : Int) + 1) root (lastH xs)
/-- what is handed back -/
def nxV (xs : List Hd) (house : Int) (root : ByteArray) : Value := .tuple #[.agg #[.int .i64 (pickI (nxOk xs house root) house), .int .i64 (pickI (nxOk xs house root) ((xs.length : Int) + 1)), .string (pickS (nxOk xs house root) root), .string (pickS (nxOk xs house root) (lastH xs))], .bool (nxOk xs house root)]
theorem nx_no {xs : List Hd} {house : Int} {root : ByteArray} (h : nxOk xs house root = false) : nxV xs house root = .tuple #[.agg #[.int .i64 0, .int .i64 0, .string ⟨#[]⟩, .string ⟨#[]⟩], .bool false] := by
  simp [nxV, h, pickI, pickS]
theorem nx_yes {xs : List Hd} {house : Int} {root : ByteArray} (h : nxOk xs house root = true) : nxV xs house root = .tuple #[.agg #[.int .i64 house, .int .i64 ((xs.length : Int) + 1), .string root, .string (lastH xs)], .bool true] := by
  simp [nxV, h, pickI, pickS]

end Go.Proofs.YtliebkhfddmhjaaDoor
namespace Go.Proofs.YtliebkhfddmhjaaDoor
open Go.RowKit

set_option maxRecDepth 100000 in
set_option maxHeartbeats 3200000 in
theorem spec_NextHead (v : Value) (xs : List Hd) (house : Int) (root : ByteArray) (w : World) (h : Hds w v xs) (hb : xs.length ≤ 1099511627776) :
    Calls Tryd.prog 205 #[v, .int .i64 house, .string root] w fun e w' => e = .returned (nxV xs house root) ∧ Ext w w' := by
  obtain ⟨a, c, rfl⟩ := h.form
  have hw1 : IntKind.i64.wrap ((xs.length : Int) + 1) = (xs.length : Int) + 1 := IntWalk.i64_in _ (by omega)
  by_cases hn : xs.length = 0
  · cases hc : chainOk xs house
    · have R := Lib.hid (nx_no (xs := xs) (house := house) (root := root) (by rw [nxOk, hc]; rfl))
      have HC := Lib.hid hc
      clear hc
      have LL := Lib.hid (show lastH xs = ⟨#[]⟩ by rw [lastH, if_pos hn])
      have hgt : ¬ ((0 : Int) < xs.length) := by omega
      have hgn : ¬ (0 < xs.length) := by omega
      clear hn
      go_enter Tryd.func205, Tryd.ntmps205
      go_wp2_with fail
      have p0 : ((w.alloc (Obj.cells #[.int .i64 0, .int .i64 0, .string ⟨#[]⟩, .string ⟨#[]⟩] 32)).alloc (Obj.cells #[.int .i64 house, .int .i64 ((xs.length : Int) + 1), .string root, .string ⟨#[]⟩] 32)).cell? ⟨w.heap.size + 1, 0, none⟩ = some (.int .i64 house) := by simp [go_sem]
      have p1 : ((w.alloc (Obj.cells #[.int .i64 0, .int .i64 0, .string ⟨#[]⟩, .string ⟨#[]⟩] 32)).alloc (Obj.cells #[.int .i64 house, .int .i64 ((xs.length : Int) + 1), .string root, .string ⟨#[]⟩] 32)).cell? ⟨w.heap.size + 1, 1, none⟩ = some (.int .i64 ((xs.length : Int) + 1)) := by simp [go_sem]
      have p2 : ((w.alloc (Obj.cells #[.int .i64 0, .int .i64 0, .string ⟨#[]⟩, .string ⟨#[]⟩] 32)).alloc (Obj.cells #[.int .i64 house, .int .i64 ((xs.length : Int) + 1), .string root, .string ⟨#[]⟩] 32)).cell? ⟨w.heap.size + 1, 2, none⟩ = some (.string root) := by simp [go_sem]
      have p3 : ((w.alloc (Obj.cells #[.int .i64 0, .int .i64 0, .string ⟨#[]⟩, .string ⟨#[]⟩] 32)).alloc (Obj.cells #[.int .i64 house, .int .i64 ((xs.length : Int) + 1), .string root, .string ⟨#[]⟩] 32)).cell? ⟨w.heap.size + 1, 3, none⟩ = some (.string ⟨#[]⟩) := by simp [go_sem]
      have r0 : ((w.alloc (Obj.cells #[.int .i64 0, .int .i64 0, .string ⟨#[]⟩, .string ⟨#[]⟩] 32)).alloc (Obj.cells #[.int .i64 house, .int .i64 ((xs.length : Int) + 1), .string root, .string ⟨#[]⟩] 32)).cell? ⟨w.heap.size, 0, none⟩ = some (.int .i64 0) := by simp [go_sem]
      have r1 : ((w.alloc (Obj.cells #[.int .i64 0, .int .i64 0, .string ⟨#[]⟩, .string ⟨#[]⟩] 32)).alloc (Obj.cells #[.int .i64 house, .int .i64 ((xs.length : Int) + 1), .string root, .string ⟨#[]⟩] 32)).cell? ⟨w.heap.size, 1, none⟩ = some (.int .i64 0) := by simp [go_sem]
      have r2 : ((w.alloc (Obj.cells #[.int .i64 0, .int .i64 0, .string ⟨#[]⟩, .string ⟨#[]⟩] 32)).alloc (Obj.cells #[.int .i64 house, .int .i64 ((xs.length : Int) + 1), .string root, .string ⟨#[]⟩] 32)).cell? ⟨w.heap.size, 2, none⟩ = some (.string ⟨#[]⟩) := by simp [go_sem]
      have r3 : ((w.alloc (Obj.cells #[.int .i64 0, .int .i64 0, .string ⟨#[]⟩, .string ⟨#[]⟩] 32)).alloc (Obj.cells #[.int .i64 house, .int .i64 ((xs.length : Int) + 1), .string root, .string ⟨#[]⟩] 32)).cell? ⟨w.heap.size, 3, none⟩ = some (.string ⟨#[]⟩) := by simp [go_sem]
      have fr : ∀ j, ((w.alloc (Obj.cells #[.int .i64 0, .int .i64 0, .string ⟨#[]⟩, .string ⟨#[]⟩] 32)).alloc (Obj.cells #[.int .i64 house, .int .i64 ((xs.length : Int) + 1), .string root, .string ⟨#[]⟩] 32)).frozen? ⟨w.heap.size, j, none⟩ = false := fun j => by simp [go_sem]
      have x0 : Ext w ((w.alloc (Obj.cells #[.int .i64 0, .int .i64 0, .string ⟨#[]⟩, .string ⟨#[]⟩] 32)).alloc (Obj.cells #[.int .i64 house, .int .i64 ((xs.length : Int) + 1), .string root, .string ⟨#[]⟩] 32)) := ((Ext.refl w).alloc _).alloc _
      have l0 : w.heap.size < ((w.alloc (Obj.cells #[.int .i64 0, .int .i64 0, .string ⟨#[]⟩, .string ⟨#[]⟩] 32)).alloc (Obj.cells #[.int .i64 house, .int .i64 ((xs.length : Int) + 1), .string root, .string ⟨#[]⟩] 32)).heap.size := by rw [World.size_alloc, World.size_alloc]; omega
      have l1 : w.heap.size + 1 < ((w.alloc (Obj.cells #[.int .i64 0, .int .i64 0, .string ⟨#[]⟩, .string ⟨#[]⟩] 32)).alloc (Obj.cells #[.int .i64 house, .int .i64 ((xs.length : Int) + 1), .string root, .string ⟨#[]⟩] 32)).heap.size := by rw [World.size_alloc, World.size_alloc]; omega
      generalize ((w.alloc (Obj.cells #[.int .i64 0, .int .i64 0, .string ⟨#[]⟩, .string ⟨#[]⟩] 32)).alloc (Obj.cells #[.int .i64 house, .int .i64 ((xs.length : Int) + 1), .string root, .string ⟨#[]⟩] 32)) = W at *
      rw [← LL.out] at p3
      refine (spec_ChainOk _ xs house _ (h.ext (by repeat (first | (with_reducible first | exact Ext.refl _ | assumption | apply Ext.alloc | apply Ext.drew | apply Ext.drewN | refine Ext.setCell ?_ ?_ _ | refine Ext.trans ?_ (by assumption)) | (show _ ≤ _; first | omega | (dsimp only; omega) | (simp; done) | (simp; omega))))) hb).mono ?_
      rw [HC.out]
      rintro e w2 ⟨rfl, x2⟩
      have y2 : Ext W w2 := (by repeat (first | (with_reducible first | exact Ext.refl _ | assumption | apply Ext.alloc | apply Ext.drew | apply Ext.drewN | refine Ext.setCell ?_ ?_ _ | refine Ext.trans ?_ (by assumption)) | (show _ ≤ _; first | omega | (dsimp only; omega) | (simp; done) | (simp; omega))))
      replace p0 := (y2.cell _ _ l1).trans p0
      replace p1 := (y2.cell _ _ l1).trans p1
      replace p2 := (y2.cell _ _ l1).trans p2
      replace p3 := (y2.cell _ _ l1).trans p3
      replace r0 := (y2.cell _ _ l0).trans r0
      replace r1 := (y2.cell _ _ l0).trans r1
      replace r2 := (y2.cell _ _ l0).trans r2
      replace r3 := (y2.cell _ _ l0).trans r3
      replace fr := fun j => (y2.frozen _ j l0).trans (fr j)
      replace l1 := Nat.lt_of_lt_of_le l1 y2.size
      replace l0 := Nat.lt_of_lt_of_le l0 y2.size
      go_wp2
      refine bodyPost_ret (v := .tuple #[.agg #[.int .i64 0, .int .i64 0, .string ⟨#[]⟩, .string ⟨#[]⟩], .bool false]) (by simp [results, Tryd.results205, go_sem, r0, r1, r2, r3]) rfl ⟨by rw [R.out], (by repeat (first | (with_reducible first | exact Ext.refl _ | assumption | apply Ext.alloc | apply Ext.drew | apply Ext.drewN | refine Ext.setCell ?_ ?_ _ | refine Ext.trans ?_ (by assumption)) | (show _ ≤ _; first | omega | (dsimp only; omega) | (simp; done) | (simp; omega))))⟩
    · cases hh : headOk house ((xs.length : Int) + 1) root (lastH xs)
      · have R := Lib.hid (nx_no (xs := xs) (house := house) (root := root) (by rw [nxOk, hc, hh]; rfl))
        have HC := Lib.hid hc
        have HH := Lib.hid hh
        clear hc hh
        have LL := Lib.hid (show lastH xs = ⟨#[]⟩ by rw [lastH, if_pos hn])
        have hgt : ¬ ((0 : Int) < xs.length) := by omega
        have hgn : ¬ (0 < xs.length) := by omega
        clear hn
        go_enter Tryd.func205, Tryd.ntmps205
        go_wp2_with fail
        have p0 : ((w.alloc (Obj.cells #[.int .i64 0, .int .i64 0, .string ⟨#[]⟩, .string ⟨#[]⟩] 32)).alloc (Obj.cells #[.int .i64 house, .int .i64 ((xs.length : Int) + 1), .string root, .string ⟨#[]⟩] 32)).cell? ⟨w.heap.size + 1, 0, none⟩ = some (.int .i64 house) := by simp [go_sem]
        have p1 : ((w.alloc (Obj.cells #[.int .i64 0, .int .i64 0, .string ⟨#[]⟩, .string ⟨#[]⟩] 32)).alloc (Obj.cells #[.int .i64 house, .int .i64 ((xs.length : Int) + 1), .string root, .string ⟨#[]⟩] 32)).cell? ⟨w.heap.size + 1, 1, none⟩ = some (.int .i64 ((xs.length : Int) + 1)) := by simp [go_sem]
        have p2 : ((w.alloc (Obj.cells #[.int .i64 0, .int .i64 0, .string ⟨#[]⟩, .string ⟨#[]⟩] 32)).alloc (Obj.cells #[.int .i64 house, .int .i64 ((xs.length : Int) + 1), .string root, .string ⟨#[]⟩] 32)).cell? ⟨w.heap.size + 1, 2, none⟩ = some (.string root) := by simp [go_sem]
        have p3 : ((w.alloc (Obj.cells #[.int .i64 0, .int .i64 0, .string ⟨#[]⟩, .string ⟨#[]⟩] 32)).alloc (Obj.cells #[.int .i64 house, .int .i64 ((xs.length : Int) + 1), .string root, .string ⟨#[]⟩] 32)).cell? ⟨w.heap.size + 1, 3, none⟩ = some (.string ⟨#[]⟩) := by simp [go_sem]
        have r0 : ((w.alloc (Obj.cells #[.int .i64 0, .int .i64 0, .string ⟨#[]⟩, .string ⟨#[]⟩] 32)).alloc (Obj.cells #[.int .i64 house, .int .i64 ((xs.length : Int) + 1), .string root, .string ⟨#[]⟩] 32)).cell? ⟨w.heap.size, 0, none⟩ = some (.int .i64 0) := by simp [go_sem]
        have r1 : ((w.alloc (Obj.cells #[.int .i64 0, .int .i64 0, .string ⟨#[]⟩, .string ⟨#[]⟩] 32)).alloc (Obj.cells #[.int .i64 house, .int .i64 ((xs.length : Int) + 1), .string root, .string ⟨#[]⟩] 32)).cell? ⟨w.heap.size, 1, none⟩ = some (.int .i64 0) := by simp [go_sem]
        have r2 : ((w.alloc (Obj.cells #[.int .i64 0, .int .i64 0, .string ⟨#[]⟩, .string ⟨#[]⟩] 32)).alloc (Obj.cells #[.int .i64 house, .int .i64 ((xs.length : Int) + 1), .string root, .string ⟨#[]⟩] 32)).cell? ⟨w.heap.size, 2, none⟩ = some (.string ⟨#[]⟩) := by simp [go_sem]
        have r3 : ((w.alloc (Obj.cells #[.int .i64 0, .int .i64 0, .string ⟨#[]⟩, .string ⟨#[]⟩] 32)).alloc (Obj.cells #[.int .i64 house, .int .i64 ((xs.length : Int) + 1), .string root, .string ⟨#[]⟩] 32)).cell? ⟨w.heap.size, 3, none⟩ = some (.string ⟨#[]⟩) := by simp [go_sem]
        have fr : ∀ j, ((w.alloc (Obj.cells #[.int .i64 0, .int .i64 0, .string ⟨#[]⟩, .string ⟨#[]⟩] 32)).alloc (Obj.cells #[.int .i64 house, .int .i64 ((xs.length : Int) + 1), .string root, .string ⟨#[]⟩] 32)).frozen? ⟨w.heap.size, j, none⟩ = false := fun j => by simp [go_sem]
        have x0 : Ext w ((w.alloc (Obj.cells #[.int .i64 0, .int .i64 0, .string ⟨#[]⟩, .string ⟨#[]⟩] 32)).alloc (Obj.cells #[.int .i64 house, .int .i64 ((xs.length : Int) + 1), .string root, .string ⟨#[]⟩] 32)) := ((Ext.refl w).alloc _).alloc _
        have l0 : w.heap.size < ((w.alloc (Obj.cells #[.int .i64 0, .int .i64 0, .string ⟨#[]⟩, .string ⟨#[]⟩] 32)).alloc (Obj.cells #[.int .i64 house, .int .i64 ((xs.length : Int) + 1), .string root, .string ⟨#[]⟩] 32)).heap.size := by rw [World.size_alloc, World.size_alloc]; omega
        have l1 : w.heap.size + 1 < ((w.alloc (Obj.cells #[.int .i64 0, .int .i64 0, .string ⟨#[]⟩, .string ⟨#[]⟩] 32)).alloc (Obj.cells #[.int .i64 house, .int .i64 ((xs.length : Int) + 1), .string root, .string ⟨#[]⟩] 32)).heap.size := by rw [World.size_alloc, World.size_alloc]; omega
        generalize ((w.alloc (Obj.cells #[.int .i64 0, .int .i64 0, .string ⟨#[]⟩, .string ⟨#[]⟩] 32)).alloc (Obj.cells #[.int .i64 house, .int .i64 ((xs.length : Int) + 1), .string root, .string ⟨#[]⟩] 32)) = W at *
        rw [← LL.out] at p3
        refine (spec_ChainOk _ xs house _ (h.ext (by repeat (first | (with_reducible first | exact Ext.refl _ | assumption | apply Ext.alloc | apply Ext.drew | apply Ext.drewN | refine Ext.setCell ?_ ?_ _ | refine Ext.trans ?_ (by assumption)) | (show _ ≤ _; first | omega | (dsimp only; omega) | (simp; done) | (simp; omega))))) hb).mono ?_
        rw [HC.out]
        rintro e w2 ⟨rfl, x2⟩
        have y2 : Ext W w2 := (by repeat (first | (with_reducible first | exact Ext.refl _ | assumption | apply Ext.alloc | apply Ext.drew | apply Ext.drewN | refine Ext.setCell ?_ ?_ _ | refine Ext.trans ?_ (by assumption)) | (show _ ≤ _; first | omega | (dsimp only; omega) | (simp; done) | (simp; omega))))
        replace p0 := (y2.cell _ _ l1).trans p0
        replace p1 := (y2.cell _ _ l1).trans p1
        replace p2 := (y2.cell _ _ l1).trans p2
        replace p3 := (y2.cell _ _ l1).trans p3
        replace r0 := (y2.cell _ _ l0).trans r0
        replace r1 := (y2.cell _ _ l0).trans r1
        replace r2 := (y2.cell _ _ l0).trans r2
        replace r3 := (y2.cell _ _ l0).trans r3
        replace fr := fun j => (y2.frozen _ j l0).trans (fr j)
        replace l1 := Nat.lt_of_lt_of_le l1 y2.size
        replace l0 := Nat.lt_of_lt_of_le l0 y2.size
        go_wp2_with fail
        refine (spec_HeadOk _ _ _ _ _).mono ?_
        rw [HH.out]
        rintro e w3 ⟨rfl, x3⟩
        have y3 : Ext w2 w3 := (by repeat (first | (with_reducible first | exact Ext.refl _ | assumption | apply Ext.alloc | apply Ext.drew | apply Ext.drewN | refine Ext.setCell ?_ ?_ _ | refine Ext.trans ?_ (by assumption)) | (show _ ≤ _; first | omega | (dsimp only; omega) | (simp; done) | (simp; omega))))
        replace p0 := (y3.cell _ _ l1).trans p0
        replace p1 := (y3.cell _ _ l1).trans p1
        replace p2 := (y3.cell _ _ l1).trans p2
        replace p3 := (y3.cell _ _ l1).trans p3
        replace r0 := (y3.cell _ _ l0).trans r0
        replace r1 := (y3.cell _ _ l0).trans r1
        replace r2 := (y3.cell _ _ l0).trans r2
        replace r3 := (y3.cell _ _ l0).trans r3
        replace fr := fun j => (y3.frozen _ j l0).trans (fr j)
        replace l1 := Nat.lt_of_lt_of_le l1 y3.size
        replace l0 := Nat.lt_of_lt_of_le l0 y3.size
        go_wp2
        refine bodyPost_ret (v := .tuple #[.agg #[.int .i64 0, .int .i64 0, .string ⟨#[]⟩, .string ⟨#[]⟩], .bool false]) (by simp [results, Tryd.results205, go_sem, r0, r1, r2, r3]) rfl ⟨by rw [R.out], (by repeat (first | (with_reducible first | exact Ext.refl _ | assumption | apply Ext.alloc | apply Ext.drew | apply Ext.drewN | refine Ext.setCell ?_ ?_ _ | refine Ext.trans ?_ (by assumption)) | (show _ ≤ _; first | omega | (dsimp only; omega) | (simp; done) | (simp; omega))))⟩
      · have R := Lib.hid (nx_yes (xs := xs) (house := house) (root := root) (by rw [nxOk, hc, hh]; rfl))
        have HC := Lib.hid hc
        have HH := Lib.hid hh
        clear hc hh
        have LL := Lib.hid (show lastH xs = ⟨#[]⟩ by rw [lastH, if_pos hn])
        have hgt : ¬ ((0 : Int) < xs.length) := by omega
        have hgn : ¬ (0 < xs.length) := by omega
        clear hn
        go_enter Tryd.func205, Tryd.ntmps205
        go_wp2_with fail
        have p0 : ((w.alloc (Obj.cells #[.int .i64 0, .int .i64 0, .string ⟨#[]⟩, .string ⟨#[]⟩] 32)).alloc (Obj.cells #[.int .i64 house, .int .i64 ((xs.length : Int) + 1), .string root, .string ⟨#[]⟩] 32)).cell? ⟨w.heap.size + 1, 0, none⟩ = some (.int .i64 house) := by simp [go_sem]
        have p1 : ((w.alloc (Obj.cells #[.int .i64 0, .int .i64 0, .string ⟨#[]⟩, .string ⟨#[]⟩] 32)).alloc (Obj.cells #[.int .i64 house, .int .i64 ((xs.length : Int) + 1), .string root, .string ⟨#[]⟩] 32)).cell? ⟨w.heap.size + 1, 1, none⟩ = some (.int .i64 ((xs.length : Int) + 1)) := by simp [go_sem]
        have p2 : ((w.alloc (Obj.cells #[.int .i64 0, .int .i64 0, .string ⟨#[]⟩, .string ⟨#[]⟩] 32)).alloc (Obj.cells #[.int .i64 house, .int .i64 ((xs.length : Int) + 1), .string root, .string ⟨#[]⟩] 32)).cell? ⟨w.heap.size + 1, 2, none⟩ = some (.string root) := by simp [go_sem]
        have p3 : ((w.alloc (Obj.cells #[.int .i64 0, .int .i64 0, .string ⟨#[]⟩, .string ⟨#[]⟩] 32)).alloc (Obj.cells #[.int .i64 house, .int .i64 ((xs.length : Int) + 1), .string root, .string ⟨#[]⟩] 32)).cell? ⟨w.heap.size + 1, 3, none⟩ = some (.string ⟨#[]⟩) := by simp [go_sem]
        have r0 : ((w.alloc (Obj.cells #[.int .i64 0, .int .i64 0, .string ⟨#[]⟩, .string ⟨#[]⟩] 32)).alloc (Obj.cells #[.int .i64 house, .int .i64 ((xs.length : Int) + 1), .string root, .string ⟨#[]⟩] 32)).cell? ⟨w.heap.size, 0, none⟩ = some (.int .i64 0) := by simp [go_sem]
        have r1 : ((w.alloc (Obj.cells #[.int .i64 0, .int .i64 0, .string ⟨#[]⟩, .string ⟨#[]⟩] 32)).alloc (Obj.cells #[.int .i64 house, .int .i64 ((xs.length : Int) + 1), .string root, .string ⟨#[]⟩] 32)).cell? ⟨w.heap.size, 1, none⟩ = some (.int .i64 0) := by simp [go_sem]
        have r2 : ((w.alloc (Obj.cells #[.int .i64 0, .int .i64 0, .string ⟨#[]⟩, .string ⟨#[]⟩] 32)).alloc (Obj.cells #[.int .i64 house, .int .i64 ((xs.length : Int) + 1), .string root, .string ⟨#[]⟩] 32)).cell? ⟨w.heap.size, 2, none⟩ = some (.string ⟨#[]⟩) := by simp [go_sem]
        have r3 : ((w.alloc (Obj.cells #[.int .i64 0, .int .i64 0, .string ⟨#[]⟩, .string ⟨#[]⟩] 32)).alloc (Obj.cells #[.int .i64 house, .int .i64 ((xs.length : Int) + 1), .string root, .string ⟨#[]⟩] 32)).cell? ⟨w.heap.size, 3, none⟩ = some (.string ⟨#[]⟩) := by simp [go_sem]
        have fr : ∀ j, ((w.alloc (Obj.cells #[.int .i64 0, .int .i64 0, .string ⟨#[]⟩, .string ⟨#[]⟩] 32)).alloc (Obj.cells #[.int .i64 house, .int .i64 ((xs.length : Int) + 1), .string root, .string ⟨#[]⟩] 32)).frozen? ⟨w.heap.size, j, none⟩ = false := fun j => by simp [go_sem]
        have x0 : Ext w ((w.alloc (Obj.cells #[.int .i64 0, .int .i64 0, .string ⟨#[]⟩, .string ⟨#[]⟩] 32)).alloc (Obj.cells #[.int .i64 house, .int .i64 ((xs.length : Int) + 1), .string root, .string ⟨#[]⟩] 32)) := ((Ext.refl w).alloc _).alloc _
        have l0 : w.heap.size < ((w.alloc (Obj.cells #[.int .i64 0, .int .i64 0, .string ⟨#[]⟩, .string ⟨#[]⟩] 32)).alloc (Obj.cells #[.int .i64 house, .int .i64 ((xs.length : Int) + 1), .string root, .string ⟨#[]⟩] 32)).heap.size := by rw [World.size_alloc, World.size_alloc]; omega
        have l1 : w.heap.size + 1 < ((w.alloc (Obj.cells #[.int .i64 0, .int .i64 0, .string ⟨#[]⟩, .string ⟨#[]⟩] 32)).alloc (Obj.cells #[.int .i64 house, .int .i64 ((xs.length : Int) + 1), .string root, .string ⟨#[]⟩] 32)).heap.size := by rw [World.size_alloc, World.size_alloc]; omega
        generalize ((w.alloc (Obj.cells #[.int .i64 0, .int .i64 0, .string ⟨#[]⟩, .string ⟨#[]⟩] 32)).alloc (Obj.cells #[.int .i64 house, .int .i64 ((xs.length : Int) + 1), .string root, .string ⟨#[]⟩] 32)) = W at *
        rw [← LL.out] at p3
        refine (spec_ChainOk _ xs house _ (h.ext (by repeat (first | (with_reducible first | exact Ext.refl _ | assumption | apply Ext.alloc | apply Ext.drew | apply Ext.drewN | refine Ext.setCell ?_ ?_ _ | refine Ext.trans ?_ (by assumption)) | (show _ ≤ _; first | omega | (dsimp only; omega) | (simp; done) | (simp; omega))))) hb).mono ?_
        rw [HC.out]
        rintro e w2 ⟨rfl, x2⟩
        have y2 : Ext W w2 := (by repeat (first | (with_reducible first | exact Ext.refl _ | assumption | apply Ext.alloc | apply Ext.drew | apply Ext.drewN | refine Ext.setCell ?_ ?_ _ | refine Ext.trans ?_ (by assumption)) | (show _ ≤ _; first | omega | (dsimp only; omega) | (simp; done) | (simp; omega))))
        replace p0 := (y2.cell _ _ l1).trans p0
        replace p1 := (y2.cell _ _ l1).trans p1
        replace p2 := (y2.cell _ _ l1).trans p2
        replace p3 := (y2.cell _ _ l1).trans p3
        replace r0 := (y2.cell _ _ l0).trans r0
        replace r1 := (y2.cell _ _ l0).trans r1
        replace r2 := (y2.cell _ _ l0).trans r2
        replace r3 := (y2.cell _ _ l0).trans r3
        replace fr := fun j => (y2.frozen _ j l0).trans (fr j)
        replace l1 := Nat.lt_of_lt_of_le l1 y2.size
        replace l0 := Nat.lt_of_lt_of_le l0 y2.size
        go_wp2_with fail
        refine (spec_HeadOk _ _ _ _ _).mono ?_
        rw [HH.out]
        rintro e w3 ⟨rfl, x3⟩
        have y3 : Ext w2 w3 := (by repeat (first | (with_reducible first | exact Ext.refl _ | assumption | apply Ext.alloc | apply Ext.drew | apply Ext.drewN | refine Ext.setCell ?_ ?_ _ | refine Ext.trans ?_ (by assumption)) | (show _ ≤ _; first | omega | (dsimp only; omega) | (simp; done) | (simp; omega))))
        replace p0 := (y3.cell _ _ l1).trans p0
        replace p1 := (y3.cell _ _ l1).trans p1
        replace p2 := (y3.cell _ _ l1).trans p2
        replace p3 := (y3.cell _ _ l1).trans p3
        replace r0 := (y3.cell _ _ l0).trans r0
        replace r1 := (y3.cell _ _ l0).trans r1
        replace r2 := (y3.cell _ _ l0).trans r2
        replace r3 := (y3.cell _ _ l0).trans r3
        replace fr := fun j => (y3.frozen _ j l0).trans (fr j)
        replace l1 := Nat.lt_of_lt_of_le l1 y3.size
        replace l0 := Nat.lt_of_lt_of_le l0 y3.size
        go_wp2
        refine bodyPost_ret (v := .tuple #[.agg #[.int .i64 house, .int .i64 ((xs.length : Int) + 1), .string root, .string (lastH xs)], .bool true]) (by simp [results, Tryd.results205, go_sem, r0, r1, r2, r3]) rfl ⟨by rw [R.out], (by repeat (first | (with_reducible first | exact Ext.refl _ | assumption | apply Ext.alloc | apply Ext.drew | apply Ext.drewN | refine Ext.setCell ?_ ?_ _ | refine Ext.trans ?_ (by assumption)) | (show _ ≤ _; first | omega | (dsimp only; omega) | (simp; done) | (simp; omega))))⟩
  · cases hc : chainOk xs house
    · have R := Lib.hid (nx_no (xs := xs) (house := house) (root := root) (by rw [nxOk, hc]; rfl))
      have HC := Lib.hid hc
      clear hc
      obtain ⟨j, hj⟩ : ∃ j, xs.length = j + 1 := ⟨xs.length - 1, by omega⟩
      have hlt : j < xs.length := by omega
      have hR : lastH xs = hdH2 xs[j] := by rw [lastH, if_neg hn, show xs.length - 1 = j by omega, getD_hd _ _ hlt]
      obtain ⟨-, a1, c1, hv, hc1, hm1, g1⟩ := id h
      injection hv with e1 e2 e3
      subst e1 e3
      rcases g1 with g1 | ⟨b1, o1, rfl, hb1, g1⟩
      · omega
      have e1 : w.cell? ⟨b1, o1 + j * 4, none⟩ = some (.int .i64 xs[j].house) := g1 _ _ (hd_c0 xs _ hlt)
      have e2 : w.cell? ⟨b1, o1 + j * 4 + 1, none⟩ = some (.int .i64 xs[j].epoch) := g1 _ _ (hd_c1 xs _ hlt)
      have e3 : w.cell? ⟨b1, o1 + j * 4 + 2, none⟩ = some (.string xs[j].root) := g1 _ _ (hd_c2 xs _ hlt)
      have e4 : w.cell? ⟨b1, o1 + j * 4 + 3, none⟩ = some (.string xs[j].prev) := g1 _ _ (hd_c3 xs _ hlt)
      generalize xs[j] = z at *
      have LL := Lib.hid hR
      have hgt : (0 : Int) < xs.length := by omega
      have hgn : 0 < xs.length := by omega
      have hw2 : IntKind.i64.wrap ((xs.length : Int) - 1) = (j : Int) := by rw [IntWalk.i64_in _ (by omega)]; omega
      have hj0 : (0 : Int) ≤ (j : Int) := by omega
      have hj1 : (j : Int) < xs.length := by omega
      clear g1 hn hR hj
      go_enter Tryd.func205, Tryd.ntmps205
      go_wp2_with fail
      refine (spec_HeadHash _ _ _ _ _).mono ?_
      rintro e w1 ⟨rfl, x1⟩
      have E_x1 := Old.of x1; (repeat (first | (replace E_x1 := Old.undrew E_x1) | (replace E_x1 := Old.undrewN E_x1))); have c_E_x1 := Old.cell E_x1; have f_E_x1 := Old.frozen E_x1; have z_E_x1 := Old.size E_x1; try simp only [World.size_alloc] at c_E_x1 f_E_x1 z_E_x1; try have l_E_x1 := Nat.lt_of_succ_le z_E_x1; try have m_E_x1 := Nat.lt_of_succ_lt l_E_x1; try have n_E_x1 := Nat.lt_of_succ_lt m_E_x1
      have r0 := c_E_x1 (w.heap.size) 0 (by omega); simp [go_sem] at r0; have r1 := c_E_x1 (w.heap.size) 1 (by omega); simp [go_sem] at r1; have r2 := c_E_x1 (w.heap.size) 2 (by omega); simp [go_sem] at r2; have r3 := c_E_x1 (w.heap.size) 3 (by omega); simp [go_sem] at r3
      have p0 := c_E_x1 (w.heap.size + 1) 0 (by omega); simp [go_sem] at p0; have p1 := c_E_x1 (w.heap.size + 1) 1 (by omega); simp [go_sem] at p1; have p2 := c_E_x1 (w.heap.size + 1) 2 (by omega); simp [go_sem] at p2; have p3 := c_E_x1 (w.heap.size + 1) 3 (by omega); simp [go_sem] at p3
      have xw : Ext w w1 := (by repeat (first | (with_reducible first | exact Ext.refl _ | assumption | apply Ext.alloc | apply Ext.drew | apply Ext.drewN | refine Ext.setCell ?_ ?_ _ | refine Ext.trans ?_ (by assumption)) | (show _ ≤ _; first | omega | (dsimp only; omega) | (simp; done) | (simp; omega))))
      have fr1 : ∀ j, w1.frozen? ⟨w.heap.size, j, none⟩ = false := fun j => by rw [f_E_x1 _ _ (by omega)]; simp [go_sem]
      have fr2 : ∀ j, w1.frozen? ⟨w.heap.size + 1, j, none⟩ = false := fun j => by rw [f_E_x1 _ _ (by omega)]; simp [go_sem]
      have la : w.heap.size < w1.heap.size := by omega
      have lb : w.heap.size + 1 < w1.heap.size := by omega
      clear c_E_x1 f_E_x1
      go_wp2_with fail
      replace p3 : (w1.setCell ⟨w.heap.size + 1, 3, none⟩ (.string (headH z.house z.epoch z.root z.prev))).cell? ⟨w.heap.size + 1, 3, none⟩ = some (.string (lastH xs)) := by rw [LL.out, hdH2]; simp [go_sem, p3]
      replace p0 : (w1.setCell ⟨w.heap.size + 1, 3, none⟩ (.string (headH z.house z.epoch z.root z.prev))).cell? ⟨w.heap.size + 1, 0, none⟩ = some (.int .i64 house) := by simp [go_sem, p0]
      replace p1 : (w1.setCell ⟨w.heap.size + 1, 3, none⟩ (.string (headH z.house z.epoch z.root z.prev))).cell? ⟨w.heap.size + 1, 1, none⟩ = some (.int .i64 ((xs.length : Int) + 1)) := by simp [go_sem, p1]
      replace p2 : (w1.setCell ⟨w.heap.size + 1, 3, none⟩ (.string (headH z.house z.epoch z.root z.prev))).cell? ⟨w.heap.size + 1, 2, none⟩ = some (.string root) := by simp [go_sem, p2]
      replace r0 : (w1.setCell ⟨w.heap.size + 1, 3, none⟩ (.string (headH z.house z.epoch z.root z.prev))).cell? ⟨w.heap.size, 0, none⟩ = some (.int .i64 0) := by simp [go_sem, r0]
      replace r1 : (w1.setCell ⟨w.heap.size + 1, 3, none⟩ (.string (headH z.house z.epoch z.root z.prev))).cell? ⟨w.heap.size, 1, none⟩ = some (.int .i64 0) := by simp [go_sem, r1]
      replace r2 : (w1.setCell ⟨w.heap.size + 1, 3, none⟩ (.string (headH z.house z.epoch z.root z.prev))).cell? ⟨w.heap.size, 2, none⟩ = some (.string ⟨#[]⟩) := by simp [go_sem, r2]
      replace r3 : (w1.setCell ⟨w.heap.size + 1, 3, none⟩ (.string (headH z.house z.epoch z.root z.prev))).cell? ⟨w.heap.size, 3, none⟩ = some (.string ⟨#[]⟩) := by simp [go_sem, r3]
      have fr : ∀ j, (w1.setCell ⟨w.heap.size + 1, 3, none⟩ (.string (headH z.house z.epoch z.root z.prev))).frozen? ⟨w.heap.size, j, none⟩ = false := fun j => by simp [go_sem, fr1]
      have x0 : Ext w (w1.setCell ⟨w.heap.size + 1, 3, none⟩ (.string (headH z.house z.epoch z.root z.prev))) := xw.setCell (by dsimp only; omega) _
      have l0 : w.heap.size < (w1.setCell ⟨w.heap.size + 1, 3, none⟩ (.string (headH z.house z.epoch z.root z.prev))).heap.size := by rw [World.size_setCell]; exact la
      have l1 : w.heap.size + 1 < (w1.setCell ⟨w.heap.size + 1, 3, none⟩ (.string (headH z.house z.epoch z.root z.prev))).heap.size := by rw [World.size_setCell]; exact lb
      generalize (w1.setCell ⟨w.heap.size + 1, 3, none⟩ (.string (headH z.house z.epoch z.root z.prev))) = W at *
      refine (spec_ChainOk _ xs house _ (h.ext (by repeat (first | (with_reducible first | exact Ext.refl _ | assumption | apply Ext.alloc | apply Ext.drew | apply Ext.drewN | refine Ext.setCell ?_ ?_ _ | refine Ext.trans ?_ (by assumption)) | (show _ ≤ _; first | omega | (dsimp only; omega) | (simp; done) | (simp; omega))))) hb).mono ?_
      rw [HC.out]
      rintro e w2 ⟨rfl, x2⟩
      have y2 : Ext W w2 := (by repeat (first | (with_reducible first | exact Ext.refl _ | assumption | apply Ext.alloc | apply Ext.drew | apply Ext.drewN | refine Ext.setCell ?_ ?_ _ | refine Ext.trans ?_ (by assumption)) | (show _ ≤ _; first | omega | (dsimp only; omega) | (simp; done) | (simp; omega))))
      replace p0 := (y2.cell _ _ l1).trans p0
      replace p1 := (y2.cell _ _ l1).trans p1
      replace p2 := (y2.cell _ _ l1).trans p2
      replace p3 := (y2.cell _ _ l1).trans p3
      replace r0 := (y2.cell _ _ l0).trans r0
      replace r1 := (y2.cell _ _ l0).trans r1
      replace r2 := (y2.cell _ _ l0).trans r2
      replace r3 := (y2.cell _ _ l0).trans r3
      replace fr := fun j => (y2.frozen _ j l0).trans (fr j)
      replace l1 := Nat.lt_of_lt_of_le l1 y2.size
      replace l0 := Nat.lt_of_lt_of_le l0 y2.size
      go_wp2
      refine bodyPost_ret (v := .tuple #[.agg #[.int .i64 0, .int .i64 0, .string ⟨#[]⟩, .string ⟨#[]⟩], .bool false]) (by simp [results, Tryd.results205, go_sem, r0, r1, r2, r3]) rfl ⟨by rw [R.out], (by repeat (first | (with_reducible first | exact Ext.refl _ | assumption | apply Ext.alloc | apply Ext.drew | apply Ext.drewN | refine Ext.setCell ?_ ?_ _ | refine Ext.trans ?_ (by assumption)) | (show _ ≤ _; first | omega | (dsimp only; omega) | (simp; done) | (simp; omega))))⟩
    · cases hh : headOk house ((xs.length : Int) + 1) root (lastH xs)
      · have R := Lib.hid (nx_no (xs := xs) (house := house) (root := root) (by rw [nxOk, hc, hh]; rfl))
        have HC := Lib.hid hc
        have HH := Lib.hid hh
        clear hc hh
        obtain ⟨j, hj⟩ : ∃ j, xs.length = j + 1 := ⟨xs.length - 1, by omega⟩
        have hlt : j < xs.length := by omega
        have hR : lastH xs = hdH2 xs[j] := by rw [lastH, if_neg hn, show xs.length - 1 = j by omega, getD_hd _ _ hlt]
        obtain ⟨-, a1, c1, hv, hc1, hm1, g1⟩ := id h
        injection hv with e1 e2 e3
        subst e1 e3
        rcases g1 with g1 | ⟨b1, o1, rfl, hb1, g1⟩
        · omega
        have e1 : w.cell? ⟨b1, o1 + j * 4, none⟩ = some (.int .i64 xs[j].house) := g1 _ _ (hd_c0 xs _ hlt)
        have e2 : w.cell? ⟨b1, o1 + j * 4 + 1, none⟩ = some (.int .i64 xs[j].epoch) := g1 _ _ (hd_c1 xs _ hlt)
        have e3 : w.cell? ⟨b1, o1 + j * 4 + 2, none⟩ = some (.string xs[j].root) := g1 _ _ (hd_c2 xs _ hlt)
        have e4 : w.cell? ⟨b1, o1 + j * 4 + 3, none⟩ = some (.string xs[j].prev) := g1 _ _ (hd_c3 xs _ hlt)
        generalize xs[j] = z at *
        have LL := Lib.hid hR
        have hgt : (0 : Int) < xs.length := by omega
        have hgn : 0 < xs.length := by omega
        have hw2 : IntKind.i64.wrap ((xs.length : Int) - 1) = (j : Int) := by rw [IntWalk.i64_in _ (by omega)]; omega
        have hj0 : (0 : Int) ≤ (j : Int) := by omega
        have hj1 : (j : Int) < xs.length := by omega
        clear g1 hn hR hj
        go_enter Tryd.func205, Tryd.ntmps205
        go_wp2_with fail
        refine (spec_HeadHash _ _ _ _ _).mono ?_
        rintro e w1 ⟨rfl, x1⟩
        have E_x1 := Old.of x1; (repeat (first | (replace E_x1 := Old.undrew E_x1) | (replace E_x1 := Old.undrewN E_x1))); have c_E_x1 := Old.cell E_x1; have f_E_x1 := Old.frozen E_x1; have z_E_x1 := Old.size E_x1; try simp only [World.size_alloc] at c_E_x1 f_E_x1 z_E_x1; try have l_E_x1 := Nat.lt_of_succ_le z_E_x1; try have m_E_x1 := Nat.lt_of_succ_lt l_E_x1; try have n_E_x1 := Nat.lt_of_succ_lt m_E_x1
        have r0 := c_E_x1 (w.heap.size) 0 (by omega); simp [go_sem] at r0; have r1 := c_E_x1 (w.heap.size) 1 (by omega); simp [go_sem] at r1; have r2 := c_E_x1 (w.heap.size) 2 (by omega); simp [go_sem] at r2; have r3 := c_E_x1 (w.heap.size) 3 (by omega); simp [go_sem] at r3
        have p0 := c_E_x1 (w.heap.size + 1) 0 (by omega); simp [go_sem] at p0; have p1 := c_E_x1 (w.heap.size + 1) 1 (by omega); simp [go_sem] at p1; have p2 := c_E_x1 (w.heap.size + 1) 2 (by omega); simp [go_sem] at p2; have p3 := c_E_x1 (w.heap.size + 1) 3 (by omega); simp [go_sem] at p3
        have xw : Ext w w1 := (by repeat (first | (with_reducible first | exact Ext.refl _ | assumption | apply Ext.alloc | apply Ext.drew | apply Ext.drewN | refine Ext.setCell ?_ ?_ _ | refine Ext.trans ?_ (by assumption)) | (show _ ≤ _; first | omega | (dsimp only; omega) | (simp; done) | (simp; omega))))
        have fr1 : ∀ j, w1.frozen? ⟨w.heap.size, j, none⟩ = false := fun j => by rw [f_E_x1 _ _ (by omega)]; simp [go_sem]
        have fr2 : ∀ j, w1.frozen? ⟨w.heap.size + 1, j, none⟩ = false := fun j => by rw [f_E_x1 _ _ (by omega)]; simp [go_sem]
        have la : w.heap.size < w1.heap.size := by omega
        have lb : w.heap.size + 1 < w1.heap.size := by omega
        clear c_E_x1 f_E_x1
        go_wp2_with fail
        replace p3 : (w1.setCell ⟨w.heap.size + 1, 3, none⟩ (.string (headH z.house z.epoch z.root z.prev))).cell? ⟨w.heap.size + 1, 3, none⟩ = some (.string (lastH xs)) := by rw [LL.out, hdH2]; simp [go_sem, p3]
        replace p0 : (w1.setCell ⟨w.heap.size + 1, 3, none⟩ (.string (headH z.house z.epoch z.root z.prev))).cell? ⟨w.heap.size + 1, 0, none⟩ = some (.int .i64 house) := by simp [go_sem, p0]
        replace p1 : (w1.setCell ⟨w.heap.size + 1, 3, none⟩ (.string (headH z.house z.epoch z.root z.prev))).cell? ⟨w.heap.size + 1, 1, none⟩ = some (.int .i64 ((xs.length : Int) + 1)) := by simp [go_sem, p1]
        replace p2 : (w1.setCell ⟨w.heap.size + 1, 3, none⟩ (.string (headH z.house z.epoch z.root z.prev))).cell? ⟨w.heap.size + 1, 2, none⟩ = some (.string root) := by simp [go_sem, p2]
        replace r0 : (w1.setCell ⟨w.heap.size + 1, 3, none⟩ (.string (headH z.house z.epoch z.root z.prev))).cell? ⟨w.heap.size, 0, none⟩ = some (.int .i64 0) := by simp [go_sem, r0]
        replace r1 : (w1.setCell ⟨w.heap.size + 1, 3, none⟩ (.string (headH z.house z.epoch z.root z.prev))).cell? ⟨w.heap.size, 1, none⟩ = some (.int .i64 0) := by simp [go_sem, r1]
        replace r2 : (w1.setCell ⟨w.heap.size + 1, 3, none⟩ (.string (headH z.house z.epoch z.root z.prev))).cell? ⟨w.heap.size, 2, none⟩ = some (.string ⟨#[]⟩) := by simp [go_sem, r2]
        replace r3 : (w1.setCell ⟨w.heap.size + 1, 3, none⟩ (.string (headH z.house z.epoch z.root z.prev))).cell? ⟨w.heap.size, 3, none⟩ = some (.string ⟨#[]⟩) := by simp [go_sem, r3]
        have fr : ∀ j, (w1.setCell ⟨w.heap.size + 1, 3, none⟩ (.string (headH z.house z.epoch z.root z.prev))).frozen? ⟨w.heap.size, j, none⟩ = false := fun j => by simp [go_sem, fr1]
        have x0 : Ext w (w1.setCell ⟨w.heap.size + 1, 3, none⟩ (.string (headH z.house z.epoch z.root z.prev))) := xw.setCell (by dsimp only; omega) _
        have l0 : w.heap.size < (w1.setCell ⟨w.heap.size + 1, 3, none⟩ (.string (headH z.house z.epoch z.root z.prev))).heap.size := by rw [World.size_setCell]; exact la
        have l1 : w.heap.size + 1 < (w1.setCell ⟨w.heap.size + 1, 3, none⟩ (.string (headH z.house z.epoch z.root z.prev))).heap.size := by rw [World.size_setCell]; exact lb
        generalize (w1.setCell ⟨w.heap.size + 1, 3, none⟩ (.string (headH z.house z.epoch z.root z.prev))) = W at *
        refine (spec_ChainOk _ xs house _ (h.ext (by repeat (first | (with_reducible first | exact Ext.refl _ | assumption | apply Ext.alloc | apply Ext.drew | apply Ext.drewN | refine Ext.setCell ?_ ?_ _ | refine Ext.trans ?_ (by assumption)) | (show _ ≤ _; first | omega | (dsimp only; omega) | (simp; done) | (simp; omega))))) hb).mono ?_
        rw [HC.out]
        rintro e w2 ⟨rfl, x2⟩
        have y2 : Ext W w2 := (by repeat (first | (with_reducible first | exact Ext.refl _ | assumption | apply Ext.alloc | apply Ext.drew | apply Ext.drewN | refine Ext.setCell ?_ ?_ _ | refine Ext.trans ?_ (by assumption)) | (show _ ≤ _; first | omega | (dsimp only; omega) | (simp; done) | (simp; omega))))
        replace p0 := (y2.cell _ _ l1).trans p0
        replace p1 := (y2.cell _ _ l1).trans p1
        replace p2 := (y2.cell _ _ l1).trans p2
        replace p3 := (y2.cell _ _ l1).trans p3
        replace r0 := (y2.cell _ _ l0).trans r0
        replace r1 := (y2.cell _ _ l0).trans r1
        replace r2 := (y2.cell _ _ l0).trans r2
        replace r3 := (y2.cell _ _ l0).trans r3
        replace fr := fun j => (y2.frozen _ j l0).trans (fr j)
        replace l1 := Nat.lt_of_lt_of_le l1 y2.size
        replace l0 := Nat.lt_of_lt_of_le l0 y2.size
        go_wp2_with fail
        refine (spec_HeadOk _ _ _ _ _).mono ?_
        rw [HH.out]
        rintro e w3 ⟨rfl, x3⟩
        have y3 : Ext w2 w3 := (by repeat (first | (with_reducible first | exact Ext.refl _ | assumption | apply Ext.alloc | apply Ext.drew | apply Ext.drewN | refine Ext.setCell ?_ ?_ _ | refine Ext.trans ?_ (by assumption)) | (show _ ≤ _; first | omega | (dsimp only; omega) | (simp; done) | (simp; omega))))
        replace p0 := (y3.cell _ _ l1).trans p0
        replace p1 := (y3.cell _ _ l1).trans p1
        replace p2 := (y3.cell _ _ l1).trans p2
        replace p3 := (y3.cell _ _ l1).trans p3
        replace r0 := (y3.cell _ _ l0).trans r0
        replace r1 := (y3.cell _ _ l0).trans r1
        replace r2 := (y3.cell _ _ l0).trans r2
        replace r3 := (y3.cell _ _ l0).trans r3
        replace fr := fun j => (y3.frozen _ j l0).trans (fr j)
        replace l1 := Nat.lt_of_lt_of_le l1 y3.size
        replace l0 := Nat.lt_of_lt_of_le l0 y3.size
        go_wp2
        refine bodyPost_ret (v := .tuple #[.agg #[.int .i64 0, .int .i64 0, .string ⟨#[]⟩, .string ⟨#[]⟩], .bool false]) (by simp [results, Tryd.results205, go_sem, r0, r1, r2, r3]) rfl ⟨by rw [R.out], (by repeat (first | (with_reducible first | exact Ext.refl _ | assumption | apply Ext.alloc | apply Ext.drew | apply Ext.drewN | refine Ext.setCell ?_ ?_ _ | refine Ext.trans ?_ (by assumption)) | (show _ ≤ _; first | omega | (dsimp only; omega) | (simp; done) | (simp; omega))))⟩
      · have R := Lib.hid (nx_yes (xs := xs) (house := house) (root := root) (by rw [nxOk, hc, hh]; rfl))
        have HC := Lib.hid hc
        have HH := Lib.hid hh
        clear hc hh
        obtain ⟨j, hj⟩ : ∃ j, xs.length = j + 1 := ⟨xs.length - 1, by omega⟩
        have hlt : j < xs.length := by omega
        have hR : lastH xs = hdH2 xs[j] := by rw [lastH, if_neg hn, show xs.length - 1 = j by omega, getD_hd _ _ hlt]
        obtain ⟨-, a1, c1, hv, hc1, hm1, g1⟩ := id h
        injection hv with e1 e2 e3
        subst e1 e3
        rcases g1 with g1 | ⟨b1, o1, rfl, hb1, g1⟩
        · omega
        have e1 : w.cell? ⟨b1, o1 + j * 4, none⟩ = some (.int .i64 xs[j].house) := g1 _ _ (hd_c0 xs _ hlt)
        have e2 : w.cell? ⟨b1, o1 + j * 4 + 1, none⟩ = some (.int .i64 xs[j].epoch) := g1 _ _ (hd_c1 xs _ hlt)
        have e3 : w.cell? ⟨b1, o1 + j * 4 + 2, none⟩ = some (.string xs[j].root) := g1 _ _ (hd_c2 xs _ hlt)
        have e4 : w.cell? ⟨b1, o1 + j * 4 + 3, none⟩ = some (.string xs[j].prev) := g1 _ _ (hd_c3 xs _ hlt)
        generalize xs[j] = z at *
        have LL := Lib.hid hR
        have hgt : (0 : Int) < xs.length := by omega
        have hgn : 0 < xs.length := by omega
        have hw2 : IntKind.i64.wrap ((xs.length : Int) - 1) = (j : Int) := by rw [IntWalk.i64_in _ (by omega)]; omega
        have hj0 : (0 : Int) ≤ (j : Int) := by omega
        have hj1 : (j : Int) < xs.length := by omega
        clear g1 hn hR hj
        go_enter Tryd.func205, Tryd.ntmps205
        go_wp2_with fail
        refine (spec_HeadHash _ _ _ _ _).mono ?_
        rintro e w1 ⟨rfl, x1⟩
        have E_x1 := Old.of x1; (repeat (first | (replace E_x1 := Old.undrew E_x1) | (replace E_x1 := Old.undrewN E_x1))); have c_E_x1 := Old.cell E_x1; have f_E_x1 := Old.frozen E_x1; have z_E_x1 := Old.size E_x1; try simp only [World.size_alloc] at c_E_x1 f_E_x1 z_E_x1; try have l_E_x1 := Nat.lt_of_succ_le z_E_x1; try have m_E_x1 := Nat.lt_of_succ_lt l_E_x1; try have n_E_x1 := Nat.lt_of_succ_lt m_E_x1
        have r0 := c_E_x1 (w.heap.size) 0 (by omega); simp [go_sem] at r0; have r1 := c_E_x1 (w.heap.size) 1 (by omega); simp [go_sem] at r1; have r2 := c_E_x1 (w.heap.size) 2 (by omega); simp [go_sem] at r2; have r3 := c_E_x1 (w.heap.size) 3 (by omega); simp [go_sem] at r3
        have p0 := c_E_x1 (w.heap.size + 1) 0 (by omega); simp [go_sem] at p0; have p1 := c_E_x1 (w.heap.size + 1) 1 (by omega); simp [go_sem] at p1; have p2 := c_E_x1 (w.heap.size + 1) 2 (by omega); simp [go_sem] at p2; have p3 := c_E_x1 (w.heap.size + 1) 3 (by omega); simp [go_sem] at p3
        have xw : Ext w w1 := (by repeat (first | (with_reducible first | exact Ext.refl _ | assumption | apply Ext.alloc | apply Ext.drew | apply Ext.drewN | refine Ext.setCell ?_ ?_ _ | refine Ext.trans ?_ (by assumption)) | (show _ ≤ _; first | omega | (dsimp only; omega) | (simp; done) | (simp; omega))))
        have fr1 : ∀ j, w1.frozen? ⟨w.heap.size, j, none⟩ = false := fun j => by rw [f_E_x1 _ _ (by omega)]; simp [go_sem]
        have fr2 : ∀ j, w1.frozen? ⟨w.heap.size + 1, j, none⟩ = false := fun j => by rw [f_E_x1 _ _ (by omega)]; simp [go_sem]
        have la : w.heap.size < w1.heap.size := by omega
        have lb : w.heap.size + 1 < w1.heap.size := by omega
        clear c_E_x1 f_E_x1
        go_wp2_with fail
        replace p3 : (w1.setCell ⟨w.heap.size + 1, 3, none⟩ (.string (headH z.house z.epoch z.root z.prev))).cell? ⟨w.heap.size + 1, 3, none⟩ = some (.string (lastH xs)) := by rw [LL.out, hdH2]; simp [go_sem, p3]
        replace p0 : (w1.setCell ⟨w.heap.size + 1, 3, none⟩ (.string (headH z.house z.epoch z.root z.prev))).cell? ⟨w.heap.size + 1, 0, none⟩ = some (.int .i64 house) := by simp [go_sem, p0]
        replace p1 : (w1.setCell ⟨w.heap.size + 1, 3, none⟩ (.string (headH z.house z.epoch z.root z.prev))).cell? ⟨w.heap.size + 1, 1, none⟩ = some (.int .i64 ((xs.length : Int) + 1)) := by simp [go_sem, p1]
        replace p2 : (w1.setCell ⟨w.heap.size + 1, 3, none⟩ (.string (headH z.house z.epoch z.root z.prev))).cell? ⟨w.heap.size + 1, 2, none⟩ = some (.string root) := by simp [go_sem, p2]
        replace r0 : (w1.setCell ⟨w.heap.size + 1, 3, none⟩ (.string (headH z.house z.epoch z.root z.prev))).cell? ⟨w.heap.size, 0, none⟩ = some (.int .i64 0) := by simp [go_sem, r0]
        replace r1 : (w1.setCell ⟨w.heap.size + 1, 3, none⟩ (.string (headH z.house z.epoch z.root z.prev))).cell? ⟨w.heap.size, 1, none⟩ = some (.int .i64 0) := by simp [go_sem, r1]
        replace r2 : (w1.setCell ⟨w.heap.size + 1, 3, none⟩ (.string (headH z.house z.epoch z.root z.prev))).cell? ⟨w.heap.size, 2, none⟩ = some (.string ⟨#[]⟩) := by simp [go_sem, r2]
        replace r3 : (w1.setCell ⟨w.heap.size + 1, 3, none⟩ (.string (headH z.house z.epoch z.root z.prev))).cell? ⟨w.heap.size, 3, none⟩ = some (.string ⟨#[]⟩) := by simp [go_sem, r3]
        have fr : ∀ j, (w1.setCell ⟨w.heap.size + 1, 3, none⟩ (.string (headH z.house z.epoch z.root z.prev))).frozen? ⟨w.heap.size, j, none⟩ = false := fun j => by simp [go_sem, fr1]
        have x0 : Ext w (w1.setCell ⟨w.heap.size + 1, 3, none⟩ (.string (headH z.house z.epoch z.root z.prev))) := xw.setCell (by dsimp only; omega) _
        have l0 : w.heap.size < (w1.setCell ⟨w.heap.size + 1, 3, none⟩ (.string (headH z.house z.epoch z.root z.prev))).heap.size := by rw [World.size_setCell]; exact la
        have l1 : w.heap.size + 1 < (w1.setCell ⟨w.heap.size + 1, 3, none⟩ (.string (headH z.house z.epoch z.root z.prev))).heap.size := by rw [World.size_setCell]; exact lb
        generalize (w1.setCell ⟨w.heap.size + 1, 3, none⟩ (.string (headH z.house z.epoch z.root z.prev))) = W at *
        refine (spec_ChainOk _ xs house _ (h.ext (by repeat (first | (with_reducible first | exact Ext.refl _ | assumption | apply Ext.alloc | apply Ext.drew | apply Ext.drewN | refine Ext.setCell ?_ ?_ _ | refine Ext.trans ?_ (by assumption)) | (show _ ≤ _; first | omega | (dsimp only; omega) | (simp; done) | (simp; omega))))) hb).mono ?_
        rw [HC.out]
        rintro e w2 ⟨rfl, x2⟩
        have y2 : Ext W w2 := (by repeat (first | (with_reducible first | exact Ext.refl _ | assumption | apply Ext.alloc | apply Ext.drew | apply Ext.drewN | refine Ext.setCell ?_ ?_ _ | refine Ext.trans ?_ (by assumption)) | (show _ ≤ _; first | omega | (dsimp only; omega) | (simp; done) | (simp; omega))))
        replace p0 := (y2.cell _ _ l1).trans p0
        replace p1 := (y2.cell _ _ l1).trans p1
        replace p2 := (y2.cell _ _ l1).trans p2
        replace p3 := (y2.cell _ _ l1).trans p3
        replace r0 := (y2.cell _ _ l0).trans r0
        replace r1 := (y2.cell _ _ l0).trans r1
        replace r2 := (y2.cell _ _ l0).trans r2
        replace r3 := (y2.cell _ _ l0).trans r3
        replace fr := fun j => (y2.frozen _ j l0).trans (fr j)
        replace l1 := Nat.lt_of_lt_of_le l1 y2.size
        replace l0 := Nat.lt_of_lt_of_le l0 y2.size
        go_wp2_with fail
        refine (spec_HeadOk _ _ _ _ _).mono ?_
        rw [HH.out]
        rintro e w3 ⟨rfl, x3⟩
        have y3 : Ext w2 w3 := (by repeat (first | (with_reducible first | exact Ext.refl _ | assumption | apply Ext.alloc | apply Ext.drew | apply Ext.drewN | refine Ext.setCell ?_ ?_ _ | refine Ext.trans ?_ (by assumption)) | (show _ ≤ _; first | omega | (dsimp only; omega) | (simp; done) | (simp; omega))))
        replace p0 := (y3.cell _ _ l1).trans p0
        replace p1 := (y3.cell _ _ l1).trans p1
        replace p2 := (y3.cell _ _ l1).trans p2
        replace p3 := (y3.cell _ _ l1).trans p3
        replace r0 := (y3.cell _ _ l0).trans r0
        replace r1 := (y3.cell _ _ l0).trans r1
        replace r2 := (y3.cell _ _ l0).trans r2
        replace r3 := (y3.cell _ _ l0).trans r3
        replace fr := fun j => (y3.frozen _ j l0).trans (fr j)
        replace l1 := Nat.lt_of_lt_of_le l1 y3.size
        replace l0 := Nat.lt_of_lt_of_le l0 y3.size
        go_wp2
        refine bodyPost_ret (v := .tuple #[.agg #[.int .i64 house, .int .i64 ((xs.length : Int) + 1), .string root, .string (lastH xs)], .bool true]) (by simp [results, Tryd.results205, go_sem, r0, r1, r2, r3]) rfl ⟨by rw [R.out], (by repeat (first | (with_reducible first | exact Ext.refl _ | assumption | apply Ext.alloc | apply Ext.drew | apply Ext.drewN | refine Ext.setCell ?_ ?_ _ | refine Ext.trans ?_ (by assumption)) | (show _ ≤ _; first | omega | (dsimp only; omega) | (simp; done) | (simp; omega))))⟩

end Go.Proofs.YtliebkhfddmhjaaDoor
