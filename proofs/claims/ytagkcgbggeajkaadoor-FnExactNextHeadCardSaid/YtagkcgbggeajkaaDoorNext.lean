/- The head behind a chain; the law on NextHead. -/
import Derived.Test.YtagkcgbggeajkaaDoorChain2
namespace Go.Proofs.YtagkcgbggeajkaaDoor
open Go.RowKit

def pickI (ok : Bool) (n : Int) : Int := if ok = true then n else 0
def pickS (ok : Bool) (s : ByteArray) : ByteArray := if ok = true then s else ⟨#[]⟩
def nxOk (xs : List Hd) (house : Int) (root : ByteArray) : Bool := chainOk xs house && headOk house ((xs.length : Int) + 1) root (lastH xs)
/-- what is handed back -/
def nxV (xs : List Hd) (house : Int) (root : ByteArray) : Value := .tuple #[.agg #[.int .i64 (pickI (nxOk xs house root) house), .int .i64 (pickI (nxOk xs house root) ((xs.length : Int) + 1)), .string (pickS (nxOk xs house root) root), .string (pickS (nxOk xs house root) (lastH xs))], .bool (nxOk xs house root)]
theorem nx_no {xs : List Hd} {house : Int} {root : ByteArray} (h : nxOk xs house root = false) : nxV xs house root = .tuple #[.agg #[.int .i64 0, .int .i64 0, .string ⟨#[]⟩, .string ⟨#[]⟩], .bool false] := by
  simp [nxV, h, pickI, pickS]
theorem nx_yes {xs : List Hd} {house : Int} {root : ByteArray} (h : nxOk xs house root = true) : nxV xs house root = .tuple #[.agg #[.int .i64 house, .int .i64 ((xs.length : Int) + 1), .string root, .string (lastH xs)], .bool true] := by
  simp [nxV, h, pickI, pickS]

set_option maxRecDepth 100000 in
set_option maxHeartbeats 1600000 in
theorem impl_NextHead (v : Value) (xs : List Hd) (house : Int) (root : ByteArray) (w : World) (h : Hds w v xs) (hb : xs.length ≤ 1099511627776) (hT : Tabs w) :
    Calls Tryd.prog 19 #[v, .int .i64 house, .string root] w fun e w' => e = .returned (nxV xs house root) ∧ Ext w w' := by
  have HT := Lib.hid hT
  clear hT
  obtain ⟨a, c, rfl⟩ := h.form
  cases hc : chainOk xs house
  · have R := Lib.hid (nx_no (xs := xs) (house := house) (root := root) (by rw [nxOk, hc]; rfl))
    have HC := Lib.hid hc
    clear hc
    go_enter Tryd.func19, Tryd.ntmps19
    go_wp2_with fail
    refine (impl_ChainOk _ xs house _ (h.ext (by repeat (first | (with_reducible first | exact Ext.refl _ | assumption | apply Ext.alloc | apply Ext.drew | apply Ext.drewN | refine Ext.setCell ?_ ?_ _ | refine Ext.trans ?_ (by assumption)) | (show _ ≤ _; first | omega | (dsimp only; omega) | (simp; done) | (simp; omega))))) hb (by exact HT.out.ext (by repeat (first | (with_reducible first | exact Ext.refl _ | assumption | apply Ext.alloc | apply Ext.drew | apply Ext.drewN | refine Ext.setCell ?_ ?_ _ | refine Ext.trans ?_ (by assumption)) | (show _ ≤ _; first | omega | (dsimp only; omega) | (simp; done) | (simp; omega)))))).mono ?_
    rw [HC.out]
    rintro e w1 ⟨rfl, x1⟩
    have E_x1 := Old.of x1; (repeat (first | (replace E_x1 := Old.undrew E_x1) | (replace E_x1 := Old.undrewN E_x1))); have c_E_x1 := Old.cell E_x1; have f_E_x1 := Old.frozen E_x1; have z_E_x1 := Old.size E_x1; try simp only [World.size_alloc] at c_E_x1 f_E_x1 z_E_x1; try have l_E_x1 := Nat.lt_of_succ_le z_E_x1; try have m_E_x1 := Nat.lt_of_succ_lt l_E_x1; try have n_E_x1 := Nat.lt_of_succ_lt m_E_x1
    have r0 := c_E_x1 (w.heap.size) 0 (by omega); simp [go_sem] at r0; have r1 := c_E_x1 (w.heap.size) 1 (by omega); simp [go_sem] at r1; have r2 := c_E_x1 (w.heap.size) 2 (by omega); simp [go_sem] at r2; have r3 := c_E_x1 (w.heap.size) 3 (by omega); simp [go_sem] at r3
    go_wp2
    refine bodyPost_ret (v := .tuple #[.agg #[.int .i64 0, .int .i64 0, .string ⟨#[]⟩, .string ⟨#[]⟩], .bool false]) (by simp [results, Tryd.results19, go_sem, r0, r1, r2, r3]) rfl ⟨by rw [R.out], (by repeat (first | (with_reducible first | exact Ext.refl _ | assumption | apply Ext.alloc | apply Ext.drew | apply Ext.drewN | refine Ext.setCell ?_ ?_ _ | refine Ext.trans ?_ (by assumption)) | (show _ ≤ _; first | omega | (dsimp only; omega) | (simp; done) | (simp; omega))))⟩
  · cases hh : headOk house ((xs.length : Int) + 1) root (lastH xs)
    · have R := Lib.hid (nx_no (xs := xs) (house := house) (root := root) (by rw [nxOk, hc, hh]; rfl))
      have HC := Lib.hid hc
      have HH := Lib.hid hh
      clear hc hh
      go_enter Tryd.func19, Tryd.ntmps19
      go_wp2_with fail
      refine (impl_ChainOk _ xs house _ (h.ext (by repeat (first | (with_reducible first | exact Ext.refl _ | assumption | apply Ext.alloc | apply Ext.drew | apply Ext.drewN | refine Ext.setCell ?_ ?_ _ | refine Ext.trans ?_ (by assumption)) | (show _ ≤ _; first | omega | (dsimp only; omega) | (simp; done) | (simp; omega))))) hb (by exact HT.out.ext (by repeat (first | (with_reducible first | exact Ext.refl _ | assumption | apply Ext.alloc | apply Ext.drew | apply Ext.drewN | refine Ext.setCell ?_ ?_ _ | refine Ext.trans ?_ (by assumption)) | (show _ ≤ _; first | omega | (dsimp only; omega) | (simp; done) | (simp; omega)))))).mono ?_
      rw [HC.out]
      rintro e w1 ⟨rfl, x1⟩
      have E_x1 := Old.of x1; (repeat (first | (replace E_x1 := Old.undrew E_x1) | (replace E_x1 := Old.undrewN E_x1))); have c_E_x1 := Old.cell E_x1; have f_E_x1 := Old.frozen E_x1; have z_E_x1 := Old.size E_x1; try simp only [World.size_alloc] at c_E_x1 f_E_x1 z_E_x1; try have l_E_x1 := Nat.lt_of_succ_le z_E_x1; try have m_E_x1 := Nat.lt_of_succ_lt l_E_x1; try have n_E_x1 := Nat.lt_of_succ_lt m_E_x1
      go_wp2_with fail
      refine (impl_nextHead _ xs house root _ (h.ext (by repeat (first | (with_reducible first | exact Ext.refl _ | assumption | apply Ext.alloc | apply Ext.drew | apply Ext.drewN | refine Ext.setCell ?_ ?_ _ | refine Ext.trans ?_ (by assumption)) | (show _ ≤ _; first | omega | (dsimp only; omega) | (simp; done) | (simp; omega))))) hb (by exact HT.out.ext (by repeat (first | (with_reducible first | exact Ext.refl _ | assumption | apply Ext.alloc | apply Ext.drew | apply Ext.drewN | refine Ext.setCell ?_ ?_ _ | refine Ext.trans ?_ (by assumption)) | (show _ ≤ _; first | omega | (dsimp only; omega) | (simp; done) | (simp; omega)))))).mono ?_
      rintro e w2 ⟨rfl, x2⟩
      have E_x2 := Old.via E_x1 x2 (by repeat (first | (with_reducible first | exact Ext.refl _ | assumption | apply Ext.alloc | apply Ext.drew | apply Ext.drewN | refine Ext.setCell ?_ ?_ _ | refine Ext.trans ?_ (by assumption)) | (show _ ≤ _; first | omega | (dsimp only; omega) | (simp; done) | (simp; omega)))); clear c_E_x1 f_E_x1; (repeat (first | (replace E_x2 := Old.undrew E_x2) | (replace E_x2 := Old.undrewN E_x2))); have c_E_x2 := Old.cell E_x2; have f_E_x2 := Old.frozen E_x2; have z_E_x2 := Old.size E_x2; try simp only [World.size_alloc] at c_E_x2 f_E_x2 z_E_x2; try have l_E_x2 := Nat.lt_of_succ_le z_E_x2; try have m_E_x2 := Nat.lt_of_succ_lt l_E_x2; try have n_E_x2 := Nat.lt_of_succ_lt m_E_x2
      go_wp2_with fail
      refine (impl_HeadOk _ _ _ _ _).mono ?_
      rw [HH.out]
      rintro e w3 ⟨rfl, x3⟩
      have E_x3 := Old.via E_x2 x3 (by repeat (first | (with_reducible first | exact Ext.refl _ | assumption | apply Ext.alloc | apply Ext.drew | apply Ext.drewN | refine Ext.setCell ?_ ?_ _ | refine Ext.trans ?_ (by assumption)) | (show _ ≤ _; first | omega | (dsimp only; omega) | (simp; done) | (simp; omega)))); clear c_E_x2 f_E_x2; (repeat (first | (replace E_x3 := Old.undrew E_x3) | (replace E_x3 := Old.undrewN E_x3))); have c_E_x3 := Old.cell E_x3; have f_E_x3 := Old.frozen E_x3; have z_E_x3 := Old.size E_x3; try simp only [World.size_alloc] at c_E_x3 f_E_x3 z_E_x3; try have l_E_x3 := Nat.lt_of_succ_le z_E_x3; try have m_E_x3 := Nat.lt_of_succ_lt l_E_x3; try have n_E_x3 := Nat.lt_of_succ_lt m_E_x3
      have c_x3 := Ext.cell x3; have f_x3 := Ext.frozen x3; have z_x3 := Ext.size x3; try simp only [World.size_alloc] at c_x3 f_x3 z_x3
      have q0 := c_x3 (w2.heap.size) 0 (by omega); simp [go_sem] at q0; have q1 := c_x3 (w2.heap.size) 1 (by omega); simp [go_sem] at q1; have q2 := c_x3 (w2.heap.size) 2 (by omega); simp [go_sem] at q2; have q3 := c_x3 (w2.heap.size) 3 (by omega); simp [go_sem] at q3
      have r0 := c_E_x3 (w.heap.size) 0 (by omega); simp [go_sem] at r0; have r1 := c_E_x3 (w.heap.size) 1 (by omega); simp [go_sem] at r1; have r2 := c_E_x3 (w.heap.size) 2 (by omega); simp [go_sem] at r2; have r3 := c_E_x3 (w.heap.size) 3 (by omega); simp [go_sem] at r3
      go_wp2
      refine bodyPost_ret (v := .tuple #[.agg #[.int .i64 0, .int .i64 0, .string ⟨#[]⟩, .string ⟨#[]⟩], .bool false]) (by simp [results, Tryd.results19, go_sem, r0, r1, r2, r3]) rfl ⟨by rw [R.out], (by repeat (first | (with_reducible first | exact Ext.refl _ | assumption | apply Ext.alloc | apply Ext.drew | apply Ext.drewN | refine Ext.setCell ?_ ?_ _ | refine Ext.trans ?_ (by assumption)) | (show _ ≤ _; first | omega | (dsimp only; omega) | (simp; done) | (simp; omega))))⟩
    · have R := Lib.hid (nx_yes (xs := xs) (house := house) (root := root) (by rw [nxOk, hc, hh]; rfl))
      have HC := Lib.hid hc
      have HH := Lib.hid hh
      clear hc hh
      go_enter Tryd.func19, Tryd.ntmps19
      go_wp2_with fail
      refine (impl_ChainOk _ xs house _ (h.ext (by repeat (first | (with_reducible first | exact Ext.refl _ | assumption | apply Ext.alloc | apply Ext.drew | apply Ext.drewN | refine Ext.setCell ?_ ?_ _ | refine Ext.trans ?_ (by assumption)) | (show _ ≤ _; first | omega | (dsimp only; omega) | (simp; done) | (simp; omega))))) hb (by exact HT.out.ext (by repeat (first | (with_reducible first | exact Ext.refl _ | assumption | apply Ext.alloc | apply Ext.drew | apply Ext.drewN | refine Ext.setCell ?_ ?_ _ | refine Ext.trans ?_ (by assumption)) | (show _ ≤ _; first | omega | (dsimp only; omega) | (simp; done) | (simp; omega)))))).mono ?_
      rw [HC.out]
      rintro e w1 ⟨rfl, x1⟩
      have E_x1 := Old.of x1; (repeat (first | (replace E_x1 := Old.undrew E_x1) | (replace E_x1 := Old.undrewN E_x1))); have c_E_x1 := Old.cell E_x1; have f_E_x1 := Old.frozen E_x1; have z_E_x1 := Old.size E_x1; try simp only [World.size_alloc] at c_E_x1 f_E_x1 z_E_x1; try have l_E_x1 := Nat.lt_of_succ_le z_E_x1; try have m_E_x1 := Nat.lt_of_succ_lt l_E_x1; try have n_E_x1 := Nat.lt_of_succ_lt m_E_x1
      go_wp2_with fail
      refine (impl_nextHead _ xs house root _ (h.ext (by repeat (first | (with_reducible first | exact Ext.refl _ | assumption | apply Ext.alloc | apply Ext.drew | apply Ext.drewN | refine Ext.setCell ?_ ?_ _ | refine Ext.trans ?_ (by assumption)) | (show _ ≤ _; first | omega | (dsimp only; omega) | (simp; done) | (simp; omega))))) hb (by exact HT.out.ext (by repeat (first | (with_reducible first | exact Ext.refl _ | assumption | apply Ext.alloc | apply Ext.drew | apply Ext.drewN | refine Ext.setCell ?_ ?_ _ | refine Ext.trans ?_ (by assumption)) | (show _ ≤ _; first | omega | (dsimp only; omega) | (simp; done) | (simp; omega)))))).mono ?_
      rintro e w2 ⟨rfl, x2⟩
      have E_x2 := Old.via E_x1 x2 (by repeat (first | (with_reducible first | exact Ext.refl _ | assumption | apply Ext.alloc | apply Ext.drew | apply Ext.drewN | refine Ext.setCell ?_ ?_ _ | refine Ext.trans ?_ (by assumption)) | (show _ ≤ _; first | omega | (dsimp only; omega) | (simp; done) | (simp; omega)))); clear c_E_x1 f_E_x1; (repeat (first | (replace E_x2 := Old.undrew E_x2) | (replace E_x2 := Old.undrewN E_x2))); have c_E_x2 := Old.cell E_x2; have f_E_x2 := Old.frozen E_x2; have z_E_x2 := Old.size E_x2; try simp only [World.size_alloc] at c_E_x2 f_E_x2 z_E_x2; try have l_E_x2 := Nat.lt_of_succ_le z_E_x2; try have m_E_x2 := Nat.lt_of_succ_lt l_E_x2; try have n_E_x2 := Nat.lt_of_succ_lt m_E_x2
      go_wp2_with fail
      refine (impl_HeadOk _ _ _ _ _).mono ?_
      rw [HH.out]
      rintro e w3 ⟨rfl, x3⟩
      have E_x3 := Old.via E_x2 x3 (by repeat (first | (with_reducible first | exact Ext.refl _ | assumption | apply Ext.alloc | apply Ext.drew | apply Ext.drewN | refine Ext.setCell ?_ ?_ _ | refine Ext.trans ?_ (by assumption)) | (show _ ≤ _; first | omega | (dsimp only; omega) | (simp; done) | (simp; omega)))); clear c_E_x2 f_E_x2; (repeat (first | (replace E_x3 := Old.undrew E_x3) | (replace E_x3 := Old.undrewN E_x3))); have c_E_x3 := Old.cell E_x3; have f_E_x3 := Old.frozen E_x3; have z_E_x3 := Old.size E_x3; try simp only [World.size_alloc] at c_E_x3 f_E_x3 z_E_x3; try have l_E_x3 := Nat.lt_of_succ_le z_E_x3; try have m_E_x3 := Nat.lt_of_succ_lt l_E_x3; try have n_E_x3 := Nat.lt_of_succ_lt m_E_x3
      have c_x3 := Ext.cell x3; have f_x3 := Ext.frozen x3; have z_x3 := Ext.size x3; try simp only [World.size_alloc] at c_x3 f_x3 z_x3
      have q0 := c_x3 (w2.heap.size) 0 (by omega); simp [go_sem] at q0; have q1 := c_x3 (w2.heap.size) 1 (by omega); simp [go_sem] at q1; have q2 := c_x3 (w2.heap.size) 2 (by omega); simp [go_sem] at q2; have q3 := c_x3 (w2.heap.size) 3 (by omega); simp [go_sem] at q3
      have r0 := c_E_x3 (w.heap.size) 0 (by omega); simp [go_sem] at r0; have r1 := c_E_x3 (w.heap.size) 1 (by omega); simp [go_sem] at r1; have r2 := c_E_x3 (w.heap.size) 2 (by omega); simp [go_sem] at r2; have r3 := c_E_x3 (w.heap.size) 3 (by omega); simp [go_sem] at r3
      go_wp2
      refine bodyPost_ret (v := .tuple #[.agg #[.int .i64 house, .int .i64 ((xs.length : Int) + 1), .string root, .string (lastH xs)], .bool true]) (by simp [results, Tryd.results19, go_sem, r0, r1, r2, r3]) rfl ⟨by rw [R.out], (by repeat (first | (with_reducible first | exact Ext.refl _ | assumption | apply Ext.alloc | apply Ext.drew | apply Ext.drewN | refine Ext.setCell ?_ ?_ _ | refine Ext.trans ?_ (by assumption)) | (show _ ≤ _; first | omega | (dsimp only; omega) | (simp; done) | (simp; omega))))⟩
end Go.Proofs.YtagkcgbggeajkaaDoor
