/- LText, LText2, Well, Proof in one text. -/
import Derived.Test.YtckipgijfgeghaaGreatDoorLeafA
import Derived.Test.YtckipgijfgeghaaGreatDoorStrA
import Derived.Test.YtckipgijfgeghaaGreatDoorCore
import Derived.Deep.RegionHeld3
namespace Go.Proofs.YtckipgijfgeghaaGreatDoor
open Go.RowKit

def leafT (l : Leaf) : ByteArray := varT l.name.size ++ l.name ++ (varT l.value.size ++ l.value)
def leavesUpto (xs : List Leaf) (k : Nat) : ByteArray := (xs.take k).foldl (fun a l => a ++ leafT l) (varT xs.length)
def leavesT (xs : List Leaf) : ByteArray := leavesUpto xs xs.length
theorem leavesUpto_succ (xs : List Leaf) (k : Nat) (h : k < xs.length) : leavesUpto xs (k + 1) = leavesUpto xs k ++ leafT xs[k] := by
  unfold leavesUpto
  rw [List.take_succ_eq_append_getElem h, List.foldl_append]
  rfl
/-- short leaves, not many -/
def LeafSmall (xs : List Leaf) : Prop := xs.length ≤ 1000 ∧ ∀ l ∈ xs, l.name.size ≤ 200 ∧ l.value.size ≤ 200
theorem leavesUpto_size {xs : List Leaf} (hs : LeafSmall xs) : ∀ k, k ≤ xs.length → (leavesUpto xs k).size ≤ 1001 + 1000 * k
  | 0, _ => by have := varT_size xs.length; have := hs.1; simp [leavesUpto]; omega
  | k + 1, h => by
    have h1 := leavesUpto_size hs k (by omega)
    obtain ⟨a, b⟩ := hs.2 xs[k] (List.getElem_mem (by omega))
    have c := varT_size xs[k].name.size
    have d := varT_size xs[k].value.size
    rw [leavesUpto_succ xs k (by omega)]
    simp only [leafT, ByteArray.size_append]
    omega
theorem leavesOk_small {xs : List Leaf} (h : leavesOk xs = true) : xs.length ≤ 24 ∧ ∀ l ∈ xs, (1 ≤ l.name.size ∧ l.name.size ≤ 12) ∧ (1 ≤ l.value.size ∧ l.value.size ≤ 12) := by
  rw [leavesOk, Bool.and_eq_true, decide_eq_true_eq, List.all_eq_true] at h
  refine ⟨h.1, fun l hl => ?_⟩
  obtain ⟨i, hi, rfl⟩ := List.getElem_of_mem hl
  have hg := h.2 i (List.mem_range.2 hi)
  have hd : xs.getD i noLeaf = xs[i] := by simp [hi]
  have hn : nameOk xs[i].name = true ∧ valueOk xs[i].value = true := by
    cases i with
    | zero => simp only [goodAt, hd, Bool.and_eq_true] at hg; exact hg
    | succ j => simp only [goodAt, hd, Bool.and_eq_true] at hg; exact ⟨hg.1, hg.2.1⟩
  have h1 := hn.1
  have h2 := hn.2
  simp only [nameOk, valueOk, Bool.and_eq_true, inB_true] at h1 h2
  omega
theorem leavesOk_LeafSmall {xs : List Leaf} (h : leavesOk xs = true) : LeafSmall xs := by
  obtain ⟨h1, h2⟩ := leavesOk_small h
  exact ⟨by omega, fun l hl => by have := h2 l hl; omega⟩

end Go.Proofs.YtckipgijfgeghaaGreatDoor
namespace Go.Proofs.YtckipgijfgeghaaGreatDoor
open Go.RowKit

def leavesTx (xs : List Leaf) : ByteArray := if leavesOk xs = true then leavesT xs else ⟨#[]⟩

end Go.Proofs.YtckipgijfgeghaaGreatDoor
namespace Go.Proofs.YtckipgijfgeghaaGreatDoor
open Go.RowKit

def proofWell (xs : List Leaf) (ss : List ByteArray) (wd : Int) : Bool := leavesOk xs && (decide (ss.length ≤ 8) && (inB wd 1 32 && wide ss wd))
theorem wide_small {ss : List ByteArray} {wd : Int} (h1 : ss.length ≤ 1000) (h2 : inB wd 1 32 = true) (h3 : wide ss wd = true) : StrSmall ss := by
  refine ⟨h1, fun s hs => ?_⟩
  rw [inB_true] at h2
  rw [wide, List.all_eq_true] at h3
  have := of_decide_eq_true (h3 s hs)
  omega
theorem proofWell_cases (xs : List Leaf) (ss : List ByteArray) (wd : Int) :
    (proofWell xs ss wd = false ∧ leavesOk xs = false) ∨ (proofWell xs ss wd = false ∧ leavesOk xs = true ∧ 8 < ss.length) ∨ (proofWell xs ss wd = false ∧ leavesOk xs = true ∧ ss.length ≤ 8 ∧ inB wd 1 32 = false) ∨ (proofWell xs ss wd = false ∧ leavesOk xs = true ∧ ss.length ≤ 8 ∧ inB wd 1 32 = true ∧ wide ss wd = false) ∨ (proofWell xs ss wd = true ∧ leavesOk xs = true ∧ ss.length ≤ 8 ∧ inB wd 1 32 = true ∧ wide ss wd = true) := by
  unfold proofWell
  by_cases h2 : ss.length ≤ 8
  · cases leavesOk xs <;> cases inB wd 1 32 <;> cases wide ss wd <;> simp [h2]
  · cases leavesOk xs <;> simp [h2]; omega
end Go.Proofs.YtckipgijfgeghaaGreatDoor
namespace Go.Proofs.YtckipgijfgeghaaGreatDoor
open Go.RowKit

/-- what is left of a bound behind two sizes -/
def szp (left : Int) (n m : Nat) : Int := if szr left n < 0 then -1 else szr (szr left n) m
theorem szp_neg {left : Int} {n m : Nat} (h : szr left n = -1) : szp left n m = -1 := by simp [szp, h]
theorem szp_pos {left z : Int} {n m : Nat} (h : szr left n = z) (hz : 0 ≤ z) : szp left n m = szr z m := by rw [szp, h, if_neg (by omega)]
theorem szp_cases (n m : Nat) : (szp 1048576 n m = -1) ∨ ∃ z : Int, szp 1048576 n m = z ∧ 0 ≤ z ∧ n ≤ 1048576 ∧ m ≤ 1048576 := by
  by_cases h : 1048576 < n
  · exact Or.inl (szp_neg (by simp only [szr]; rw [if_pos (by omega)]))
  · have hz : szr 1048576 n = 1048576 - n := by simp only [szr]; rw [if_neg (by omega)]
    by_cases h2 : 1048576 - n < m
    · exact Or.inl (by rw [szp_pos hz (by omega), szr, if_pos (by omega)])
    · exact Or.inr ⟨_, szp_pos hz (by omega), by rw [szr, if_neg (by omega)]; omega, by omega, by omega⟩

set_option maxHeartbeats 400000 in
theorem laws_szProof (v u : Value) (xs : List Leaf) (ss : List ByteArray) (left : Int) (w : World) (h : Lvs w v xs) (hf : LeafFit xs) (hu : Strs w u ss) (hs : ∀ s ∈ ss, s.size ≤ maxLen) (hl : 0 ≤ left ∧ left ≤ 1048576) :
    Calls Tryz.prog 19 #[.agg #[v, u], .int .i64 left] w fun e w' => e = .returned (.int .i64 (szp left (xs.length + leafBytes xs) (ss.length + sizes ss))) ∧ Ext w w' := by
  obtain ⟨a, c, rfl⟩ := h.form
  obtain ⟨b, d, rfl⟩ := hu.form
  have hcase : szr left (xs.length + leafBytes xs) = -1 ∨ ∃ z : Int, szr left (xs.length + leafBytes xs) = z ∧ 0 ≤ z ∧ z ≤ 1048576 := by
    simp only [szr]; split
    · exact Or.inl rfl
    · exact Or.inr ⟨_, rfl, by omega, by omega⟩
  rcases hcase with hz | ⟨z, hz, hz0, hz1⟩
  · have HZ := Lib.hid hz
    have HR := Lib.hid (szp_neg (m := ss.length + sizes ss) hz)
    clear hz
    go_enter Tryz.func19, Tryz.ntmps19
    go_wp2_with (go_at_call 52; refine (laws_szLeafS _ xs _ _ (h.ext (by repeat (first | (with_reducible first | exact Ext.refl _ | assumption | apply Ext.alloc | apply Ext.drew | apply Ext.drewN | refine Ext.setCell ?_ ?_ _ | refine Ext.trans ?_ (by assumption)) | (show _ ≤ _; first | omega | (dsimp only; omega) | (simp; done) | (simp; omega))))) hl hf).mono ?_; rw [HZ.out]; rintro e w1 ⟨rfl, x1⟩)
    go_ret
    exact ⟨ret_int HR.out.symm, (by repeat (first | (with_reducible first | exact Ext.refl _ | assumption | apply Ext.alloc | apply Ext.drew | apply Ext.drewN | refine Ext.setCell ?_ ?_ _ | refine Ext.trans ?_ (by assumption)) | (show _ ≤ _; first | omega | (dsimp only; omega) | (simp; done) | (simp; omega))))⟩
  · have HZ := Lib.hid hz
    have hr := szp_pos (m := ss.length + sizes ss) hz hz0
    have hcase2 : szr z (ss.length + sizes ss) = -1 ∨ 0 ≤ szr z (ss.length + sizes ss) := by simp only [szr]; split <;> omega
    generalize hy : szr z (ss.length + sizes ss) = y at *
    have HY := Lib.hid hy
    have HR := Lib.hid hr
    clear hz hr hy
    rcases hcase2 with rfl | hcase2
    all_goals
      go_enter Tryz.func19, Tryz.ntmps19
      go_wp2_with (go_at_call 52; refine (laws_szLeafS _ xs _ _ (h.ext (by repeat (first | (with_reducible first | exact Ext.refl _ | assumption | apply Ext.alloc | apply Ext.drew | apply Ext.drewN | refine Ext.setCell ?_ ?_ _ | refine Ext.trans ?_ (by assumption)) | (show _ ≤ _; first | omega | (dsimp only; omega) | (simp; done) | (simp; omega))))) hl hf).mono ?_; rw [HZ.out]; rintro e w1 ⟨rfl, x1⟩; have E_x1 := Old.of x1; (repeat (first | (replace E_x1 := Old.undrew E_x1) | (replace E_x1 := Old.undrewN E_x1))); have c_E_x1 := Old.cell E_x1; have f_E_x1 := Old.frozen E_x1; have z_E_x1 := Old.size E_x1; try simp only [World.size_alloc] at c_E_x1 f_E_x1 z_E_x1; try have l_E_x1 := Nat.lt_of_succ_le z_E_x1; try have m_E_x1 := Nat.lt_of_succ_lt l_E_x1; try have n_E_x1 := Nat.lt_of_succ_lt m_E_x1)
      go_wp2_with (go_at_call 18; refine (laws_szStringS _ ss _ _ (hu.ext (by repeat (first | (with_reducible first | exact Ext.refl _ | assumption | apply Ext.alloc | apply Ext.drew | apply Ext.drewN | refine Ext.setCell ?_ ?_ _ | refine Ext.trans ?_ (by assumption)) | (show _ ≤ _; first | omega | (dsimp only; omega) | (simp; done) | (simp; omega))))) ⟨hz0, hz1⟩ hs).mono ?_; rw [HY.out]; rintro e w' ⟨rfl, rfl⟩)
      go_ret
      exact ⟨ret_int HR.out.symm, (by repeat (first | (with_reducible first | exact Ext.refl _ | assumption | apply Ext.alloc | apply Ext.drew | apply Ext.drewN | refine Ext.setCell ?_ ?_ _ | refine Ext.trans ?_ (by assumption)) | (show _ ≤ _; first | omega | (dsimp only; omega) | (simp; done) | (simp; omega))))⟩

set_option maxHeartbeats 800000 in
theorem laws_toProof (v u : Value) (xs : List Leaf) (ss : List ByteArray) (w : World) (h : Lvs w v xs) (hu : Strs w u ss) (hb : xs.length ≤ 1099511627776) (hc : ss.length ≤ 1099511627776) :
    Calls Tryz.prog 31 #[.agg #[v, u]] w fun e w' => ∃ a c b d, e = .returned (.agg #[.slice a xs.length c, .slice b ss.length d]) ∧ OwnLvs w' w.heap.size (.slice a xs.length c) xs ∧ OwnStrs w' w.heap.size (.slice b ss.length d) ss ∧ Ext w w' := by
  obtain ⟨a, c, rfl⟩ := h.form
  obtain ⟨b, d, rfl⟩ := hu.form
  go_enter Tryz.func31, Tryz.ntmps31
  go_wp2_with fail
  refine (laws_toLeafS _ xs _ (h.ext (by repeat (first | (with_reducible first | exact Ext.refl _ | assumption | apply Ext.alloc | apply Ext.drew | apply Ext.drewN | refine Ext.setCell ?_ ?_ _ | refine Ext.trans ?_ (by assumption)) | (show _ ≤ _; first | omega | (dsimp only; omega) | (simp; done) | (simp; omega))))) hb).mono ?_
  rintro e w1 ⟨a1, c1, rfl, o1, x1⟩
  have hc1 := x1.cell
  have hf1 := x1.frozen
  have hz1 := x1.size
  simp only [World.size_alloc] at hz1 hc1 hf1
  have O1 := Lib.hid o1
  clear o1
  go_wp2_with fail
  refine (laws_toStringS _ ss _ (hu.ext (by repeat (first | (with_reducible first | exact Ext.refl _ | assumption | apply Ext.alloc | apply Ext.drew | apply Ext.drewN | refine Ext.setCell ?_ ?_ _ | refine Ext.trans ?_ (by assumption)) | (show _ ≤ _; first | omega | (dsimp only; omega) | (simp; done) | (simp; omega))))) hc).mono ?_
  rintro e w2 ⟨a2, c2, rfl, o2, x2⟩
  have hc2 := x2.cell
  have hf2 := x2.frozen
  have hz2 := x2.size
  simp only [World.size_setCell] at hz2 hc2 hf2
  have l1 : w.heap.size + 1 + 1 < w1.heap.size := by omega
  have l2 : w.heap.size + 1 < w1.heap.size := by omega
  have O2 := Lib.hid o2
  clear o2
  go_wp2
  refine bodyPost_ret (v := .agg #[.slice a1 xs.length c1, .slice a2 ss.length c2]) (by simp [results, Tryz.results31, go_sem, hc1, hc2, l2]) rfl ⟨_, _, _, _, rfl, ?_, ?_, (by repeat (first | (with_reducible first | exact Ext.refl _ | assumption | apply Ext.alloc | apply Ext.drew | apply Ext.drewN | refine Ext.setCell ?_ ?_ _ | refine Ext.trans ?_ (by assumption)) | (show _ ≤ _; first | omega | (dsimp only; omega) | (simp; done) | (simp; omega))))⟩
  · have ho := O1.out
    clear hc1 hf1 hc2 hf2 O1 O2
    simp only [World.size_alloc] at ho
    have ho2 : OwnLvs w2 (w.heap.size + 1 + 1 + 1) (.slice a1 xs.length c1) xs := own_ext (own_below ho (by dsimp only; omega)) x2
    clear ho
    exact (by show World.ownsRow _ _ _ _ _ _ _; apply own_mono; (repeat (with_reducible first | apply own_below | apply own_alloc | apply own_drew | apply own_drewN | refine own_ext ?_ (by assumption))); exact ho2; all_goals (first | omega | (dsimp only; omega) | (simp; done) | (simp; omega)))
  · have ho := O2.out
    clear hc1 hf1 hc2 hf2 O1 O2
    simp only [World.size_setCell] at ho
    exact (by show World.ownsRow _ _ _ _ _ _ _; apply own_mono; (repeat (with_reducible first | apply own_below | apply own_alloc | apply own_drew | apply own_drewN | refine own_ext ?_ (by assumption))); exact ho; all_goals (first | omega | (dsimp only; omega) | (simp; done) | (simp; omega)))

set_option maxHeartbeats 400000 in
theorem laws_eqProof (v1 u1 v2 u2 : Value) (xs ys : List Leaf) (ss ts : List ByteArray) (w : World) (h1 : Lvs w v1 xs) (g1 : Strs w u1 ss) (h2 : Lvs w v2 ys) (g2 : Strs w u2 ts) :
    Calls Tryz.prog 43 #[.agg #[v1, u1], .agg #[v2, u2]] w fun e w' => e = .returned (.bool (decide (xs = ys) && decide (ss = ts))) ∧ Ext w w' := by
  obtain ⟨a1, c1, rfl⟩ := h1.form
  obtain ⟨a2, c2, rfl⟩ := h2.form
  obtain ⟨a3, c3, rfl⟩ := g1.form
  obtain ⟨a4, c4, rfl⟩ := g2.form
  go_enter Tryz.func43, Tryz.ntmps43
  go_wp2_with fail
  refine (laws_eqLeafS _ _ xs ys _ (h1.ext (by repeat (first | (with_reducible first | exact Ext.refl _ | assumption | apply Ext.alloc | apply Ext.drew | apply Ext.drewN | refine Ext.setCell ?_ ?_ _ | refine Ext.trans ?_ (by assumption)) | (show _ ≤ _; first | omega | (dsimp only; omega) | (simp; done) | (simp; omega))))) (h2.ext (by repeat (first | (with_reducible first | exact Ext.refl _ | assumption | apply Ext.alloc | apply Ext.drew | apply Ext.drewN | refine Ext.setCell ?_ ?_ _ | refine Ext.trans ?_ (by assumption)) | (show _ ≤ _; first | omega | (dsimp only; omega) | (simp; done) | (simp; omega)))))).mono ?_
  rintro e w1 ⟨rfl, x1⟩
  have hc := x1.cell
  have hz := x1.size
  simp only [World.size_alloc] at hz hc
  have l0 : w.heap.size + 1 < w1.heap.size := by omega
  have l1 : w.heap.size < w1.heap.size := by omega
  by_cases hq : xs = ys
  · have hq' : decide (xs = ys) = true := decide_eq_true hq
    have HQ := Lib.hid hq
    clear hq
    go_wp2_with (go_at_call 42; refine (laws_eqStringS _ _ ss ts _ (g1.ext (by repeat (first | (with_reducible first | exact Ext.refl _ | assumption | apply Ext.alloc | apply Ext.drew | apply Ext.drewN | refine Ext.setCell ?_ ?_ _ | refine Ext.trans ?_ (by assumption)) | (show _ ≤ _; first | omega | (dsimp only; omega) | (simp; done) | (simp; omega))))) (g2.ext (by repeat (first | (with_reducible first | exact Ext.refl _ | assumption | apply Ext.alloc | apply Ext.drew | apply Ext.drewN | refine Ext.setCell ?_ ?_ _ | refine Ext.trans ?_ (by assumption)) | (show _ ≤ _; first | omega | (dsimp only; omega) | (simp; done) | (simp; omega)))))).mono ?_; rintro e w2 ⟨rfl, x2⟩)
    all_goals go_ret
    all_goals refine ⟨ret_bool ?_, (by repeat (first | (with_reducible first | exact Ext.refl _ | assumption | apply Ext.alloc | apply Ext.drew | apply Ext.drewN | refine Ext.setCell ?_ ?_ _ | refine Ext.trans ?_ (by assumption)) | (show _ ≤ _; first | omega | (dsimp only; omega) | (simp; done) | (simp; omega))))⟩
    all_goals simp_all
  · have hq' : decide (xs = ys) = false := decide_eq_false hq
    have HQ := Lib.hid hq
    clear hq
    go_wp2
    go_ret
    refine ⟨ret_bool ?_, (by repeat (first | (with_reducible first | exact Ext.refl _ | assumption | apply Ext.alloc | apply Ext.drew | apply Ext.drewN | refine Ext.setCell ?_ ?_ _ | refine Ext.trans ?_ (by assumption)) | (show _ ≤ _; first | omega | (dsimp only; omega) | (simp; done) | (simp; omega))))⟩
    simp_all

end Go.Proofs.YtckipgijfgeghaaGreatDoor
