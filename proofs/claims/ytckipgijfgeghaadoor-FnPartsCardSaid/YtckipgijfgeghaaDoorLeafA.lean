/- Leaf, Leaf2, Leaf3, Leaf4, Srt in one text. -/
import Derived.Test.YtckipgijfgeghaaDoorNames
import Derived.Test.YtckipgijfgeghaaDoorStrA
import Derived.Deep.RegionHeld3
namespace Go.Proofs.YtckipgijfgeghaaDoor
open Go.RowKit

structure Leaf where
  name : ByteArray
  value : ByteArray
  deriving DecidableEq

def Leaf.cells (l : Leaf) : List Value := [.string l.name, .string l.value]
theorem Leaf.cells_len (l : Leaf) : l.cells.length = 2 := rfl
def Lvs (w : World) (v : Value) (xs : List Leaf) : Prop := Row w 2 v xs.length (xs.flatMap Leaf.cells)
theorem Lvs.ext {w w' : World} {v : Value} {xs : List Leaf} (h : Lvs w v xs) (hx : Ext w w') : Lvs w' v xs := Row.ext h hx
theorem Lvs.form {w : World} {v : Value} {xs : List Leaf} (h : Lvs w v xs) : ∃ a c, v = .slice a xs.length c := by
  obtain ⟨-, a, c, rfl, -⟩ := h
  exact ⟨a, c, rfl⟩
theorem leaf_c0 (xs : List Leaf) (k : Nat) (h : k < xs.length) : (xs.flatMap Leaf.cells)[k * 2]? = some (.string xs[k].name) := flat_get Leaf.cells_len xs k 0 h (by omega)
theorem leaf_c1 (xs : List Leaf) (k : Nat) (h : k < xs.length) : (xs.flatMap Leaf.cells)[k * 2 + 1]? = some (.string xs[k].value) := flat_get Leaf.cells_len xs k 1 h (by omega)
/-- the bytes of leaves -/
def leafBytes (xs : List Leaf) : Nat := (xs.map fun l => l.name.size + l.value.size).sum
theorem leafBytes_succ (xs : List Leaf) (k : Nat) (hk : k < xs.length) : leafBytes (xs.take (k + 1)) = leafBytes (xs.take k) + (xs[k].name.size + xs[k].value.size) := by
  unfold leafBytes
  rw [List.take_succ_eq_append_getElem hk, List.map_append, List.sum_append]
  simp
theorem leafBytes_take (xs : List Leaf) (k : Nat) : leafBytes (xs.take k) ≤ leafBytes xs := by
  have h : leafBytes xs = leafBytes (xs.take k) + leafBytes (xs.drop k) := by
    unfold leafBytes
    rw [← List.sum_append, ← List.map_append, List.take_append_drop]
  omega
/-- each string of them fits -/
def LeafFit (xs : List Leaf) : Prop := ∀ l ∈ xs, l.name.size ≤ maxLen ∧ l.value.size ≤ maxLen

end Go.Proofs.YtckipgijfgeghaaDoor
namespace Go.Proofs.YtckipgijfgeghaaDoor
open Go.RowKit

theorem infoLeaf : (Tryd.prog.info? 34).map (fun i => (i.zero, i.size, i.bytes)) = some (some (.agg #[.string ⟨#[]⟩, .string ⟨#[]⟩]), 2, 32) := by kernel_rfl

/-- v owns the leaves xs, in blocks from base on -/
def OwnLvs (w : World) (base : Nat) (v : Value) (xs : List Leaf) : Prop := w.ownsRow base 34 2 v xs.length (xs.flatMap Leaf.cells)
theorem OwnLvs.lvs {w : World} {base : Nat} {v : Value} {xs : List Leaf} (h : OwnLvs w base v xs) : Lvs w v xs := Row.of_owns h
theorem OwnLvs.mono {w : World} {b b' : Nat} {v : Value} {xs : List Leaf} (h : OwnLvs w b v xs) (hb : b' ≤ b) : OwnLvs w b' v xs := own_mono h hb
theorem OwnLvs.ext {w w' : World} {b : Nat} {v : Value} {xs : List Leaf} (h : OwnLvs w b v xs) (hx : Ext w w') : OwnLvs w' b v xs := own_ext h hx

theorem toList_madeCells_two (z : Value) (n : Nat) : (madeCells #[z, z] n).toList = List.replicate n z := by
  apply List.ext_getElem?
  intro j
  by_cases hj : j < n
  · have : j % 2 = 0 ∨ j % 2 = 1 := by omega
    rcases this with h | h <;> simp [madeCells, hj, h]
  · simp [madeCells, hj]

/-- the first k leaves, then empty ones -/
def leafFill (xs : List Leaf) (k : Nat) : List Value := (xs.take k).flatMap Leaf.cells ++ List.replicate ((xs.length - k) * 2) (.string ⟨#[]⟩)
theorem leafFill_len (xs : List Leaf) (k : Nat) (hk : k ≤ xs.length) : ((xs.take k).flatMap Leaf.cells).length = k * 2 := by
  rw [flat_length Leaf.cells_len, List.length_take, Nat.min_eq_left hk]
theorem leafFill_get (xs : List Leaf) (k j : Nat) (hk : k < xs.length) (hj : j < 2) : (leafFill xs k)[k * 2 + j]? = some (.string ⟨#[]⟩) := by
  unfold leafFill
  rw [List.getElem?_append_right (by rw [leafFill_len xs k (by omega)]; omega), leafFill_len xs k (by omega), List.getElem?_replicate, if_pos (by omega)]
theorem leafFill_set (xs : List Leaf) (k : Nat) (hk : k < xs.length) : ((leafFill xs k).set (k * 2) (.string xs[k].name)).set (k * 2 + 1) (.string xs[k].value) = leafFill xs (k + 1) := by
  have hl := leafFill_len xs k (by omega)
  unfold leafFill
  rw [List.set_append_right _ _ (by omega), List.set_append_right _ _ (by omega), hl, List.take_succ_eq_append_getElem hk, List.flatMap_append, List.append_assoc]
  congr 1
  rw [show (xs.length - k) * 2 = (xs.length - (k + 1)) * 2 + 1 + 1 by omega, List.replicate_succ, List.replicate_succ, show k * 2 - k * 2 = 0 by omega, show k * 2 + 1 - k * 2 = 1 by omega]
  simp [Leaf.cells]

end Go.Proofs.YtckipgijfgeghaaDoor
namespace Go.Proofs.YtckipgijfgeghaaDoor
open Go.RowKit

def noLeaf : Leaf := ⟨⟨#[]⟩, ⟨#[]⟩⟩
/-- is leaf k right, and behind the one ahead of it? -/
def goodAt (xs : List Leaf) : Nat → Bool
  | 0 => nameOk (xs.getD 0 noLeaf).name && valueOk (xs.getD 0 noLeaf).value
  | j + 1 => nameOk (xs.getD (j + 1) noLeaf).name && (valueOk (xs.getD (j + 1) noLeaf).value && Op.bytesLess (xs.getD j noLeaf).name.toList (xs.getD (j + 1) noLeaf).name.toList)
def leavesOk (xs : List Leaf) : Bool := decide (xs.length ≤ 24) && (List.range xs.length).all (goodAt xs)
theorem leavesOk_true {xs : List Leaf} (h : ∀ i, i < xs.length → goodAt xs i = true) (hl : xs.length ≤ 24) : leavesOk xs = true := by
  rw [leavesOk, Bool.and_eq_true, decide_eq_true_eq, List.all_eq_true]
  exact ⟨hl, fun i hi => h i (List.mem_range.1 hi)⟩
theorem leavesOk_bad {xs : List Leaf} {i : Nat} (hi : i < xs.length) (h : goodAt xs i = false) : leavesOk xs = false := by
  cases hl : leavesOk xs
  · rfl
  · rw [leavesOk, Bool.and_eq_true, List.all_eq_true] at hl
    rw [hl.2 i (List.mem_range.2 hi)] at h
    cases h
theorem leavesOk_long {xs : List Leaf} (h : 24 < xs.length) : leavesOk xs = false := by
  rw [leavesOk, decide_eq_false (by omega)]; rfl
theorem good_succ {xs : List Leaf} {k : Nat} (h : ∀ i, i < k → goodAt xs i = true) (e : goodAt xs k = true) : ∀ i, i < k + 1 → goodAt xs i = true := by
  intro i hi
  rcases Nat.lt_or_eq_of_le (Nat.le_of_lt_succ hi) with h1 | rfl
  · exact h i h1
  · exact e

set_option maxHeartbeats 1600000 in
theorem impl_LeavesOk (v : Value) (xs : List Leaf) (w : World) (h : Lvs w v xs) (hs : LeafFit xs) :
    Calls Tryd.prog 23 #[v] w fun e w' => e = .returned (.bool (leavesOk xs)) ∧ Ext w w' := by
  obtain ⟨-, a1, c1, rfl, hc1, hm1, g1⟩ := h
  unfold maxLen at hm1
  go_enter Tryd.func23, Tryd.ntmps23
  go_wp2
  go_loopw [7] (fun i wr => ∃ k : Nat, k ≤ xs.length ∧ k ≤ 24 ∧ i = .int .i64 k ∧ (∀ i, i < k → goodAt xs i = true) ∧ Ext w wr) (fun i _ => 30 - (intOf i).toNat)
  case atStart => exact ⟨0, Nat.zero_le _, by omega, rfl, by omega, Ext.refl _⟩
  case round =>
    obtain ⟨k, hk, hk24, rfl, hall, hx⟩ := hrel
    have HA := Lib.hid hall
    clear hall
    by_cases hlt : k < xs.length
    · rcases g1 with g1 | ⟨b1, o1, rfl, hb1, g1⟩
      · omega
      have e1 : wr.cell? ⟨b1, o1 + k * 2, none⟩ = some (.string xs[k].name) := (hx.cell b1 _ hb1).trans (g1 _ _ (leaf_c0 xs k hlt))
      have e2 : wr.cell? ⟨b1, o1 + k * 2 + 1, none⟩ = some (.string xs[k].value) := (hx.cell b1 _ hb1).trans (g1 _ _ (leaf_c1 xs k hlt))
      obtain ⟨s1, s2⟩ := hs xs[k] (List.getElem_mem hlt)
      have l1 : b1 < wr.heap.size := Nat.lt_of_lt_of_le hb1 hx.size
      have hgd : xs.getD k noLeaf = xs[k] := by simp [hlt]
      by_cases h24 : 24 ≤ k
      · have hr : leavesOk xs = false := leavesOk_long (by omega)
        have HR := Lib.hid hr
        have d1 : decide ((24 : Int) ≤ (k : Int)) = true := by simp; omega
        clear hr g1 hs hgd
        go_wp2
        go_quiet (fail)
        go_wp2
        go_ret
        exact ⟨ret_bool HR.out.symm, (by repeat (first | (with_reducible first | exact Ext.refl _ | assumption | apply Ext.alloc | apply Ext.drew | apply Ext.drewN | refine Ext.setCell ?_ ?_ _ | refine Ext.trans ?_ (by assumption)) | (show _ ≤ _; first | omega | (dsimp only; omega) | (simp; done) | (simp; omega))))⟩
      have d1 : decide ((24 : Int) ≤ (k : Int)) = false := by simp; omega
      cases hn : nameOk xs[k].name
      · have hr : leavesOk xs = false := leavesOk_bad hlt (by cases k <;> simp only [goodAt, hgd, hn, Bool.false_and])
        have HR := Lib.hid hr
        have HN : ∀ W, Calls Tryd.prog 39 #[.string xs[k].name] W fun e w' => e = .returned (.bool false) ∧ W = w' := fun W => by rw [← hn]; exact impl_NameOk _ W s1
        have HC := Lib.hid HN
        clear hr g1 hs hgd hn HN
        go_wp2
        go_quiet ((go_at_call 39; exact quiet_left (HC.out _)))
        go_wp2
        go_ret
        exact ⟨ret_bool HR.out.symm, (by repeat (first | (with_reducible first | exact Ext.refl _ | assumption | apply Ext.alloc | apply Ext.drew | apply Ext.drewN | refine Ext.setCell ?_ ?_ _ | refine Ext.trans ?_ (by assumption)) | (show _ ≤ _; first | omega | (dsimp only; omega) | (simp; done) | (simp; omega))))⟩
      have HN : ∀ W, Calls Tryd.prog 39 #[.string xs[k].name] W fun e w' => e = .returned (.bool true) ∧ W = w' := fun W => by rw [← hn]; exact impl_NameOk _ W s1
      have HC := Lib.hid HN
      have HNn := Lib.hid hn
      clear hn HN
      cases hv : valueOk xs[k].value
      · have hr : leavesOk xs = false := leavesOk_bad hlt (by cases k <;> simp only [goodAt, hgd, hv, Bool.false_and, Bool.and_false])
        have HR := Lib.hid hr
        have HV : ∀ W, Calls Tryd.prog 40 #[.string xs[k].value] W fun e w' => e = .returned (.bool false) ∧ W = w' := fun W => by rw [← hv]; exact impl_ValueOk _ W s2
        have HD := Lib.hid HV
        clear hr g1 hs hgd hv HV
        go_wp2
        go_quiet ((first | (go_at_call 39; exact quiet_left (HC.out _)) | (go_at_call 40; exact quiet_left (HD.out _))))
        go_wp2
        go_ret
        exact ⟨ret_bool HR.out.symm, (by repeat (first | (with_reducible first | exact Ext.refl _ | assumption | apply Ext.alloc | apply Ext.drew | apply Ext.drewN | refine Ext.setCell ?_ ?_ _ | refine Ext.trans ?_ (by assumption)) | (show _ ≤ _; first | omega | (dsimp only; omega) | (simp; done) | (simp; omega))))⟩
      have HV : ∀ W, Calls Tryd.prog 40 #[.string xs[k].value] W fun e w' => e = .returned (.bool true) ∧ W = w' := fun W => by rw [← hv]; exact impl_ValueOk _ W s2
      have HD := Lib.hid HV
      have HVv := Lib.hid hv
      clear hv HV
      by_cases hk0 : k = 0
      · subst hk0
        have hgood : goodAt xs 0 = true := by simp only [goodAt, hgd, HNn.out, HVv.out, Bool.and_self]
        have HG := Lib.hid hgood
        rw [Nat.zero_mul, Nat.add_zero] at e1 e2
        clear g1 hs hgd hgood d1
        go_wp2
        go_quiet ((first | (go_at_call 39; exact quiet_left (HC.out _)) | (go_at_call 40; exact quiet_left (HD.out _))))
        go_wp2
        go_roundw
        case rel => exact ⟨0 + 1, by omega, by omega, by go_num, good_succ HA.out HG.out, (by repeat (first | (with_reducible first | exact Ext.refl _ | assumption | apply Ext.alloc | apply Ext.drew | apply Ext.drewN | refine Ext.setCell ?_ ?_ _ | refine Ext.trans ?_ (by assumption)) | (show _ ≤ _; first | omega | (dsimp only; omega) | (simp; done) | (simp; omega))))⟩
        case measure => simp [intOf]
      obtain ⟨j, hj⟩ : ∃ j, k = j + 1 := ⟨k - 1, by omega⟩
      have hlj : j < xs.length := by omega
      have e3 : wr.cell? ⟨b1, o1 + j * 2, none⟩ = some (.string xs[j].name) := (hx.cell b1 _ hb1).trans (g1 _ _ (leaf_c0 xs j hlj))
      have hgj : xs.getD j noLeaf = xs[j] := by simp [hlj]
      have d2 : decide (0 < k) = true := by simp; omega
      have w1 : IntKind.i64.wrap ((k : Int) - 1) = (j : Int) := by rw [IntKind.wrap_i64]; omega
      have hgood : goodAt xs k = Op.bytesLess xs[j].name.toList xs[k].name.toList := by
        subst hj
        simp only [goodAt, hgd, hgj, HNn.out, HVv.out, Bool.true_and]
      clear g1 hs hj
      cases hls : Op.bytesLess xs[j].name.toList xs[k].name.toList
      · rw [hls] at hgood
        have hr : leavesOk xs = false := leavesOk_bad hlt hgood
        have HR := Lib.hid hr
        clear hr hgood hgd hgj
        go_wp2
        go_quiet ((first | (go_at_call 39; exact quiet_left (HC.out _)) | (go_at_call 40; exact quiet_left (HD.out _))))
        go_wp2
        go_ret
        exact ⟨ret_bool HR.out.symm, (by repeat (first | (with_reducible first | exact Ext.refl _ | assumption | apply Ext.alloc | apply Ext.drew | apply Ext.drewN | refine Ext.setCell ?_ ?_ _ | refine Ext.trans ?_ (by assumption)) | (show _ ≤ _; first | omega | (dsimp only; omega) | (simp; done) | (simp; omega))))⟩
      · rw [hls] at hgood
        have HG := Lib.hid hgood
        clear hgood hgd hgj
        go_wp2
        go_quiet ((first | (go_at_call 39; exact quiet_left (HC.out _)) | (go_at_call 40; exact quiet_left (HD.out _))))
        go_wp2
        go_roundw
        case rel => exact ⟨k + 1, by omega, by omega, by go_num, good_succ HA.out HG.out, (by repeat (first | (with_reducible first | exact Ext.refl _ | assumption | apply Ext.alloc | apply Ext.drew | apply Ext.drewN | refine Ext.setCell ?_ ?_ _ | refine Ext.trans ?_ (by assumption)) | (show _ ≤ _; first | omega | (dsimp only; omega) | (simp; done) | (simp; omega))))⟩
        case measure => simp [intOf]; omega
    · have hlen : xs.length ≤ 24 := by omega
      have he : leavesOk xs = true := leavesOk_true (fun i hi => HA.out i (by omega)) hlen
      have HE := Lib.hid he
      clear he
      go_wp2
      go_ret
      exact ⟨ret_bool HE.out.symm, (by repeat (first | (with_reducible first | exact Ext.refl _ | assumption | apply Ext.alloc | apply Ext.drew | apply Ext.drewN | refine Ext.setCell ?_ ?_ _ | refine Ext.trans ?_ (by assumption)) | (show _ ≤ _; first | omega | (dsimp only; omega) | (simp; done) | (simp; omega))))⟩
set_option maxHeartbeats 1600000 in
theorem spec_LeavesOk (v : Value) (xs : List Leaf) (w : World) (h : Lvs w v xs) (hs : LeafFit xs) :
    Calls Tryd.prog 43 #[v] w fun e w' => e = .returned (.bool (leavesOk xs)) ∧ Ext w w' := by
  obtain ⟨-, a1, c1, rfl, hc1, hm1, g1⟩ := h
  unfold maxLen at hm1
  go_enter Tryd.func43, Tryd.ntmps43
  go_wp2
  go_loopw [3] (fun i wr => ∃ k : Nat, k ≤ xs.length ∧ i = .int .i64 k ∧ (∀ i, i < k → goodAt xs i = true) ∧ Ext w wr) (fun i _ => xs.length - (intOf i).toNat)
  case atStart => exact ⟨0, Nat.zero_le _, rfl, by omega, Ext.refl _⟩
  case round =>
    obtain ⟨k, hk, rfl, hall, hx⟩ := hrel
    have HA := Lib.hid hall
    clear hall
    by_cases hlt : k < xs.length
    · rcases g1 with g1 | ⟨b1, o1, rfl, hb1, g1⟩
      · omega
      have e1 : wr.cell? ⟨b1, o1 + k * 2, none⟩ = some (.string xs[k].name) := (hx.cell b1 _ hb1).trans (g1 _ _ (leaf_c0 xs k hlt))
      have e2 : wr.cell? ⟨b1, o1 + k * 2 + 1, none⟩ = some (.string xs[k].value) := (hx.cell b1 _ hb1).trans (g1 _ _ (leaf_c1 xs k hlt))
      obtain ⟨s1, s2⟩ := hs xs[k] (List.getElem_mem hlt)
      have l1 : b1 < wr.heap.size := Nat.lt_of_lt_of_le hb1 hx.size
      have hgd : xs.getD k noLeaf = xs[k] := by simp [hlt]
      cases hn : nameOk xs[k].name
      · have hr : leavesOk xs = false := leavesOk_bad hlt (by cases k <;> simp only [goodAt, hgd, hn, Bool.false_and])
        have HR := Lib.hid hr
        have HN : ∀ W, Calls Tryd.prog 68 #[.string xs[k].name] W fun e w' => e = .returned (.bool false) ∧ W = w' := fun W => by rw [← hn]; exact spec_NameOk _ W s1
        have HC := Lib.hid HN
        clear hr g1 hs hgd hn HN
        go_wp2
        go_quiet ((go_at_call 68; exact quiet_left (HC.out _)))
        go_wp2
        go_ret
        exact ⟨ret_bool HR.out.symm, (by repeat (first | (with_reducible first | exact Ext.refl _ | assumption | apply Ext.alloc | apply Ext.drew | apply Ext.drewN | refine Ext.setCell ?_ ?_ _ | refine Ext.trans ?_ (by assumption)) | (show _ ≤ _; first | omega | (dsimp only; omega) | (simp; done) | (simp; omega))))⟩
      have HN : ∀ W, Calls Tryd.prog 68 #[.string xs[k].name] W fun e w' => e = .returned (.bool true) ∧ W = w' := fun W => by rw [← hn]; exact spec_NameOk _ W s1
      have HC := Lib.hid HN
      have HNn := Lib.hid hn
      clear hn HN
      cases hv : valueOk xs[k].value
      · have hr : leavesOk xs = false := leavesOk_bad hlt (by cases k <;> simp only [goodAt, hgd, hv, Bool.false_and, Bool.and_false])
        have HR := Lib.hid hr
        have HV : ∀ W, Calls Tryd.prog 69 #[.string xs[k].value] W fun e w' => e = .returned (.bool false) ∧ W = w' := fun W => by rw [← hv]; exact spec_ValueOk _ W s2
        have HD := Lib.hid HV
        clear hr g1 hs hgd hv HV
        go_wp2
        go_quiet ((first | (go_at_call 68; exact quiet_left (HC.out _)) | (go_at_call 69; exact quiet_left (HD.out _))))
        go_wp2
        go_ret
        exact ⟨ret_bool HR.out.symm, (by repeat (first | (with_reducible first | exact Ext.refl _ | assumption | apply Ext.alloc | apply Ext.drew | apply Ext.drewN | refine Ext.setCell ?_ ?_ _ | refine Ext.trans ?_ (by assumption)) | (show _ ≤ _; first | omega | (dsimp only; omega) | (simp; done) | (simp; omega))))⟩
      have HV : ∀ W, Calls Tryd.prog 69 #[.string xs[k].value] W fun e w' => e = .returned (.bool true) ∧ W = w' := fun W => by rw [← hv]; exact spec_ValueOk _ W s2
      have HD := Lib.hid HV
      have HVv := Lib.hid hv
      clear hv HV
      by_cases hk0 : k = 0
      · subst hk0
        have hgood : goodAt xs 0 = true := by simp only [goodAt, hgd, HNn.out, HVv.out, Bool.and_self]
        have HG := Lib.hid hgood
        rw [Nat.zero_mul, Nat.add_zero] at e1 e2
        clear g1 hs hgd hgood
        go_wp2
        go_quiet ((first | (go_at_call 68; exact quiet_left (HC.out _)) | (go_at_call 69; exact quiet_left (HD.out _))))
        go_wp2
        go_roundw
        case rel => exact ⟨0 + 1, by omega, by go_num, good_succ HA.out HG.out, (by repeat (first | (with_reducible first | exact Ext.refl _ | assumption | apply Ext.alloc | apply Ext.drew | apply Ext.drewN | refine Ext.setCell ?_ ?_ _ | refine Ext.trans ?_ (by assumption)) | (show _ ≤ _; first | omega | (dsimp only; omega) | (simp; done) | (simp; omega))))⟩
        case measure => simp [intOf]; omega
      obtain ⟨j, hj⟩ : ∃ j, k = j + 1 := ⟨k - 1, by omega⟩
      have hlj : j < xs.length := by omega
      have e3 : wr.cell? ⟨b1, o1 + j * 2, none⟩ = some (.string xs[j].name) := (hx.cell b1 _ hb1).trans (g1 _ _ (leaf_c0 xs j hlj))
      have hgj : xs.getD j noLeaf = xs[j] := by simp [hlj]
      have d2 : decide (0 < k) = true := by simp; omega
      have w1 : IntKind.i64.wrap ((k : Int) - 1) = (j : Int) := by rw [IntKind.wrap_i64]; omega
      have hgood : goodAt xs k = Op.bytesLess xs[j].name.toList xs[k].name.toList := by
        subst hj
        simp only [goodAt, hgd, hgj, HNn.out, HVv.out, Bool.true_and]
      clear g1 hs hj
      cases hls : Op.bytesLess xs[j].name.toList xs[k].name.toList
      · rw [hls] at hgood
        have hr : leavesOk xs = false := leavesOk_bad hlt hgood
        have HR := Lib.hid hr
        clear hr hgood hgd hgj
        go_wp2
        go_quiet ((first | (go_at_call 68; exact quiet_left (HC.out _)) | (go_at_call 69; exact quiet_left (HD.out _))))
        go_wp2
        go_ret
        exact ⟨ret_bool HR.out.symm, (by repeat (first | (with_reducible first | exact Ext.refl _ | assumption | apply Ext.alloc | apply Ext.drew | apply Ext.drewN | refine Ext.setCell ?_ ?_ _ | refine Ext.trans ?_ (by assumption)) | (show _ ≤ _; first | omega | (dsimp only; omega) | (simp; done) | (simp; omega))))⟩
      · rw [hls] at hgood
        have HG := Lib.hid hgood
        clear hgood hgd hgj
        go_wp2
        go_quiet ((first | (go_at_call 68; exact quiet_left (HC.out _)) | (go_at_call 69; exact quiet_left (HD.out _))))
        go_wp2
        go_roundw
        case rel => exact ⟨k + 1, by omega, by go_num, good_succ HA.out HG.out, (by repeat (first | (with_reducible first | exact Ext.refl _ | assumption | apply Ext.alloc | apply Ext.drew | apply Ext.drewN | refine Ext.setCell ?_ ?_ _ | refine Ext.trans ?_ (by assumption)) | (show _ ≤ _; first | omega | (dsimp only; omega) | (simp; done) | (simp; omega))))⟩
        case measure => simp [intOf]; omega
    · have hall2 : ∀ i, i < xs.length → goodAt xs i = true := fun i hi => HA.out i (by omega)
      have he : leavesOk xs = decide (xs.length ≤ 24) := by
        by_cases h : xs.length ≤ 24
        · rw [leavesOk_true hall2 h]; simp [h]
        · rw [leavesOk_long (by omega)]; simp [h]
      have HE := Lib.hid he
      clear he hall2
      go_wp2
      go_ret
      exact ⟨ret_bool (by rw [HE.out, Bool.eq_iff_iff]; simp; omega), (by repeat (first | (with_reducible first | exact Ext.refl _ | assumption | apply Ext.alloc | apply Ext.drew | apply Ext.drewN | refine Ext.setCell ?_ ?_ _ | refine Ext.trans ?_ (by assumption)) | (show _ ≤ _; first | omega | (dsimp only; omega) | (simp; done) | (simp; omega))))⟩
end Go.Proofs.YtckipgijfgeghaaDoor
namespace Go.Proofs.YtckipgijfgeghaaDoor
open Go.RowKit

def leafFind (xs : List Leaf) (n : ByteArray) : Option Leaf := xs.find? fun l => decide (l.name = n)
def leafVal (xs : List Leaf) (n : ByteArray) : ByteArray := match leafFind xs n with | some l => l.value | none => ⟨#[]⟩
def leafHas (xs : List Leaf) (n : ByteArray) : Bool := (leafFind xs n).isSome
theorem leaf_hit {xs : List Leaf} {n : ByteArray} {k : Nat} (hk : k < xs.length) (h : ∀ l ∈ xs.take k, l.name ≠ n) (e : xs[k].name = n) : leafVal xs n = xs[k].value ∧ leafHas xs n = true := by
  have hf : leafFind xs n = some xs[k] := by
    have hsplit : leafFind xs n = leafFind (xs.take k ++ xs[k] :: xs.drop (k + 1)) n := by rw [← List.drop_eq_getElem_cons hk, List.take_append_drop]
    rw [hsplit, leafFind, List.find?_append, List.find?_eq_none.2 (fun l hl => by simpa using h l hl), List.find?_cons_of_pos (by simpa using e)]
    rfl
  simp [leafVal, leafHas, hf]
theorem leaf_miss {xs : List Leaf} {n : ByteArray} (h : ∀ l ∈ xs, l.name ≠ n) : leafVal xs n = ⟨#[]⟩ ∧ leafHas xs n = false := by
  have hf : leafFind xs n = none := List.find?_eq_none.2 (fun l hl => by simpa using h l hl)
  simp [leafVal, leafHas, hf]
theorem ne_succ {xs : List Leaf} {n : ByteArray} {k : Nat} (hk : k < xs.length) (h : ∀ l ∈ xs.take k, l.name ≠ n) (e : xs[k].name ≠ n) : ∀ l ∈ xs.take (k + 1), l.name ≠ n := by
  intro l hl
  rw [List.take_succ_eq_append_getElem hk, List.mem_append] at hl
  rcases hl with hl | hl
  · exact h l hl
  · simp at hl; rw [hl]; exact e

end Go.Proofs.YtckipgijfgeghaaDoor
namespace Go.Proofs.YtckipgijfgeghaaDoor
open Go.RowKit

theorem less_trans : ∀ (a b c : List UInt8), Op.bytesLess a b = true → Op.bytesLess b c = true → Op.bytesLess a c = true
  | a, [], c, h, _ => by cases a <;> simp [Op.bytesLess] at h
  | [], y :: b, c, _, h2 => by
    cases c with
    | nil => simp [Op.bytesLess] at h2
    | cons z c => rfl
  | x :: a, y :: b, [], _, h2 => by simp [Op.bytesLess] at h2
  | x :: a, y :: b, z :: c, h1, h2 => by
    simp only [Op.bytesLess, Bool.or_eq_true, Bool.and_eq_true, decide_eq_true_eq, beq_iff_eq] at h1 h2 ⊢
    rcases h1 with h1 | ⟨h1, h1'⟩
    · rcases h2 with h2 | ⟨h2, -⟩
      · exact Or.inl (UInt8.lt_trans h1 h2)
      · exact Or.inl (h2 ▸ h1)
    · rcases h2 with h2 | ⟨h2, h2'⟩
      · exact Or.inl (h1 ▸ h2)
      · exact Or.inr ⟨h1.trans h2, less_trans a b c h1' h2'⟩

def lss (a b : ByteArray) : Bool := Op.bytesLess a.toList b.toList
theorem lss_trans {a b c : ByteArray} (h : lss a b = true) (k : lss b c = true) : lss a c = true := less_trans _ _ _ h k
def Srt (xs : List Leaf) : Prop := xs.Pairwise fun a b => lss a.name b.name = true
theorem leavesOk_step {xs : List Leaf} (h : leavesOk xs = true) (j : Nat) (hj : j + 1 < xs.length) : lss xs[j].name xs[j + 1].name = true := by
  rw [leavesOk, Bool.and_eq_true, List.all_eq_true] at h
  have hg := h.2 (j + 1) (List.mem_range.2 hj)
  have h1 : xs.getD j noLeaf = xs[j] := by simp [show j < xs.length by omega]
  have h2 : xs.getD (j + 1) noLeaf = xs[j + 1] := by simp [hj]
  simp only [goodAt, h1, h2, Bool.and_eq_true] at hg
  exact hg.2.2
theorem leavesOk_lt {xs : List Leaf} (h : leavesOk xs = true) (i : Nat) : ∀ d, (hd : i + d + 1 < xs.length) → lss xs[i].name xs[i + d + 1].name = true
  | 0, hd => leavesOk_step h i hd
  | d + 1, hd => lss_trans (leavesOk_lt h i d (by omega)) (leavesOk_step h (i + d + 1) hd)
theorem leavesOk_srt {xs : List Leaf} (h : leavesOk xs = true) : Srt xs := by
  rw [Srt, List.pairwise_iff_getElem]
  intro i j hi hj hij
  obtain ⟨d, rfl⟩ : ∃ d, j = i + d + 1 := ⟨j - i - 1, by omega⟩
  exact leavesOk_lt h i d hj

end Go.Proofs.YtckipgijfgeghaaDoor
