/- Leaves: their copies, their equality, their validity. -/
import Derived.Test.YtagkcgbggeajkaaDoorLeaf
namespace Go.Proofs.YtagkcgbggeajkaaDoor
open Go.RowKit

theorem infoLeaf : (Tryd.prog.info? 82).map (fun i => (i.zero, i.size, i.bytes)) = some (some (.agg #[.string ⟨#[]⟩, .string ⟨#[]⟩]), 2, 32) := by kernel_rfl

/-- v owns the leaves xs, in blocks from base on -/
def OwnLvs (w : World) (base : Nat) (v : Value) (xs : List Leaf) : Prop := w.ownsRow base 82 2 v xs.length (xs.flatMap Leaf.cells)
theorem OwnLvs.lvs {w : World} {base : Nat} {v : Value} {xs : List Leaf} (h : OwnLvs w base v xs) : Lvs w v xs := Row.of_owns h
theorem OwnLvs.mono {w : World} {b b' : Nat} {v : Value} {xs : List Leaf} (h : OwnLvs w b v xs) (hb : b' ≤ b) : OwnLvs w b' v xs := own_mono h hb
theorem OwnLvs.ext {w w' : World} {b : Nat} {v : Value} {xs : List Leaf} (h : OwnLvs w b v xs) (hx : Ext w w') : OwnLvs w' b v xs := own_ext h hx

theorem toList_madeCells_two (z : Value) (n : Nat) : (madeCells #[z, z] n).toList = List.replicate n z := by
  apply List.ext_getElem?
  intro j
  by_cases hj : j < n
  · have : j % 2 = 0 ∨ j % 2 = 1 := by omega
    rcases this with h | h <;> simp [madeCells, hj, h]
  · simp [madeCells, hj]

/-- the first k leaves, then empty ones -/
def leafFill (xs : List Leaf) (k : Nat) : List Value := (xs.take k).flatMap Leaf.cells ++ List.replicate ((xs.length - k) * 2) (.string ⟨#[]⟩)
theorem leafFill_len (xs : List Leaf) (k : Nat) (hk : k ≤ xs.length) : ((xs.take k).flatMap Leaf.cells).length = k * 2 := by
  rw [flat_length Leaf.cells_len, List.length_take, Nat.min_eq_left hk]
theorem leafFill_get (xs : List Leaf) (k j : Nat) (hk : k < xs.length) (hj : j < 2) : (leafFill xs k)[k * 2 + j]? = some (.string ⟨#[]⟩) := by
  unfold leafFill
  rw [List.getElem?_append_right (by rw [leafFill_len xs k (by omega)]; omega), leafFill_len xs k (by omega), List.getElem?_replicate, if_pos (by omega)]
theorem leafFill_set (xs : List Leaf) (k : Nat) (hk : k < xs.length) : ((leafFill xs k).set (k * 2) (.string xs[k].name)).set (k * 2 + 1) (.string xs[k].value) = leafFill xs (k + 1) := by
  have hl := leafFill_len xs k (by omega)
  unfold leafFill
  rw [List.set_append_right _ _ (by omega), List.set_append_right _ _ (by omega), hl, List.take_succ_eq_append_getElem hk, List.flatMap_append, List.append_assoc]
  congr 1
  rw [show (xs.length - k) * 2 = (xs.length - (k + 1)) * 2 + 1 + 1 by omega, List.replicate_succ, List.replicate_succ, show k * 2 - k * 2 = 0 by omega, show k * 2 + 1 - k * 2 = 1 by omega]
  simp [Leaf.cells]

set_option maxHeartbeats 400000 in
theorem laws_toLeafS (v : Value) (xs : List Leaf) (w : World) (h : Lvs w v xs) (hb : xs.length ≤ 1099511627776) :
    Calls Tryd.prog 23 #[v] w fun e w' => ∃ a c, e = .returned (.slice a xs.length c) ∧ OwnLvs w' w.heap.size (.slice a xs.length c) xs ∧ Ext w w' := by
  obtain ⟨-, a1, c1, rfl, hc1, hm1, g1⟩ := h
  unfold maxLen at hm1
  obtain ⟨i0, hi, hz0, hz1, hz2⟩ := info_parts infoLeaf
  go_enter Tryd.func23, Tryd.ntmps23
  go_wp2_with (at_make; refine wpList_make_full _ rfl _ _ 38 rfl w.heap.size 82 i0 _ 2 Tryd.underlying38 hi hz0 hz1 _ _ _ _ xs.length rfl rfl rfl rfl (by rw [hz2]; omega) (by unfold maxLen; omega) (Nat.le_refl _) ?_; intro w1 hown1 hgrow1)
  have hx1 : Ext w w1 := (Ext.refl w).grown hgrow1 (by simp)
  have hsz1 : w.heap.size < w1.heap.size := (hown1.lt w.heap.size rfl).2
  rw [show (Value.agg #[.string ⟨#[]⟩, .string ⟨#[]⟩]).cells = #[.string ⟨#[]⟩, .string ⟨#[]⟩] from rfl, toList_madeCells_two] at hown1
  go_loopw [4] (fun i wr => ∃ k : Nat, k ≤ xs.length ∧ i = .int .i64 k ∧ wr.ownsRow w.heap.size 82 2 (.slice (some ⟨w.heap.size, 0, none⟩) xs.length xs.length) xs.length (leafFill xs k) ∧ Ext w wr) (fun i _ => xs.length - (intOf i).toNat)
  case atStart => exact ⟨0, Nat.zero_le _, rfl, by simpa [leafFill] using hown1, hx1⟩
  case round =>
    obtain ⟨k, hk, rfl, hown, hx⟩ := hrel
    clear hown1 hgrow1
    by_cases hlt : k < xs.length
    · rcases g1 with g1 | ⟨b1, o1, rfl, hb1, g1⟩
      · omega
      have e1 : wr.cell? ⟨b1, o1 + k * 2, none⟩ = some (.string xs[k].name) := (hx.cell b1 _ hb1).trans (g1 _ _ (leaf_c0 xs k hlt))
      have e2 : wr.cell? ⟨b1, o1 + k * 2 + 1, none⟩ = some (.string xs[k].value) := (hx.cell b1 _ hb1).trans (g1 _ _ (leaf_c1 xs k hlt))
      have HO := Lib.hid hown
      have hsz := (hown.lt w.heap.size rfl).2
      clear g1 hown
      go_wp2_with fail
      refine (laws_toLeaf _ _ _).mono ?_
      rintro e w2 ⟨rfl, x2⟩
      have hown := own_ext HO.out x2
      have e3 : w2.cell? ⟨w.heap.size, k * 2, none⟩ = some (.string ⟨#[]⟩) := by rw [hown.cellAt _ (by omega)]; exact leafFill_get xs k 0 hlt (by omega)
      have e4 : w2.cell? ⟨w.heap.size, k * 2 + 1, none⟩ = some (.string ⟨#[]⟩) := by rw [hown.cellAt _ (by omega)]; exact leafFill_get xs k 1 hlt (by omega)
      have e5 : ∀ j, w2.frozen? ⟨w.heap.size, j, none⟩ = false := fun j => hown.frozenAt j
      have S := ((hown.stored (k * 2) (.string xs[k].name)).1.stored (k * 2 + 1) (.string xs[k].value)).1
      rw [leafFill_set xs k hlt] at S
      have HS := Lib.hid S
      clear S hown HO
      go_wp2
      go_roundw
      case rel => exact ⟨k + 1, by omega, by go_num, HS.out, (by repeat (first | (with_reducible first | exact Ext.refl _ | assumption | apply Ext.alloc | apply Ext.drew | apply Ext.drewN | refine Ext.setCell ?_ ?_ _ | refine Ext.trans ?_ (by assumption)) | (show _ ≤ _; first | omega | (dsimp only; omega) | (simp; done) | (simp; omega))))⟩
      case measure => simp [intOf]; omega
    · have hkn : k = xs.length := by omega
      subst hkn
      clear g1
      go_wp2
      go_ret
      exact ⟨_, _, rfl, by simpa [OwnLvs, leafFill] using hown, hx⟩

set_option maxHeartbeats 800000 in
theorem laws_eqLeafS (v1 v2 : Value) (xs ys : List Leaf) (w : World) (h1 : Lvs w v1 xs) (h2 : Lvs w v2 ys) :
    Calls Tryd.prog 25 #[v1, v2] w fun e w' => e = .returned (.bool (decide (xs = ys))) ∧ Ext w w' := by
  obtain ⟨-, a1, c1, rfl, hc1, hm1, g1⟩ := h1
  obtain ⟨-, a2, c2, rfl, hc2, hm2, g2⟩ := h2
  unfold maxLen at hm1 hm2
  by_cases hlen : xs.length = ys.length
  · have hlb : ((xs.length : Int) != ys.length) = false := by simp [hlen]
    have HL := Lib.hid hlen
    clear hlen
    go_enter Tryd.func25, Tryd.ntmps25
    go_wp2
    go_loopw [5] (fun i wr => ∃ k : Nat, k ≤ xs.length ∧ i = .int .i64 k ∧ xs.take k = ys.take k ∧ Ext w wr) (fun i _ => xs.length - (intOf i).toNat)
    case atStart => exact ⟨0, Nat.zero_le _, rfl, rfl, Ext.refl _⟩
    case round =>
      obtain ⟨k, hk, rfl, htk, hx⟩ := hrel
      have HT := Lib.hid htk
      clear htk
      by_cases hlt : k < xs.length
      · rcases g1 with g1 | ⟨b1, o1, rfl, hb1, g1⟩
        · omega
        rcases g2 with g2 | ⟨b2, o2, rfl, hb2, g2⟩
        · have := HL.out; omega
        have hlt2 : k < ys.length := by have := HL.out; omega
        have e1 : wr.cell? ⟨b1, o1 + k * 2, none⟩ = some (.string xs[k].name) := (hx.cell b1 _ hb1).trans (g1 _ _ (leaf_c0 xs k hlt))
        have e2 : wr.cell? ⟨b1, o1 + k * 2 + 1, none⟩ = some (.string xs[k].value) := (hx.cell b1 _ hb1).trans (g1 _ _ (leaf_c1 xs k hlt))
        have e3 : wr.cell? ⟨b2, o2 + k * 2, none⟩ = some (.string ys[k].name) := (hx.cell b2 _ hb2).trans (g2 _ _ (leaf_c0 ys k hlt2))
        have e4 : wr.cell? ⟨b2, o2 + k * 2 + 1, none⟩ = some (.string ys[k].value) := (hx.cell b2 _ hb2).trans (g2 _ _ (leaf_c1 ys k hlt2))
        have l1 : b1 < wr.heap.size := Nat.lt_of_lt_of_le hb1 hx.size
        have l2 : b2 < wr.heap.size := Nat.lt_of_lt_of_le hb2 hx.size
        clear g1 g2
        by_cases hq : xs[k] = ys[k]
        · have hqb : (decide (xs[k].name = ys[k].name) && decide (xs[k].value = ys[k].value)) = true := by simp [hq]
          have HQ := Lib.hid hqb
          have HE := Lib.hid hq
          clear hq hqb
          go_wp2_with fail
          go_region_held3 (fun W => W.cell? ⟨b1, o1 + k * 2, none⟩ = some (.string xs[k].name) ∧ W.cell? ⟨b1, o1 + k * 2 + 1, none⟩ = some (.string xs[k].value) ∧ W.cell? ⟨b2, o2 + k * 2, none⟩ = some (.string ys[k].name) ∧ W.cell? ⟨b2, o2 + k * 2 + 1, none⟩ = some (.string ys[k].value)) (first | exact ⟨e1, e2, e3, e4⟩ | exact ⟨(c6 _ _ l1).trans e1, (c6 _ _ l1).trans e2, (c6 _ _ l2).trans e3, (c6 _ _ l2).trans e4⟩) (first | (go_at_call 67; refine (laws_eqLeaf _ _ _ _ _).mono ?_; rw [HQ.out]; rintro e w6 ⟨rfl, x6⟩; have c6 : ∀ k o, k < wr.heap.size → w6.cell? ⟨k, o, none⟩ = wr.cell? ⟨k, o, none⟩ := fun k o hk => x6.cell k o hk))
          go_wp2
          go_roundw
          case rel => exact ⟨k + 1, by omega, by go_num, take_eq_succ hlt hlt2 HT.out HE.out, (by repeat (first | (with_reducible first | exact Ext.refl _ | assumption | apply Ext.alloc | apply Ext.drew | apply Ext.drewN | refine Ext.setCell ?_ ?_ _ | refine Ext.trans ?_ (by assumption)) | (show _ ≤ _; first | omega | (dsimp only; omega) | (simp; done) | (simp; omega))))⟩
          case measure => simp [intOf]; omega
        · have hqb : (decide (xs[k].name = ys[k].name) && decide (xs[k].value = ys[k].value)) = false := by
            cases hb : (decide (xs[k].name = ys[k].name) && decide (xs[k].value = ys[k].value))
            · rfl
            · simp only [Bool.and_eq_true, decide_eq_true_eq] at hb
              exact absurd (by cases hx : xs[k]; cases hy : ys[k]; simp_all) hq
          have hne : xs ≠ ys := fun h => hq (by subst h; rfl)
          have HQ := Lib.hid hqb
          have HN := Lib.hid hne
          clear hq hqb hne
          go_wp2_with fail
          go_region_held3 (fun W => W.cell? ⟨b1, o1 + k * 2, none⟩ = some (.string xs[k].name) ∧ W.cell? ⟨b1, o1 + k * 2 + 1, none⟩ = some (.string xs[k].value) ∧ W.cell? ⟨b2, o2 + k * 2, none⟩ = some (.string ys[k].name) ∧ W.cell? ⟨b2, o2 + k * 2 + 1, none⟩ = some (.string ys[k].value)) (first | exact ⟨e1, e2, e3, e4⟩ | exact ⟨(c6 _ _ l1).trans e1, (c6 _ _ l1).trans e2, (c6 _ _ l2).trans e3, (c6 _ _ l2).trans e4⟩) (first | (go_at_call 67; refine (laws_eqLeaf _ _ _ _ _).mono ?_; rw [HQ.out]; rintro e w6 ⟨rfl, x6⟩; have c6 : ∀ k o, k < wr.heap.size → w6.cell? ⟨k, o, none⟩ = wr.cell? ⟨k, o, none⟩ := fun k o hk => x6.cell k o hk))
          go_wp2
          go_ret
          exact ⟨ret_bool (by simp [HN.out]), (by repeat (first | (with_reducible first | exact Ext.refl _ | assumption | apply Ext.alloc | apply Ext.drew | apply Ext.drewN | refine Ext.setCell ?_ ?_ _ | refine Ext.trans ?_ (by assumption)) | (show _ ≤ _; first | omega | (dsimp only; omega) | (simp; done) | (simp; omega))))⟩
      · have he : xs = ys := by
          have h1 := HT.out
          rw [List.take_of_length_le (by omega), List.take_of_length_le (by have := HL.out; omega)] at h1
          exact h1
        have HE := Lib.hid he
        clear he
        go_wp2
        go_ret
        exact ⟨ret_bool (by simp [HE.out]), (by repeat (first | (with_reducible first | exact Ext.refl _ | assumption | apply Ext.alloc | apply Ext.drew | apply Ext.drewN | refine Ext.setCell ?_ ?_ _ | refine Ext.trans ?_ (by assumption)) | (show _ ≤ _; first | omega | (dsimp only; omega) | (simp; done) | (simp; omega))))⟩
  · have hne : xs ≠ ys := fun h => hlen (by rw [h])
    go_enter Tryd.func25, Tryd.ntmps25
    go_wp2
    go_ret
    exact ⟨ret_bool (by simp [hne]), (by repeat (first | (with_reducible first | exact Ext.refl _ | assumption | apply Ext.alloc | apply Ext.drew | apply Ext.drewN | refine Ext.setCell ?_ ?_ _ | refine Ext.trans ?_ (by assumption)) | (show _ ≤ _; first | omega | (dsimp only; omega) | (simp; done) | (simp; omega))))⟩
end Go.Proofs.YtagkcgbggeajkaaDoor
