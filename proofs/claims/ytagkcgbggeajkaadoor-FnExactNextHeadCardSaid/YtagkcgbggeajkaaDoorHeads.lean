/- Heads in slices: sizes, copies, equality. -/
import Derived.Test.YtagkcgbggeajkaaDoorHead1
import Derived.Test.YtagkcgbggeajkaaDoorHead4
import Derived.Test.YtagkcgbggeajkaaDoorStrs
import Derived.Test.YtagkcgbggeajkaaDoorLeaf3
import Derived.Deep.RegionHeld3
namespace Go.Proofs.YtagkcgbggeajkaaDoor
open Go.RowKit

structure Hd where
  house : Int
  epoch : Int
  root : ByteArray
  prev : ByteArray
  deriving DecidableEq

def Hd.cells (l : Hd) : List Value := [.int .i64 l.house, .int .i64 l.epoch, .string l.root, .string l.prev]
def Hd.val (l : Hd) : Value := .agg #[.int .i64 l.house, .int .i64 l.epoch, .string l.root, .string l.prev]
theorem Hd.cells_len (l : Hd) : l.cells.length = 4 := rfl
def Hds (w : World) (v : Value) (xs : List Hd) : Prop := Row w 4 v xs.length (xs.flatMap Hd.cells)
theorem Hds.ext {w w' : World} {v : Value} {xs : List Hd} (h : Hds w v xs) (hx : Ext w w') : Hds w' v xs := Row.ext h hx
theorem Hds.form {w : World} {v : Value} {xs : List Hd} (h : Hds w v xs) : ∃ a c, v = .slice a xs.length c := by
  obtain ⟨-, a, c, rfl, -⟩ := h
  exact ⟨a, c, rfl⟩
theorem hd_c0 (xs : List Hd) (k : Nat) (h : k < xs.length) : (xs.flatMap Hd.cells)[k * 4]? = some (.int .i64 xs[k].house) := flat_get Hd.cells_len xs k 0 h (by omega)
theorem hd_c1 (xs : List Hd) (k : Nat) (h : k < xs.length) : (xs.flatMap Hd.cells)[k * 4 + 1]? = some (.int .i64 xs[k].epoch) := flat_get Hd.cells_len xs k 1 h (by omega)
theorem hd_c2 (xs : List Hd) (k : Nat) (h : k < xs.length) : (xs.flatMap Hd.cells)[k * 4 + 2]? = some (.string xs[k].root) := flat_get Hd.cells_len xs k 2 h (by omega)
theorem hd_c3 (xs : List Hd) (k : Nat) (h : k < xs.length) : (xs.flatMap Hd.cells)[k * 4 + 3]? = some (.string xs[k].prev) := flat_get Hd.cells_len xs k 3 h (by omega)
/-- the bytes of heads -/
def headBytes (xs : List Hd) : Nat := (xs.map fun l => l.root.size + l.prev.size).sum
theorem headBytes_succ (xs : List Hd) (k : Nat) (hk : k < xs.length) : headBytes (xs.take (k + 1)) = headBytes (xs.take k) + (xs[k].root.size + xs[k].prev.size) := by
  unfold headBytes
  rw [List.take_succ_eq_append_getElem hk, List.map_append, List.sum_append]
  simp
theorem headBytes_take (xs : List Hd) (k : Nat) : headBytes (xs.take k) ≤ headBytes xs := by
  have h : headBytes xs = headBytes (xs.take k) + headBytes (xs.drop k) := by
    unfold headBytes
    rw [← List.sum_append, ← List.map_append, List.take_append_drop]
  omega
/-- each string of them fits -/
def HeadFit (xs : List Hd) : Prop := ∀ l ∈ xs, l.root.size ≤ maxLen ∧ l.prev.size ≤ maxLen

set_option maxHeartbeats 800000 in
theorem laws_szHeadS (v : Value) (xs : List Hd) (left : Int) (w : World) (h : Hds w v xs) (hl : 0 ≤ left ∧ left ≤ 1048576) (hs : HeadFit xs) :
    Calls Tryd.prog 13 #[v, .int .i64 left] w fun e w' => e = .returned (.int .i64 (szr left (xs.length + headBytes xs))) ∧ Ext w w' := by
  obtain ⟨-, a1, c1, rfl, hc1, hm1, g1⟩ := h
  unfold maxLen at hm1
  obtain ⟨h1, h2⟩ := hl
  by_cases hneg : left < xs.length
  · go_enter Tryd.func13, Tryd.ntmps13
    go_wp2
    go_ret
    exact ⟨ret_int (by simp only [szr]; rw [if_pos (by omega)]), (by repeat (first | (with_reducible first | exact Ext.refl _ | assumption | apply Ext.alloc | apply Ext.drew | apply Ext.drewN | refine Ext.setCell ?_ ?_ _ | refine Ext.trans ?_ (by assumption)) | (show _ ≤ _; first | omega | (dsimp only; omega) | (simp; done) | (simp; omega))))⟩
  · go_enter Tryd.func13, Tryd.ntmps13
    go_wp2
    go_loopw [1, 5] (fun l i wr => ∃ k : Nat, k ≤ xs.length ∧ i = .int .i64 k ∧ l = .int .i64 (left - xs.length - headBytes (xs.take k)) ∧ 0 ≤ left - xs.length - headBytes (xs.take k) ∧ Ext w wr) (fun _ i _ => xs.length - (intOf i).toNat)
    case atStart => exact ⟨0, Nat.zero_le _, rfl, by simp [headBytes], by simp [headBytes]; omega, Ext.refl _⟩
    case round =>
      obtain ⟨k, hk, rfl, rfl, hge, hx⟩ := hrel
      by_cases hlt : k < xs.length
      · rcases g1 with g1 | ⟨b1, o1, rfl, hb1, g1⟩
        · omega
        have e1 : wr.cell? ⟨b1, o1 + k * 4, none⟩ = some (.int .i64 xs[k].house) := (hx.cell b1 _ hb1).trans (g1 _ _ (hd_c0 xs k hlt))
        have e2 : wr.cell? ⟨b1, o1 + k * 4 + 1, none⟩ = some (.int .i64 xs[k].epoch) := (hx.cell b1 _ hb1).trans (g1 _ _ (hd_c1 xs k hlt))
        have e3 : wr.cell? ⟨b1, o1 + k * 4 + 2, none⟩ = some (.string xs[k].root) := (hx.cell b1 _ hb1).trans (g1 _ _ (hd_c2 xs k hlt))
        have e4 : wr.cell? ⟨b1, o1 + k * 4 + 3, none⟩ = some (.string xs[k].prev) := (hx.cell b1 _ hb1).trans (g1 _ _ (hd_c3 xs k hlt))
        obtain ⟨s1, s2⟩ := hs xs[k] (List.getElem_mem hlt)
        have hsucc := headBytes_succ xs k hlt
        have hle := headBytes_take xs (k + 1)
        have HS := Lib.hid hsucc
        clear g1 hsucc hs
        generalize headBytes (xs.take k) = S at *
        have hz : (szr (left - xs.length - S) (xs[k].root.size + xs[k].prev.size) = -1 ∧ left - xs.length - (S + (xs[k].root.size + xs[k].prev.size)) < 0) ∨ (szr (left - xs.length - S) (xs[k].root.size + xs[k].prev.size) = left - xs.length - (S + (xs[k].root.size + xs[k].prev.size) : Nat) ∧ 0 ≤ left - xs.length - (S + (xs[k].root.size + xs[k].prev.size) : Nat)) := by
          simp only [szr]; split <;> omega
        generalize hzz : szr (left - xs.length - S) (xs[k].root.size + xs[k].prev.size) = z at *
        have HZ := Lib.hid hzz
        clear hzz
        rcases hz with ⟨rfl, hz⟩ | ⟨hz1, hz⟩
        · go_wp2_with (go_at_call 49; refine (laws_szHead _ _ _ _ _ _ (by omega) s1 s2).mono ?_; rw [HZ.out]; rintro e w1 ⟨rfl, x1⟩)
          go_ret
          exact ⟨ret_int (by have := HS.out; simp only [szr]; rw [if_pos (by omega)]), (by repeat (first | (with_reducible first | exact Ext.refl _ | assumption | apply Ext.alloc | apply Ext.drew | apply Ext.drewN | refine Ext.setCell ?_ ?_ _ | refine Ext.trans ?_ (by assumption)) | (show _ ≤ _; first | omega | (dsimp only; omega) | (simp; done) | (simp; omega))))⟩
        · have hz0 : 0 ≤ z := by omega
          have HZ1 := Lib.hid hz1
          clear hz1
          go_wp2_with (go_at_call 49; refine (laws_szHead _ _ _ _ _ _ (by omega) s1 s2).mono ?_; rw [HZ.out]; rintro e w1 ⟨rfl, x1⟩)
          go_roundw
          case rel => exact ⟨k + 1, by omega, by go_num, by rw [HS.out, HZ1.out], by rw [HS.out]; omega, (by repeat (first | (with_reducible first | exact Ext.refl _ | assumption | apply Ext.alloc | apply Ext.drew | apply Ext.drewN | refine Ext.setCell ?_ ?_ _ | refine Ext.trans ?_ (by assumption)) | (show _ ≤ _; first | omega | (dsimp only; omega) | (simp; done) | (simp; omega))))⟩
          case measure => simp [intOf]; omega
      · have hkn : k = xs.length := by omega
        subst hkn
        rw [List.take_length] at *
        go_wp2
        go_ret
        exact ⟨ret_int (by simp only [szr]; rw [if_neg (by omega)]; omega), hx⟩

theorem infoHead : (Tryd.prog.info? 30).map (fun i => (i.zero, i.size, i.bytes)) = some (some (.agg #[.int .i64 0, .int .i64 0, .string ⟨#[]⟩, .string ⟨#[]⟩]), 4, 48) := by kernel_rfl
/-- v owns the heads xs, in blocks from base on -/
def OwnHds (w : World) (base : Nat) (v : Value) (xs : List Hd) : Prop := w.ownsRow base 30 4 v xs.length (xs.flatMap Hd.cells)
theorem OwnHds.hds {w : World} {base : Nat} {v : Value} {xs : List Hd} (h : OwnHds w base v xs) : Hds w v xs := Row.of_owns h
theorem OwnHds.mono {w : World} {b b' : Nat} {v : Value} {xs : List Hd} (h : OwnHds w b v xs) (hb : b' ≤ b) : OwnHds w b' v xs := own_mono h hb
theorem OwnHds.ext {w w' : World} {b : Nat} {v : Value} {xs : List Hd} (h : OwnHds w b v xs) (hx : Ext w w') : OwnHds w' b v xs := own_ext h hx

def hd0 : Hd := ⟨0, 0, ⟨#[]⟩, ⟨#[]⟩⟩
theorem toList_madeCells_head (n : Nat) : (madeCells #[.int .i64 0, .int .i64 0, .string ⟨#[]⟩, .string ⟨#[]⟩] (n * 4)).toList = (List.replicate n hd0).flatMap Hd.cells := by
  apply List.ext_getElem?
  intro j
  by_cases hj : j < n * 4
  · have h1 : j / 4 < n := by omega
    have h3 := flat_get Hd.cells_len (List.replicate n hd0) (j / 4) (j % 4) (by simpa using h1) (by omega)
    rw [show j / 4 * 4 + j % 4 = j by omega] at h3
    rw [h3, List.getElem_replicate]
    rcases (by omega : j % 4 = 0 ∨ j % 4 = 1 ∨ j % 4 = 2 ∨ j % 4 = 3) with h | h | h | h <;> simp [madeCells, hj, h, Hd.cells, hd0]
  · rw [List.getElem?_eq_none (by simp [madeCells]; omega), List.getElem?_eq_none (by rw [flat_length Hd.cells_len]; simp; omega)]
/-- the first k heads, then empty ones -/
def fillH (xs : List Hd) (k : Nat) : List Hd := xs.take k ++ List.replicate (xs.length - k) hd0
theorem fillH_length (xs : List Hd) (k : Nat) (h : k ≤ xs.length) : (fillH xs k).length = xs.length := by simp [fillH]; omega
theorem fillH_at (xs : List Hd) (k : Nat) (h : k < xs.length) (h' : k < (fillH xs k).length) : (fillH xs k)[k] = hd0 := by
  have e : (fillH xs k)[k]? = some hd0 := by
    unfold fillH
    rw [List.getElem?_append_right (by rw [List.length_take]; omega), List.getElem?_replicate, if_pos (by rw [List.length_take]; omega)]
  rw [List.getElem?_eq_getElem h'] at e
  exact Option.some.inj e
theorem fillH_set (xs : List Hd) (k : Nat) (h : k < xs.length) : (fillH xs k).set k xs[k] = fillH xs (k + 1) := by
  unfold fillH
  rw [List.set_append_right _ _ (by simp; omega), List.take_succ_eq_append_getElem h, List.length_take, Nat.min_eq_left (by omega), Nat.sub_self, show xs.length - k = (xs.length - (k + 1)) + 1 by omega, List.replicate_succ, List.append_assoc]
  rfl
theorem hd_flat_set (l : Hd) : ∀ (xs : List Hd) (i : Nat), i < xs.length → ((((xs.flatMap Hd.cells).set (i * 4) (.int .i64 l.house)).set (i * 4 + 1) (.int .i64 l.epoch)).set (i * 4 + 2) (.string l.root)).set (i * 4 + 3) (.string l.prev) = (xs.set i l).flatMap Hd.cells
  | [], i, h => by simp at h
  | x :: t, 0, _ => by simp [Hd.cells]
  | x :: t, i + 1, h => by
    have ih := hd_flat_set l t i (by simpa using h)
    rw [show (i + 1) * 4 = i * 4 + 1 + 1 + 1 + 1 by omega]
    simp only [List.flatMap_cons, Hd.cells, List.cons_append, List.nil_append, List.set_cons_succ] at ih ⊢
    rw [ih]

set_option maxHeartbeats 800000 in
theorem laws_toHeadS (v : Value) (xs : List Hd) (w : World) (h : Hds w v xs) (hb : xs.length ≤ 1099511627776) :
    Calls Tryd.prog 15 #[v] w fun e w' => ∃ a c, e = .returned (.slice a xs.length c) ∧ OwnHds w' w.heap.size (.slice a xs.length c) xs ∧ Ext w w' := by
  obtain ⟨-, a1, c1, rfl, hc1, hm1, g1⟩ := h
  unfold maxLen at hm1
  obtain ⟨i0, hi, hz0, hz1, hz2⟩ := info_parts infoHead
  go_enter Tryd.func15, Tryd.ntmps15
  go_wp2_with (at_make; refine wpList_make_full _ rfl _ _ 25 rfl w.heap.size 30 i0 _ 4 Tryd.underlying25 hi hz0 hz1 _ _ _ _ xs.length rfl rfl rfl rfl (by rw [hz2]; omega) (by unfold maxLen; omega) (Nat.le_refl _) ?_; intro w1 hown1 hgrow1)
  have hx1 : Ext w w1 := (Ext.refl w).grown hgrow1 (by simp)
  have hsz1 : w.heap.size < w1.heap.size := (hown1.lt w.heap.size rfl).2
  rw [show (Value.agg #[.int .i64 0, .int .i64 0, .string ⟨#[]⟩, .string ⟨#[]⟩]).cells = #[.int .i64 0, .int .i64 0, .string ⟨#[]⟩, .string ⟨#[]⟩] from rfl, toList_madeCells_head] at hown1
  go_loopw [4] (fun i wr => ∃ k : Nat, k ≤ xs.length ∧ i = .int .i64 k ∧ wr.ownsRow w.heap.size 30 4 (.slice (some ⟨w.heap.size, 0, none⟩) xs.length xs.length) xs.length ((fillH xs k).flatMap Hd.cells) ∧ Ext w wr) (fun i _ => xs.length - (intOf i).toNat)
  case atStart => exact ⟨0, Nat.zero_le _, rfl, by simpa [fillH] using hown1, hx1⟩
  case round =>
    obtain ⟨k, hk, rfl, hown, hx⟩ := hrel
    clear hown1 hgrow1
    by_cases hlt : k < xs.length
    · rcases g1 with g1 | ⟨b1, o1, rfl, hb1, g1⟩
      · omega
      have e1 : wr.cell? ⟨b1, o1 + k * 4, none⟩ = some (.int .i64 xs[k].house) := (hx.cell b1 _ hb1).trans (g1 _ _ (hd_c0 xs k hlt))
      have e2 : wr.cell? ⟨b1, o1 + k * 4 + 1, none⟩ = some (.int .i64 xs[k].epoch) := (hx.cell b1 _ hb1).trans (g1 _ _ (hd_c1 xs k hlt))
      have e3 : wr.cell? ⟨b1, o1 + k * 4 + 2, none⟩ = some (.string xs[k].root) := (hx.cell b1 _ hb1).trans (g1 _ _ (hd_c2 xs k hlt))
      have e4 : wr.cell? ⟨b1, o1 + k * 4 + 3, none⟩ = some (.string xs[k].prev) := (hx.cell b1 _ hb1).trans (g1 _ _ (hd_c3 xs k hlt))
      have HO := Lib.hid hown
      have hsz := (hown.lt w.heap.size rfl).2
      have hfl : k < (fillH xs k).length := by rw [fillH_length xs k (by omega)]; exact hlt
      have hz := fillH_at xs k hlt hfl
      have d0 := hd_c0 (fillH xs k) k hfl
      have d1 := hd_c1 (fillH xs k) k hfl
      have d2 := hd_c2 (fillH xs k) k hfl
      have d3 := hd_c3 (fillH xs k) k hfl
      rw [hz] at d0 d1 d2 d3
      have D0 := Lib.hid d0
      have D1 := Lib.hid d1
      have D2 := Lib.hid d2
      have D3 := Lib.hid d3
      have HST := Lib.hid ((hd_flat_set xs[k] (fillH xs k) k hfl).trans (by rw [fillH_set xs k hlt]))
      clear g1 hown d0 d1 d2 d3 hz hfl
      go_wp2_with fail
      refine (laws_toHead _ _ _ _ _).mono ?_
      rintro e w2 ⟨rfl, x2⟩
      have hown := own_ext HO.out x2
      have e5 : w2.cell? ⟨w.heap.size, k * 4, none⟩ = some (.int .i64 0) := by rw [hown.cellAt _ (by omega)]; exact D0.out
      have e6 : w2.cell? ⟨w.heap.size, k * 4 + 1, none⟩ = some (.int .i64 0) := by rw [hown.cellAt _ (by omega)]; exact D1.out
      have e7 : w2.cell? ⟨w.heap.size, k * 4 + 2, none⟩ = some (.string ⟨#[]⟩) := by rw [hown.cellAt _ (by omega)]; exact D2.out
      have e8 : w2.cell? ⟨w.heap.size, k * 4 + 3, none⟩ = some (.string ⟨#[]⟩) := by rw [hown.cellAt _ (by omega)]; exact D3.out
      have f5 : ∀ j, w2.frozen? ⟨w.heap.size, j, none⟩ = false := fun j => hown.frozenAt j
      have S := ((((hown.stored (k * 4) (.int .i64 xs[k].house)).1.stored (k * 4 + 1) (.int .i64 xs[k].epoch)).1.stored (k * 4 + 2) (.string xs[k].root)).1.stored (k * 4 + 3) (.string xs[k].prev)).1
      rw [HST.out] at S
      have HS := Lib.hid S
      clear S hown HO
      go_wp2
      go_roundw
      case rel => exact ⟨k + 1, by omega, by go_num, HS.out, (by repeat (first | (with_reducible first | exact Ext.refl _ | assumption | apply Ext.alloc | apply Ext.drew | apply Ext.drewN | refine Ext.setCell ?_ ?_ _ | refine Ext.trans ?_ (by assumption)) | (show _ ≤ _; first | omega | (dsimp only; omega) | (simp; done) | (simp; omega))))⟩
      case measure => simp [intOf]; omega
    · have hkn : k = xs.length := by omega
      subst hkn
      clear g1
      go_wp2
      go_ret
      exact ⟨_, _, rfl, by simpa [OwnHds, fillH] using hown, hx⟩

set_option maxHeartbeats 1600000 in
theorem laws_eqHeadS (v1 v2 : Value) (xs ys : List Hd) (w : World) (h1 : Hds w v1 xs) (h2 : Hds w v2 ys) :
    Calls Tryd.prog 17 #[v1, v2] w fun e w' => e = .returned (.bool (decide (xs = ys))) ∧ Ext w w' := by
  obtain ⟨-, a1, c1, rfl, hc1, hm1, g1⟩ := h1
  obtain ⟨-, a2, c2, rfl, hc2, hm2, g2⟩ := h2
  unfold maxLen at hm1 hm2
  by_cases hlen : xs.length = ys.length
  · have hlb : ((xs.length : Int) != ys.length) = false := by simp [hlen]
    have HL := Lib.hid hlen
    clear hlen
    go_enter Tryd.func17, Tryd.ntmps17
    go_wp2
    go_loopw [5] (fun i wr => ∃ k : Nat, k ≤ xs.length ∧ i = .int .i64 k ∧ xs.take k = ys.take k ∧ Ext w wr) (fun i _ => xs.length - (intOf i).toNat)
    case atStart => exact ⟨0, Nat.zero_le _, rfl, rfl, Ext.refl _⟩
    case round =>
      obtain ⟨k, hk, rfl, htk, hx⟩ := hrel
      have HT := Lib.hid htk
      clear htk
      by_cases hlt : k < xs.length
      · rcases g1 with g1 | ⟨b1, o1, rfl, hb1, g1⟩
        · omega
        rcases g2 with g2 | ⟨b2, o2, rfl, hb2, g2⟩
        · have := HL.out; omega
        have hlt2 : k < ys.length := by have := HL.out; omega
        have e1 : wr.cell? ⟨b1, o1 + k * 4, none⟩ = some (.int .i64 xs[k].house) := (hx.cell b1 _ hb1).trans (g1 _ _ (hd_c0 xs k hlt))
        have e2 : wr.cell? ⟨b1, o1 + k * 4 + 1, none⟩ = some (.int .i64 xs[k].epoch) := (hx.cell b1 _ hb1).trans (g1 _ _ (hd_c1 xs k hlt))
        have e3 : wr.cell? ⟨b1, o1 + k * 4 + 2, none⟩ = some (.string xs[k].root) := (hx.cell b1 _ hb1).trans (g1 _ _ (hd_c2 xs k hlt))
        have e4 : wr.cell? ⟨b1, o1 + k * 4 + 3, none⟩ = some (.string xs[k].prev) := (hx.cell b1 _ hb1).trans (g1 _ _ (hd_c3 xs k hlt))
        have e5 : wr.cell? ⟨b2, o2 + k * 4, none⟩ = some (.int .i64 ys[k].house) := (hx.cell b2 _ hb2).trans (g2 _ _ (hd_c0 ys k hlt2))
        have e6 : wr.cell? ⟨b2, o2 + k * 4 + 1, none⟩ = some (.int .i64 ys[k].epoch) := (hx.cell b2 _ hb2).trans (g2 _ _ (hd_c1 ys k hlt2))
        have e7 : wr.cell? ⟨b2, o2 + k * 4 + 2, none⟩ = some (.string ys[k].root) := (hx.cell b2 _ hb2).trans (g2 _ _ (hd_c2 ys k hlt2))
        have e8 : wr.cell? ⟨b2, o2 + k * 4 + 3, none⟩ = some (.string ys[k].prev) := (hx.cell b2 _ hb2).trans (g2 _ _ (hd_c3 ys k hlt2))
        have l1 : b1 < wr.heap.size := Nat.lt_of_lt_of_le hb1 hx.size
        have l2 : b2 < wr.heap.size := Nat.lt_of_lt_of_le hb2 hx.size
        clear g1 g2
        by_cases hq : xs[k] = ys[k]
        · have hqb : (decide (xs[k].house = ys[k].house) && (decide (xs[k].epoch = ys[k].epoch) && (decide (xs[k].root = ys[k].root) && decide (xs[k].prev = ys[k].prev)))) = true := by simp [hq]
          have HQ := Lib.hid hqb
          have HE := Lib.hid hq
          clear hq hqb
          go_wp2_with fail
          go_region_held3 (fun W => W.cell? ⟨b1, o1 + k * 4, none⟩ = some (.int .i64 xs[k].house) ∧ W.cell? ⟨b1, o1 + k * 4 + 1, none⟩ = some (.int .i64 xs[k].epoch) ∧ W.cell? ⟨b1, o1 + k * 4 + 2, none⟩ = some (.string xs[k].root) ∧ W.cell? ⟨b1, o1 + k * 4 + 3, none⟩ = some (.string xs[k].prev) ∧ W.cell? ⟨b2, o2 + k * 4, none⟩ = some (.int .i64 ys[k].house) ∧ W.cell? ⟨b2, o2 + k * 4 + 1, none⟩ = some (.int .i64 ys[k].epoch) ∧ W.cell? ⟨b2, o2 + k * 4 + 2, none⟩ = some (.string ys[k].root) ∧ W.cell? ⟨b2, o2 + k * 4 + 3, none⟩ = some (.string ys[k].prev)) (first | exact ⟨e1, e2, e3, e4, e5, e6, e7, e8⟩ | exact ⟨(c6 _ _ l1).trans e1, (c6 _ _ l1).trans e2, (c6 _ _ l1).trans e3, (c6 _ _ l1).trans e4, (c6 _ _ l2).trans e5, (c6 _ _ l2).trans e6, (c6 _ _ l2).trans e7, (c6 _ _ l2).trans e8⟩) ((go_at_call 20; refine (laws_eqHead _ _ _ _ _ _ _ _ _).mono ?_; rw [HQ.out]; rintro e w6 ⟨rfl, x6⟩; have c6 : ∀ k o, k < wr.heap.size → w6.cell? ⟨k, o, none⟩ = wr.cell? ⟨k, o, none⟩ := fun k o hk => x6.cell k o hk))
          go_wp2
          go_roundw
          case rel => exact ⟨k + 1, by omega, by go_num, take_eq_succ hlt hlt2 HT.out HE.out, (by repeat (first | (with_reducible first | exact Ext.refl _ | assumption | apply Ext.alloc | apply Ext.drew | apply Ext.drewN | refine Ext.setCell ?_ ?_ _ | refine Ext.trans ?_ (by assumption)) | (show _ ≤ _; first | omega | (dsimp only; omega) | (simp; done) | (simp; omega))))⟩
          case measure => simp [intOf]; omega
        · have hqb : (decide (xs[k].house = ys[k].house) && (decide (xs[k].epoch = ys[k].epoch) && (decide (xs[k].root = ys[k].root) && decide (xs[k].prev = ys[k].prev)))) = false := by
            cases hb : (decide (xs[k].house = ys[k].house) && (decide (xs[k].epoch = ys[k].epoch) && (decide (xs[k].root = ys[k].root) && decide (xs[k].prev = ys[k].prev))))
            · rfl
            · simp only [Bool.and_eq_true, decide_eq_true_eq] at hb
              exact absurd (by cases hx : xs[k]; cases hy : ys[k]; simp_all) hq
          have hne : xs ≠ ys := fun h => hq (by subst h; rfl)
          have HQ := Lib.hid hqb
          have HN := Lib.hid hne
          clear hq hqb hne
          go_wp2_with fail
          go_region_held3 (fun W => W.cell? ⟨b1, o1 + k * 4, none⟩ = some (.int .i64 xs[k].house) ∧ W.cell? ⟨b1, o1 + k * 4 + 1, none⟩ = some (.int .i64 xs[k].epoch) ∧ W.cell? ⟨b1, o1 + k * 4 + 2, none⟩ = some (.string xs[k].root) ∧ W.cell? ⟨b1, o1 + k * 4 + 3, none⟩ = some (.string xs[k].prev) ∧ W.cell? ⟨b2, o2 + k * 4, none⟩ = some (.int .i64 ys[k].house) ∧ W.cell? ⟨b2, o2 + k * 4 + 1, none⟩ = some (.int .i64 ys[k].epoch) ∧ W.cell? ⟨b2, o2 + k * 4 + 2, none⟩ = some (.string ys[k].root) ∧ W.cell? ⟨b2, o2 + k * 4 + 3, none⟩ = some (.string ys[k].prev)) (first | exact ⟨e1, e2, e3, e4, e5, e6, e7, e8⟩ | exact ⟨(c6 _ _ l1).trans e1, (c6 _ _ l1).trans e2, (c6 _ _ l1).trans e3, (c6 _ _ l1).trans e4, (c6 _ _ l2).trans e5, (c6 _ _ l2).trans e6, (c6 _ _ l2).trans e7, (c6 _ _ l2).trans e8⟩) ((go_at_call 20; refine (laws_eqHead _ _ _ _ _ _ _ _ _).mono ?_; rw [HQ.out]; rintro e w6 ⟨rfl, x6⟩; have c6 : ∀ k o, k < wr.heap.size → w6.cell? ⟨k, o, none⟩ = wr.cell? ⟨k, o, none⟩ := fun k o hk => x6.cell k o hk))
          go_wp2
          go_ret
          exact ⟨ret_bool (by simp [HN.out]), (by repeat (first | (with_reducible first | exact Ext.refl _ | assumption | apply Ext.alloc | apply Ext.drew | apply Ext.drewN | refine Ext.setCell ?_ ?_ _ | refine Ext.trans ?_ (by assumption)) | (show _ ≤ _; first | omega | (dsimp only; omega) | (simp; done) | (simp; omega))))⟩
      · have he : xs = ys := by
          have h1 := HT.out
          rw [List.take_of_length_le (by omega), List.take_of_length_le (by have := HL.out; omega)] at h1
          exact h1
        have HE := Lib.hid he
        clear he
        go_wp2
        go_ret
        exact ⟨ret_bool (by simp [HE.out]), (by repeat (first | (with_reducible first | exact Ext.refl _ | assumption | apply Ext.alloc | apply Ext.drew | apply Ext.drewN | refine Ext.setCell ?_ ?_ _ | refine Ext.trans ?_ (by assumption)) | (show _ ≤ _; first | omega | (dsimp only; omega) | (simp; done) | (simp; omega))))⟩
  · have hne : xs ≠ ys := fun h => hlen (by rw [h])
    go_enter Tryd.func17, Tryd.ntmps17
    go_wp2
    go_ret
    exact ⟨ret_bool (by simp [hne]), (by repeat (first | (with_reducible first | exact Ext.refl _ | assumption | apply Ext.alloc | apply Ext.drew | apply Ext.drewN | refine Ext.setCell ?_ ?_ _ | refine Ext.trans ?_ (by assumption)) | (show _ ≤ _; first | omega | (dsimp only; omega) | (simp; done) | (simp; omega))))⟩
end Go.Proofs.YtagkcgbggeajkaaDoor
