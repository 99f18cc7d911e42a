/- Heads, Chain in one text. -/
import Derived.Test.YtcinihfjkkaclaaDoorStrA
import Derived.Test.YtcinihfjkkaclaaDoorHeadA
import Derived.Test.YtcinihfjkkaclaaDoorLeafA
import Derived.Deep.RegionHeld3
import Derived.Test.YtcinihfjkkaclaaDoorHHash
namespace Go.Proofs.YtcinihfjkkaclaaDoor
open Go.RowKit

structure Hd where
  house : Int
  epoch : Int
  root : ByteArray
  prev : ByteArray
  deriving DecidableEq

def Hd.cells (l : Hd) : List Value := [.int .i64 l.house, .int .i64 l.epoch, .string l.root, .string l.prev]
def Hd.val (l : Hd) : Value := .agg #[.int .i64 l.house, .int .i64 l.epoch, .string l.root, .string l.prev]
theorem Hd.cells_len (l : Hd) : l.cells.length = 4 := rfl
def Hds (w : World) (v : Value) (xs : List Hd) : Prop := Row w 4 v xs.length (xs.flatMap Hd.cells)
theorem Hds.ext {w w' : World} {v : Value} {xs : List Hd} (h : Hds w v xs) (hx : Ext w w') : Hds w' v xs := Row.ext h hx
theorem Hds.form {w : World} {v : Value} {xs : List Hd} (h : Hds w v xs) : ∃ a c, v = .slice a xs.length c := by
  obtain ⟨-, a, c, rfl, -⟩ := h
  exact ⟨a, c, rfl⟩
theorem hd_c0 (xs : List Hd) (k : Nat) (h : k < xs.length) : (xs.flatMap Hd.cells)[k * 4]? = some (.int .i64 xs[k].house) := flat_get Hd.cells_len xs k 0 h (by omega)
theorem hd_c1 (xs : List Hd) (k : Nat) (h : k < xs.length) : (xs.flatMap Hd.cells)[k * 4 + 1]? = some (.int .i64 xs[k].epoch) := flat_get Hd.cells_len xs k 1 h (by omega)
theorem hd_c2 (xs : List Hd) (k : Nat) (h : k < xs.length) : (xs.flatMap Hd.cells)[k * 4 + 2]? = some (.string xs[k].root) := flat_get Hd.cells_len xs k 2 h (by omega)
theorem hd_c3 (xs : List Hd) (k : Nat) (h : k < xs.length) : (xs.flatMap Hd.cells)[k * 4 + 3]? = some (.string xs[k].prev) := flat_get Hd.cells_len xs k 3 h (by omega)
/-- the bytes of heads -/
def headBytes (xs : List Hd) : Nat := (xs.map fun l => l.root.size + l.prev.size).sum
theorem headBytes_succ (xs : List Hd) (k : Nat) (hk : k < xs.length) : headBytes (xs.take (k + 1)) = headBytes (xs.take k) + (xs[k].root.size + xs[k].prev.size) := by
  unfold headBytes
  rw [List.take_succ_eq_append_getElem hk, List.map_append, List.sum_append]
  simp
theorem headBytes_take (xs : List Hd) (k : Nat) : headBytes (xs.take k) ≤ headBytes xs := by
  have h : headBytes xs = headBytes (xs.take k) + headBytes (xs.drop k) := by
    unfold headBytes
    rw [← List.sum_append, ← List.map_append, List.take_append_drop]
  omega
/-- each string of them fits -/
def HeadFit (xs : List Hd) : Prop := ∀ l ∈ xs, l.root.size ≤ maxLen ∧ l.prev.size ≤ maxLen

theorem infoHead : (Tryd.prog.info? 25).map (fun i => (i.zero, i.size, i.bytes)) = some (some (.agg #[.int .i64 0, .int .i64 0, .string ⟨#[]⟩, .string ⟨#[]⟩]), 4, 48) := by kernel_rfl
/-- v owns the heads xs, in blocks from base on -/
def OwnHds (w : World) (base : Nat) (v : Value) (xs : List Hd) : Prop := w.ownsRow base 25 4 v xs.length (xs.flatMap Hd.cells)
theorem OwnHds.hds {w : World} {base : Nat} {v : Value} {xs : List Hd} (h : OwnHds w base v xs) : Hds w v xs := Row.of_owns h
theorem OwnHds.mono {w : World} {b b' : Nat} {v : Value} {xs : List Hd} (h : OwnHds w b v xs) (hb : b' ≤ b) : OwnHds w b' v xs := own_mono h hb
theorem OwnHds.ext {w w' : World} {b : Nat} {v : Value} {xs : List Hd} (h : OwnHds w b v xs) (hx : Ext w w') : OwnHds w' b v xs := own_ext h hx

def hd0 : Hd := ⟨0, 0, ⟨#[]⟩, ⟨#[]⟩⟩
theorem toList_madeCells_head (n : Nat) : (madeCells #[.int .i64 0, .int .i64 0, .string ⟨#[]⟩, .string ⟨#[]⟩] (n * 4)).toList = (List.replicate n hd0).flatMap Hd.cells := by
  apply List.ext_getElem?
  intro j
  by_cases hj : j < n * 4
  · have h1 : j / 4 < n := by omega
    have h3 := flat_get Hd.cells_len (List.replicate n hd0) (j / 4) (j % 4) (by simpa using h1) (by omega)
    rw [show j / 4 * 4 + j % 4 = j by omega] at h3
    rw [h3, List.getElem_replicate]
    rcases (by omega : j % 4 = 0 ∨ j % 4 = 1 ∨ j % 4 = 2 ∨ j % 4 = 3) with h | h | h | h <;> simp [madeCells, hj, h, Hd.cells, hd0]
  · rw [List.getElem?_eq_none (by simp [madeCells]; omega), List.getElem?_eq_none (by rw [flat_length Hd.cells_len]; simp; omega)]
/-- the first k heads, then empty ones -/
def fillH (xs : List Hd) (k : Nat) : List Hd := xs.take k ++ List.replicate (xs.length - k) hd0
theorem fillH_length (xs : List Hd) (k : Nat) (h : k ≤ xs.length) : (fillH xs k).length = xs.length := by simp [fillH]; omega
theorem fillH_at (xs : List Hd) (k : Nat) (h : k < xs.length) (h' : k < (fillH xs k).length) : (fillH xs k)[k] = hd0 := by
  have e : (fillH xs k)[k]? = some hd0 := by
    unfold fillH
    rw [List.getElem?_append_right (by rw [List.length_take]; omega), List.getElem?_replicate, if_pos (by rw [List.length_take]; omega)]
  rw [List.getElem?_eq_getElem h'] at e
  exact Option.some.inj e
theorem fillH_set (xs : List Hd) (k : Nat) (h : k < xs.length) : (fillH xs k).set k xs[k] = fillH xs (k + 1) := by
  unfold fillH
  rw [List.set_append_right _ _ (by simp; omega), List.take_succ_eq_append_getElem h, List.length_take, Nat.min_eq_left (by omega), Nat.sub_self, show xs.length - k = (xs.length - (k + 1)) + 1 by omega, List.replicate_succ, List.append_assoc]
  rfl
theorem hd_flat_set (l : Hd) : ∀ (xs : List Hd) (i : Nat), i < xs.length → ((((xs.flatMap Hd.cells).set (i * 4) (.int .i64 l.house)).set (i * 4 + 1) (.int .i64 l.epoch)).set (i * 4 + 2) (.string l.root)).set (i * 4 + 3) (.string l.prev) = (xs.set i l).flatMap Hd.cells
  | [], i, h => by simp at h
  | x :: t, 0, _ => by simp [Hd.cells]
  | x :: t, i + 1, h => by
    have ih := hd_flat_set l t i (by simpa using h)
    rw [show (i + 1) * 4 = i * 4 + 1 + 1 + 1 + 1 by omega]
    simp only [List.flatMap_cons, Hd.cells, List.cons_append, List.nil_append, List.set_cons_succ] at ih ⊢
    rw [ih]

end Go.Proofs.YtcinihfjkkaclaaDoor
namespace Go.Proofs.YtcinihfjkkaclaaDoor
open Go.RowKit

/-- the hash of a head -/
def hdH2 (l : Hd) : ByteArray := headH l.house l.epoch l.root l.prev
/-- the hash of the last head -/
def lastH (ys : List Hd) : ByteArray := if ys.length = 0 then ⟨#[]⟩ else hdH2 (ys.getD (ys.length - 1) hd0)
theorem getD_hd (xs : List Hd) (i : Nat) (h : i < xs.length) (d : Hd) : xs.getD i d = xs[i] := by simp [List.getD, h]
theorem lastH_le (ys : List Hd) : (lastH ys).size ≤ 32 := by
  unfold lastH
  split
  · exact Nat.zero_le _
  · unfold hdH2 headH
    split
    · exact tagH_le _ _ _
    · exact Nat.zero_le _

set_option maxRecDepth 100000 in
set_option maxHeartbeats 1600000 in
theorem impl_nextHead (v : Value) (ys : List Hd) (house : Int) (root : ByteArray) (w : World) (h : Hds w v ys) (hb : ys.length ≤ 1099511627776) (hT : Tabs w) :
    Calls Tryd.prog 80 #[v, .int .i64 house, .string root] w fun e w' => e = .returned (.agg #[.int .i64 house, .int .i64 ((ys.length : Int) + 1), .string root, .string (lastH ys)]) ∧ Ext w w' := by
  have HT := Lib.hid hT
  clear hT
  obtain ⟨-, a1, c1, rfl, hc1, hm1, g1⟩ := h
  unfold maxLen at hm1
  have hw1 : IntKind.i64.wrap ((ys.length : Int) + 1) = (ys.length : Int) + 1 := IntWalk.i64_in _ (by omega)
  by_cases hn : ys.length = 0
  · have R := Lib.hid (show lastH ys = ⟨#[]⟩ by rw [lastH, if_pos hn])
    have hgt : ¬ ((0 : Int) < ys.length) := by omega
    clear g1 hn
    go_enter Tryd.func80, Tryd.ntmps80
    go_wp2
    refine bodyPost_ret (v := .agg #[.int .i64 house, .int .i64 ((ys.length : Int) + 1), .string root, .string ⟨#[]⟩]) (by simp [results, Tryd.results80, go_sem]) rfl ⟨by rw [R.out], (by repeat (first | (with_reducible first | exact Ext.refl _ | assumption | apply Ext.alloc | apply Ext.drew | apply Ext.drewN | refine Ext.setCell ?_ ?_ _ | refine Ext.trans ?_ (by assumption)) | (show _ ≤ _; first | omega | (dsimp only; omega) | (simp; done) | (simp; omega))))⟩
  · obtain ⟨j, hj⟩ : ∃ j, ys.length = j + 1 := ⟨ys.length - 1, by omega⟩
    have hlt : j < ys.length := by omega
    have hR : lastH ys = hdH2 ys[j] := by rw [lastH, if_neg hn, show ys.length - 1 = j by omega, getD_hd _ _ hlt]
    rcases g1 with g1 | ⟨b1, o1, rfl, hb1, g1⟩
    · omega
    have e1 : w.cell? ⟨b1, o1 + j * 4, none⟩ = some (.int .i64 ys[j].house) := g1 _ _ (hd_c0 ys _ hlt)
    have e2 : w.cell? ⟨b1, o1 + j * 4 + 1, none⟩ = some (.int .i64 ys[j].epoch) := g1 _ _ (hd_c1 ys _ hlt)
    have e3 : w.cell? ⟨b1, o1 + j * 4 + 2, none⟩ = some (.string ys[j].root) := g1 _ _ (hd_c2 ys _ hlt)
    have e4 : w.cell? ⟨b1, o1 + j * 4 + 3, none⟩ = some (.string ys[j].prev) := g1 _ _ (hd_c3 ys _ hlt)
    generalize ys[j] = z at *
    have R := Lib.hid hR
    have hgt : (0 : Int) < ys.length := by omega
    have hw2 : IntKind.i64.wrap ((ys.length : Int) - 1) = (j : Int) := by rw [IntWalk.i64_in _ (by omega)]; omega
    have hj0 : (0 : Int) ≤ (j : Int) := by omega
    have hj1 : (j : Int) < ys.length := by omega
    have HJ := Lib.hid hj
    clear g1 hn hR hj
    go_enter Tryd.func80, Tryd.ntmps80
    go_wp2_with fail
    refine (impl_HeadHash _ _ _ _ _ (by exact HT.out.ext (by repeat (first | (with_reducible first | exact Ext.refl _ | assumption | apply Ext.alloc | apply Ext.drew | apply Ext.drewN | refine Ext.setCell ?_ ?_ _ | refine Ext.trans ?_ (by assumption)) | (show _ ≤ _; first | omega | (dsimp only; omega) | (simp; done) | (simp; omega)))))).mono ?_
    rintro e w2 ⟨rfl, x2⟩
    have E_x2 := Old.of x2; (repeat (first | (replace E_x2 := Old.undrew E_x2) | (replace E_x2 := Old.undrewN E_x2))); have c_E_x2 := Old.cell E_x2; have f_E_x2 := Old.frozen E_x2; have z_E_x2 := Old.size E_x2; try simp only [World.size_alloc] at c_E_x2 f_E_x2 z_E_x2; try have l_E_x2 := Nat.lt_of_succ_le z_E_x2; try have m_E_x2 := Nat.lt_of_succ_lt l_E_x2; try have n_E_x2 := Nat.lt_of_succ_lt m_E_x2
    have p0 := c_E_x2 (w.heap.size) 0 (by omega); simp [go_sem] at p0; have p1 := c_E_x2 (w.heap.size) 1 (by omega); simp [go_sem] at p1; have p2 := c_E_x2 (w.heap.size) 2 (by omega); simp [go_sem] at p2; have p3 := c_E_x2 (w.heap.size) 3 (by omega); simp [go_sem] at p3
    have q0 := c_E_x2 (w.heap.size + 1) 0 (by omega); simp [go_sem] at q0; have q1 := c_E_x2 (w.heap.size + 1) 1 (by omega); simp [go_sem] at q1; have q2 := c_E_x2 (w.heap.size + 1) 2 (by omega); simp [go_sem] at q2; have q3 := c_E_x2 (w.heap.size + 1) 3 (by omega); simp [go_sem] at q3
    go_wp2
    refine bodyPost_ret (v := .agg #[.int .i64 house, .int .i64 ((ys.length : Int) + 1), .string root, .string (hdH2 z)]) (by simp [results, Tryd.results80, go_sem, p0, p1, p2, p3, hdH2]) rfl ⟨by rw [R.out], (by repeat (first | (with_reducible first | exact Ext.refl _ | assumption | apply Ext.alloc | apply Ext.drew | apply Ext.drewN | refine Ext.setCell ?_ ?_ _ | refine Ext.trans ?_ (by assumption)) | (show _ ≤ _; first | omega | (dsimp only; omega) | (simp; done) | (simp; omega))))⟩

/-- what a head must bear as the hash ahead of it -/
def prevT (xs : List Hd) (k : Nat) : ByteArray := lastH (xs.take k)
def goodHd (xs : List Hd) (house : Int) (k : Nat) : Bool :=
  match xs[k]? with
  | none => false
  | some l => headOk l.house l.epoch l.root l.prev && decide (l = ⟨house, (k : Int) + 1, l.root, prevT xs k⟩)
def chainOk (xs : List Hd) (house : Int) : Bool := (List.range xs.length).all (goodHd xs house)
theorem chain_step {xs : List Hd} {house : Int} {k : Nat} (h : ((List.range k).all (goodHd xs house)) = true) (g : goodHd xs house k = true) : ((List.range (k + 1)).all (goodHd xs house)) = true := by
  rw [List.range_succ, List.all_append, h]
  simp [g]
theorem chain_bad {xs : List Hd} {house : Int} {k : Nat} (hk : k < xs.length) (g : goodHd xs house k = false) : chainOk xs house = false := by
  rw [chainOk, List.all_eq_false]
  exact ⟨k, by simpa using hk, by simp [g]⟩
theorem hds_take {w : World} {a : Option Addr} {n c : Nat} {xs : List Hd} (h : Hds w (.slice a n c) xs) (k : Nat) (hk : k ≤ xs.length) : Hds w (.slice a k c) (xs.take k) := by
  obtain ⟨h1, a1, c1, hv, hc, hm, g⟩ := h
  injection hv with e1 e2 e3
  subst e1 e3
  have hl : (xs.take k).length = k := by simp; omega
  refine ⟨by rw [flat_length Hd.cells_len], a, c, by rw [hl], by rw [hl]; omega, hm, ?_⟩
  rcases g with g | ⟨b, o, hb, hlt, g⟩
  · exact Or.inl (by rw [hl]; omega)
  · refine Or.inr ⟨b, o, hb, hlt, fun j u hu => g j u ?_⟩
    rw [← List.take_append_drop k xs, List.flatMap_append]
    rw [List.getElem?_append_left (by have := (List.getElem?_eq_some_iff.1 hu).1; exact this)]
    exact hu
theorem good_eq {xs : List Hd} {house : Int} {k : Nat} (hk : k < xs.length) : goodHd xs house k = (headOk xs[k].house xs[k].epoch xs[k].root xs[k].prev && decide (xs[k] = ⟨house, (k : Int) + 1, xs[k].root, prevT xs k⟩)) := by
  rw [goodHd, List.getElem?_eq_getElem hk]

theorem good_yes {xs : List Hd} {house : Int} {k : Nat} {z : Hd} (h : goodHd xs house k = (headOk z.house z.epoch z.root z.prev && decide (z = ⟨house, (k : Int) + 1, z.root, prevT xs k⟩))) (hh : headOk z.house z.epoch z.root z.prev = true)
    (q : z.house = house ∧ z.epoch = (k : Int) + 1 ∧ z.prev.toList = (lastH (xs.take k)).toList) : goodHd xs house k = true := by
  rw [h, hh, Bool.true_and, decide_eq_true_eq]
  obtain ⟨q1, q2, q3⟩ := q
  rw [toList_inj] at q3
  cases z
  simp_all [prevT]
theorem good_not {xs : List Hd} {house : Int} {k : Nat} {z : Hd} (h : goodHd xs house k = (headOk z.house z.epoch z.root z.prev && decide (z = ⟨house, (k : Int) + 1, z.root, prevT xs k⟩)))
    (q : ¬ (z.house = house ∧ z.epoch = (k : Int) + 1 ∧ z.prev.toList = (lastH (xs.take k)).toList)) : goodHd xs house k = false := by
  rw [h, Bool.and_eq_false_iff]
  refine Or.inr (decide_eq_false fun e => q ?_)
  rw [e]
  exact ⟨rfl, rfl, rfl⟩

set_option maxRecDepth 100000 in
set_option maxHeartbeats 3200000 in
theorem impl_ChainOk (v : Value) (xs : List Hd) (house : Int) (w : World) (h : Hds w v xs) (hb : xs.length ≤ 1099511627776) (hT : Tabs w) :
    Calls Tryd.prog 23 #[v, .int .i64 house] w fun e w' => e = .returned (.bool (chainOk xs house)) ∧ Ext w w' := by
  have HT := Lib.hid hT
  clear hT
  obtain ⟨-, a1, c1, hv, hc1, hm1, g1⟩ := id h
  subst hv
  unfold maxLen at hm1
  go_enter Tryd.func23, Tryd.ntmps23
  go_wp2
  go_loopw [9] (fun i wr => ∃ k : Nat, k ≤ xs.length ∧ i = .int .i64 k ∧ ((List.range k).all (goodHd xs house)) = true ∧ Ext w wr) (fun i _ => xs.length - (intOf i).toNat)
  case atStart => exact ⟨0, Nat.zero_le _, rfl, rfl, (by repeat (first | (with_reducible first | exact Ext.refl _ | assumption | apply Ext.alloc | apply Ext.drew | apply Ext.drewN | refine Ext.setCell ?_ ?_ _ | refine Ext.trans ?_ (by assumption)) | (show _ ≤ _; first | omega | (dsimp only; omega) | (simp; done) | (simp; omega))))⟩
  case round =>
    obtain ⟨k, hk, rfl, hall, hx⟩ := hrel
    have HA := Lib.hid hall
    clear hall
    by_cases hlt : k < xs.length
    · have HK := Lib.hid (hds_take h k (by omega))
      rcases g1 with g1 | ⟨b1, o1, rfl, hb1, g1⟩
      · omega
      have e1 : wr.cell? ⟨b1, o1 + k * 4, none⟩ = some (.int .i64 xs[k].house) := (hx.cell b1 _ hb1).trans (g1 _ _ (hd_c0 xs k hlt))
      have e2 : wr.cell? ⟨b1, o1 + k * 4 + 1, none⟩ = some (.int .i64 xs[k].epoch) := (hx.cell b1 _ hb1).trans (g1 _ _ (hd_c1 xs k hlt))
      have e3 : wr.cell? ⟨b1, o1 + k * 4 + 2, none⟩ = some (.string xs[k].root) := (hx.cell b1 _ hb1).trans (g1 _ _ (hd_c2 xs k hlt))
      have e4 : wr.cell? ⟨b1, o1 + k * 4 + 3, none⟩ = some (.string xs[k].prev) := (hx.cell b1 _ hb1).trans (g1 _ _ (hd_c3 xs k hlt))
      have HG := Lib.hid (good_eq (house := house) hlt)
      clear g1
      generalize xs[k] = z at *
      have hkl : (xs.take k).length = k := by simp; omega
      cases hh : headOk z.house z.epoch z.root z.prev
      · have HB := Lib.hid (chain_bad hlt (by rw [HG.out, hh]; rfl))
        have HH := Lib.hid hh
        clear hh hkl
        go_wp2_with fail
        have p0 : (wr.alloc (Obj.cells #[.int .i64 z.house, .int .i64 z.epoch, .string z.root, .string z.prev] 25)).cell? ⟨wr.heap.size, 0, none⟩ = some (.int .i64 z.house) := by simp [go_sem]
        have p1 : (wr.alloc (Obj.cells #[.int .i64 z.house, .int .i64 z.epoch, .string z.root, .string z.prev] 25)).cell? ⟨wr.heap.size, 1, none⟩ = some (.int .i64 z.epoch) := by simp [go_sem]
        have p2 : (wr.alloc (Obj.cells #[.int .i64 z.house, .int .i64 z.epoch, .string z.root, .string z.prev] 25)).cell? ⟨wr.heap.size, 2, none⟩ = some (.string z.root) := by simp [go_sem]
        have p3 : (wr.alloc (Obj.cells #[.int .i64 z.house, .int .i64 z.epoch, .string z.root, .string z.prev] 25)).cell? ⟨wr.heap.size, 3, none⟩ = some (.string z.prev) := by simp [go_sem]
        have y0 : Ext wr (wr.alloc (Obj.cells #[.int .i64 z.house, .int .i64 z.epoch, .string z.root, .string z.prev] 25)) := (Ext.refl wr).alloc _
        have l0 : wr.heap.size < (wr.alloc (Obj.cells #[.int .i64 z.house, .int .i64 z.epoch, .string z.root, .string z.prev] 25)).heap.size := by rw [World.size_alloc]; omega
        generalize wr.alloc (Obj.cells #[.int .i64 z.house, .int .i64 z.epoch, .string z.root, .string z.prev] 25) = W0 at *
        refine wp_region_held_drew (S := (fun W => W.cell? ⟨wr.heap.size, 0, none⟩ = some (.int .i64 z.house) ∧ W.cell? ⟨wr.heap.size, 1, none⟩ = some (.int .i64 z.epoch) ∧ W.cell? ⟨wr.heap.size, 2, none⟩ = some (.string z.root) ∧ W.cell? ⟨wr.heap.size, 3, none⟩ = some (.string z.prev))) (by kernel_rfl) (by exact ⟨p0, p1, p2, p3⟩) (fun hHeld => ?_)
        (refine wpAnyH_take (i := 0) (v := ?_) rfl (by kernel_rfl) (by kernel_rfl) (by kernel_rfl) (fun _ _ _ h => h) (Or.inl ⟨by rfl, ?_⟩) (by assumption) ?_; rotate_left; focus (intro w hSw; (try dsimp only at hSw); (try simp only [List.getElem_toArray, List.getElem_cons_zero]); go_simp; try with_reducible rfl)); (try simp only [List.getElem_toArray, List.getElem_cons_zero]); (try simp only [Act.put, List.setIfInBounds_toArray, List.set_cons_zero, List.set_cons_succ])
        (refine wpAnyH_ready (rs := [1]) (by kernel_rfl) (by simp) ?_; refine AllReadyH.cons rfl (fun K hK => ?_) AllReadyH.nil; (try simp only [List.getElem_toArray, List.getElem_cons_zero, List.getElem_cons_succ]))
        go_simp
        go_at_call 19
        refine (impl_HeadOk _ _ _ _ _).mono ?_
        rw [HH.out]
        rintro e wa ⟨rfl, xa⟩
        have ya : Ext W0 wa := (by repeat (first | (with_reducible first | exact Ext.refl _ | assumption | apply Ext.alloc | apply Ext.drew | apply Ext.drewN | refine Ext.setCell ?_ ?_ _ | refine Ext.trans ?_ (by assumption)) | (show _ ≤ _; first | omega | (dsimp only; omega) | (simp; done) | (simp; omega))))
        (try dsimp only)
        refine hK.out _ _ (by exact ⟨(ya.cell _ _ l0).trans p0, (ya.cell _ _ l0).trans p1, (ya.cell _ _ l0).trans p2, (ya.cell _ _ l0).trans p3⟩) (fun hHeld => ?_)
        clear hK K
        (refine wpAnyH_take (i := 2) (v := ?_) rfl (by kernel_rfl) (by kernel_rfl) (by kernel_rfl) (fun _ _ _ h => h) (Or.inl ⟨by rfl, ?_⟩) (by assumption) ?_; rotate_left; focus (intro w hSw; (try dsimp only at hSw); (try simp only [List.getElem_toArray, List.getElem_cons_zero, List.getElem_cons_succ]); go_simp; try with_reducible rfl)); (try simp only [List.getElem_toArray, List.getElem_cons_zero, List.getElem_cons_succ]); (try simp only [Act.put, List.setIfInBounds_toArray, List.set_cons_zero, List.set_cons_succ])
        (refine wpAnyH_take (i := 3) (v := ?_) rfl (by kernel_rfl) (by kernel_rfl) (by kernel_rfl) (fun _ _ _ h => h) (Or.inl ⟨by rfl, ?_⟩) (by assumption) ?_; rotate_left; focus (intro w hSw; (try dsimp only at hSw); (try simp only [List.getElem_toArray, List.getElem_cons_zero, List.getElem_cons_succ]); go_simp; try with_reducible rfl)); (try simp only [List.getElem_toArray, List.getElem_cons_zero, List.getElem_cons_succ]); (try simp only [Act.put, List.setIfInBounds_toArray, List.set_cons_zero, List.set_cons_succ])
        (refine wpAnyH_take (i := 4) rfl (by kernel_rfl) (by kernel_rfl) (by kernel_rfl) (fun _ _ _ h => h) (Or.inr ⟨by rfl, rfl⟩) (by assumption) ?_); (try simp only [List.getElem_toArray, List.getElem_cons_zero, List.getElem_cons_succ]); (try simp only [Act.put, List.setIfInBounds_toArray, List.set_cons_zero, List.set_cons_succ])
        (refine wpAnyH_take (i := 5) rfl (by kernel_rfl) (by kernel_rfl) (by kernel_rfl) (fun _ _ _ h => h) (Or.inr ⟨by rfl, rfl⟩) (by assumption) ?_); (try simp only [List.getElem_toArray, List.getElem_cons_zero, List.getElem_cons_succ]); (try simp only [Act.put, List.setIfInBounds_toArray, List.set_cons_zero, List.set_cons_succ])
        (refine wpAnyH_take (i := 6) rfl (by kernel_rfl) (by kernel_rfl) (by kernel_rfl) (fun _ _ _ h => h) (Or.inr ⟨by rfl, rfl⟩) (by assumption) ?_); (try simp only [List.getElem_toArray, List.getElem_cons_zero, List.getElem_cons_succ]); (try simp only [Act.put, List.setIfInBounds_toArray, List.set_cons_zero, List.set_cons_succ])
        (refine wpAnyH_take (i := 7) rfl (by kernel_rfl) (by kernel_rfl) (by kernel_rfl) (fun _ _ _ h => h) (Or.inr ⟨by rfl, rfl⟩) (by assumption) ?_); (try simp only [List.getElem_toArray, List.getElem_cons_zero, List.getElem_cons_succ]); (try simp only [Act.put, List.setIfInBounds_toArray, List.set_cons_zero, List.set_cons_succ])
        (refine wpAnyH_take (i := 8) rfl (by kernel_rfl) (by kernel_rfl) (by kernel_rfl) (fun _ _ _ h => h) (Or.inr ⟨by rfl, rfl⟩) (by assumption) ?_); (try simp only [List.getElem_toArray, List.getElem_cons_zero, List.getElem_cons_succ]); (try simp only [Act.put, List.setIfInBounds_toArray, List.set_cons_zero, List.set_cons_succ])
        (refine wpAnyH_take (i := 9) rfl (by kernel_rfl) (by kernel_rfl) (by kernel_rfl) (fun _ _ _ h => h) (Or.inr ⟨by rfl, rfl⟩) (by assumption) ?_); (try simp only [List.getElem_toArray, List.getElem_cons_zero, List.getElem_cons_succ]); (try simp only [Act.put, List.setIfInBounds_toArray, List.set_cons_zero, List.set_cons_succ])
        (refine wpAnyH_take (i := 10) rfl (by kernel_rfl) (by kernel_rfl) (by kernel_rfl) (fun _ _ _ h => h) (Or.inr ⟨by rfl, rfl⟩) (by assumption) ?_); (try simp only [List.getElem_toArray, List.getElem_cons_zero, List.getElem_cons_succ]); (try simp only [Act.put, List.setIfInBounds_toArray, List.set_cons_zero, List.set_cons_succ])
        (refine wpAnyH_take (i := 11) rfl (by kernel_rfl) (by kernel_rfl) (by kernel_rfl) (fun _ _ _ h => h) (Or.inr ⟨by rfl, rfl⟩) (by assumption) ?_); (try simp only [List.getElem_toArray, List.getElem_cons_zero, List.getElem_cons_succ]); (try simp only [Act.put, List.setIfInBounds_toArray, List.set_cons_zero, List.set_cons_succ])
        (refine wpAnyH_take (i := 12) rfl (by kernel_rfl) (by kernel_rfl) (by kernel_rfl) (fun _ _ _ h => h) (Or.inr ⟨by rfl, rfl⟩) (by assumption) ?_); (try simp only [List.getElem_toArray, List.getElem_cons_zero, List.getElem_cons_succ]); (try simp only [Act.put, List.setIfInBounds_toArray, List.set_cons_zero, List.set_cons_succ])
        (refine wpAnyH_take (i := 13) (v := ?_) rfl (by kernel_rfl) (by kernel_rfl) (by kernel_rfl) (fun _ _ _ h => h) (Or.inl ⟨by rfl, ?_⟩) (by assumption) ?_; rotate_left; focus (intro w hSw; (try dsimp only at hSw); (try simp only [List.getElem_toArray, List.getElem_cons_zero, List.getElem_cons_succ]); go_simp; try with_reducible rfl)); (try simp only [List.getElem_toArray, List.getElem_cons_zero, List.getElem_cons_succ]); (try simp only [Act.put, List.setIfInBounds_toArray, List.set_cons_zero, List.set_cons_succ])
        refine wpAnyH_done (by kernel_rfl) ?_ _
        go_wp2
        go_ret
        exact ⟨ret_bool HB.out.symm, (by repeat (first | (with_reducible first | exact Ext.refl _ | assumption | apply Ext.alloc | apply Ext.drew | apply Ext.drewN | refine Ext.setCell ?_ ?_ _ | refine Ext.trans ?_ (by assumption)) | (show _ ≤ _; first | omega | (dsimp only; omega) | (simp; done) | (simp; omega))))⟩
      · by_cases hq : z.house = house ∧ z.epoch = (k : Int) + 1 ∧ z.prev.toList = (lastH (xs.take k)).toList
        · have HQ := Lib.hid hq
          have HG2 := Lib.hid (good_yes HG.out hh hq)
          have HH := Lib.hid hh
          clear hq hh
          have HL := Lib.hid hkl
          have hk0 : (0 : Int) ≤ (k : Int) := by omega
          have hkc : (k : Int) ≤ (c1 : Int) := by omega
          clear hkl
          go_wp2_with fail
          have p0 : (wr.alloc (Obj.cells #[.int .i64 z.house, .int .i64 z.epoch, .string z.root, .string z.prev] 25)).cell? ⟨wr.heap.size, 0, none⟩ = some (.int .i64 z.house) := by simp [go_sem]
          have p1 : (wr.alloc (Obj.cells #[.int .i64 z.house, .int .i64 z.epoch, .string z.root, .string z.prev] 25)).cell? ⟨wr.heap.size, 1, none⟩ = some (.int .i64 z.epoch) := by simp [go_sem]
          have p2 : (wr.alloc (Obj.cells #[.int .i64 z.house, .int .i64 z.epoch, .string z.root, .string z.prev] 25)).cell? ⟨wr.heap.size, 2, none⟩ = some (.string z.root) := by simp [go_sem]
          have p3 : (wr.alloc (Obj.cells #[.int .i64 z.house, .int .i64 z.epoch, .string z.root, .string z.prev] 25)).cell? ⟨wr.heap.size, 3, none⟩ = some (.string z.prev) := by simp [go_sem]
          have y0 : Ext wr (wr.alloc (Obj.cells #[.int .i64 z.house, .int .i64 z.epoch, .string z.root, .string z.prev] 25)) := (Ext.refl wr).alloc _
          have l0 : wr.heap.size < (wr.alloc (Obj.cells #[.int .i64 z.house, .int .i64 z.epoch, .string z.root, .string z.prev] 25)).heap.size := by rw [World.size_alloc]; omega
          generalize wr.alloc (Obj.cells #[.int .i64 z.house, .int .i64 z.epoch, .string z.root, .string z.prev] 25) = W0 at *
          refine wp_region_held_drew (S := (fun W => W.cell? ⟨wr.heap.size, 0, none⟩ = some (.int .i64 z.house) ∧ W.cell? ⟨wr.heap.size, 1, none⟩ = some (.int .i64 z.epoch) ∧ W.cell? ⟨wr.heap.size, 2, none⟩ = some (.string z.root) ∧ W.cell? ⟨wr.heap.size, 3, none⟩ = some (.string z.prev))) (by kernel_rfl) (by exact ⟨p0, p1, p2, p3⟩) (fun hHeld => ?_)
          (refine wpAnyH_take (i := 0) (v := ?_) rfl (by kernel_rfl) (by kernel_rfl) (by kernel_rfl) (fun _ _ _ h => h) (Or.inl ⟨by rfl, ?_⟩) (by assumption) ?_; rotate_left; focus (intro w hSw; (try dsimp only at hSw); (try simp only [List.getElem_toArray, List.getElem_cons_zero]); go_simp; try with_reducible rfl)); (try simp only [List.getElem_toArray, List.getElem_cons_zero]); (try simp only [Act.put, List.setIfInBounds_toArray, List.set_cons_zero, List.set_cons_succ])
          (refine wpAnyH_ready (rs := [1]) (by kernel_rfl) (by simp) ?_; refine AllReadyH.cons rfl (fun K hK => ?_) AllReadyH.nil; (try simp only [List.getElem_toArray, List.getElem_cons_zero, List.getElem_cons_succ]))
          go_simp
          go_at_call 19
          refine (impl_HeadOk _ _ _ _ _).mono ?_
          rw [HH.out]
          rintro e wa ⟨rfl, xa⟩
          have ya : Ext W0 wa := (by repeat (first | (with_reducible first | exact Ext.refl _ | assumption | apply Ext.alloc | apply Ext.drew | apply Ext.drewN | refine Ext.setCell ?_ ?_ _ | refine Ext.trans ?_ (by assumption)) | (show _ ≤ _; first | omega | (dsimp only; omega) | (simp; done) | (simp; omega))))
          have la := Nat.lt_of_lt_of_le l0 ya.size
          (try dsimp only)
          refine hK.out _ _ (by exact ⟨(ya.cell _ _ l0).trans p0, (ya.cell _ _ l0).trans p1, (ya.cell _ _ l0).trans p2, (ya.cell _ _ l0).trans p3⟩) (fun hHeld => ?_)
          clear hK K
          (refine wpAnyH_take (i := 2) (v := ?_) rfl (by kernel_rfl) (by kernel_rfl) (by kernel_rfl) (fun _ _ _ h => h) (Or.inl ⟨by rfl, ?_⟩) (by assumption) ?_; rotate_left; focus (intro w hSw; (try dsimp only at hSw); (try simp only [List.getElem_toArray, List.getElem_cons_zero, List.getElem_cons_succ]); go_simp; try with_reducible rfl)); (try simp only [List.getElem_toArray, List.getElem_cons_zero, List.getElem_cons_succ]); (try simp only [Act.put, List.setIfInBounds_toArray, List.set_cons_zero, List.set_cons_succ])
          (refine wpAnyH_take (i := 3) (v := ?_) rfl (by kernel_rfl) (by kernel_rfl) (by kernel_rfl) (fun _ _ _ h => h) (Or.inl ⟨by rfl, ?_⟩) (by assumption) ?_; rotate_left; focus (intro w hSw; (try dsimp only at hSw); (try simp only [List.getElem_toArray, List.getElem_cons_zero, List.getElem_cons_succ]); go_simp; try with_reducible rfl)); (try simp only [List.getElem_toArray, List.getElem_cons_zero, List.getElem_cons_succ]); (try simp only [Act.put, List.setIfInBounds_toArray, List.set_cons_zero, List.set_cons_succ])
          (refine wpAnyH_take (i := 4) (v := ?_) rfl (by kernel_rfl) (by kernel_rfl) (by kernel_rfl) (fun _ _ _ h => h) (Or.inl ⟨by rfl, ?_⟩) (by assumption) ?_; rotate_left; focus (intro w hSw; (try dsimp only at hSw); (try simp only [List.getElem_toArray, List.getElem_cons_zero, List.getElem_cons_succ]); go_simp; try with_reducible rfl)); (try simp only [List.getElem_toArray, List.getElem_cons_zero, List.getElem_cons_succ]); (try simp only [Act.put, List.setIfInBounds_toArray, List.set_cons_zero, List.set_cons_succ])
          (refine wpAnyH_take (i := 5) (v := ?_) rfl (by kernel_rfl) (by kernel_rfl) (by kernel_rfl) (fun _ _ _ h => h) (Or.inl ⟨by rfl, ?_⟩) (by assumption) ?_; rotate_left; focus (intro w hSw; (try dsimp only at hSw); (try simp only [List.getElem_toArray, List.getElem_cons_zero, List.getElem_cons_succ]); go_simp; try with_reducible rfl)); (try simp only [List.getElem_toArray, List.getElem_cons_zero, List.getElem_cons_succ]); (try simp only [Act.put, List.setIfInBounds_toArray, List.set_cons_zero, List.set_cons_succ])
          (refine wpAnyH_take (i := 6) (v := ?_) rfl (by kernel_rfl) (by kernel_rfl) (by kernel_rfl) (fun _ _ _ h => h) (Or.inl ⟨by rfl, ?_⟩) (by assumption) ?_; rotate_left; focus (intro w hSw; (try dsimp only at hSw); (try simp only [List.getElem_toArray, List.getElem_cons_zero, List.getElem_cons_succ]); go_simp; try with_reducible rfl)); (try simp only [List.getElem_toArray, List.getElem_cons_zero, List.getElem_cons_succ]); (try simp only [Act.put, List.setIfInBounds_toArray, List.set_cons_zero, List.set_cons_succ])
          (refine wpAnyH_take (i := 7) (v := ?_) rfl (by kernel_rfl) (by kernel_rfl) (by kernel_rfl) (fun _ _ _ h => h) (Or.inl ⟨by rfl, ?_⟩) (by assumption) ?_; rotate_left; focus (intro w hSw; (try dsimp only at hSw); (try simp only [List.getElem_toArray, List.getElem_cons_zero, List.getElem_cons_succ]); go_simp; try with_reducible rfl)); (try simp only [List.getElem_toArray, List.getElem_cons_zero, List.getElem_cons_succ]); (try simp only [Act.put, List.setIfInBounds_toArray, List.set_cons_zero, List.set_cons_succ])
          (refine wpAnyH_take (i := 8) (v := ?_) rfl (by kernel_rfl) (by kernel_rfl) (by kernel_rfl) (fun _ _ _ h => h) (Or.inl ⟨by rfl, ?_⟩) (by assumption) ?_; rotate_left; focus (intro w hSw; (try dsimp only at hSw); (try simp only [List.getElem_toArray, List.getElem_cons_zero, List.getElem_cons_succ]); go_simp; try with_reducible rfl)); (try simp only [List.getElem_toArray, List.getElem_cons_zero, List.getElem_cons_succ]); (try simp only [Act.put, List.setIfInBounds_toArray, List.set_cons_zero, List.set_cons_succ])
          (refine wpAnyH_take (i := 9) (v := ?_) rfl (by kernel_rfl) (by kernel_rfl) (by kernel_rfl) (fun _ _ _ h => h) (Or.inl ⟨by rfl, ?_⟩) (by assumption) ?_; rotate_left; focus (intro w hSw; (try dsimp only at hSw); (try simp only [List.getElem_toArray, List.getElem_cons_zero, List.getElem_cons_succ]); go_simp; try with_reducible rfl)); (try simp only [List.getElem_toArray, List.getElem_cons_zero, List.getElem_cons_succ]); (try simp only [Act.put, List.setIfInBounds_toArray, List.set_cons_zero, List.set_cons_succ])
          (refine wpAnyH_take (i := 10) (v := ?_) rfl (by kernel_rfl) (by kernel_rfl) (by kernel_rfl) (fun _ _ _ h => h) (Or.inl ⟨by rfl, ?_⟩) (by assumption) ?_; rotate_left; focus (intro w hSw; (try dsimp only at hSw); (try simp only [List.getElem_toArray, List.getElem_cons_zero, List.getElem_cons_succ]); go_simp; try with_reducible rfl)); (try simp only [List.getElem_toArray, List.getElem_cons_zero, List.getElem_cons_succ]); (try simp only [Act.put, List.setIfInBounds_toArray, List.set_cons_zero, List.set_cons_succ])
          (refine wpAnyH_ready (rs := [11]) (by kernel_rfl) (by simp) ?_; refine AllReadyH.cons rfl (fun K hK => ?_) AllReadyH.nil; (try simp only [List.getElem_toArray, List.getElem_cons_zero, List.getElem_cons_succ]))
          go_simp
          go_at_call 80
          refine (impl_nextHead _ (xs.take k) house z.root _ (HK.out.ext (by repeat (first | (with_reducible first | exact Ext.refl _ | assumption | apply Ext.alloc | apply Ext.drew | apply Ext.drewN | refine Ext.setCell ?_ ?_ _ | refine Ext.trans ?_ (by assumption)) | (show _ ≤ _; first | omega | (dsimp only; omega) | (simp; done) | (simp; omega))))) (by rw [HL.out]; omega) (by exact HT.out.ext (by repeat (first | (with_reducible first | exact Ext.refl _ | assumption | apply Ext.alloc | apply Ext.drew | apply Ext.drewN | refine Ext.setCell ?_ ?_ _ | refine Ext.trans ?_ (by assumption)) | (show _ ≤ _; first | omega | (dsimp only; omega) | (simp; done) | (simp; omega)))))).mono ?_
          rw [HL.out]
          rintro e wb ⟨rfl, xb⟩
          have yb : Ext W0 wb := (by repeat (first | (with_reducible first | exact Ext.refl _ | assumption | apply Ext.alloc | apply Ext.drew | apply Ext.drewN | refine Ext.setCell ?_ ?_ _ | refine Ext.trans ?_ (by assumption)) | (show _ ≤ _; first | omega | (dsimp only; omega) | (simp; done) | (simp; omega))))
          (try dsimp only)
          refine hK.out _ _ (by exact ⟨(yb.cell _ _ l0).trans p0, (yb.cell _ _ l0).trans p1, (yb.cell _ _ l0).trans p2, (yb.cell _ _ l0).trans p3⟩) (fun hHeld => ?_)
          clear hK K
          (refine wpAnyH_take (i := 12) (v := .bool false) rfl (by kernel_rfl) (by kernel_rfl) (by kernel_rfl) (fun _ _ _ h => h) (Or.inl ⟨by rfl, ?_⟩) (by assumption) ?_; focus (intro w hSw; (try dsimp only at hSw); (try simp only [List.getElem_toArray, List.getElem_cons_zero, List.getElem_cons_succ]); go_simp; (have hq := HQ.out; rw [if_pos hq.1, if_pos hq.2.1, if_pos hq.2.2]))); (try simp only [List.getElem_toArray, List.getElem_cons_zero, List.getElem_cons_succ]); (try simp only [Act.put, List.setIfInBounds_toArray, List.set_cons_zero, List.set_cons_succ])
          (refine wpAnyH_take (i := 13) (v := ?_) rfl (by kernel_rfl) (by kernel_rfl) (by kernel_rfl) (fun _ _ _ h => h) (Or.inl ⟨by rfl, ?_⟩) (by assumption) ?_; rotate_left; focus (intro w hSw; (try dsimp only at hSw); (try simp only [List.getElem_toArray, List.getElem_cons_zero, List.getElem_cons_succ]); go_simp; try with_reducible rfl)); (try simp only [List.getElem_toArray, List.getElem_cons_zero, List.getElem_cons_succ]); (try simp only [Act.put, List.setIfInBounds_toArray, List.set_cons_zero, List.set_cons_succ])
          refine wpAnyH_done (by kernel_rfl) ?_ _
          go_wp2
          go_roundw
          case rel => exact ⟨k + 1, by omega, by go_num, chain_step HA.out HG2.out, (by repeat (first | (with_reducible first | exact Ext.refl _ | assumption | apply Ext.alloc | apply Ext.drew | apply Ext.drewN | refine Ext.setCell ?_ ?_ _ | refine Ext.trans ?_ (by assumption)) | (show _ ≤ _; first | omega | (dsimp only; omega) | (simp; done) | (simp; omega))))⟩
          case measure => simp [intOf]; omega
        · have HQ := Lib.hid hq
          have HB := Lib.hid (chain_bad hlt (good_not HG.out hq))
          have HH := Lib.hid hh
          clear hq hh
          have HL := Lib.hid hkl
          have hk0 : (0 : Int) ≤ (k : Int) := by omega
          have hkc : (k : Int) ≤ (c1 : Int) := by omega
          clear hkl
          go_wp2_with fail
          have p0 : (wr.alloc (Obj.cells #[.int .i64 z.house, .int .i64 z.epoch, .string z.root, .string z.prev] 25)).cell? ⟨wr.heap.size, 0, none⟩ = some (.int .i64 z.house) := by simp [go_sem]
          have p1 : (wr.alloc (Obj.cells #[.int .i64 z.house, .int .i64 z.epoch, .string z.root, .string z.prev] 25)).cell? ⟨wr.heap.size, 1, none⟩ = some (.int .i64 z.epoch) := by simp [go_sem]
          have p2 : (wr.alloc (Obj.cells #[.int .i64 z.house, .int .i64 z.epoch, .string z.root, .string z.prev] 25)).cell? ⟨wr.heap.size, 2, none⟩ = some (.string z.root) := by simp [go_sem]
          have p3 : (wr.alloc (Obj.cells #[.int .i64 z.house, .int .i64 z.epoch, .string z.root, .string z.prev] 25)).cell? ⟨wr.heap.size, 3, none⟩ = some (.string z.prev) := by simp [go_sem]
          have y0 : Ext wr (wr.alloc (Obj.cells #[.int .i64 z.house, .int .i64 z.epoch, .string z.root, .string z.prev] 25)) := (Ext.refl wr).alloc _
          have l0 : wr.heap.size < (wr.alloc (Obj.cells #[.int .i64 z.house, .int .i64 z.epoch, .string z.root, .string z.prev] 25)).heap.size := by rw [World.size_alloc]; omega
          generalize wr.alloc (Obj.cells #[.int .i64 z.house, .int .i64 z.epoch, .string z.root, .string z.prev] 25) = W0 at *
          refine wp_region_held_drew (S := (fun W => W.cell? ⟨wr.heap.size, 0, none⟩ = some (.int .i64 z.house) ∧ W.cell? ⟨wr.heap.size, 1, none⟩ = some (.int .i64 z.epoch) ∧ W.cell? ⟨wr.heap.size, 2, none⟩ = some (.string z.root) ∧ W.cell? ⟨wr.heap.size, 3, none⟩ = some (.string z.prev))) (by kernel_rfl) (by exact ⟨p0, p1, p2, p3⟩) (fun hHeld => ?_)
          (refine wpAnyH_take (i := 0) (v := ?_) rfl (by kernel_rfl) (by kernel_rfl) (by kernel_rfl) (fun _ _ _ h => h) (Or.inl ⟨by rfl, ?_⟩) (by assumption) ?_; rotate_left; focus (intro w hSw; (try dsimp only at hSw); (try simp only [List.getElem_toArray, List.getElem_cons_zero]); go_simp; try with_reducible rfl)); (try simp only [List.getElem_toArray, List.getElem_cons_zero]); (try simp only [Act.put, List.setIfInBounds_toArray, List.set_cons_zero, List.set_cons_succ])
          (refine wpAnyH_ready (rs := [1]) (by kernel_rfl) (by simp) ?_; refine AllReadyH.cons rfl (fun K hK => ?_) AllReadyH.nil; (try simp only [List.getElem_toArray, List.getElem_cons_zero, List.getElem_cons_succ]))
          go_simp
          go_at_call 19
          refine (impl_HeadOk _ _ _ _ _).mono ?_
          rw [HH.out]
          rintro e wa ⟨rfl, xa⟩
          have ya : Ext W0 wa := (by repeat (first | (with_reducible first | exact Ext.refl _ | assumption | apply Ext.alloc | apply Ext.drew | apply Ext.drewN | refine Ext.setCell ?_ ?_ _ | refine Ext.trans ?_ (by assumption)) | (show _ ≤ _; first | omega | (dsimp only; omega) | (simp; done) | (simp; omega))))
          have la := Nat.lt_of_lt_of_le l0 ya.size
          (try dsimp only)
          refine hK.out _ _ (by exact ⟨(ya.cell _ _ l0).trans p0, (ya.cell _ _ l0).trans p1, (ya.cell _ _ l0).trans p2, (ya.cell _ _ l0).trans p3⟩) (fun hHeld => ?_)
          clear hK K
          (refine wpAnyH_take (i := 2) (v := ?_) rfl (by kernel_rfl) (by kernel_rfl) (by kernel_rfl) (fun _ _ _ h => h) (Or.inl ⟨by rfl, ?_⟩) (by assumption) ?_; rotate_left; focus (intro w hSw; (try dsimp only at hSw); (try simp only [List.getElem_toArray, List.getElem_cons_zero, List.getElem_cons_succ]); go_simp; try with_reducible rfl)); (try simp only [List.getElem_toArray, List.getElem_cons_zero, List.getElem_cons_succ]); (try simp only [Act.put, List.setIfInBounds_toArray, List.set_cons_zero, List.set_cons_succ])
          (refine wpAnyH_take (i := 3) (v := ?_) rfl (by kernel_rfl) (by kernel_rfl) (by kernel_rfl) (fun _ _ _ h => h) (Or.inl ⟨by rfl, ?_⟩) (by assumption) ?_; rotate_left; focus (intro w hSw; (try dsimp only at hSw); (try simp only [List.getElem_toArray, List.getElem_cons_zero, List.getElem_cons_succ]); go_simp; try with_reducible rfl)); (try simp only [List.getElem_toArray, List.getElem_cons_zero, List.getElem_cons_succ]); (try simp only [Act.put, List.setIfInBounds_toArray, List.set_cons_zero, List.set_cons_succ])
          (refine wpAnyH_take (i := 4) (v := ?_) rfl (by kernel_rfl) (by kernel_rfl) (by kernel_rfl) (fun _ _ _ h => h) (Or.inl ⟨by rfl, ?_⟩) (by assumption) ?_; rotate_left; focus (intro w hSw; (try dsimp only at hSw); (try simp only [List.getElem_toArray, List.getElem_cons_zero, List.getElem_cons_succ]); go_simp; try with_reducible rfl)); (try simp only [List.getElem_toArray, List.getElem_cons_zero, List.getElem_cons_succ]); (try simp only [Act.put, List.setIfInBounds_toArray, List.set_cons_zero, List.set_cons_succ])
          (refine wpAnyH_take (i := 5) (v := ?_) rfl (by kernel_rfl) (by kernel_rfl) (by kernel_rfl) (fun _ _ _ h => h) (Or.inl ⟨by rfl, ?_⟩) (by assumption) ?_; rotate_left; focus (intro w hSw; (try dsimp only at hSw); (try simp only [List.getElem_toArray, List.getElem_cons_zero, List.getElem_cons_succ]); go_simp; try with_reducible rfl)); (try simp only [List.getElem_toArray, List.getElem_cons_zero, List.getElem_cons_succ]); (try simp only [Act.put, List.setIfInBounds_toArray, List.set_cons_zero, List.set_cons_succ])
          (refine wpAnyH_take (i := 6) (v := ?_) rfl (by kernel_rfl) (by kernel_rfl) (by kernel_rfl) (fun _ _ _ h => h) (Or.inl ⟨by rfl, ?_⟩) (by assumption) ?_; rotate_left; focus (intro w hSw; (try dsimp only at hSw); (try simp only [List.getElem_toArray, List.getElem_cons_zero, List.getElem_cons_succ]); go_simp; try with_reducible rfl)); (try simp only [List.getElem_toArray, List.getElem_cons_zero, List.getElem_cons_succ]); (try simp only [Act.put, List.setIfInBounds_toArray, List.set_cons_zero, List.set_cons_succ])
          (refine wpAnyH_take (i := 7) (v := ?_) rfl (by kernel_rfl) (by kernel_rfl) (by kernel_rfl) (fun _ _ _ h => h) (Or.inl ⟨by rfl, ?_⟩) (by assumption) ?_; rotate_left; focus (intro w hSw; (try dsimp only at hSw); (try simp only [List.getElem_toArray, List.getElem_cons_zero, List.getElem_cons_succ]); go_simp; try with_reducible rfl)); (try simp only [List.getElem_toArray, List.getElem_cons_zero, List.getElem_cons_succ]); (try simp only [Act.put, List.setIfInBounds_toArray, List.set_cons_zero, List.set_cons_succ])
          (refine wpAnyH_take (i := 8) (v := ?_) rfl (by kernel_rfl) (by kernel_rfl) (by kernel_rfl) (fun _ _ _ h => h) (Or.inl ⟨by rfl, ?_⟩) (by assumption) ?_; rotate_left; focus (intro w hSw; (try dsimp only at hSw); (try simp only [List.getElem_toArray, List.getElem_cons_zero, List.getElem_cons_succ]); go_simp; try with_reducible rfl)); (try simp only [List.getElem_toArray, List.getElem_cons_zero, List.getElem_cons_succ]); (try simp only [Act.put, List.setIfInBounds_toArray, List.set_cons_zero, List.set_cons_succ])
          (refine wpAnyH_take (i := 9) (v := ?_) rfl (by kernel_rfl) (by kernel_rfl) (by kernel_rfl) (fun _ _ _ h => h) (Or.inl ⟨by rfl, ?_⟩) (by assumption) ?_; rotate_left; focus (intro w hSw; (try dsimp only at hSw); (try simp only [List.getElem_toArray, List.getElem_cons_zero, List.getElem_cons_succ]); go_simp; try with_reducible rfl)); (try simp only [List.getElem_toArray, List.getElem_cons_zero, List.getElem_cons_succ]); (try simp only [Act.put, List.setIfInBounds_toArray, List.set_cons_zero, List.set_cons_succ])
          (refine wpAnyH_take (i := 10) (v := ?_) rfl (by kernel_rfl) (by kernel_rfl) (by kernel_rfl) (fun _ _ _ h => h) (Or.inl ⟨by rfl, ?_⟩) (by assumption) ?_; rotate_left; focus (intro w hSw; (try dsimp only at hSw); (try simp only [List.getElem_toArray, List.getElem_cons_zero, List.getElem_cons_succ]); go_simp; try with_reducible rfl)); (try simp only [List.getElem_toArray, List.getElem_cons_zero, List.getElem_cons_succ]); (try simp only [Act.put, List.setIfInBounds_toArray, List.set_cons_zero, List.set_cons_succ])
          (refine wpAnyH_ready (rs := [11]) (by kernel_rfl) (by simp) ?_; refine AllReadyH.cons rfl (fun K hK => ?_) AllReadyH.nil; (try simp only [List.getElem_toArray, List.getElem_cons_zero, List.getElem_cons_succ]))
          go_simp
          go_at_call 80
          refine (impl_nextHead _ (xs.take k) house z.root _ (HK.out.ext (by repeat (first | (with_reducible first | exact Ext.refl _ | assumption | apply Ext.alloc | apply Ext.drew | apply Ext.drewN | refine Ext.setCell ?_ ?_ _ | refine Ext.trans ?_ (by assumption)) | (show _ ≤ _; first | omega | (dsimp only; omega) | (simp; done) | (simp; omega))))) (by rw [HL.out]; omega) (by exact HT.out.ext (by repeat (first | (with_reducible first | exact Ext.refl _ | assumption | apply Ext.alloc | apply Ext.drew | apply Ext.drewN | refine Ext.setCell ?_ ?_ _ | refine Ext.trans ?_ (by assumption)) | (show _ ≤ _; first | omega | (dsimp only; omega) | (simp; done) | (simp; omega)))))).mono ?_
          rw [HL.out]
          rintro e wb ⟨rfl, xb⟩
          have yb : Ext W0 wb := (by repeat (first | (with_reducible first | exact Ext.refl _ | assumption | apply Ext.alloc | apply Ext.drew | apply Ext.drewN | refine Ext.setCell ?_ ?_ _ | refine Ext.trans ?_ (by assumption)) | (show _ ≤ _; first | omega | (dsimp only; omega) | (simp; done) | (simp; omega))))
          (try dsimp only)
          refine hK.out _ _ (by exact ⟨(yb.cell _ _ l0).trans p0, (yb.cell _ _ l0).trans p1, (yb.cell _ _ l0).trans p2, (yb.cell _ _ l0).trans p3⟩) (fun hHeld => ?_)
          clear hK K
          (refine wpAnyH_take (i := 12) (v := .bool true) rfl (by kernel_rfl) (by kernel_rfl) (by kernel_rfl) (fun _ _ _ h => h) (Or.inl ⟨by rfl, ?_⟩) (by assumption) ?_; focus (intro w hSw; (try dsimp only at hSw); (try simp only [List.getElem_toArray, List.getElem_cons_zero, List.getElem_cons_succ]); go_simp; by_cases q1 : z.house = house <;> by_cases q2 : z.epoch = (k : Int) + 1 <;> by_cases q3 : z.prev.toList = (lastH (xs.take k)).toList <;> first | (simp [q1, q2, q3]; done) | exact absurd ⟨q1, q2, q3⟩ HQ.out)); (try simp only [List.getElem_toArray, List.getElem_cons_zero, List.getElem_cons_succ]); (try simp only [Act.put, List.setIfInBounds_toArray, List.set_cons_zero, List.set_cons_succ])
          (refine wpAnyH_take (i := 13) (v := ?_) rfl (by kernel_rfl) (by kernel_rfl) (by kernel_rfl) (fun _ _ _ h => h) (Or.inl ⟨by rfl, ?_⟩) (by assumption) ?_; rotate_left; focus (intro w hSw; (try dsimp only at hSw); (try simp only [List.getElem_toArray, List.getElem_cons_zero, List.getElem_cons_succ]); go_simp; try with_reducible rfl)); (try simp only [List.getElem_toArray, List.getElem_cons_zero, List.getElem_cons_succ]); (try simp only [Act.put, List.setIfInBounds_toArray, List.set_cons_zero, List.set_cons_succ])
          refine wpAnyH_done (by kernel_rfl) ?_ _
          go_wp2
          go_ret
          exact ⟨ret_bool HB.out.symm, (by repeat (first | (with_reducible first | exact Ext.refl _ | assumption | apply Ext.alloc | apply Ext.drew | apply Ext.drewN | refine Ext.setCell ?_ ?_ _ | refine Ext.trans ?_ (by assumption)) | (show _ ≤ _; first | omega | (dsimp only; omega) | (simp; done) | (simp; omega))))⟩
    · obtain rfl : k = xs.length := by omega
      have HB := Lib.hid (show chainOk xs house = true from HA.out)
      clear g1
      go_wp2
      go_ret
      exact ⟨ret_bool HB.out.symm, (by repeat (first | (with_reducible first | exact Ext.refl _ | assumption | apply Ext.alloc | apply Ext.drew | apply Ext.drewN | refine Ext.setCell ?_ ?_ _ | refine Ext.trans ?_ (by assumption)) | (show _ ≤ _; first | omega | (dsimp only; omega) | (simp; done) | (simp; omega))))⟩
end Go.Proofs.YtcinihfjkkaclaaDoor
