/- Heads, Chain in one text. -/
import Derived.Test.YtliebkhfddmhjaaDoorStrA
import Derived.Test.YtliebkhfddmhjaaDoorHeadA
import Derived.Test.YtliebkhfddmhjaaDoorLeafA
import Derived.Deep.RegionHeld3
import Derived.Test.YtliebkhfddmhjaaDoorHHash
namespace Go.Proofs.YtliebkhfddmhjaaDoor
open Go.RowKit

structure Hd where
  house : Int
  epoch : Int
  root : ByteArray
  prev : ByteArray
  deriving DecidableEq

def Hd.cells (l : Hd) : List Value := [.int .i64 l.house, .int .i64 l.epoch, .string l.root, .string l.prev]
def Hd.val (l : Hd) : Value := .agg #[.int .i64 l.house, .int .i64 l.epoch, .string l.root, .string l.prev]
theorem Hd.cells_len (l : Hd) : l.cells.length = 4 := rfl
def Hds (w : World) (v : Value) (xs : List Hd) : Prop := Row w 4 v xs.length (xs.flatMap Hd.cells)
theorem Hds.ext {w w' : World} {v : Value} {xs : List Hd} (h : Hds w v xs) (hx : Ext w w') : Hds w' v xs := Row.ext h hx
theorem Hds.form {w : World} {v : Value} {xs : List Hd} (h : Hds w v xs) : ∃ a c, v = .slice a xs.length c := by
  obtain ⟨-, a, c, rfl, -⟩ := h
  exact ⟨a, c, rfl⟩
theorem hd_c0 (xs : List Hd) (k : Nat) (h : k < xs.length) : (xs.flatMap Hd.cells)[k * 4]? = some (.int .i64 xs[k].house) := flat_get Hd.cells_len xs k 0 h (by omega)
theorem hd_c1 (xs : List Hd) (k : Nat) (h : k < xs.length) : (xs.flatMap Hd.cells)[k * 4 + 1]? = some (.int .i64 xs[k].epoch) := flat_get Hd.cells_len xs k 1 h (by omega)
theorem hd_c2 (xs : List Hd) (k : Nat) (h : k < xs.length) : (xs.flatMap Hd.cells)[k * 4 + 2]? = some (.string xs[k].root) := flat_get Hd.cells_len xs k 2 h (by omega)
theorem hd_c3 (xs : List Hd) (k : Nat) (h : k < xs.length) : (xs.flatMap Hd.cells)[k * 4 + 3]? = some (.string xs[k].prev) := flat_get Hd.cells_len xs k 3 h (by omega)
/-- the bytes of heads -/
def headBytes (xs : List Hd) : Nat := (xs.map fun l => l.root.size + l.prev.size).sum
theorem headBytes_succ (xs : List Hd) (k : Nat) (hk : k < xs.length) : headBytes (xs.take (k + 1)) = headBytes (xs.take k) + (xs[k].root.size + xs[k].prev.size) := by
  unfold headBytes
  rw [List.take_succ_eq_append_getElem hk, List.map_append, List.sum_append]
  simp
theorem headBytes_take (xs : List Hd) (k : Nat) : headBytes (xs.take k) ≤ headBytes xs := by
  have h : headBytes xs = headBytes (xs.take k) + headBytes (xs.drop k) := by
    unfold headBytes
    rw [← List.sum_append, ← List.map_append, List.take_append_drop]
  omega
/-- each string of them fits -/
def HeadFit (xs : List Hd) : Prop := ∀ l ∈ xs, l.root.size ≤ maxLen ∧ l.prev.size ≤ maxLen

theorem infoHead : (Tryd.prog.info? 32).map (fun i => (i.zero, i.size, i.bytes)) = some (some (.agg #[.int .i64 0, .int .i64 0, .string ⟨#[]⟩, .string ⟨#[]⟩]), 4, 48) := by kernel_rfl
/-- v owns the heads xs, in blocks from base on -/
def OwnHds (w : World) (base : Nat) (v : Value) (xs : List Hd) : Prop := w.ownsRow base 32 4 v xs.length (xs.flatMap Hd.cells)
theorem OwnHds.hds {w : World} {base : Nat} {v : Value} {xs : List Hd} (h : OwnHds w base v xs) : Hds w v xs := Row.of_owns h
theorem OwnHds.mono {w : World} {b b' : Nat} {v : Value} {xs : List Hd} (h : OwnHds w b v xs) (hb : b' ≤ b) : OwnHds w b' v xs := own_mono h hb
theorem OwnHds.ext {w w' : World} {b : Nat} {v : Value} {xs : List Hd} (h : OwnHds w b v xs) (hx : Ext w w') : OwnHds w' b v xs := own_ext h hx

def hd0 : Hd := ⟨0, 0, ⟨#[]⟩, ⟨#[]⟩⟩
theorem toList_madeCells_head (n : Nat) : (madeCells #[.int .i64 0, .int .i64 0, .string ⟨#[]⟩, .string ⟨#[]⟩] (n * 4)).toList = (List.replicate n hd0).flatMap Hd.cells := by
  apply List.ext_getElem?
  intro j
  by_cases hj : j < n * 4
  · have h1 : j / 4 < n := by omega
    have h3 := flat_get Hd.cells_len (List.replicate n hd0) (j / 4) (j % 4) (by simpa using h1) (by omega)
    rw [show j / 4 * 4 + j % 4 = j by omega] at h3
    rw [h3, List.getElem_replicate]
    rcases (by omega : j % 4 = 0 ∨ j % 4 = 1 ∨ j % 4 = 2 ∨ j % 4 = 3) with h | h | h | h <;> simp [madeCells, hj, h, Hd.cells, hd0]
  · rw [List.getElem?_eq_none (by simp [madeCells]; omega), List.getElem?_eq_none (by rw [flat_length Hd.cells_len]; simp; omega)]
/-- the first k heads, then empty ones -/
def fillH (xs : List Hd) (k : Nat) : List Hd := xs.take k ++ List.replicate (xs.length - k) hd0
theorem fillH_length (xs : List Hd) (k : Nat) (h : k ≤ xs.length) : (fillH xs k).length = xs.length := by simp [fillH]; omega
theorem fillH_at (xs : List Hd) (k : Nat) (h : k < xs.length) (h' : k < (fillH xs k).length) : (fillH xs k)[k] = hd0 := by
  have e : (fillH xs k)[k]? = some hd0 := by
    unfold fillH
    rw [List.getElem?_append_right (by rw [List.length_take]; omega), List.getElem?_replicate, if_pos (by rw [List.length_take]; omega)]
  rw [List.getElem?_eq_getElem h'] at e
  exact Option.some.inj e
theorem fillH_set (xs : List Hd) (k : Nat) (h : k < xs.length) : (fillH xs k).set k xs[k] = fillH xs (k + 1) := by
  unfold fillH
  rw [List.set_append_right _ _ (by simp; omega), List.take_succ_eq_append_getElem h, List.length_take, Nat.min_eq_left (by omega), Nat.sub_self, show xs.length - k = (xs.length - (k + 1)) + 1 by omega, List.replicate_succ, List.append_assoc]
  rfl
theorem hd_flat_set (l : Hd) : ∀ (xs : List Hd) (i : Nat), i < xs.length → ((((xs.flatMap Hd.cells).set (i * 4) (.int .i64 l.house)).set (i * 4 + 1) (.int .i64 l.epoch)).set (i * 4 + 2) (.string l.root)).set (i * 4 + 3) (.string l.prev) = (xs.set i l).flatMap Hd.cells
  | [], i, h => by simp at h
  | x :: t, 0, _ => by simp [Hd.cells]
  | x :: t, i + 1, h => by
    have ih := hd_flat_set l t i (by simpa using h)
    rw [show (i + 1) * 4 = i * 4 + 1 + 1 + 1 + 1 by omega]
    simp only [List.flatMap_cons, Hd.cells, List.cons_append, List.nil_append, List.set_cons_succ] at ih ⊢
    rw [ih]

end Go.Proofs.YtliebkhfddmhjaaDoor
namespace Go.Proofs.YtliebkhfddmhjaaDoor
open Go.RowKit

/-- the hash of a head -/
def hdH2 (l : Hd) : ByteArray := headH l.house l.epoch l.root l.prev
/-- the hash of the last head -/
def lastH (ys : List Hd) : ByteArray := if ys.length = 0 then ⟨#[]⟩ else hdH2 (ys.getD (ys.length - 1) hd0)
theorem getD_hd (xs : List Hd) (i : Nat) (h : i < xs.length) (d : Hd) : xs.getD i d = xs[i] := by simp [List.getD, h]
theorem lastH_le (ys : List Hd) : (lastH ys).size ≤ 32 := by
  unfold lastH
  split
  · exact Nat.zero_le _
  · unfold hdH2 headH
    split
    · exact tagH_le _ _ _
    · exact Nat.zero_le _

/-- what a head must bear as the hash ahead of it -/
def prevT (xs : List Hd) (k : Nat) : ByteArray := lastH (xs.take k)
def goodHd (xs : List Hd) (house : Int) (k : Nat) : Bool :=
  match xs[k]? with
  | none => false
  | some l => headOk l.house l.epoch l.root l.prev && decide (l = ⟨house, (k : Int) + 1, l.root, prevT xs k⟩)
def chainOk (xs : List Hd) (house : Int) : Bool := (List.range xs.length).all (goodHd xs house)
theorem chain_step {xs : List Hd} {house : Int} {k : Nat} (h : ((List.range k).all (goodHd xs house)) = true) (g : goodHd xs house k = true) : ((List.range (k + 1)).all (goodHd xs house)) = true := by
  rw [List.range_succ, List.all_append, h]
  simp [g]
theorem chain_bad {xs : List Hd} {house : Int} {k : Nat} (hk : k < xs.length) (g : goodHd xs house k = false) : chainOk xs house = false := by
  rw [chainOk, List.all_eq_false]
  exact ⟨k, by simpa using hk, by simp [g]⟩
theorem hds_take {w : World} {a : Option Addr} {n c : Nat} {xs : List Hd} (h : Hds w (.slice a n c) xs) (k : Nat) (hk : k ≤ xs.length) : Hds w (.slice a k c) (xs.take k) := by
  obtain ⟨h1, a1, c1, hv, hc, hm, g⟩ := h
  injection hv with e1 e2 e3
  subst e1 e3
  have hl : (xs.take k).length = k := by simp; omega
  refine ⟨by rw [flat_length Hd.cells_len], a, c, by rw [hl], by rw [hl]; omega, hm, ?_⟩
  rcases g with g | ⟨b, o, hb, hlt, g⟩
  · exact Or.inl (by rw [hl]; omega)
  · refine Or.inr ⟨b, o, hb, hlt, fun j u hu => g j u ?_⟩
    rw [← List.take_append_drop k xs, List.flatMap_append]
    rw [List.getElem?_append_left (by have := (List.getElem?_eq_some_iff.1 hu).1; exact this)]
    exact hu
theorem good_eq {xs : List Hd} {house : Int} {k : Nat} (hk : k < xs.length) : goodHd xs house k = (headOk xs[k].house xs[k].epoch xs[k].root xs[k].prev && decide (xs[k] = ⟨house, (k : Int) + 1, xs[k].root, prevT xs k⟩)) := by
  rw [goodHd, List.getElem?_eq_getElem hk]

theorem good_yes {xs : List Hd} {house : Int} {k : Nat} {z : Hd} (h : goodHd xs house k = (headOk z.house z.epoch z.root z.prev && decide (z = ⟨house, (k : Int) + 1, z.root, prevT xs k⟩))) (hh : headOk z.house z.epoch z.root z.prev = true)
    (q : z.house = house ∧ z.epoch = (k : Int) + 1 ∧ z.prev.toList = (lastH (xs.take k)).toList) : goodHd xs house k = true := by
  rw [h, hh, Bool.true_and, decide_eq_true_eq]
  obtain ⟨q1, q2, q3⟩ := q
  rw [toList_inj] at q3
  cases z
  simp_all [prevT]
theorem good_not {xs : List Hd} {house : Int} {k : Nat} {z : Hd} (h : goodHd xs house k = (headOk z.house z.epoch z.root z.prev && decide (z = ⟨house, (k : Int) + 1, z.root, prevT xs k⟩)))
    (q : ¬ (z.house = house ∧ z.epoch = (k : Int) + 1 ∧ z.prev.toList = (lastH (xs.take k)).toList)) : goodHd xs house k = false := by
  rw [h, Bool.and_eq_false_iff]
  refine Or.inr (decide_eq_false fun e => q ?_)
  rw [e]
  exact ⟨rfl, rfl, rfl⟩

end Go.Proofs.YtliebkhfddmhjaaDoor
