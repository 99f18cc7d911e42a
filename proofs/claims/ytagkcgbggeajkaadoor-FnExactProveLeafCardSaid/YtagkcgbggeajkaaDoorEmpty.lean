/- The hashes of what is empty; the law on EmptyHash. -/
import Derived.Test.YtagkcgbggeajkaaDoorHash
import Derived.Test.YtagkcgbggeajkaaDoorLits
import Derived.Deep.RegionHeld3
namespace Go.Proofs.YtagkcgbggeajkaaDoor
open Go.RowKit

/-- the hash of an empty place, k levels above the buckets -/
def emptyAt (wd : Int) : Nat → ByteArray
  | 0 => tagH 1 [] wd
  | k + 1 => tagH 3 [emptyAt wd k, emptyAt wd k] wd
theorem emptyAt_le (wd : Int) : ∀ k, (emptyAt wd k).size ≤ 32
  | 0 => tagH_le _ _ _
  | _ + 1 => tagH_le _ _ _
def emptyH (l wd : Int) : ByteArray := if inB l 0 8 = true then (if inB wd 1 32 = true then emptyAt wd (8 - l).toNat else ⟨#[]⟩) else ⟨#[]⟩

set_option maxHeartbeats 800000 in
theorem impl_emptyHash (n : Nat) (wd : Int) (w : World) (hn : n ≤ 8) (hT : Tabs w) :
    Calls Tryd.prog 99 #[.int .i64 (8 - (n : Int)), .int .i64 wd] w fun e w' => e = .returned (.string (emptyAt wd n)) ∧ Ext w w' := by
  have HT := Lib.hid hT
  clear hT
  go_enter Tryd.func99, Tryd.ntmps99
  go_wp2_with (go_at_call 100; refine (impl_hashOf 1 _ [] wd _ (by exact strs_nil _) fit0 (by exact HT.out)).mono ?_; rintro e w1 ⟨rfl, x1⟩)
  go_loopw [5, 6] (fun h l wr => ∃ k : Nat, k ≤ n ∧ l = .int .i64 (8 - (k : Int)) ∧ h = .string (emptyAt wd k) ∧ Ext w wr) (fun _ l _ => (intOf l).toNat - (8 - n))
  case atStart => exact ⟨0, by omega, rfl, rfl, x1⟩
  case round =>
    clear x1
    obtain ⟨k, hk, rfl, rfl, hx⟩ := hrel
    by_cases hlt : k < n
    · have hq : 8 - (n : Int) < 8 - (k : Int) := by omega
      have hz := le_max (emptyAt_le wd k) (by omega)
      have E1 := Lib.hid (show emptyAt wd (k + 1) = tagH 3 [emptyAt wd k, emptyAt wd k] wd from rfl)
      go_wp2_with (go_at_call 100; refine (impl_hashOf 3 _ [emptyAt wd k, emptyAt wd k] wd _ (by exact strs_lit2 _ _ _ _) (fit2 hz hz) (by exact HT.out.ext (by repeat (first | (with_reducible first | exact Ext.refl _ | assumption | apply Ext.alloc | apply Ext.drew | apply Ext.drewN | refine Ext.setCell ?_ ?_ _ | refine Ext.trans ?_ (by assumption)) | (show _ ≤ _; first | omega | (dsimp only; omega) | (simp; done) | (simp; omega)))))).mono ?_; rintro e w2 ⟨rfl, x2⟩)
      go_roundw
      case rel => exact ⟨k + 1, by omega, by go_num, by rw [E1.out], (by repeat (first | (with_reducible first | exact Ext.refl _ | assumption | apply Ext.alloc | apply Ext.drew | apply Ext.drewN | refine Ext.setCell ?_ ?_ _ | refine Ext.trans ?_ (by assumption)) | (show _ ≤ _; first | omega | (dsimp only; omega) | (simp; done) | (simp; omega))))⟩
      case measure => simp [intOf]; omega
    · obtain rfl : k = n := by omega
      have hq : ¬ (8 - (k : Int) < 8 - (k : Int)) := by omega
      go_wp2
      go_ret
      exact ⟨rfl, hx⟩

/-- the list when k levels above the buckets are laid -/
def emL (wd : Int) (k : Nat) : List ByteArray := List.replicate (8 - k) ⟨#[]⟩ ++ (List.range (k + 1)).map fun j => emptyAt wd (k - j)
theorem emL_len (wd : Int) (k : Nat) (h : k ≤ 8) : (emL wd k).length = 9 := by
  rw [emL, List.length_append, List.length_replicate, List.length_map, List.length_range]
  omega
theorem emL_get (wd : Int) (k i : Nat) (h : k ≤ 8) (hi : i < 9) : (emL wd k)[i]? = some (if i < 8 - k then ⟨#[]⟩ else emptyAt wd (8 - i)) := by
  rw [emL]
  by_cases hlt : i < 8 - k
  · rw [List.getElem?_append_left (by rw [List.length_replicate]; exact hlt), if_pos hlt]
    simp [hlt]
  · rw [List.getElem?_append_right (by rw [List.length_replicate]; omega), if_neg hlt, List.length_replicate, List.getElem?_map, List.getElem?_range (by omega)]
    simp only [Option.map_some]
    congr 2
    omega
theorem emL_set (wd : Int) (k : Nat) (h : k < 8) : (emL wd k).set (7 - k) (emptyAt wd (k + 1)) = emL wd (k + 1) := by
  apply List.ext_getElem?
  intro i
  by_cases hi : i < 9
  · rw [List.getElem?_set, emL_get wd k i (by omega) hi, emL_get wd (k + 1) i (by omega) hi, emL_len wd k (by omega)]
    by_cases e : 7 - k = i
    · rw [if_pos e, if_pos (by omega), if_neg (by omega)]
      congr 2
      omega
    · rw [if_neg e]
      by_cases h2 : i < 8 - (k + 1)
      · rw [if_pos h2, if_pos (by omega)]
      · rw [if_neg h2, if_neg (by omega)]
  · rw [List.getElem?_eq_none (by rw [List.length_set, emL_len wd k (by omega)]; omega), List.getElem?_eq_none (by rw [emL_len wd (k + 1) (by omega)]; omega)]
theorem map_set_str (xs : List ByteArray) (k : Nat) (s : ByteArray) : (xs.map Value.string).set k (.string s) = (xs.set k s).map Value.string := by rw [List.map_set]

theorem cell_new {w : World} {b o : Nat} {v : Value} {t : TypeId} {xs : Array Value} (h : w.cell? ⟨b, o, none⟩ = some v) (hb : b < w.heap.size) : (w.drew.alloc (.cells xs t)).cell? ⟨b, o, none⟩ = some v :=
  (World.cell?_alloc_past (w := w.drew) _ b o hb).trans h
theorem cell_set {w : World} {b o p : Nat} {u v : Value} (h : w.cell? ⟨b, o, none⟩ = some v) (hn : p ≠ o) : (w.setCell ⟨b, p, none⟩ u).cell? ⟨b, o, none⟩ = some v := by
  rw [World.cell?_setCell_other _ _ _ _ (fun e => hn (by injection e))]
  exact h
set_option maxRecDepth 100000 in
set_option maxHeartbeats 1600000 in
theorem spec_l10Empties (wd : Int) (w : World) :
    Calls Tryd.prog 60 #[.int .i64 wd] w fun e w' => ∃ a c, e = .returned (.slice a 9 c) ∧ OwnStrs w' w.heap.size (.slice a 9 c) (emL wd 8) ∧ Ext w w' := by
  obtain ⟨i0, hi, hz0, hz1, hz2⟩ := info_parts infoString
  go_enter Tryd.func60, Tryd.ntmps60
  go_wp2_with (at_make; refine wpList_make_full _ rfl _ _ 44 rfl w.heap.size 9 i0 _ 1 Tryd.underlying44 hi hz0 hz1 _ _ _ _ 9 rfl rfl rfl rfl (by rw [hz2]; omega) (by unfold maxLen; omega) (Nat.le_refl _) ?_; intro w1 hown1 hgrow1)
  have hx1 : Ext w w1 := (Ext.refl w).grown hgrow1 (by simp)
  rw [Nat.mul_one, show (Value.string ⟨#[]⟩).cells = #[.string ⟨#[]⟩] from rfl, toList_madeCells_one] at hown1
  have l1 : w.heap.size < w1.heap.size := (hown1.lt _ rfl).2
  have O1 := Lib.hid hown1
  clear hown1 hgrow1
  go_wp2_with fail
  refine (spec_TagHash 1 _ [] wd _ (by exact strs_lit0 _ _) fit0).mono ?_
  rintro e w2 ⟨rfl, x2⟩
  have x3 : Ext w1 w2 := (by repeat (first | (with_reducible first | exact Ext.refl _ | assumption | apply Ext.alloc | apply Ext.drew | apply Ext.drewN | refine Ext.setCell ?_ ?_ _ | refine Ext.trans ?_ (by assumption)) | (show _ ≤ _; first | omega | (dsimp only; omega) | (simp; done) | (simp; omega))))
  have o2 := own_ext O1.out x3
  have x4 : Ext w w2 := hx1.trans x3
  have l2 := o2.lt _ rfl
  have c8 := o2.cellAt 8 (by decide)
  have f8 := o2.frozenAt 8
  have S0 := (o2.stored 8 (.string (emptyAt wd 0))).1
  have HS := Lib.hid (show (w2.setCell ⟨w.heap.size, 8, none⟩ (.string (emptyAt wd 0))).ownsRow w.heap.size 9 1 (.slice (some ⟨w.heap.size, 0, none⟩) 9 9) 9 ((emL wd 0).map Value.string) from S0)
  have hxs : Ext w (w2.setCell ⟨w.heap.size, 8, none⟩ (.string (emptyAt wd 0))) := x4.setCell (Nat.le_refl _) _
  clear O1 o2 S0 hx1 x2 x3
  go_wp2
  go_loopw [4] (fun i wr => ∃ m : Nat, m ≤ 8 ∧ i = .int .i64 ((m : Int) - 1) ∧ wr.ownsRow w.heap.size 9 1 (.slice (some ⟨w.heap.size, 0, none⟩) 9 9) 9 ((emL wd (8 - m)).map Value.string) ∧ Ext w wr) (fun i _ => (intOf i + 1).toNat)
  case atStart => exact ⟨8, by omega, rfl, HS.out, hxs⟩
  case round =>
    clear HS hxs x4 l2 c8 f8 l1
    obtain ⟨m, hm, rfl, own, hx⟩ := hrel
    have lw := (own.lt _ rfl).2
    by_cases hlt : m = 0
    · subst hlt
      have O := Lib.hid own
      clear own
      go_wp2
      go_ret
      exact ⟨_, _, rfl, O.out, hx⟩
    · obtain ⟨n, rfl⟩ : ∃ n, m = n + 1 := ⟨m - 1, by omega⟩
      have e1 : wr.cell? ⟨w.heap.size, n + 1, none⟩ = some (.string (emptyAt wd (7 - n))) := by
        rw [own.cellAt (n + 1) (by omega), List.getElem?_map, emL_get wd (8 - (n + 1)) (n + 1) (by omega) (by omega), if_neg (by omega), show 8 - (n + 1) = 7 - n by omega]
        rfl
      have en := Lib.hid (show ((emL wd (8 - (n + 1))).map Value.string)[n]? = some (.string ⟨#[]⟩) by
        rw [List.getElem?_map, emL_get wd (8 - (n + 1)) n (by omega) (by omega), if_pos (by omega)]
        rfl)
      have hz := le_max (emptyAt_le wd (7 - n)) (by omega)
      have HE := Lib.hid (emL_set wd (7 - n) (by omega))
      have O := Lib.hid own
      have i0 : (0 : Int) ≤ (n : Int) := by omega
      have i1 : (0 : Int) ≤ (n : Int) + 1 := by omega
      have i2 : (n : Int) < 9 := by omega
      have i3 : (n : Int) + 1 < 9 := by omega
      have w1 : IntKind.i64.wrap ((n : Int) + 1) = (n : Int) + 1 := IntWalk.i64_in _ (by omega)
      have t1 : ((n : Int) + 1).toNat = n + 1 := by omega
      have hq : (0 : Int) ≤ ((n + 1 : Nat) : Int) - 1 := by omega
      rw [show ((n + 1 : Nat) : Int) - 1 = (n : Int) by omega]
      have hlen := Lib.hid (emL_len wd (8 - (n + 1)) (by omega))
      clear own hq
      go_wp2
      go_region_held3 (fun W => W.cell? ⟨w.heap.size, n + 1, none⟩ = some (.string (emptyAt wd (7 - n)))) (first | exact e1 | exact (cell_new e1 lw) | exact (cell_set e1 (by omega))) ((go_at_call 92; refine (spec_TagHash 3 _ [emptyAt wd (7 - n), emptyAt wd (7 - n)] wd _ (by exact strs_lit2 _ _ _ _) (fit2 hz hz)).mono ?_; rintro e w3 ⟨rfl, x3⟩; have x4 : Ext wr w3 := (by repeat (first | (with_reducible first | exact Ext.refl _ | assumption | apply Ext.alloc | apply Ext.drew | apply Ext.drewN | refine Ext.setCell ?_ ?_ _ | refine Ext.trans ?_ (by assumption)) | (show _ ≤ _; first | omega | (dsimp only; omega) | (simp; done) | (simp; omega)))); have o4 := own_ext O.out x4; have e1 := (x4.cell _ _ lw).trans e1; have e2 := (o4.cellAt n (by omega)).trans en.out; have f2 := o4.frozenAt n; have HO := Lib.hid o4; clear o4))
      all_goals
        go_wp2
        go_roundw
        case rel =>
          have S := (HO.out.stored n (.string (emptyAt wd (7 - n + 1)))).1
          have he := HE.out
          rw [show 7 - (7 - n) = n by omega] at he
          rw [map_set_str, show 8 - (n + 1) = 7 - n by omega, he, show 7 - n + 1 = 8 - n by omega] at S
          refine ⟨n, by omega, rfl, ?_, (by repeat (first | (with_reducible first | exact Ext.refl _ | assumption | apply Ext.alloc | apply Ext.drew | apply Ext.drewN | refine Ext.setCell ?_ ?_ _ | refine Ext.trans ?_ (by assumption)) | (show _ ≤ _; first | omega | (dsimp only; omega) | (simp; done) | (simp; omega))))⟩
          rw [show tagH 3 [emptyAt wd (7 - n), emptyAt wd (7 - n)] wd = emptyAt wd (8 - n) by rw [show 8 - n = (7 - n) + 1 by omega]; rfl]
          exact S
        case measure => simp [intOf]

theorem emptyH_no1 {l wd : Int} (h : inB l 0 8 = false) : emptyH l wd = ⟨#[]⟩ := by rw [emptyH, if_neg (by rw [h]; decide)]
theorem emptyH_no2 {l wd : Int} (h : inB wd 1 32 = false) : emptyH l wd = ⟨#[]⟩ := by rw [emptyH, if_neg (c := inB wd 1 32 = true) (by rw [h]; decide)]; split <;> rfl
theorem emptyH_yes {l wd : Int} (h : inB l 0 8 = true) (k : inB wd 1 32 = true) : emptyH l wd = emptyAt wd (8 - l).toNat := by rw [emptyH, if_pos h, if_pos k]
end Go.Proofs.YtagkcgbggeajkaaDoor
