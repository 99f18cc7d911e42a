/- Slices of strings. -/
import Derived.Test.YtniimhfelnjepaaDoorHead1
namespace Go.Proofs.YtniimhfelnjepaaDoor
open Go.RowKit

def Strs (w : World) (v : Value) (xs : List ByteArray) : Prop := Row w 1 v xs.length (xs.map Value.string)
def sizes (xs : List ByteArray) : Nat := (xs.map ByteArray.size).sum

theorem take_eq_succ {α : Type} {xs ys : List α} {k : Nat} (h1 : k < xs.length) (h2 : k < ys.length) (h : xs.take k = ys.take k) (e : xs[k] = ys[k]) : xs.take (k + 1) = ys.take (k + 1) := by
  rw [List.take_succ_eq_append_getElem h1, List.take_succ_eq_append_getElem h2, h, e]

set_option maxHeartbeats 400000 in
theorem laws_eqStringS (v1 v2 : Value) (xs ys : List ByteArray) (w : World) (h1 : Strs w v1 xs) (h2 : Strs w v2 ys) :
    Calls Tryd.prog 24 #[v1, v2] w fun e w' => e = .returned (.bool (decide (xs = ys))) ∧ Ext w w' := by
  obtain ⟨-, a1, c1, rfl, hc1, hm1, g1⟩ := h1
  obtain ⟨-, a2, c2, rfl, hc2, hm2, g2⟩ := h2
  unfold maxLen at hm1 hm2
  by_cases hlen : xs.length = ys.length
  · have hlb : ((xs.length : Int) != ys.length) = false := by simp [hlen]
    have HL := Lib.hid hlen
    clear hlen
    go_enter Tryd.func24, Tryd.ntmps24
    go_wp2
    go_loopw [5] (fun i wr => ∃ k : Nat, k ≤ xs.length ∧ i = .int .i64 k ∧ xs.take k = ys.take k ∧ Ext w wr) (fun i _ => xs.length - (intOf i).toNat)
    case atStart => exact ⟨0, Nat.zero_le _, rfl, rfl, Ext.refl _⟩
    case round =>
      obtain ⟨k, hk, rfl, htk, hx⟩ := hrel
      have HT := Lib.hid htk
      clear htk
      by_cases hlt : k < xs.length
      · rcases g1 with g1 | ⟨b1, o1, rfl, hb1, g1⟩
        · omega
        rcases g2 with g2 | ⟨b2, o2, rfl, hb2, g2⟩
        · have := HL.out; omega
        have hlt2 : k < ys.length := by have := HL.out; omega
        have e1 : wr.cell? ⟨b1, o1 + k, none⟩ = some (.string xs[k]) := (hx.cell b1 (o1 + k) hb1).trans (g1 k _ (by simp [hlt]))
        have e2 : wr.cell? ⟨b2, o2 + k, none⟩ = some (.string ys[k]) := (hx.cell b2 (o2 + k) hb2).trans (g2 k _ (by simp [hlt2]))
        clear g1 g2
        by_cases hq : xs[k] = ys[k]
        · have hqb : (xs[k].toList == ys[k].toList) = true := by simp [hq]
          have HQ := Lib.hid hq
          clear hq
          go_wp2
          go_quiet (fail)
          go_wp2
          go_roundw
          case rel => exact ⟨k + 1, by omega, by go_num, take_eq_succ hlt hlt2 HT.out HQ.out, (by repeat (first | (with_reducible first | exact Ext.refl _ | assumption | apply Ext.alloc | apply Ext.drew | apply Ext.drewN | refine Ext.setCell ?_ ?_ _ | refine Ext.trans ?_ (by assumption)) | (show _ ≤ _; first | omega | (dsimp only; omega) | (simp; done) | (simp; omega))))⟩
          case measure => simp [intOf]; omega
        · have hqb : (xs[k].toList == ys[k].toList) = false := by rw [toList_beq]; simp [hq]
          have hne : xs ≠ ys := fun h => hq (by subst h; rfl)
          clear hq
          go_wp2
          go_quiet (fail)
          go_wp2
          go_ret
          exact ⟨ret_bool (by simp [hne]), (by repeat (first | (with_reducible first | exact Ext.refl _ | assumption | apply Ext.alloc | apply Ext.drew | apply Ext.drewN | refine Ext.setCell ?_ ?_ _ | refine Ext.trans ?_ (by assumption)) | (show _ ≤ _; first | omega | (dsimp only; omega) | (simp; done) | (simp; omega))))⟩
      · have he : xs = ys := by
          have h1 := HT.out
          rw [List.take_of_length_le (by omega), List.take_of_length_le (by have := HL.out; omega)] at h1
          exact h1
        have HE := Lib.hid he
        clear he
        go_wp2
        go_ret
        exact ⟨ret_bool (by simp [HE.out]), (by repeat (first | (with_reducible first | exact Ext.refl _ | assumption | apply Ext.alloc | apply Ext.drew | apply Ext.drewN | refine Ext.setCell ?_ ?_ _ | refine Ext.trans ?_ (by assumption)) | (show _ ≤ _; first | omega | (dsimp only; omega) | (simp; done) | (simp; omega))))⟩
  · have hne : xs ≠ ys := fun h => hlen (by rw [h])
    go_enter Tryd.func24, Tryd.ntmps24
    go_wp2
    go_ret
    exact ⟨ret_bool (by simp [hne]), (by repeat (first | (with_reducible first | exact Ext.refl _ | assumption | apply Ext.alloc | apply Ext.drew | apply Ext.drewN | refine Ext.setCell ?_ ?_ _ | refine Ext.trans ?_ (by assumption)) | (show _ ≤ _; first | omega | (dsimp only; omega) | (simp; done) | (simp; omega))))⟩
/-- v owns the strings xs, in blocks from base on -/
def OwnStrs (w : World) (base : Nat) (v : Value) (xs : List ByteArray) : Prop := w.ownsRow base 9 1 v xs.length (xs.map Value.string)
theorem OwnStrs.strs {w : World} {base : Nat} {v : Value} {xs : List ByteArray} (h : OwnStrs w base v xs) : Strs w v xs := Row.of_owns h
theorem own_mono {w : World} {b b' : Nat} {e : TypeId} {n : Nat} {v : Value} {len : Nat} {flat : List Value} (h : w.ownsRow b e n v len flat) (hb : b' ≤ b) : w.ownsRow b' e n v len flat := by
  refine ⟨h.1, ?_⟩
  rcases h.2 with h2 | ⟨g, cap, cur, hv, hg, r⟩
  · exact Or.inl h2
  · exact Or.inr ⟨g, cap, cur, hv, Nat.le_trans hb hg, r⟩
theorem own_ext {w w' : World} {b : Nat} {e : TypeId} {n : Nat} {v : Value} {len : Nat} {flat : List Value} (h : w.ownsRow b e n v len flat) (hx : Ext w w') : w'.ownsRow b e n v len flat := by
  refine ⟨h.1, ?_⟩
  rcases h.2 with h2 | ⟨g, cap, cur, hv, hg, hh, r⟩
  · exact Or.inl h2
  · exact Or.inr ⟨g, cap, cur, hv, hg, (hx.block g (Array.getElem?_eq_some_iff.1 hh).1).trans hh, r⟩
theorem own_below {w : World} {b : Nat} {e : TypeId} {n : Nat} {v : Value} {len : Nat} {flat : List Value} (h : w.ownsRow b e n v len flat) {p : Addr} {u : Value} (hp : p.block < b) : (w.setCell p u).ownsRow b e n v len flat := ownsRow_setCell_below h hp u
theorem own_alloc {w : World} {b : Nat} {e : TypeId} {n : Nat} {v : Value} {len : Nat} {flat : List Value} (h : w.ownsRow b e n v len flat) (o : Obj) : (w.alloc o).ownsRow b e n v len flat := h.alloc o
theorem own_drew {w : World} {b : Nat} {e : TypeId} {n : Nat} {v : Value} {len : Nat} {flat : List Value} (h : w.ownsRow b e n v len flat) : w.drew.ownsRow b e n v len flat := h
theorem own_drewN {w : World} {b : Nat} {e : TypeId} {n : Nat} {v : Value} {len : Nat} {flat : List Value} (h : w.ownsRow b e n v len flat) (k : Nat) : (w.drewN k).ownsRow b e n v len flat := h
theorem OwnStrs.mono {w : World} {b b' : Nat} {v : Value} {xs : List ByteArray} (h : OwnStrs w b v xs) (hb : b' ≤ b) : OwnStrs w b' v xs := own_mono h hb
theorem OwnStrs.ext {w w' : World} {b : Nat} {v : Value} {xs : List ByteArray} (h : OwnStrs w b v xs) (hx : Ext w w') : OwnStrs w' b v xs := own_ext h hx
theorem Strs.form {w : World} {v : Value} {xs : List ByteArray} (h : Strs w v xs) : ∃ a c, v = .slice a xs.length c := by
  obtain ⟨-, a, c, rfl, -⟩ := h
  exact ⟨a, c, rfl⟩
theorem Strs.ext {w w' : World} {v : Value} {xs : List ByteArray} (h : Strs w v xs) (hx : Ext w w') : Strs w' v xs := Row.ext h hx

theorem infoString : (Tryd.prog.info? 9).map (fun i => (i.zero, i.size, i.bytes)) = some (some (.string ⟨#[]⟩), 1, 16) := by kernel_rfl

theorem Ext.grown {a b c : World} {row : Option Nat} (h : Ext a b) (hg : b.grownBy c row) (hr : ∀ k, row = some k → a.heap.size ≤ k) : Ext a c := Below.grown h hg h.size hr

theorem map_take_set (xs : List ByteArray) (k : Nat) (hk : k < xs.length) (z : Value) :
    ((xs.take k).map Value.string ++ List.replicate (xs.length - k) z).set k (.string xs[k]) = (xs.take (k + 1)).map Value.string ++ List.replicate (xs.length - (k + 1)) z := by
  rw [List.set_append_right _ _ (by simp; omega), List.take_succ_eq_append_getElem hk]
  simp only [List.length_map, List.length_take, Nat.min_eq_left (Nat.le_of_lt hk), Nat.sub_self, List.map_append, List.append_assoc]
  rw [show xs.length - k = (xs.length - (k + 1)) + 1 by omega, List.replicate_succ]
  simp

theorem mid_get (xs : List ByteArray) (k : Nat) (hk : k < xs.length) (z : Value) : ((xs.take k).map Value.string ++ List.replicate (xs.length - k) z)[k]? = some z := by
  rw [List.getElem?_append_right (by simp; omega)]
  rw [List.getElem?_replicate, if_pos (by simp; omega)]
theorem sizes_succ (xs : List ByteArray) (k : Nat) (hk : k < xs.length) : sizes (xs.take (k + 1)) = sizes (xs.take k) + xs[k].size := by
  unfold sizes
  rw [List.take_succ_eq_append_getElem hk, List.map_append, List.sum_append]
  simp
theorem sizes_take (xs : List ByteArray) (k : Nat) : sizes (xs.take k) ≤ sizes xs := by
  have h : sizes xs = sizes (xs.take k) + sizes (xs.drop k) := by
    unfold sizes
    rw [← List.sum_append, ← List.map_append, List.take_append_drop]
  omega

set_option maxHeartbeats 400000 in
theorem laws_toStringS (v : Value) (xs : List ByteArray) (w : World) (h : Strs w v xs) (hb : xs.length ≤ 1099511627776) :
    Calls Tryd.prog 22 #[v] w fun e w' => ∃ a c, e = .returned (.slice a xs.length c) ∧ OwnStrs w' w.heap.size (.slice a xs.length c) xs ∧ Ext w w' := by
  obtain ⟨-, a1, c1, rfl, hc1, hm1, g1⟩ := h
  unfold maxLen at hm1
  obtain ⟨i0, hi, hz0, hz1, hz2⟩ := info_parts infoString
  go_enter Tryd.func22, Tryd.ntmps22
  go_wp2_with (at_make; refine wpList_make_full _ rfl _ _ 24 rfl w.heap.size 9 i0 _ 1 Tryd.underlying24 hi hz0 hz1 _ _ _ _ xs.length rfl rfl rfl rfl (by rw [hz2]; omega) (by unfold maxLen; omega) (Nat.le_refl _) ?_; intro w1 hown1 hgrow1)
  have hx1 : Ext w w1 := (Ext.refl w).grown hgrow1 (by simp)
  rw [Nat.mul_one, show (Value.string ⟨#[]⟩).cells = #[.string ⟨#[]⟩] from rfl, toList_madeCells_one] at hown1
  go_loopw [4] (fun i wr => ∃ k : Nat, k ≤ xs.length ∧ i = .int .i64 k ∧ wr.ownsRow w.heap.size 9 1 (.slice (some ⟨w.heap.size, 0, none⟩) xs.length xs.length) xs.length ((xs.take k).map Value.string ++ List.replicate (xs.length - k) (.string ⟨#[]⟩)) ∧ Ext w wr) (fun i _ => xs.length - (intOf i).toNat)
  case atStart => exact ⟨0, Nat.zero_le _, rfl, by simpa using hown1, hx1⟩
  case round =>
    obtain ⟨k, hk, rfl, hown, hx⟩ := hrel
    by_cases hlt : k < xs.length
    · rcases g1 with g1 | ⟨b1, o1, rfl, hb1, g1⟩
      · omega
      have e1 : wr.cell? ⟨b1, o1 + k, none⟩ = some (.string xs[k]) := (hx.cell b1 (o1 + k) hb1).trans (g1 k _ (by simp [hlt]))
      have e2 : wr.cell? ⟨w.heap.size, k, none⟩ = some (.string ⟨#[]⟩) := by
        rw [hown.cellAt k (by omega)]
        exact mid_get xs k hlt _
      have e3 : wr.frozen? ⟨w.heap.size, k, none⟩ = false := hown.frozenAt k
      have S := hown.stored k (.string xs[k])
      rw [map_take_set xs k hlt] at S
      have HS := Lib.hid S
      clear g1 S hown hown1 hgrow1
      go_wp2
      go_roundw
      case rel => exact ⟨k + 1, by omega, by go_num, HS.out.1, hx.setCell (Nat.le_refl _) _⟩
      case measure => simp [intOf]; omega
    · have hkn : k = xs.length := by omega
      subst hkn
      clear g1
      go_wp2
      go_ret
      exact ⟨_, _, rfl, by simpa [OwnStrs] using hown, hx⟩

set_option maxHeartbeats 400000 in
theorem laws_szStringS (v : Value) (xs : List ByteArray) (left : Int) (w : World) (h : Strs w v xs) (hl : 0 ≤ left ∧ left ≤ 1048576) (hs : ∀ s ∈ xs, s.size ≤ maxLen) :
    Calls Tryd.prog 20 #[v, .int .i64 left] w fun e w' => e = .returned (.int .i64 (szr left (xs.length + sizes xs))) ∧ w = w' := by
  obtain ⟨-, a1, c1, rfl, hc1, hm1, g1⟩ := h
  unfold maxLen at hm1 hs
  obtain ⟨h1, h2⟩ := hl
  by_cases hneg : left < xs.length
  · go_enter Tryd.func20, Tryd.ntmps20
    go_wp2
    go_ret
    exact ⟨ret_int (by simp only [szr]; rw [if_pos (by omega)]), rfl⟩
  · go_enter Tryd.func20, Tryd.ntmps20
    go_wp2
    go_loop [1, 5] (fun l i => ∃ k : Nat, k ≤ xs.length ∧ i = .int .i64 k ∧ l = .int .i64 (left - xs.length - sizes (xs.take k)) ∧ 0 ≤ left - xs.length - sizes (xs.take k)) (fun _ i => xs.length - (intOf i).toNat)
    case atStart => exact ⟨0, Nat.zero_le _, rfl, by simp [sizes], by simp [sizes]; omega⟩
    case round =>
      obtain ⟨k, hk, rfl, rfl, hge⟩ := hrel
      by_cases hlt : k < xs.length
      · rcases g1 with g1 | ⟨b1, o1, rfl, hb1, g1⟩
        · omega
        have e1 : w.cell? ⟨b1, o1 + k, none⟩ = some (.string xs[k]) := g1 k _ (by simp [hlt])
        have hsk := hs xs[k] (List.getElem_mem hlt)
        have hsucc : sizes (xs.take (k + 1)) = sizes (xs.take k) + xs[k].size := sizes_succ xs k hlt
        have hle : sizes (xs.take (k + 1)) ≤ sizes xs := sizes_take xs (k + 1)
        have HS := Lib.hid hsucc
        clear g1 hsucc hs
        generalize sizes (xs.take k) = S at *
        go_wp2
        · go_ret
          exact ⟨ret_int (by have := HS.out; simp only [szr]; rw [if_pos (by omega)]), rfl⟩
        · go_round
          case rel => exact ⟨k + 1, by omega, by go_num, by have := HS.out; go_num, by have := HS.out; omega⟩
          case measure => simp [intOf]; omega
      · have hkn : k = xs.length := by omega
        subst hkn
        rw [List.take_length] at *
        go_wp2
        go_ret
        exact ⟨ret_int (by simp only [szr]; rw [if_neg (by omega)]; omega), rfl⟩

def wide (xs : List ByteArray) (wd : Int) : Bool := xs.all fun s => decide ((s.size : Int) = wd)
theorem wide_take {xs : List ByteArray} {wd : Int} {k : Nat} (hk : k < xs.length) (h : ∀ s ∈ xs.take k, (s.size : Int) = wd) (e : (xs[k].size : Int) = wd) : ∀ s ∈ xs.take (k + 1), (s.size : Int) = wd := by
  intro s hs
  rw [List.take_succ_eq_append_getElem hk, List.mem_append] at hs
  rcases hs with hs | hs
  · exact h s hs
  · simp at hs; rw [hs]; exact e

theorem impl_haveWidth (v : Value) (xs : List ByteArray) (n wd : Int) (w : World) (h : Strs w v xs) (hs : ∀ s ∈ xs, s.size ≤ maxLen) :
    Calls Tryd.prog 102 #[v, .int .i64 n, .int .i64 wd] w fun e w' => e = .returned (.bool (wide xs wd && decide ((xs.length : Int) = n))) ∧ w = w' := by
  obtain ⟨-, a1, c1, rfl, hc1, hm1, g1⟩ := h
  unfold maxLen at hm1 hs
  go_enter Tryd.func102, Tryd.ntmps102
  go_wp2
  go_loop [8, 11] (fun _ i => ∃ k : Nat, k ≤ xs.length ∧ i = .int .i64 k ∧ ∀ s ∈ xs.take k, (s.size : Int) = wd) (fun _ i => xs.length - (intOf i).toNat)
  case atStart => exact ⟨0, Nat.zero_le _, rfl, by simp⟩
  case round =>
    obtain ⟨k, hk, rfl, hall⟩ := hrel
    have HA := Lib.hid hall
    clear hall
    by_cases hlt : k < xs.length
    · rcases g1 with g1 | ⟨b1, o1, rfl, hb1, g1⟩
      · omega
      have e1 : w.cell? ⟨b1, o1 + k, none⟩ = some (.string xs[k]) := g1 k _ (by simp [hlt])
      have hsk := hs xs[k] (List.getElem_mem hlt)
      clear g1 hs
      by_cases hq : (xs[k].size : Int) = wd
      · have hqb : ((xs[k].size : Int) != wd) = false := by simp [hq]
        have HQ := Lib.hid hq
        clear hq
        go_wp2
        go_round
        case rel => exact ⟨k + 1, by omega, by go_num, wide_take hlt HA.out HQ.out⟩
        case measure => simp [intOf]; omega
      · have hqb : ((xs[k].size : Int) != wd) = true := by simp [hq]
        have hne : wide xs wd = false := by
          rw [wide, List.all_eq_false]
          exact ⟨xs[k], List.getElem_mem hlt, by simpa using hq⟩
        have HN := Lib.hid hne
        clear hq hne
        go_wp2
        go_ret
        exact ⟨ret_bool (by rw [HN.out]; rfl), rfl⟩
    · have he : wide xs wd = true := by
        have h1 := HA.out
        rw [List.take_of_length_le (by omega)] at h1
        rw [wide, List.all_eq_true]
        intro s hs'
        exact decide_eq_true (h1 s hs')
      have HE := Lib.hid he
      clear g1 hs he
      go_wp2
      go_ret
      exact ⟨ret_bool (by rw [HE.out, Bool.true_and, Bool.eq_iff_iff]; simp), rfl⟩

end Go.Proofs.YtniimhfelnjepaaDoor
