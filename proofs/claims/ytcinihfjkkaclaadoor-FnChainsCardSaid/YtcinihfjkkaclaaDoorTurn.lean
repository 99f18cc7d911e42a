/- A text with one byte turned. -/
import Derived.Test.YtcinihfjkkaclaaDoorOwnP
import Derived.Test.YtcinihfjkkaclaaDoorCore
import Derived.Test.YtcinihfjkkaclaaDoorFields
import Derived.StillTailTactics
namespace Go.Proofs.YtcinihfjkkaclaaDoor
open Go.RowKit

theorem xor_ne : ∀ x : Fin 256, ∀ m : Fin 256, m.val ≠ 0 → 0 ≤ bits .xor .u8 (x.val : Int) (m.val : Int) ∧ bits .xor .u8 (x.val : Int) (m.val : Int) ≤ 255 ∧ bits .xor .u8 (x.val : Int) (m.val : Int) ≠ x.val := by
  intro x m hm
  show 0 ≤ IntKind.u8.wrap ((BitVec.ofInt 8 x.val ^^^ BitVec.ofInt 8 m.val).toNat : Int) ∧ IntKind.u8.wrap ((BitVec.ofInt 8 x.val ^^^ BitVec.ofInt 8 m.val).toNat : Int) ≤ 255 ∧ IntKind.u8.wrap ((BitVec.ofInt 8 x.val ^^^ BitVec.ofInt 8 m.val).toNat : Int) ≠ x.val
  have hlt : (BitVec.ofInt 8 x.val ^^^ BitVec.ofInt 8 m.val).toNat < 256 := BitVec.isLt _
  have hw : ∀ k : Nat, k < 256 → IntKind.u8.wrap (k : Int) = k := by
    intro k hk
    have : ∀ k : Fin 256, IntKind.u8.wrap (k.val : Int) = k.val := by decide +kernel
    exact this ⟨k, hk⟩
  rw [hw _ hlt]
  refine ⟨by omega, by omega, fun e => hm ?_⟩
  have e2 : (BitVec.ofInt 8 x.val ^^^ BitVec.ofInt 8 m.val).toNat = x.val := by omega
  have ex : (BitVec.ofInt 8 x.val).toNat = x.val := by
    have := x.isLt
    simp
  have em : (BitVec.ofInt 8 m.val).toNat = m.val := by
    have := m.isLt
    simp
  have e3 : BitVec.ofInt 8 x.val ^^^ BitVec.ofInt 8 m.val = BitVec.ofInt 8 x.val := BitVec.eq_of_toNat_eq (e2.trans ex.symm)
  have e4 : BitVec.ofInt 8 m.val = 0 := by
    have := congrArg (fun z => BitVec.ofInt 8 x.val ^^^ z) e3
    simpa [← BitVec.xor_assoc] using this
  rw [e4] at em
  simpa using em.symm
theorem OwnM.frozenAt {w : World} {base n g cap : Nat} {xs : List Value} (h : OwnM w base (.slice (some ⟨g, 0, none⟩) n cap) n xs) (j : Nat) (hj : j < n) : w.frozen? ⟨g, j, none⟩ = false := by
  obtain ⟨hl, g', cap', cur, lo, hi, hv, hb, hg, hm, hn, hc, hs, ht⟩ := h
  injection hv with h1 h2 h3
  injection h1 with h1
  injection h1 with h1
  subst h1 h3
  rw [World.frozen?]
  dsimp only
  rw [hg]
  rcases hm with rfl | hm
  · simp
  · simp; omega
theorem strOfNums_ne {ys : List Int} {s : ByteArray} {i : Nat} {y : Int} (hi : i < s.size) (hy : ys[i]? = some y) (h0 : 0 ≤ y ∧ y ≤ 255) (hne : y ≠ (s[i].toNat : Nat)) : strOfNums ys ≠ s := by
  intro e
  have h1 : (strOfNums ys).data.toList[i]? = s.data.toList[i]? := by rw [e]
  have h2 : (strOfNums ys).data.toList[i]? = some (UInt8.ofNat y.toNat) := by simp [strOfNums, hy]
  have h3 : s.data.toList[i]? = some s[i] := by
    have hl : i < s.data.toList.length := hi
    rw [List.getElem?_eq_getElem hl]
    rfl
  rw [h2, h3] at h1
  have h4 := congrArg UInt8.toNat (Option.some.inj h1)
  simp at h4
  omega
set_option maxRecDepth 100000 in
set_option maxHeartbeats 800000 in
theorem laws_turned (s : ByteArray) (g c : Nat) (y0 y1 : Int) (w : World) (hs : s.size ≤ 1073741824) (hg : g < w.heap.size) (h0 : w.cell? ⟨g, 0, none⟩ = some (.int .i64 y0)) (h1 : w.cell? ⟨g, 1, none⟩ = some (.int .i64 y1)) (b0 : 0 ≤ y0 ∧ y0 < 10000) (b1 : 0 ≤ y1 ∧ y1 < 10000) :
    Calls Tryd.prog 16 #[.string s, .slice (some ⟨g, 0, none⟩) 12 c] w fun e w' => ∃ t : ByteArray, e = .returned (.string t) ∧ t ≠ s ∧ (s.size ≠ 0 → t.size = s.size) ∧ t.size ≤ s.size + 1 ∧ Ext w w' := by
  have hcv := fun W : World => Lib.run_convert_string_bytes (P := Tryd.prog) W 9 22 5 s Tryd.underlying9 Tryd.underlying22 Tryd.underlying5
  have hm : s.size ≤ maxLen := by unfold maxLen; omega
  have o1 := bytes_own w s hm
  have x1 := bytes_ext w s
  rw [strCells_nums8] at o1
  have d0 := (x1.cell g 0 hg).trans h0
  have d1 := (x1.cell g 1 hg).trans h1
  by_cases hz : s.size = 0
  · have hs0 : s = ⟨#[]⟩ := by
      cases s with | mk a => rw [show a = #[] from Array.eq_empty_of_size_eq_zero hz]
    have HZ := Lib.hid hs0
    clear hs0
    have hzi : ((s.size : Nat) : Int) = 0 := by omega
    go_enter Tryd.func16, Tryd.ntmps16
    go_wp2
    go_ret
    refine ⟨_, rfl, ?_, fun e => absurd hz e, ?_, x1⟩
    · rw [HZ.out]; decide
    · rw [hz]; decide
  · have hzi : ((s.size : Nat) : Int) ≠ 0 := by omega
    have hp : (0 : Int) < s.size := by omega
    obtain ⟨i, hi⟩ : ∃ i : Nat, y0 % (s.size : Int) = i := ⟨(y0 % (s.size : Int)).toNat, by have := Int.emod_nonneg y0 hzi; omega⟩
    have hil : i < s.size := by have := Int.emod_lt_of_pos y0 hp; omega
    have hi0 : (0 : Int) ≤ i := by omega
    have hi1 : (i : Int) < s.size := by omega
    have hnl := nums8_length s
    have hn : (nums8 s)[i]? = some (s[i].toNat : Int) := by
      rw [nums8, List.getElem?_map, List.getElem?_eq_getElem (show i < s.data.toList.length from hil)]
      rfl
    have d2 := o1.cells i _ (by rw [List.getElem?_map, hn]; rfl)
    have d3 := o1.frozenAt i hil
    have hx := xor_ne ⟨s[i].toNat, s[i].toNat_lt⟩ ⟨(1 + y1 % 255).toNat, by omega⟩ (by dsimp only; omega)
    dsimp only at hx
    rw [show (((1 + y1 % 255).toNat : Nat) : Int) = 1 + y1 % 255 by omega] at hx
    generalize hX : bits .xor .u8 ((s[i].toNat : Nat) : Int) (1 + y1 % 255) = X at *
    have HX := Lib.hid hX
    have hlen : ((nums8 s).set i X).length = s.size := by rw [List.length_set, hnl]
    have hyi : ((nums8 s).set i X)[i]? = some X := by rw [List.getElem?_set_self (by omega)]
    have HNE := Lib.hid (strOfNums_ne hil hyi ⟨hx.1, hx.2.1⟩ hx.2.2)
    have hsz : (strOfNums ((nums8 s).set i X)).size = s.size := by rw [strOfNums_size, hlen]
    generalize hcap : grownCap w s.size 0 5 = cap at *
    generalize hW : Lib.bytesWorld w 5 s = W1 at *
    have hcv2 : (convert 22 9 (.slice (some ⟨w.heap.size, 0, none⟩) s.size cap)).run Tryd.prog (W1.setCell ⟨w.heap.size, i, none⟩ (.int .u8 X)).drew = .ok (.string (strOfNums ((nums8 s).set i X))) (W1.setCell ⟨w.heap.size, i, none⟩ (.int .u8 X)).drew := by
      refine run_convert_bytes_arg _ _ _ Tryd.underlying22 Tryd.underlying5 _ 0 _ _ _ hlen (fun j hj => ?_) _ Tryd.underlying9
      rw [Nat.zero_add]
      by_cases hji : j = i
      · subst hji
        rw [List.getD_eq_getElem?_getD, hyi]
        exact World.cell?_setCell_same _ ⟨w.heap.size, j, none⟩ _ d2
      · refine (cell_set_off (w := W1) (b := w.heap.size) (o := i) (o' := j) (u := .int .u8 X) (fun e => hji e.symm)).trans ?_
        rw [List.getD_eq_getElem?_getD, List.getElem?_set_ne (fun e => hji e.symm), List.getElem?_eq_getElem (show j < (nums8 s).length by omega)]
        exact o1.cells j _ (by rw [List.getElem?_map, List.getElem?_eq_getElem (show j < (nums8 s).length by omega)]; rfl)
    have HC2 := Lib.hid hcv2
    have hxw : Ext w (W1.setCell ⟨w.heap.size, i, none⟩ (.int .u8 X)).drew := (x1.setCell (p := ⟨w.heap.size, i, none⟩) (Nat.le_refl _) _).drew
    have HXW := Lib.hid hxw
    have hcv3 := hcv w
    clear hcv2 hyi hlen hn hnl o1 hxw hx hcv h0 h1
    go_enter Tryd.func16, Tryd.ntmps16
    go_wp2
    rw [hi]
    go_still_tail 14, (by kernel_rfl)
    change wpList _ _ _ _ _ W1.drew
    have hcv2 := HC2.out
    go_wp2
    go_ret
    exact ⟨_, rfl, HNE.out, fun _ => hsz, by omega, HXW.out⟩
end Go.Proofs.YtcinihfjkkaclaaDoor
