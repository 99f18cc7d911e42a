/- The draw of a text, and what is left of the files. -/
import Derived.Test.YtckipgijfgeghaaCurA
import Derived.Test.YtckipgijfgeghaaDLog
namespace Go.Proofs.Ytckipgijfgeghaa
open Go.RowKit

set_option maxHeartbeats 800000 in
theorem spec_l01PickInt (b : Nat) (v : Value) (xs : List Int) (w : World) (h : Cur w b) (hs : Row w 1 v xs.length (xs.map (Value.int .i64))) (hn : v.ownBlock ≠ some b) (hp : 0 < xs.length) (hl : xs.length ≤ 1000) :
    Calls Try.prog 72 #[.pointer (some ⟨b, 0, none⟩), v] w fun e w' => ∃ s : Int, s ∈ xs ∧ e = .returned (.int .i64 s) ∧ Cur w' b ∧ Mut b w w' := by
  obtain ⟨-, a, c, rfl, hc, hm, hcase⟩ := hs
  rcases hcase with h0 | ⟨g, o, rfl, hg, hcells⟩
  · omega
  go_enter Try.func72, Try.ntmps72
  go_wp2_with fail
  refine (spec_l01Below b xs.length _ h (by omega)).mono ?_
  rintro e w1 ⟨x, rfl, hx, C1, M1⟩
  obtain ⟨i, rfl⟩ := Int.eq_ofNat_of_zero_le hx.1
  have hi : i < xs.length := by omega
  have hi0 : (0 : Int) ≤ (i : Int) := by omega
  have hi1 : (i : Int) < xs.length := by omega
  have e1 : w1.cell? ⟨g, o + i, none⟩ = some (.int .i64 xs[i]) := (M1.cell _ _ hg (fun e => hn (by rw [e]; rfl))).trans (hcells i _ (by simp [hi]))
  have hmem := List.getElem_mem hi
  clear hcells
  go_wp2
  go_ret
  exact ⟨_, hmem, rfl, C1, M1⟩
set_option maxHeartbeats 800000 in
theorem spec_l03Some (b : Nat) (w : World) (h : Cur w b) :
    Calls Try.prog 39 #[.pointer (some ⟨b, 0, none⟩)] w fun e w' => ∃ s : ByteArray, e = .returned (.string s) ∧ s.size ≤ 200 ∧ Cur w' b ∧ Mut b w w' := by
  have hb := h.lt
  have X : Ext w (w.alloc (Obj.cells #[.int .i64 0, .int .i64 1, .int .i64 3, .int .i64 9, .int .i64 54, .int .i64 55, .int .i64 56, .int .i64 63, .int .i64 64, .int .i64 65, .int .i64 119, .int .i64 120, .int .i64 200] 3)) := (Ext.refl w).alloc _
  have P := Bx.new w #[.int .i64 0, .int .i64 1, .int .i64 3, .int .i64 9, .int .i64 54, .int .i64 55, .int .i64 56, .int .i64 63, .int .i64 64, .int .i64 65, .int .i64 119, .int .i64 120, .int .i64 200] 3
  have hR : Row (w.alloc (Obj.cells #[.int .i64 0, .int .i64 1, .int .i64 3, .int .i64 9, .int .i64 54, .int .i64 55, .int .i64 56, .int .i64 63, .int .i64 64, .int .i64 65, .int .i64 119, .int .i64 120, .int .i64 200] 3)) 1 (.slice (some ⟨w.heap.size, 0, none⟩) 13 13) ([0, 1, 3, 9, 54, 55, 56, 63, 64, 65, 119, 120, 200] : List Int).length (([0, 1, 3, 9, 54, 55, 56, 63, 64, 65, 119, 120, 200] : List Int).map (Value.int .i64)) :=
    ⟨rfl, some ⟨w.heap.size, 0, none⟩, 13, rfl, Nat.le_refl _, by decide, Or.inr ⟨w.heap.size, 0, rfl, P.1, fun j u hu => by rw [Nat.zero_add]; exact P.2.1 j u hu⟩⟩
  have HR := Lib.hid hR
  clear hR P
  go_enter Try.func39, Try.ntmps39
  go_wp2_with fail
  refine (spec_l01PickInt b _ [0, 1, 3, 9, 54, 55, 56, 63, 64, 65, 119, 120, 200] _ (h.ext X) HR.out (by simp [Value.ownBlock]; omega) (by simp) (by simp)).mono ?_
  rintro e w1 ⟨x, hx, rfl, C1, M1⟩
  have hx2 : 0 ≤ x ∧ x ≤ 200 := by simp at hx; omega
  obtain ⟨n, rfl⟩ := Int.eq_ofNat_of_zero_le hx2.1
  have M := (Mut.of_ext (b := b) X).trans M1
  clear hx HR M1 X
  go_wp2_with fail
  refine (spec_l01Text b n _ C1 (by omega)).mono ?_
  rintro e w2 ⟨s, rfl, hs, C2, M2⟩
  have M3 := M.trans M2
  go_wp2
  go_ret
  exact ⟨s, rfl, by omega, C2, M3⟩
theorem spec_DrawTextOf (v : Value) (xs : List Int) (w : World) (h : Code w w.heap.size v xs) (hl : xs.length ≤ 1048576) :
    Calls Try.prog 17 #[v] w fun e w' => ∃ s : ByteArray, e = .returned (.string s) ∧ s.size ≤ 200 ∧ Ext w w' := by
  go_enter Try.func17, Try.ntmps17
  go_wp2_with fail
  refine (spec_l01New v xs _ h hl).mono ?_
  rintro e w1 ⟨rfl, C1, x1⟩
  go_wp2_with fail
  refine (spec_l03Some _ _ C1).mono ?_
  rintro e w2 ⟨s, rfl, hs, -, M⟩
  have X := x1.mut M (Nat.le_refl _)
  go_wp2
  go_ret
  exact ⟨s, rfl, hs, X⟩

set_option maxHeartbeats 800000 in
theorem laws_lefts (g c : Nat) (ys : List Int) (w : World) (hg : g < w.heap.size) (hy : ∀ j, 0 ≤ ys.getD j 0 ∧ ys.getD j 0 < 10000) (hcell : ∀ j, j < 12 → w.cell? ⟨g, j, none⟩ = some (.int .i64 (ys.getD j 0))) :
    Calls Try.prog 22 #[.slice (some ⟨g, 0, none⟩) 12 c] w fun e w' => ∃ (js : List Int) (a : Option Addr) (c' : Nat), e = .returned (.slice a 6 c') ∧ js.length = 6 ∧ w'.ownsRow w.heap.size 3 1 (.slice a 6 c') 6 (js.map (Value.int .i64)) ∧ Ext w w' := by
  obtain ⟨i0, hi, hz0, hz1, hz2⟩ := info_parts infoInt
  have HC := Lib.hid hcell
  have HY := Lib.hid hy
  clear hcell hy
  go_enter Try.func22, Try.ntmps22
  go_wp2
  go_loopw [3, 4] (fun v i wr => ∃ js : List Int, i = .int .i64 js.length ∧ js.length ≤ 6 ∧ wr.ownsRow w.heap.size 3 1 v js.length (js.map (Value.int .i64)) ∧ Ext w wr) (fun _ i _ => 6 - (intOf i).toNat)
  case atStart => exact ⟨[], rfl, Nat.zero_le _, World.ownsRow_lit w #[] 0 (Nat.le_refl _) (Nat.zero_le _) rfl, (by repeat (first | (with_reducible first | exact Ext.refl _ | assumption | apply Ext.alloc | apply Ext.drew | apply Ext.drewN | refine Ext.setCell ?_ ?_ _ | refine Ext.trans ?_ (by assumption)) | (show _ ≤ _; first | omega | (dsimp only; omega) | (simp; done) | (simp; omega))))⟩
  case round =>
    obtain ⟨js, rfl, hle, hown, hx⟩ := hrel
    obtain ⟨a, c', rfl⟩ := own_any hown
    have hsz := hx.size
    by_cases hlt : js.length < 6
    · have hlt' : (js.length : Int) < 6 := by omega
      have hlt2 : (js.length : Int) < 12 := by omega
      have e1 : w.cell? ⟨g, js.length, none⟩ = _ := HC.out js.length (by omega)
      have e2 := (hx.cell g js.length hg).trans e1
      have hyy := HY.out js.length
      generalize ys.getD js.length 0 = y at *
      have hT : Int.tmod y 300 = y % 300 := Int.tmod_eq_emod_of_nonneg hyy.1
      have hW : IntKind.i64.wrap (y % 300) = y % 300 := IntWalk.i64_in _ (by omega)
      clear e1
      go_wp2_with (at_builtin; refine wpList_append_own _ rfl (.tmp 10) (.tmp 16) 46 rfl w.heap.size 3 i0 (.int .i64 0) 1 8 Try.underlying46 hi hz0 hz1 hz2 rfl (by decide) _ _ _ rfl (hown.alloc _) ⟨wr.heap.size, 0, none⟩ 1 1 [.int .i64 (y % 300)] rfl rfl ?c1 ?c2 ?c3 ?c4 ?c5 ?_)
      case c1 => exact World.news_of_block (heap_alloc_new wr (Obj.cells #[.int .i64 (y % 300)] 3))
      case c2 => intro u hu; simp at hu; subst hu; rfl
      case c3 => unfold maxLen; omega
      case c4 => omega
      case c5 => simp; omega
      intro v' w4 hown' hgrow _
      have hx1 : Ext w w4 := own_ext_of (hx.alloc _) (hown.alloc _) hgrow (Nat.le_refl _)
      have HO2 := Lib.hid hown'
      clear hown' hgrow hown
      go_wp2
      go_roundw
      case rel => exact ⟨js ++ [y % 300], by simp, by simp; omega, by simpa using HO2.out, hx1⟩
      case measure => simp [intOf]; omega
    · have h6 : js.length = 6 := by omega
      have hlt' : ¬ (js.length : Int) < 6 := by omega
      have HO := Lib.hid hown
      have H6 := Lib.hid h6
      clear hown h6
      go_wp2
      go_ret
      exact ⟨js, a, c', by rw [H6.out]; rfl, H6.out, by have := HO.out; rw [H6.out] at this; exact this, hx⟩
end Go.Proofs.Ytckipgijfgeghaa
