/- The draw of a place. -/
import Derived.Test.YtcinihfjkkaclaaDoorAny
namespace Go.Proofs.YtcinihfjkkaclaaDoor
open Go.RowKit

set_option maxHeartbeats 800000 in
theorem spec_l10Wide (b : Nat) (w : World) (h : Cur w b) :
    Calls Tryd.prog 90 #[.pointer (some ⟨b, 0, none⟩)] w fun e w' => ∃ n : Int, e = .returned (.int .i64 n) ∧ Cur w' b ∧ Mut b w w' := by
  go_enter Tryd.func90, Tryd.ntmps90
  go_wp2_with fail
  refine (spec_l01PickInt b _ [16, 16, 1, 32, 2, 0, 33] _ (h.ext (by repeat (first | (with_reducible first | exact Ext.refl _ | assumption | apply Ext.alloc | apply Ext.drew | apply Ext.drewN | refine Ext.setCell ?_ ?_ _ | refine Ext.trans ?_ (by assumption)) | (show _ ≤ _; first | omega | (dsimp only; omega) | (simp; done) | (simp; omega))))) (by exact ints_lit w [16, 16, 1, 32, 2, 0, 33] 7 _ _ rfl rfl (by omega)) (own_not h.lt) (by decide) (by decide)).mono ?_
  rintro e w1 ⟨s, -, rfl, C1, M1⟩
  have M2 : Mut b w w1 := (Mut.of_ext ((Ext.refl w).alloc _)).trans M1
  go_wp2
  go_ret
  exact ⟨s, rfl, C1, M2⟩
set_option maxRecDepth 100000 in
set_option maxHeartbeats 1600000 in
theorem spec_DrawNodeHash (v : Value) (bs : List Int) (w : World) (h : Code w w.heap.size v bs) (hl : bs.length ≤ 1048576) :
    Calls Tryd.prog 29 #[v] w fun e w' => ∃ (xs : List Leaf) (a : Option Addr) (c : Nat) (l p wd : Int), e = .returned (.tuple #[.slice a xs.length c, .int .i64 l, .int .i64 p, .int .i64 wd]) ∧ LeafFit xs ∧ OwnLvs w' w.heap.size (.slice a xs.length c) xs ∧ Ext w w' := by
  go_enter Tryd.func29, Tryd.ntmps29
  go_wp2_with fail
  refine (spec_l01New v bs _ h hl).mono ?_
  rintro e w1 ⟨rfl, C1, x1⟩
  have s1 := x1.size
  have hb1 := C1.lt
  go_wp2_with fail
  refine (spec_l01PickInt w.heap.size _ [0, 1, 2, 3, 8, 7, 9, -1] _ (C1.ext (by repeat (first | (with_reducible first | exact Ext.refl _ | assumption | apply Ext.alloc | apply Ext.drew | apply Ext.drewN | refine Ext.setCell ?_ ?_ _ | refine Ext.trans ?_ (by assumption)) | (show _ ≤ _; first | omega | (dsimp only; omega) | (simp; done) | (simp; omega))))) (by exact ints_lit w1 [0, 1, 2, 3, 8, 7, 9, -1] 8 _ _ rfl rfl (by omega)) (own_not hb1) (by decide) (by decide)).mono ?_
  rintro e w2 ⟨l, hl2, rfl, C2, M2⟩
  have hlb : -1 ≤ l ∧ l ≤ 9 := by revert hl2; revert l; decide
  clear hl2
  have X2 : Ext w w2 := (x1.alloc _).mut M2 (Nat.le_refl _)
  go_wp2_with fail
  refine (spec_l10Wide _ _ C2).mono ?_
  rintro e w3 ⟨wd, rfl, C3, M3⟩
  have X3 := X2.mut M3 (Nat.le_refl _)
  go_wp2_with fail
  refine (spec_l04Name _ _ C3).mono ?_
  rintro e w4 ⟨nm, rfl, hnm, C4, M4⟩
  have X4 := X3.mut M4 (Nat.le_refl _)
  have hn12 := name_12 hnm
  clear hnm
  go_wp2_with fail
  refine (spec_IndexOf nm _ (by omega)).mono ?_
  have hib := idxT_bd nm
  generalize idxT nm = ix at *
  rintro e w5 ⟨rfl, x5⟩
  have C5 := C4.ext x5
  have X5 := X4.trans x5
  have s5 := X5.size
  by_cases hin : 0 ≤ l ∧ l ≤ 8
  · obtain ⟨h0, h8⟩ := hin
    go_wp2_with fail
    refine (spec_l01Once _ 12 _ C5 (by omega)).mono ?_
    rintro e w6 ⟨q, rfl, C6, M6⟩
    have X6 := X5.mut M6 (Nat.le_refl _)
    have s6 := X6.size
    cases q
    · go_wp2_with fail
      refine (spec_l09Any _ _ C6).mono ?_
      rintro e w8 ⟨xs, a, c, rfl, hf, -, hown, C8, M8⟩
      have X8 := X6.mut M8 (Nat.le_refl _)
      have HF := Lib.hid hf
      have HO := Lib.hid (own_mono hown s6)
      clear hf hown
      go_wp2
      refine bodyPost_ret (v := .tuple #[.slice a xs.length c, .int .i64 l, .int .i64 _, .int .i64 wd]) (by simp [results, Tryd.results29, go_sem]; rfl) rfl ⟨xs, a, c, l, _, wd, rfl, HF.out, HO.out, X8⟩
    · go_wp2_with fail
      refine (spec_l01PickInt w.heap.size _ [-1, 256, 1] _ (C6.ext (by repeat (first | (with_reducible first | exact Ext.refl _ | assumption | apply Ext.alloc | apply Ext.drew | apply Ext.drewN | refine Ext.setCell ?_ ?_ _ | refine Ext.trans ?_ (by assumption)) | (show _ ≤ _; first | omega | (dsimp only; omega) | (simp; done) | (simp; omega))))) (by exact ints_lit w6 [-1, 256, 1] 3 _ _ rfl rfl (by omega)) (own_not C6.lt) (by decide) (by decide)).mono ?_
      rintro e w7 ⟨pl, -, rfl, C7, M7⟩
      have X7 : Ext w w7 := (X6.alloc _).mut M7 (Nat.le_refl _)
      have s7 := X7.size
      go_wp2_with fail
      refine (spec_l09Any _ _ C7).mono ?_
      rintro e w8 ⟨xs, a, c, rfl, hf, -, hown, C8, M8⟩
      have X8 := X7.mut M8 (Nat.le_refl _)
      have HF := Lib.hid hf
      have HO := Lib.hid (own_mono hown s7)
      clear hf hown
      go_wp2
      refine bodyPost_ret (v := .tuple #[.slice a xs.length c, .int .i64 l, .int .i64 pl, .int .i64 wd]) (by simp [results, Tryd.results29, go_sem]) rfl ⟨xs, a, c, l, pl, wd, rfl, HF.out, HO.out, X8⟩
  · rcases (show (¬ 0 ≤ l) ∨ (0 ≤ l ∧ ¬ l ≤ 8) by omega) with h0 | ⟨h0, h8⟩
    all_goals
      clear hin
      go_wp2_with fail
      refine (spec_l01Once _ 12 _ C5 (by omega)).mono ?_
      rintro e w6 ⟨q, rfl, C6, M6⟩
      have X6 := X5.mut M6 (Nat.le_refl _)
      have s6 := X6.size
      cases q
      · go_wp2_with fail
        refine (spec_l09Any _ _ C6).mono ?_
        rintro e w8 ⟨xs, a, c, rfl, hf, -, hown, C8, M8⟩
        have X8 := X6.mut M8 (Nat.le_refl _)
        have HF := Lib.hid hf
        have HO := Lib.hid (own_mono hown s6)
        clear hf hown
        go_wp2
        refine bodyPost_ret (v := .tuple #[.slice a xs.length c, .int .i64 l, .int .i64 0, .int .i64 wd]) (by simp [results, Tryd.results29, go_sem]) rfl ⟨xs, a, c, l, 0, wd, rfl, HF.out, HO.out, X8⟩
      · go_wp2_with fail
        refine (spec_l01PickInt w.heap.size _ [-1, 256, 1] _ (C6.ext (by repeat (first | (with_reducible first | exact Ext.refl _ | assumption | apply Ext.alloc | apply Ext.drew | apply Ext.drewN | refine Ext.setCell ?_ ?_ _ | refine Ext.trans ?_ (by assumption)) | (show _ ≤ _; first | omega | (dsimp only; omega) | (simp; done) | (simp; omega))))) (by exact ints_lit w6 [-1, 256, 1] 3 _ _ rfl rfl (by omega)) (own_not C6.lt) (by decide) (by decide)).mono ?_
        rintro e w7 ⟨pl, -, rfl, C7, M7⟩
        have X7 : Ext w w7 := (X6.alloc _).mut M7 (Nat.le_refl _)
        have s7 := X7.size
        go_wp2_with fail
        refine (spec_l09Any _ _ C7).mono ?_
        rintro e w8 ⟨xs, a, c, rfl, hf, -, hown, C8, M8⟩
        have X8 := X7.mut M8 (Nat.le_refl _)
        have HF := Lib.hid hf
        have HO := Lib.hid (own_mono hown s7)
        clear hf hown
        go_wp2
        refine bodyPost_ret (v := .tuple #[.slice a xs.length c, .int .i64 l, .int .i64 pl, .int .i64 wd]) (by simp [results, Tryd.results29, go_sem]) rfl ⟨xs, a, c, l, pl, wd, rfl, HF.out, HO.out, X8⟩
end Go.Proofs.YtcinihfjkkaclaaDoor
