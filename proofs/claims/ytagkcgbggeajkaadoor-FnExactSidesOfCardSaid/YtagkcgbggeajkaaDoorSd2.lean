/- SidesOf: both. -/
import Derived.Test.YtagkcgbggeajkaaDoorSd
import Derived.Test.YtagkcgbggeajkaaDoorOff
import Derived.Maps.AppendAt
namespace Go.Proofs.YtagkcgbggeajkaaDoor
open Go.RowKit

set_option maxRecDepth 100000 in
set_option maxHeartbeats 3200000 in
theorem spec_l10SpotsO (v : Value) (xs : List Leaf) (w : World) (h : Lvs w v xs) (hn : NamesFit xs) (hb : xs.length ≤ 1000) :
    Calls Tryd.prog 59 #[v] w fun e w' => ∃ a c, e = .returned (.slice a xs.length c) ∧ w'.ownsRow w.heap.size 110 3 (.slice a xs.length c) xs.length (xs.flatMap spotC) ∧ Ext w w' := by
  obtain ⟨i0, hi, hz0, hz1, hz2⟩ := info_parts infoSpot
  obtain ⟨-, a1, c1, rfl, hc1, hm1, g1⟩ := h
  unfold maxLen at hm1
  have HN := Lib.hid hn
  clear hn
  go_enter Tryd.func59, Tryd.ntmps59
  go_wp2
  go_loopw [3, 4] (fun v i wr => ∃ j : Nat, j ≤ xs.length ∧ i = .int .i64 j ∧ wr.ownsRow w.heap.size 110 3 v j ((xs.take j).flatMap spotC) ∧ Ext w wr) (fun _ i _ => xs.length - (intOf i).toNat)
  case atStart => exact ⟨0, Nat.zero_le _, rfl, World.ownsRow_lit w #[] 0 (Nat.le_refl _) (Nat.zero_le _) rfl, (by repeat (first | (with_reducible first | exact Ext.refl _ | assumption | apply Ext.alloc | apply Ext.drew | apply Ext.drewN | refine Ext.setCell ?_ ?_ _ | refine Ext.trans ?_ (by assumption)) | (show _ ≤ _; first | omega | (dsimp only; omega) | (simp; done) | (simp; omega))))⟩
  case round =>
    obtain ⟨j, hj, rfl, hown, hx⟩ := hrel
    obtain ⟨a, c, rfl⟩ := own_any hown
    have hsz := hx.size
    by_cases hlt : j < xs.length
    · rcases g1 with g1 | ⟨b1, o1, rfl, hb1, g1⟩
      · omega
      have f1 := Lib.hid (g1 _ _ (leaf_c0 xs j hlt))
      have f2 := Lib.hid (g1 _ _ (leaf_c1 xs j hlt))
      have e1 : wr.cell? ⟨b1, o1 + j * 2, none⟩ = some (.string xs[j].name) := (hx.cell b1 _ hb1).trans f1.out
      have e2 : wr.cell? ⟨b1, o1 + j * 2 + 1, none⟩ = some (.string xs[j].value) := (hx.cell b1 _ hb1).trans f2.out
      have l1 : b1 < wr.heap.size := Nat.lt_of_lt_of_le hb1 hsz
      have hnm := HN.out xs[j] (List.getElem_mem hlt)
      have HU := Lib.hid (take_flat_succ spotC xs j hlt)
      have HO := Lib.hid hown
      have hi0 : (0 : Int) ≤ (j : Int) := by omega
      have hi1 : (j : Int) < (xs.length : Int) := by omega
      clear g1 hown
      generalize xs[j] = z at *
      go_wp2_with fail
      go_region_held3 (fun W => W.cell? ⟨b1, o1 + j * 2, none⟩ = some (.string z.name) ∧ W.cell? ⟨b1, o1 + j * 2 + 1, none⟩ = some (.string z.value)) (first | exact ⟨e1, e2⟩ | exact ⟨d1, d2⟩ | exact ⟨cell_new1 d1 l2, cell_new1 d2 l2⟩ | exact ⟨(y9.cell b1 _ hb1).trans f1.out, (y9.cell b1 _ hb1).trans f2.out⟩) (first | (go_at_call 73; refine (spec_IndexOf z.name _ hnm).mono ?_; rintro e w1 ⟨rfl, x1⟩; have y1 : Ext wr w1 := (by repeat (first | (with_reducible first | exact Ext.refl _ | assumption | apply Ext.alloc | apply Ext.drew | apply Ext.drewN | refine Ext.setCell ?_ ?_ _ | refine Ext.trans ?_ (by assumption)) | (show _ ≤ _; first | omega | (dsimp only; omega) | (simp; done) | (simp; omega)))); have l2 := Nat.lt_of_lt_of_le l1 y1.size; have z1 := y1.size; have d1 := (y1.cell _ _ l1).trans e1; have d2 := (y1.cell _ _ l1).trans e2) | (refine step_append_lies _ rfl (.tmp 12) (.tmp 24) 79 (by rfl) w.heap.size 110 i0 (.agg #[.string ⟨#[]⟩, .string ⟨#[]⟩, .int .i64 0]) 3 40 Tryd.underlying79 hi hz0 hz1 hz2 rfl (by decide) _ _ _ (by rfl) (own_alloc (own_ext HO.out y1) _) ⟨w1.heap.size, 0, none⟩ 1 1 (spotC z) (by rfl) rfl (World.news_of_block (heap_alloc_new w1 (Obj.cells #[Value.string z.name, Value.string z.value, Value.int .i64 (idxT z.name)] 110))) (spot_one z) (by decide) (by unfold maxLen; omega) (by omega) (by simp; omega) _ rfl ?_; intro g cap w9 hown9 hgrow _ _; have y9 : Ext w w9 := own_ext_of ((hx.trans y1).alloc _) (own_alloc (own_ext HO.out y1) _) hgrow (Nat.le_refl _); have HO9 := Lib.hid hown9; clear hown9 hgrow))
      all_goals
        go_wp2
        go_roundw
        case rel => exact ⟨j + 1, by omega, by go_num, by rw [HU.out]; exact HO9.out, y9⟩
        case measure => simp [intOf]; omega
    · obtain rfl : j = xs.length := by omega
      rw [List.take_length] at hown
      have HO := Lib.hid hown
      clear hown g1
      go_wp2
      go_ret
      exact ⟨_, _, rfl, HO.out, hx⟩

set_option maxRecDepth 100000 in
set_option maxHeartbeats 1600000 in
theorem impl_SidesOf (v : Value) (xs : List Leaf) (i l wd : Int) (w : World) (h : Lvs w v xs) (hf : LeafFit xs) (hT : Tabs w) :
    Calls Tryd.prog 31 #[v, .int .i64 i, .int .i64 l, .int .i64 wd] w fun e w' => ∃ a c, e = .returned (.slice a (sdF xs i l wd).length c) ∧ OwnStrs w' w.heap.size (.slice a (sdF xs i l wd).length c) (sdF xs i l wd) ∧ Ext w w' := by
  have HT := Lib.hid hT
  clear hT
  obtain ⟨a, c, rfl⟩ := h.form
  cases h1 : leavesOk xs
  · have R := Lib.hid (sdF_no1 (i := i) (l := l) (wd := wd) h1)
    have H1 := Lib.hid h1
    clear h1
    go_enter Tryd.func31, Tryd.ntmps31
    go_wp2_with fail
    refine (impl_LeavesOk _ xs _ (h.ext (by repeat (first | (with_reducible first | exact Ext.refl _ | assumption | apply Ext.alloc | apply Ext.drew | apply Ext.drewN | refine Ext.setCell ?_ ?_ _ | refine Ext.trans ?_ (by assumption)) | (show _ ≤ _; first | omega | (dsimp only; omega) | (simp; done) | (simp; omega))))) hf).mono ?_; rw [H1.out]; rintro e w1 ⟨rfl, x1⟩
    go_wp2
    go_ret
    exact ⟨none, 0, by rw [R.out]; rfl, by rw [R.out]; exact World.ownsRow_nil _ _ _ _, (by repeat (first | (with_reducible first | exact Ext.refl _ | assumption | apply Ext.alloc | apply Ext.drew | apply Ext.drewN | refine Ext.setCell ?_ ?_ _ | refine Ext.trans ?_ (by assumption)) | (show _ ≤ _; first | omega | (dsimp only; omega) | (simp; done) | (simp; omega))))⟩
  cases h2 : inB i 0 255
  · have R := Lib.hid (sdF_no2 (xs := xs) (l := l) (wd := wd) h2)
    have H1 := Lib.hid h1
    have H2 := Lib.hid h2
    clear h1 h2
    go_enter Tryd.func31, Tryd.ntmps31
    go_wp2_with fail
    refine (impl_LeavesOk _ xs _ (h.ext (by repeat (first | (with_reducible first | exact Ext.refl _ | assumption | apply Ext.alloc | apply Ext.drew | apply Ext.drewN | refine Ext.setCell ?_ ?_ _ | refine Ext.trans ?_ (by assumption)) | (show _ ≤ _; first | omega | (dsimp only; omega) | (simp; done) | (simp; omega))))) hf).mono ?_; rw [H1.out]; rintro e w1 ⟨rfl, x1⟩
    go_wp2_with fail
    refine (impl_in _ _ _ _).mono ?_; rw [H2.out]; rintro e w' ⟨rfl, rfl⟩
    go_wp2
    go_ret
    exact ⟨none, 0, by rw [R.out]; rfl, by rw [R.out]; exact World.ownsRow_nil _ _ _ _, (by repeat (first | (with_reducible first | exact Ext.refl _ | assumption | apply Ext.alloc | apply Ext.drew | apply Ext.drewN | refine Ext.setCell ?_ ?_ _ | refine Ext.trans ?_ (by assumption)) | (show _ ≤ _; first | omega | (dsimp only; omega) | (simp; done) | (simp; omega))))⟩
  cases h3 : inB l 0 8
  · have R := Lib.hid (sdF_no3 (xs := xs) (i := i) (wd := wd) h3)
    have H1 := Lib.hid h1
    have H2 := Lib.hid h2
    have H3 := Lib.hid h3
    clear h1 h2 h3
    go_enter Tryd.func31, Tryd.ntmps31
    go_wp2_with fail
    refine (impl_LeavesOk _ xs _ (h.ext (by repeat (first | (with_reducible first | exact Ext.refl _ | assumption | apply Ext.alloc | apply Ext.drew | apply Ext.drewN | refine Ext.setCell ?_ ?_ _ | refine Ext.trans ?_ (by assumption)) | (show _ ≤ _; first | omega | (dsimp only; omega) | (simp; done) | (simp; omega))))) hf).mono ?_; rw [H1.out]; rintro e w1 ⟨rfl, x1⟩
    go_wp2_with fail
    refine (impl_in _ _ _ _).mono ?_; rw [H2.out]; rintro e w' ⟨rfl, rfl⟩
    go_wp2_with fail
    refine (impl_in _ _ _ _).mono ?_; rw [H3.out]; rintro e w' ⟨rfl, rfl⟩
    go_wp2
    go_ret
    exact ⟨none, 0, by rw [R.out]; rfl, by rw [R.out]; exact World.ownsRow_nil _ _ _ _, (by repeat (first | (with_reducible first | exact Ext.refl _ | assumption | apply Ext.alloc | apply Ext.drew | apply Ext.drewN | refine Ext.setCell ?_ ?_ _ | refine Ext.trans ?_ (by assumption)) | (show _ ≤ _; first | omega | (dsimp only; omega) | (simp; done) | (simp; omega))))⟩
  cases h4 : inB wd 1 32
  · have R := Lib.hid (sdF_no4 (xs := xs) (i := i) (l := l) h4)
    have H1 := Lib.hid h1
    have H2 := Lib.hid h2
    have H3 := Lib.hid h3
    have H4 := Lib.hid h4
    clear h1 h2 h3 h4
    go_enter Tryd.func31, Tryd.ntmps31
    go_wp2_with fail
    refine (impl_LeavesOk _ xs _ (h.ext (by repeat (first | (with_reducible first | exact Ext.refl _ | assumption | apply Ext.alloc | apply Ext.drew | apply Ext.drewN | refine Ext.setCell ?_ ?_ _ | refine Ext.trans ?_ (by assumption)) | (show _ ≤ _; first | omega | (dsimp only; omega) | (simp; done) | (simp; omega))))) hf).mono ?_; rw [H1.out]; rintro e w1 ⟨rfl, x1⟩
    go_wp2_with fail
    refine (impl_in _ _ _ _).mono ?_; rw [H2.out]; rintro e w' ⟨rfl, rfl⟩
    go_wp2_with fail
    refine (impl_in _ _ _ _).mono ?_; rw [H3.out]; rintro e w' ⟨rfl, rfl⟩
    go_wp2_with fail
    refine (impl_isWide _ _).mono ?_; rw [H4.out]; rintro e w' ⟨rfl, rfl⟩
    go_wp2
    go_ret
    exact ⟨none, 0, by rw [R.out]; rfl, by rw [R.out]; exact World.ownsRow_nil _ _ _ _, (by repeat (first | (with_reducible first | exact Ext.refl _ | assumption | apply Ext.alloc | apply Ext.drew | apply Ext.drewN | refine Ext.setCell ?_ ?_ _ | refine Ext.trans ?_ (by assumption)) | (show _ ≤ _; first | omega | (dsimp only; omega) | (simp; done) | (simp; omega))))⟩
  have R0 := sdF_yes h1 h2 h3 h4
  obtain ⟨b1, b2⟩ := inB_true.1 h3
  obtain ⟨k, rfl⟩ := Int.eq_ofNat_of_zero_le b1
  have hk8 : k ≤ 8 := by omega
  rw [show (8 - (k : Int)).toNat = 8 - k by omega] at R0
  have R := Lib.hid R0
  have RL := Lib.hid (show (sdF xs i k wd).length = 8 - k by rw [R0, sdL_len])
  have hib := inB_true.1 h2
  have H1 := Lib.hid h1
  have H2 := Lib.hid h2
  have H3 := Lib.hid h3
  have H4 := Lib.hid h4
  have hx24 := (leavesOk_small h1).1
  have hnm := names_ok h1
  clear h1 h2 h3 h4 R0
  go_enter Tryd.func31, Tryd.ntmps31
  go_wp2_with fail
  refine (impl_LeavesOk _ xs _ (h.ext (by repeat (first | (with_reducible first | exact Ext.refl _ | assumption | apply Ext.alloc | apply Ext.drew | apply Ext.drewN | refine Ext.setCell ?_ ?_ _ | refine Ext.trans ?_ (by assumption)) | (show _ ≤ _; first | omega | (dsimp only; omega) | (simp; done) | (simp; omega))))) hf).mono ?_; rw [H1.out]; rintro e w1 ⟨rfl, x1⟩
  go_wp2_with fail
  refine (impl_in _ _ _ _).mono ?_; rw [H2.out]; rintro e w' ⟨rfl, rfl⟩
  go_wp2_with fail
  refine (impl_in _ _ _ _).mono ?_; rw [H3.out]; rintro e w' ⟨rfl, rfl⟩
  go_wp2_with fail
  refine (impl_isWide _ _).mono ?_; rw [H4.out]; rintro e w' ⟨rfl, rfl⟩
  go_wp2_with fail
  refine (impl_newGrove _ xs wd _ (h.ext (by repeat (first | (with_reducible first | exact Ext.refl _ | assumption | apply Ext.alloc | apply Ext.drew | apply Ext.drewN | refine Ext.setCell ?_ ?_ _ | refine Ext.trans ?_ (by assumption)) | (show _ ≤ _; first | omega | (dsimp only; omega) | (simp; done) | (simp; omega))))) hnm (by omega) (by exact HT.out.ext (by repeat (first | (with_reducible first | exact Ext.refl _ | assumption | apply Ext.alloc | apply Ext.drew | apply Ext.drewN | refine Ext.setCell ?_ ?_ _ | refine Ext.trans ?_ (by assumption)) | (show _ ≤ _; first | omega | (dsimp only; omega) | (simp; done) | (simp; omega)))))).mono ?_
  rintro e w2 ⟨a2, c2, rfl, r2, x2⟩
  go_wp2_with fail
  refine (impl_sides xs wd i k _ _ _ H1.out hib hk8 (h.ext (by repeat (first | (with_reducible first | exact Ext.refl _ | assumption | apply Ext.alloc | apply Ext.drew | apply Ext.drewN | refine Ext.setCell ?_ ?_ _ | refine Ext.trans ?_ (by assumption)) | (show _ ≤ _; first | omega | (dsimp only; omega) | (simp; done) | (simp; omega))))) r2 (by exact HT.out.ext (by repeat (first | (with_reducible first | exact Ext.refl _ | assumption | apply Ext.alloc | apply Ext.drew | apply Ext.drewN | refine Ext.setCell ?_ ?_ _ | refine Ext.trans ?_ (by assumption)) | (show _ ≤ _; first | omega | (dsimp only; omega) | (simp; done) | (simp; omega)))))).mono ?_
  rintro e w3 ⟨a3, c3, rfl, o3, x3⟩
  have y2 : Ext w w2 := (by repeat (first | (with_reducible first | exact Ext.refl _ | assumption | apply Ext.alloc | apply Ext.drew | apply Ext.drewN | refine Ext.setCell ?_ ?_ _ | refine Ext.trans ?_ (by assumption)) | (show _ ≤ _; first | omega | (dsimp only; omega) | (simp; done) | (simp; omega))))
  have O3 := Lib.hid o3
  clear o3
  go_wp2
  go_ret
  refine ⟨a3, c3, by rw [RL.out]; rfl, ?_, (by repeat (first | (with_reducible first | exact Ext.refl _ | assumption | apply Ext.alloc | apply Ext.drew | apply Ext.drewN | refine Ext.setCell ?_ ?_ _ | refine Ext.trans ?_ (by assumption)) | (show _ ≤ _; first | omega | (dsimp only; omega) | (simp; done) | (simp; omega))))⟩
  rw [RL.out, R.out]
  exact O3.out.mono y2.size

set_option maxRecDepth 100000 in
set_option maxHeartbeats 1600000 in
theorem spec_SidesOf (v : Value) (xs : List Leaf) (i l wd : Int) (w : World) (h : Lvs w v xs) (hf : LeafFit xs) :
    Calls Tryd.prog 30 #[v, .int .i64 i, .int .i64 l, .int .i64 wd] w fun e w' => ∃ a c, e = .returned (.slice a (sdF xs i l wd).length c) ∧ OwnStrs w' w.heap.size (.slice a (sdF xs i l wd).length c) (sdF xs i l wd) ∧ Ext w w' := by
  obtain ⟨a, c, rfl⟩ := h.form
  have HLIT := Lib.hid (show OwnStrs (w.alloc (Obj.cells #[] 9)) w.heap.size (.slice (some ⟨w.heap.size, 0, none⟩) 0 0) [] from World.ownsRow_lit w #[] 0 (Nat.le_refl _) (Nat.zero_le _) rfl)
  cases h1 : leavesOk xs
  · have R := Lib.hid (sdF_no1 (i := i) (l := l) (wd := wd) h1)
    have H1 := Lib.hid h1
    clear h1
    go_enter Tryd.func30, Tryd.ntmps30
    go_wp2_with fail
    refine (spec_LeavesOk _ xs _ (h.ext (by repeat (first | (with_reducible first | exact Ext.refl _ | assumption | apply Ext.alloc | apply Ext.drew | apply Ext.drewN | refine Ext.setCell ?_ ?_ _ | refine Ext.trans ?_ (by assumption)) | (show _ ≤ _; first | omega | (dsimp only; omega) | (simp; done) | (simp; omega))))) hf).mono ?_; rw [H1.out]; rintro e w1 ⟨rfl, x1⟩
    go_wp2
    go_ret
    exact ⟨_, _, by rw [R.out]; rfl, by rw [R.out]; exact HLIT.out.ext (by repeat (first | (with_reducible first | exact Ext.refl _ | assumption | apply Ext.alloc | apply Ext.drew | apply Ext.drewN | refine Ext.setCell ?_ ?_ _ | refine Ext.trans ?_ (by assumption)) | (show _ ≤ _; first | omega | (dsimp only; omega) | (simp; done) | (simp; omega)))), (by repeat (first | (with_reducible first | exact Ext.refl _ | assumption | apply Ext.alloc | apply Ext.drew | apply Ext.drewN | refine Ext.setCell ?_ ?_ _ | refine Ext.trans ?_ (by assumption)) | (show _ ≤ _; first | omega | (dsimp only; omega) | (simp; done) | (simp; omega))))⟩
  cases h2 : inB i 0 255
  · have R := Lib.hid (sdF_no2 (xs := xs) (l := l) (wd := wd) h2)
    have H1 := Lib.hid h1
    have H2 := Lib.hid h2
    clear h1 h2
    go_enter Tryd.func30, Tryd.ntmps30
    go_wp2_with fail
    refine (spec_LeavesOk _ xs _ (h.ext (by repeat (first | (with_reducible first | exact Ext.refl _ | assumption | apply Ext.alloc | apply Ext.drew | apply Ext.drewN | refine Ext.setCell ?_ ?_ _ | refine Ext.trans ?_ (by assumption)) | (show _ ≤ _; first | omega | (dsimp only; omega) | (simp; done) | (simp; omega))))) hf).mono ?_; rw [H1.out]; rintro e w1 ⟨rfl, x1⟩
    go_wp2_with fail
    refine (spec_l01In _ _ _ _).mono ?_; rw [H2.out]; rintro e w' ⟨rfl, rfl⟩
    go_wp2
    go_ret
    exact ⟨_, _, by rw [R.out]; rfl, by rw [R.out]; exact HLIT.out.ext (by repeat (first | (with_reducible first | exact Ext.refl _ | assumption | apply Ext.alloc | apply Ext.drew | apply Ext.drewN | refine Ext.setCell ?_ ?_ _ | refine Ext.trans ?_ (by assumption)) | (show _ ≤ _; first | omega | (dsimp only; omega) | (simp; done) | (simp; omega)))), (by repeat (first | (with_reducible first | exact Ext.refl _ | assumption | apply Ext.alloc | apply Ext.drew | apply Ext.drewN | refine Ext.setCell ?_ ?_ _ | refine Ext.trans ?_ (by assumption)) | (show _ ≤ _; first | omega | (dsimp only; omega) | (simp; done) | (simp; omega))))⟩
  cases h3 : inB l 0 8
  · have R := Lib.hid (sdF_no3 (xs := xs) (i := i) (wd := wd) h3)
    have H1 := Lib.hid h1
    have H2 := Lib.hid h2
    have H3 := Lib.hid h3
    clear h1 h2 h3
    go_enter Tryd.func30, Tryd.ntmps30
    go_wp2_with fail
    refine (spec_LeavesOk _ xs _ (h.ext (by repeat (first | (with_reducible first | exact Ext.refl _ | assumption | apply Ext.alloc | apply Ext.drew | apply Ext.drewN | refine Ext.setCell ?_ ?_ _ | refine Ext.trans ?_ (by assumption)) | (show _ ≤ _; first | omega | (dsimp only; omega) | (simp; done) | (simp; omega))))) hf).mono ?_; rw [H1.out]; rintro e w1 ⟨rfl, x1⟩
    go_wp2_with fail
    refine (spec_l01In _ _ _ _).mono ?_; rw [H2.out]; rintro e w' ⟨rfl, rfl⟩
    go_wp2_with fail
    refine (spec_l01In _ _ _ _).mono ?_; rw [H3.out]; rintro e w' ⟨rfl, rfl⟩
    go_wp2
    go_ret
    exact ⟨_, _, by rw [R.out]; rfl, by rw [R.out]; exact HLIT.out.ext (by repeat (first | (with_reducible first | exact Ext.refl _ | assumption | apply Ext.alloc | apply Ext.drew | apply Ext.drewN | refine Ext.setCell ?_ ?_ _ | refine Ext.trans ?_ (by assumption)) | (show _ ≤ _; first | omega | (dsimp only; omega) | (simp; done) | (simp; omega)))), (by repeat (first | (with_reducible first | exact Ext.refl _ | assumption | apply Ext.alloc | apply Ext.drew | apply Ext.drewN | refine Ext.setCell ?_ ?_ _ | refine Ext.trans ?_ (by assumption)) | (show _ ≤ _; first | omega | (dsimp only; omega) | (simp; done) | (simp; omega))))⟩
  cases h4 : inB wd 1 32
  · have R := Lib.hid (sdF_no4 (xs := xs) (i := i) (l := l) h4)
    have H1 := Lib.hid h1
    have H2 := Lib.hid h2
    have H3 := Lib.hid h3
    have H4 := Lib.hid h4
    clear h1 h2 h3 h4
    go_enter Tryd.func30, Tryd.ntmps30
    go_wp2_with fail
    refine (spec_LeavesOk _ xs _ (h.ext (by repeat (first | (with_reducible first | exact Ext.refl _ | assumption | apply Ext.alloc | apply Ext.drew | apply Ext.drewN | refine Ext.setCell ?_ ?_ _ | refine Ext.trans ?_ (by assumption)) | (show _ ≤ _; first | omega | (dsimp only; omega) | (simp; done) | (simp; omega))))) hf).mono ?_; rw [H1.out]; rintro e w1 ⟨rfl, x1⟩
    go_wp2_with fail
    refine (spec_l01In _ _ _ _).mono ?_; rw [H2.out]; rintro e w' ⟨rfl, rfl⟩
    go_wp2_with fail
    refine (spec_l01In _ _ _ _).mono ?_; rw [H3.out]; rintro e w' ⟨rfl, rfl⟩
    go_wp2_with fail
    refine (spec_l01In _ _ _ _).mono ?_; rw [H4.out]; rintro e w' ⟨rfl, rfl⟩
    go_wp2
    go_ret
    exact ⟨_, _, by rw [R.out]; rfl, by rw [R.out]; exact HLIT.out.ext (by repeat (first | (with_reducible first | exact Ext.refl _ | assumption | apply Ext.alloc | apply Ext.drew | apply Ext.drewN | refine Ext.setCell ?_ ?_ _ | refine Ext.trans ?_ (by assumption)) | (show _ ≤ _; first | omega | (dsimp only; omega) | (simp; done) | (simp; omega)))), (by repeat (first | (with_reducible first | exact Ext.refl _ | assumption | apply Ext.alloc | apply Ext.drew | apply Ext.drewN | refine Ext.setCell ?_ ?_ _ | refine Ext.trans ?_ (by assumption)) | (show _ ≤ _; first | omega | (dsimp only; omega) | (simp; done) | (simp; omega))))⟩
  have R0 := sdF_yes h1 h2 h3 h4
  obtain ⟨b1, b2⟩ := inB_true.1 h3
  obtain ⟨k, rfl⟩ := Int.eq_ofNat_of_zero_le b1
  have hk8 : k ≤ 8 := by omega
  rw [show (8 - (k : Int)).toNat = 8 - k by omega] at R0
  have R := Lib.hid R0
  have RL := Lib.hid (show (sdF xs i k wd).length = 8 - k by rw [R0, sdL_len])
  have hib := inB_true.1 h2
  have H1 := Lib.hid h1
  have H2 := Lib.hid h2
  have H3 := Lib.hid h3
  have H4 := Lib.hid h4
  have hx24 := (leavesOk_small h1).1
  have hnm := names_ok h1
  clear h1 h2 h3 h4 R0
  go_enter Tryd.func30, Tryd.ntmps30
  go_wp2_with fail
  refine (spec_LeavesOk _ xs _ (h.ext (by repeat (first | (with_reducible first | exact Ext.refl _ | assumption | apply Ext.alloc | apply Ext.drew | apply Ext.drewN | refine Ext.setCell ?_ ?_ _ | refine Ext.trans ?_ (by assumption)) | (show _ ≤ _; first | omega | (dsimp only; omega) | (simp; done) | (simp; omega))))) hf).mono ?_; rw [H1.out]; rintro e w1 ⟨rfl, x1⟩
  go_wp2_with fail
  refine (spec_l01In _ _ _ _).mono ?_; rw [H2.out]; rintro e w' ⟨rfl, rfl⟩
  go_wp2_with fail
  refine (spec_l01In _ _ _ _).mono ?_; rw [H3.out]; rintro e w' ⟨rfl, rfl⟩
  go_wp2_with fail
  refine (spec_l01In _ _ _ _).mono ?_; rw [H4.out]; rintro e w' ⟨rfl, rfl⟩
  obtain ⟨i0, hi0, hz0, hz1, hz2⟩ := info_parts infoString
  have O1 := Lib.hid (HLIT.out.ext x1)
  have z1 : Ext w w1 := (by repeat (first | (with_reducible first | exact Ext.refl _ | assumption | apply Ext.alloc | apply Ext.drew | apply Ext.drewN | refine Ext.setCell ?_ ?_ _ | refine Ext.trans ?_ (by assumption)) | (show _ ≤ _; first | omega | (dsimp only; omega) | (simp; done) | (simp; omega))))
  have lw1 : w.heap.size < w1.heap.size := (World.ownsRow.lt O1.out w.heap.size rfl).2
  clear HLIT
  go_wp2_with fail
  refine (spec_l10SpotsO _ xs _ (h.ext (by repeat (first | (with_reducible first | exact Ext.refl _ | assumption | apply Ext.alloc | apply Ext.drew | apply Ext.drewN | refine Ext.setCell ?_ ?_ _ | refine Ext.trans ?_ (by assumption)) | (show _ ≤ _; first | omega | (dsimp only; omega) | (simp; done) | (simp; omega))))) hnm (by omega)).mono ?_
  rintro e w2 ⟨a2, c2, rfl, o2, x2⟩
  go_wp2_with fail
  refine (spec_l10Empties wd _).mono ?_
  rintro e w3 ⟨a3, c3, rfl, o3, x3⟩
  have z3 : Ext w1 w3 := (by repeat (first | (with_reducible first | exact Ext.refl _ | assumption | apply Ext.alloc | apply Ext.drew | apply Ext.drewN | refine Ext.setCell ?_ ?_ _ | refine Ext.trans ?_ (by assumption)) | (show _ ≤ _; first | omega | (dsimp only; omega) | (simp; done) | (simp; omega))))
  have zw : Ext w w3 := (by repeat (first | (with_reducible first | exact Ext.refl _ | assumption | apply Ext.alloc | apply Ext.drew | apply Ext.drewN | refine Ext.setCell ?_ ?_ _ | refine Ext.trans ?_ (by assumption)) | (show _ ≤ _; first | omega | (dsimp only; omega) | (simp; done) | (simp; omega))))
  have O3 := Lib.hid (O1.out.ext z3)
  have hoa : Off (.slice (some ⟨w.heap.size, 0, none⟩) 0 0) (.slice a2 xs.length c2) := fun g hg hr => by
    have e1 : w.heap.size = g := Option.some.inj hg
    have e2 := (own_lt o2 g hr).1
    omega
  have lw2 : w1.heap.size ≤ w2.heap.size := Ext.size (show Ext w1 w2 from (by repeat (first | (with_reducible first | exact Ext.refl _ | assumption | apply Ext.alloc | apply Ext.drew | apply Ext.drewN | refine Ext.setCell ?_ ?_ _ | refine Ext.trans ?_ (by assumption)) | (show _ ≤ _; first | omega | (dsimp only; omega) | (simp; done) | (simp; omega)))))
  have hob : Off (.slice (some ⟨w.heap.size, 0, none⟩) 0 0) (.slice a3 9 c3) := fun g hg hr => by
    have e1 : w.heap.size = g := Option.some.inj hg
    have e2 := (own_lt o3 g hr).1
    omega
  have s2 : Spts w3 (.slice a2 xs.length c2) xs := Row.of_owns (own_ext o2 (show Ext w2 w3 from (by repeat (first | (with_reducible first | exact Ext.refl _ | assumption | apply Ext.alloc | apply Ext.drew | apply Ext.drewN | refine Ext.setCell ?_ ?_ _ | refine Ext.trans ?_ (by assumption)) | (show _ ≤ _; first | omega | (dsimp only; omega) | (simp; done) | (simp; omega))))))
  have s3 : Strs w3 (.slice a3 9 c3) (emL wd 8) := o3.strs
  have S2 := Lib.hid s2
  have S3 := Lib.hid s3
  have HOA := Lib.hid hoa
  have HOB := Lib.hid hob
  have HA := Lib.hid (fun g hg => Nat.lt_of_lt_of_le (own_lt o2 g hg).2 (Ext.size (show Ext w2 w3 from (by repeat (first | (with_reducible first | exact Ext.refl _ | assumption | apply Ext.alloc | apply Ext.drew | apply Ext.drewN | refine Ext.setCell ?_ ?_ _ | refine Ext.trans ?_ (by assumption)) | (show _ ≤ _; first | omega | (dsimp only; omega) | (simp; done) | (simp; omega)))))))
  have HBB := Lib.hid (fun g hg => (own_lt o3 g hg).2)
  clear o2 o3 s2 s3 hoa hob
  go_wp2
  go_loopw [9, 12] (fun v i' wr => ∃ (j : Nat) (l : Int), j ≤ 8 - k ∧ l = 8 - (j : Int) ∧ i' = .int .i64 l ∧ wr.ownsRow w.heap.size 9 1 v j ((sdL xs i wd j).map Value.string) ∧ Spts wr (.slice a2 xs.length c2) xs ∧ Strs wr (.slice a3 9 c3) (emL wd 8) ∧ Off v (.slice a2 xs.length c2) ∧ Off v (.slice a3 9 c3) ∧ w3.heap.size ≤ wr.heap.size ∧ Ext w wr) (fun _ i' _ => (intOf i').toNat)
  case atStart => exact ⟨0, 8, Nat.zero_le _, rfl, rfl, O3.out, S2.out, S3.out, HOA.out, HOB.out, Nat.le_refl _, zw⟩
  case round =>
    obtain ⟨j, l, hj, hl, rfl, hown, hsp, hem, hoa, hob, hz3, hx⟩ := hrel
    obtain ⟨a, c, rfl⟩ := own_any hown
    have hsz := hx.size
    have HL := Lib.hid hl
    have hl0 : 0 ≤ l := by omega
    have hl8 : l ≤ 8 := by omega
    by_cases hlt : j < 8 - k
    · have hgt : (k : Int) < l := by omega
      have hsub : IntKind.i64.wrap (8 - l) = (j : Int) := by rw [IntWalk.i64_in _ (by omega)]; omega
      have hdec : IntKind.i64.wrap (l - 1) = l - 1 := IntWalk.i64_in _ (by omega)
      have HB := Lib.hid (besT_bd hib (show j < 8 by omega))
      have HU := Lib.hid (sdL_succ xs i wd j)
      have HO := Lib.hid hown
      have HOA := Lib.hid hoa
      have HOB := Lib.hid hob
      have hnl := nodeT_le xs wd j (besT i j)
      have hi1 := hib.1
      have hi2 := hib.2
      clear hl hown hoa hob
      go_wp2_with fail
      refine (spec_node wd j xs l (besT i j) _ _ _ H1.out HL.out (by omega) HB.out (hsp.ext (by repeat (first | (with_reducible first | exact Ext.refl _ | assumption | apply Ext.alloc | apply Ext.drew | apply Ext.drewN | refine Ext.setCell ?_ ?_ _ | refine Ext.trans ?_ (by assumption)) | (show _ ≤ _; first | omega | (dsimp only; omega) | (simp; done) | (simp; omega))))) (hem.ext (by repeat (first | (with_reducible first | exact Ext.refl _ | assumption | apply Ext.alloc | apply Ext.drew | apply Ext.drewN | refine Ext.setCell ?_ ?_ _ | refine Ext.trans ?_ (by assumption)) | (show _ ≤ _; first | omega | (dsimp only; omega) | (simp; done) | (simp; omega)))))).mono ?_
      rintro e wa ⟨rfl, xa⟩
      have ya : Ext wr wa := (by repeat (first | (with_reducible first | exact Ext.refl _ | assumption | apply Ext.alloc | apply Ext.drew | apply Ext.drewN | refine Ext.setCell ?_ ?_ _ | refine Ext.trans ?_ (by assumption)) | (show _ ≤ _; first | omega | (dsimp only; omega) | (simp; done) | (simp; omega))))
      have za := ya.size
      have hspa := hsp.ext ya
      have hema := hem.ext ya
      have own2 := World.ownsRow.alloc (own_ext HO.out ya) (Obj.cells #[Value.string (nodeT xs wd j (besT i j))] 9)
      generalize nodeT xs wd j (besT i j) = T at *
      go_wp2_with (at_builtin; refine wpList_append_own_at _ rfl (.tmp 42) (.tmp 54) 44 rfl w.heap.size 9 i0 (.string ⟨#[]⟩) 1 16 Tryd.underlying44 hi0 hz0 hz1 hz2 rfl (by decide) _ _ _ rfl own2 ⟨wa.heap.size, 0, none⟩ 1 1 [.string T] rfl rfl ?c1 ?c2 ?c3 ?c4 ?c5 ?_)
      case c1 => exact news1 _ _ _
      case c2 => exact fun u hu => by rw [List.mem_singleton] at hu; rw [hu]; rfl
      case c3 => unfold maxLen; omega
      case c4 => omega
      case c5 => simp; omega
      intro v' w9 own9 hgrow _ hat
      have A9 := off_next HOA.out hat (fun g hg => by have := HA.out g hg; first | omega | (simp only [World.size_alloc]; omega))
      have B9 := off_next HOB.out hat (fun g hg => by have := HBB.out g hg; first | omega | (simp only [World.size_alloc]; omega))
      have sp9 := row_grown (Row.ext hspa ((Ext.refl wa).alloc (Obj.cells #[Value.string T] 9))) hgrow HOA.out
      have em9 := row_grown (Row.ext hema ((Ext.refl wa).alloc (Obj.cells #[Value.string T] 9))) hgrow HOB.out
      have hx9 : Ext w w9 := own_ext_of ((hx.trans ya).alloc _) own2 hgrow (Nat.le_refl _)
      have hs9 := hgrow.size
      rw [World.size_alloc] at hs9
      obtain ⟨a', c', rfl⟩ := own_any own9
      have HO9 := Lib.hid own9
      have HA9 := Lib.hid A9
      have HB9 := Lib.hid B9
      have SP9 := Lib.hid sp9
      have EM9 := Lib.hid em9
      clear own9 hgrow own2 A9 B9 sp9 em9 hat hsp hem hspa hema
      go_wp2
      go_roundw
      case rel => exact ⟨j + 1, l - 1, by omega, by have := HL.out; omega, by go_num, by rw [HU.out, List.map_append]; exact HO9.out, SP9.out, EM9.out, HA9.out, HB9.out, by omega, hx9⟩
      case measure => simp [intOf]; omega
    · obtain rfl : j = 8 - k := by omega
      have hgt : ¬ (k : Int) < l := by omega
      have HO := Lib.hid hown
      clear hown hl hsp hem hoa hob
      go_wp2
      go_ret
      refine ⟨a, c, by rw [RL.out]; rfl, ?_, hx⟩
      unfold OwnStrs
      rw [RL.out, R.out]
      exact HO.out
end Go.Proofs.YtagkcgbggeajkaaDoor
