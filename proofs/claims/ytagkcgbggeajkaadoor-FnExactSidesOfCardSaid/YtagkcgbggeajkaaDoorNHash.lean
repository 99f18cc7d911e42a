/- The hash of a place, of all entries, of a shard: both; the laws. -/
import Derived.Test.YtagkcgbggeajkaaDoorNode
import Derived.Test.YtagkcgbggeajkaaDoorSpot2
import Derived.Test.YtagkcgbggeajkaaDoorShard
namespace Go.Proofs.YtagkcgbggeajkaaDoor
open Go.RowKit

theorem pow_bd {k : Nat} (h : k ≤ 8) : (1 : Int) ≤ 2 ^ k ∧ (2 : Int) ^ k ≤ 256 := by
  have h1 := Nat.pow_le_pow_right (show 0 < 2 by decide) h
  have h2 := Nat.pow_pos (n := k) (show 0 < 2 by decide)
  have e : ((2 ^ k : Nat) : Int) = 2 ^ k := by push_cast; rfl
  have h3 : (2 : Nat) ^ 8 = 256 := by decide
  omega

theorem names_ok {xs : List Leaf} (h : leavesOk xs = true) : NamesFit xs := fun l hl => by
  obtain ⟨h1, h2⟩ := leavesOk_small h
  have h3 := h2 l hl
  omega

set_option maxRecDepth 100000 in
set_option maxHeartbeats 1600000 in
theorem impl_NodeHash (v : Value) (xs : List Leaf) (l p wd : Int) (w : World) (h : Lvs w v xs) (hf : LeafFit xs) (hT : Tabs w) :
    Calls Tryd.prog 24 #[v, .int .i64 l, .int .i64 p, .int .i64 wd] w fun e w' => e = .returned (.string (nodeH xs l p wd)) ∧ Ext w w' := by
  have HT := Lib.hid hT
  clear hT
  obtain ⟨a, c, rfl⟩ := h.form
  cases h1 : leavesOk xs
  · have R := Lib.hid (nodeH_no1 (l := l) (p := p) (wd := wd) h1)
    have H1 := Lib.hid h1
    clear h1
    go_enter Tryd.func24, Tryd.ntmps24
    go_wp2_with fail
    refine (impl_LeavesOk _ xs _ (h.ext (by repeat (first | (with_reducible first | exact Ext.refl _ | assumption | apply Ext.alloc | apply Ext.drew | apply Ext.drewN | refine Ext.setCell ?_ ?_ _ | refine Ext.trans ?_ (by assumption)) | (show _ ≤ _; first | omega | (dsimp only; omega) | (simp; done) | (simp; omega))))) hf).mono ?_; rw [H1.out]; rintro e w1 ⟨rfl, x1⟩
    go_wp2
    go_ret
    exact ⟨ret_str R.out.symm, (by repeat (first | (with_reducible first | exact Ext.refl _ | assumption | apply Ext.alloc | apply Ext.drew | apply Ext.drewN | refine Ext.setCell ?_ ?_ _ | refine Ext.trans ?_ (by assumption)) | (show _ ≤ _; first | omega | (dsimp only; omega) | (simp; done) | (simp; omega))))⟩
  cases h2 : inB l 0 8
  · have R := Lib.hid (nodeH_no2 (xs := xs) (p := p) (wd := wd) h2)
    have H1 := Lib.hid h1
    have H2 := Lib.hid h2
    clear h1 h2
    go_enter Tryd.func24, Tryd.ntmps24
    go_wp2_with fail
    refine (impl_LeavesOk _ xs _ (h.ext (by repeat (first | (with_reducible first | exact Ext.refl _ | assumption | apply Ext.alloc | apply Ext.drew | apply Ext.drewN | refine Ext.setCell ?_ ?_ _ | refine Ext.trans ?_ (by assumption)) | (show _ ≤ _; first | omega | (dsimp only; omega) | (simp; done) | (simp; omega))))) hf).mono ?_; rw [H1.out]; rintro e w1 ⟨rfl, x1⟩
    go_wp2_with fail
    refine (impl_in _ _ _ _).mono ?_; rw [H2.out]; rintro e w' ⟨rfl, rfl⟩
    go_wp2
    go_ret
    exact ⟨ret_str R.out.symm, (by repeat (first | (with_reducible first | exact Ext.refl _ | assumption | apply Ext.alloc | apply Ext.drew | apply Ext.drewN | refine Ext.setCell ?_ ?_ _ | refine Ext.trans ?_ (by assumption)) | (show _ ≤ _; first | omega | (dsimp only; omega) | (simp; done) | (simp; omega))))⟩
  obtain ⟨b1, b2⟩ := inB_true.1 h2
  obtain ⟨k, rfl⟩ := Int.eq_ofNat_of_zero_le b1
  have hk8 : k ≤ 8 := by omega
  obtain ⟨k1, k2⟩ := pow_bd hk8
  have hw1 : IntKind.i64.wrap (2 ^ k) = 2 ^ k := IntWalk.i64_in _ (by omega)
  have hw2 : IntKind.i64.wrap (2 ^ k - 1) = 2 ^ k - 1 := IntWalk.i64_in _ (by omega)
  cases h3 : inB p 0 (2 ^ ((k : Int)).toNat - 1)
  · have R := Lib.hid (nodeH_no3 (xs := xs) (l := (k : Int)) (wd := wd) h3)
    rw [Int.toNat_natCast] at h3
    have H1 := Lib.hid h1
    have H2 := Lib.hid h2
    have H3 := Lib.hid h3
    clear h1 h2 h3
    go_enter Tryd.func24, Tryd.ntmps24
    go_wp2_with fail
    refine (impl_LeavesOk _ xs _ (h.ext (by repeat (first | (with_reducible first | exact Ext.refl _ | assumption | apply Ext.alloc | apply Ext.drew | apply Ext.drewN | refine Ext.setCell ?_ ?_ _ | refine Ext.trans ?_ (by assumption)) | (show _ ≤ _; first | omega | (dsimp only; omega) | (simp; done) | (simp; omega))))) hf).mono ?_; rw [H1.out]; rintro e w1 ⟨rfl, x1⟩
    go_wp2_with fail
    refine (impl_in _ _ _ _).mono ?_; rw [H2.out]; rintro e w' ⟨rfl, rfl⟩
    go_wp2_with fail
    refine (impl_in _ _ _ _).mono ?_; rw [H3.out]; rintro e w' ⟨rfl, rfl⟩
    go_wp2
    go_ret
    exact ⟨ret_str R.out.symm, (by repeat (first | (with_reducible first | exact Ext.refl _ | assumption | apply Ext.alloc | apply Ext.drew | apply Ext.drewN | refine Ext.setCell ?_ ?_ _ | refine Ext.trans ?_ (by assumption)) | (show _ ≤ _; first | omega | (dsimp only; omega) | (simp; done) | (simp; omega))))⟩
  cases h4 : inB wd 1 32
  · have R := Lib.hid (nodeH_no4 (xs := xs) (l := (k : Int)) (p := p) h4)
    obtain ⟨c1, c2⟩ := inB_true.1 h3
    rw [Int.toNat_natCast] at c2 h3
    have hp2 : ¬ p < 0 := by omega
    have hq2 : ¬ 2 ^ k ≤ p := by omega
    have H1 := Lib.hid h1
    have H2 := Lib.hid h2
    have H3 := Lib.hid h3
    have H4 := Lib.hid h4
    clear h1 h2 h3 h4
    go_enter Tryd.func24, Tryd.ntmps24
    go_wp2_with fail
    refine (impl_LeavesOk _ xs _ (h.ext (by repeat (first | (with_reducible first | exact Ext.refl _ | assumption | apply Ext.alloc | apply Ext.drew | apply Ext.drewN | refine Ext.setCell ?_ ?_ _ | refine Ext.trans ?_ (by assumption)) | (show _ ≤ _; first | omega | (dsimp only; omega) | (simp; done) | (simp; omega))))) hf).mono ?_; rw [H1.out]; rintro e w1 ⟨rfl, x1⟩
    go_wp2_with fail
    refine (impl_in _ _ _ _).mono ?_; rw [H2.out]; rintro e w' ⟨rfl, rfl⟩
    go_wp2_with fail
    refine (impl_in _ _ _ _).mono ?_; rw [H3.out]; rintro e w' ⟨rfl, rfl⟩
    go_wp2_with fail
    refine (impl_isWide _ _).mono ?_; rw [H4.out]; rintro e w' ⟨rfl, rfl⟩
    go_wp2
    go_ret
    exact ⟨ret_str R.out.symm, (by repeat (first | (with_reducible first | exact Ext.refl _ | assumption | apply Ext.alloc | apply Ext.drew | apply Ext.drewN | refine Ext.setCell ?_ ?_ _ | refine Ext.trans ?_ (by assumption)) | (show _ ≤ _; first | omega | (dsimp only; omega) | (simp; done) | (simp; omega))))⟩
  have R := Lib.hid (show nodeH xs k p wd = nodeT xs wd (8 - k) p by rw [nodeH_yes h1 h2 h3 h4]; congr 1; omega)
  obtain ⟨c1, c2⟩ := inB_true.1 h3
  rw [Int.toNat_natCast] at c2 h3
  have hp2 : ¬ p < 0 := by omega
  have hq2 : ¬ 2 ^ k ≤ p := by omega
  have H1 := Lib.hid h1
  have H2 := Lib.hid h2
  have H3 := Lib.hid h3
  have H4 := Lib.hid h4
  have HL := Lib.hid (show (k : Int) = 8 - ((8 - k : Nat) : Int) by omega)
  have HP := Lib.hid (show 0 ≤ p ∧ p < 2 ^ (8 - (8 - k)) by rw [show 8 - (8 - k) = k by omega]; omega)
  have hx24 := (leavesOk_small h1).1
  have hnm := names_ok h1
  clear h1 h2 h3 h4
  go_enter Tryd.func24, Tryd.ntmps24
  go_wp2_with fail
  refine (impl_LeavesOk _ xs _ (h.ext (by repeat (first | (with_reducible first | exact Ext.refl _ | assumption | apply Ext.alloc | apply Ext.drew | apply Ext.drewN | refine Ext.setCell ?_ ?_ _ | refine Ext.trans ?_ (by assumption)) | (show _ ≤ _; first | omega | (dsimp only; omega) | (simp; done) | (simp; omega))))) hf).mono ?_; rw [H1.out]; rintro e w1 ⟨rfl, x1⟩
  go_wp2_with fail
  refine (impl_in _ _ _ _).mono ?_; rw [H2.out]; rintro e w' ⟨rfl, rfl⟩
  go_wp2_with fail
  refine (impl_in _ _ _ _).mono ?_; rw [H3.out]; rintro e w' ⟨rfl, rfl⟩
  go_wp2_with fail
  refine (impl_isWide _ _).mono ?_; rw [H4.out]; rintro e w' ⟨rfl, rfl⟩
  go_wp2_with fail
  refine (impl_newGrove _ xs wd _ (h.ext (by repeat (first | (with_reducible first | exact Ext.refl _ | assumption | apply Ext.alloc | apply Ext.drew | apply Ext.drewN | refine Ext.setCell ?_ ?_ _ | refine Ext.trans ?_ (by assumption)) | (show _ ≤ _; first | omega | (dsimp only; omega) | (simp; done) | (simp; omega))))) hnm (by omega) (by exact HT.out.ext (by repeat (first | (with_reducible first | exact Ext.refl _ | assumption | apply Ext.alloc | apply Ext.drew | apply Ext.drewN | refine Ext.setCell ?_ ?_ _ | refine Ext.trans ?_ (by assumption)) | (show _ ≤ _; first | omega | (dsimp only; omega) | (simp; done) | (simp; omega)))))).mono ?_
  rintro e w2 ⟨a2, c2, rfl, r2, x2⟩
  go_wp2_with fail
  refine (impl_node xs wd H1.out (8 - k) k p _ _ _ HL.out (by omega) HP.out (h.ext (by repeat (first | (with_reducible first | exact Ext.refl _ | assumption | apply Ext.alloc | apply Ext.drew | apply Ext.drewN | refine Ext.setCell ?_ ?_ _ | refine Ext.trans ?_ (by assumption)) | (show _ ≤ _; first | omega | (dsimp only; omega) | (simp; done) | (simp; omega))))) r2 (by exact HT.out.ext (by repeat (first | (with_reducible first | exact Ext.refl _ | assumption | apply Ext.alloc | apply Ext.drew | apply Ext.drewN | refine Ext.setCell ?_ ?_ _ | refine Ext.trans ?_ (by assumption)) | (show _ ≤ _; first | omega | (dsimp only; omega) | (simp; done) | (simp; omega)))))).mono ?_
  rintro e w3 ⟨rfl, x3⟩
  go_wp2
  go_ret
  exact ⟨ret_str R.out.symm, (by repeat (first | (with_reducible first | exact Ext.refl _ | assumption | apply Ext.alloc | apply Ext.drew | apply Ext.drewN | refine Ext.setCell ?_ ?_ _ | refine Ext.trans ?_ (by assumption)) | (show _ ≤ _; first | omega | (dsimp only; omega) | (simp; done) | (simp; omega))))⟩

theorem emL9 {w : World} {a : Option Addr} {c : Nat} {wd : Int} (h : Strs w (.slice a 9 c) (emL wd 8)) : Strs w (.slice a 9 c) (emL wd 8) := h
set_option maxRecDepth 100000 in
set_option maxHeartbeats 1600000 in
theorem spec_NodeHash (v : Value) (xs : List Leaf) (l p wd : Int) (w : World) (h : Lvs w v xs) (hf : LeafFit xs) :
    Calls Tryd.prog 22 #[v, .int .i64 l, .int .i64 p, .int .i64 wd] w fun e w' => e = .returned (.string (nodeH xs l p wd)) ∧ Ext w w' := by
  obtain ⟨a, c, rfl⟩ := h.form
  cases h1 : leavesOk xs
  · have R := Lib.hid (nodeH_no1 (l := l) (p := p) (wd := wd) h1)
    have H1 := Lib.hid h1
    clear h1
    go_enter Tryd.func22, Tryd.ntmps22
    go_wp2_with fail
    refine (spec_LeavesOk _ xs _ (h.ext (by repeat (first | (with_reducible first | exact Ext.refl _ | assumption | apply Ext.alloc | apply Ext.drew | apply Ext.drewN | refine Ext.setCell ?_ ?_ _ | refine Ext.trans ?_ (by assumption)) | (show _ ≤ _; first | omega | (dsimp only; omega) | (simp; done) | (simp; omega))))) hf).mono ?_; rw [H1.out]; rintro e w1 ⟨rfl, x1⟩
    go_wp2
    go_ret
    exact ⟨ret_str R.out.symm, (by repeat (first | (with_reducible first | exact Ext.refl _ | assumption | apply Ext.alloc | apply Ext.drew | apply Ext.drewN | refine Ext.setCell ?_ ?_ _ | refine Ext.trans ?_ (by assumption)) | (show _ ≤ _; first | omega | (dsimp only; omega) | (simp; done) | (simp; omega))))⟩
  cases h2 : inB l 0 8
  · have R := Lib.hid (nodeH_no2 (xs := xs) (p := p) (wd := wd) h2)
    have H1 := Lib.hid h1
    have H2 := Lib.hid h2
    clear h1 h2
    go_enter Tryd.func22, Tryd.ntmps22
    go_wp2_with fail
    refine (spec_LeavesOk _ xs _ (h.ext (by repeat (first | (with_reducible first | exact Ext.refl _ | assumption | apply Ext.alloc | apply Ext.drew | apply Ext.drewN | refine Ext.setCell ?_ ?_ _ | refine Ext.trans ?_ (by assumption)) | (show _ ≤ _; first | omega | (dsimp only; omega) | (simp; done) | (simp; omega))))) hf).mono ?_; rw [H1.out]; rintro e w1 ⟨rfl, x1⟩
    go_wp2_with fail
    refine (spec_l01In _ _ _ _).mono ?_; rw [H2.out]; rintro e w' ⟨rfl, rfl⟩
    go_wp2
    go_ret
    exact ⟨ret_str R.out.symm, (by repeat (first | (with_reducible first | exact Ext.refl _ | assumption | apply Ext.alloc | apply Ext.drew | apply Ext.drewN | refine Ext.setCell ?_ ?_ _ | refine Ext.trans ?_ (by assumption)) | (show _ ≤ _; first | omega | (dsimp only; omega) | (simp; done) | (simp; omega))))⟩
  obtain ⟨b1, b2⟩ := inB_true.1 h2
  obtain ⟨k, rfl⟩ := Int.eq_ofNat_of_zero_le b1
  have hk8 : k ≤ 8 := by omega
  obtain ⟨k1, k2⟩ := pow_bd hk8
  have hw1 : IntKind.i64.wrap (2 ^ k) = 2 ^ k := IntWalk.i64_in _ (by omega)
  have hw2 : IntKind.i64.wrap (2 ^ k - 1) = 2 ^ k - 1 := IntWalk.i64_in _ (by omega)
  cases h3 : inB p 0 (2 ^ ((k : Int)).toNat - 1)
  · have R := Lib.hid (nodeH_no3 (xs := xs) (l := (k : Int)) (wd := wd) h3)
    rw [Int.toNat_natCast] at h3
    have hcase : p < 0 ∨ (0 ≤ p ∧ 2 ^ k ≤ p) := by
      have h5 := inB_false.1 h3
      omega
    have H1 := Lib.hid h1
    have H2 := Lib.hid h2
    clear h1 h2 h3
    rcases hcase with hp | ⟨hp, hq⟩
    · go_enter Tryd.func22, Tryd.ntmps22
      go_wp2_with fail
      refine (spec_LeavesOk _ xs _ (h.ext (by repeat (first | (with_reducible first | exact Ext.refl _ | assumption | apply Ext.alloc | apply Ext.drew | apply Ext.drewN | refine Ext.setCell ?_ ?_ _ | refine Ext.trans ?_ (by assumption)) | (show _ ≤ _; first | omega | (dsimp only; omega) | (simp; done) | (simp; omega))))) hf).mono ?_; rw [H1.out]; rintro e w1 ⟨rfl, x1⟩
      go_wp2_with fail
      refine (spec_l01In _ _ _ _).mono ?_; rw [H2.out]; rintro e w' ⟨rfl, rfl⟩
      go_wp2
      go_ret
      exact ⟨ret_str R.out.symm, (by repeat (first | (with_reducible first | exact Ext.refl _ | assumption | apply Ext.alloc | apply Ext.drew | apply Ext.drewN | refine Ext.setCell ?_ ?_ _ | refine Ext.trans ?_ (by assumption)) | (show _ ≤ _; first | omega | (dsimp only; omega) | (simp; done) | (simp; omega))))⟩
    · have hp2 : ¬ p < 0 := by omega
      go_enter Tryd.func22, Tryd.ntmps22
      go_wp2_with fail
      refine (spec_LeavesOk _ xs _ (h.ext (by repeat (first | (with_reducible first | exact Ext.refl _ | assumption | apply Ext.alloc | apply Ext.drew | apply Ext.drewN | refine Ext.setCell ?_ ?_ _ | refine Ext.trans ?_ (by assumption)) | (show _ ≤ _; first | omega | (dsimp only; omega) | (simp; done) | (simp; omega))))) hf).mono ?_; rw [H1.out]; rintro e w1 ⟨rfl, x1⟩
      go_wp2_with fail
      refine (spec_l01In _ _ _ _).mono ?_; rw [H2.out]; rintro e w' ⟨rfl, rfl⟩
      go_wp2
      go_ret
      exact ⟨ret_str R.out.symm, (by repeat (first | (with_reducible first | exact Ext.refl _ | assumption | apply Ext.alloc | apply Ext.drew | apply Ext.drewN | refine Ext.setCell ?_ ?_ _ | refine Ext.trans ?_ (by assumption)) | (show _ ≤ _; first | omega | (dsimp only; omega) | (simp; done) | (simp; omega))))⟩
  cases h4 : inB wd 1 32
  · have R := Lib.hid (nodeH_no4 (xs := xs) (l := (k : Int)) (p := p) h4)
    obtain ⟨c1, c2⟩ := inB_true.1 h3
    rw [Int.toNat_natCast] at c2 h3
    have hp2 : ¬ p < 0 := by omega
    have hq2 : ¬ 2 ^ k ≤ p := by omega
    have H1 := Lib.hid h1
    have H2 := Lib.hid h2
    have H3 := Lib.hid h3
    have H4 := Lib.hid h4
    clear h1 h2 h3 h4
    go_enter Tryd.func22, Tryd.ntmps22
    go_wp2_with fail
    refine (spec_LeavesOk _ xs _ (h.ext (by repeat (first | (with_reducible first | exact Ext.refl _ | assumption | apply Ext.alloc | apply Ext.drew | apply Ext.drewN | refine Ext.setCell ?_ ?_ _ | refine Ext.trans ?_ (by assumption)) | (show _ ≤ _; first | omega | (dsimp only; omega) | (simp; done) | (simp; omega))))) hf).mono ?_; rw [H1.out]; rintro e w1 ⟨rfl, x1⟩
    go_wp2_with fail
    refine (spec_l01In _ _ _ _).mono ?_; rw [H2.out]; rintro e w' ⟨rfl, rfl⟩
    go_wp2_with fail
    refine (spec_l01In _ _ _ _).mono ?_; rw [H4.out]; rintro e w' ⟨rfl, rfl⟩
    go_wp2
    go_ret
    exact ⟨ret_str R.out.symm, (by repeat (first | (with_reducible first | exact Ext.refl _ | assumption | apply Ext.alloc | apply Ext.drew | apply Ext.drewN | refine Ext.setCell ?_ ?_ _ | refine Ext.trans ?_ (by assumption)) | (show _ ≤ _; first | omega | (dsimp only; omega) | (simp; done) | (simp; omega))))⟩
  have R := Lib.hid (show nodeH xs k p wd = nodeT xs wd (8 - k) p by rw [nodeH_yes h1 h2 h3 h4]; congr 1; omega)
  obtain ⟨c1, c2⟩ := inB_true.1 h3
  rw [Int.toNat_natCast] at c2 h3
  have hp2 : ¬ p < 0 := by omega
  have hq2 : ¬ 2 ^ k ≤ p := by omega
  have H1 := Lib.hid h1
  have H2 := Lib.hid h2
  have H3 := Lib.hid h3
  have H4 := Lib.hid h4
  have HL := Lib.hid (show (k : Int) = 8 - ((8 - k : Nat) : Int) by omega)
  have HP := Lib.hid (show 0 ≤ p ∧ p < 2 ^ (8 - (8 - k)) by rw [show 8 - (8 - k) = k by omega]; omega)
  have hx24 := (leavesOk_small h1).1
  have hnm := names_ok h1
  clear h1 h2 h3 h4
  go_enter Tryd.func22, Tryd.ntmps22
  go_wp2_with fail
  refine (spec_LeavesOk _ xs _ (h.ext (by repeat (first | (with_reducible first | exact Ext.refl _ | assumption | apply Ext.alloc | apply Ext.drew | apply Ext.drewN | refine Ext.setCell ?_ ?_ _ | refine Ext.trans ?_ (by assumption)) | (show _ ≤ _; first | omega | (dsimp only; omega) | (simp; done) | (simp; omega))))) hf).mono ?_; rw [H1.out]; rintro e w1 ⟨rfl, x1⟩
  go_wp2_with fail
  refine (spec_l01In _ _ _ _).mono ?_; rw [H2.out]; rintro e w' ⟨rfl, rfl⟩
  go_wp2_with fail
  refine (spec_l01In _ _ _ _).mono ?_; rw [H4.out]; rintro e w' ⟨rfl, rfl⟩
  go_wp2_with fail
  refine (spec_l10Spots _ xs _ (h.ext (by repeat (first | (with_reducible first | exact Ext.refl _ | assumption | apply Ext.alloc | apply Ext.drew | apply Ext.drewN | refine Ext.setCell ?_ ?_ _ | refine Ext.trans ?_ (by assumption)) | (show _ ≤ _; first | omega | (dsimp only; omega) | (simp; done) | (simp; omega))))) hnm (by omega)).mono ?_
  rintro e w2 ⟨a2, c2, rfl, r2, x2⟩
  go_wp2_with fail
  refine (spec_l10Empties wd _).mono ?_
  rintro e w3 ⟨a3, c3, rfl, o3, x3⟩
  have s3 := o3.strs
  clear o3
  go_wp2_with fail
  refine (spec_node wd (8 - k) xs k p _ _ _ H1.out HL.out (by omega) HP.out (r2.ext (by repeat (first | (with_reducible first | exact Ext.refl _ | assumption | apply Ext.alloc | apply Ext.drew | apply Ext.drewN | refine Ext.setCell ?_ ?_ _ | refine Ext.trans ?_ (by assumption)) | (show _ ≤ _; first | omega | (dsimp only; omega) | (simp; done) | (simp; omega))))) (emL9 s3)).mono ?_
  rintro e w4 ⟨rfl, x4⟩
  go_wp2
  go_ret
  exact ⟨ret_str R.out.symm, (by repeat (first | (with_reducible first | exact Ext.refl _ | assumption | apply Ext.alloc | apply Ext.drew | apply Ext.drewN | refine Ext.setCell ?_ ?_ _ | refine Ext.trans ?_ (by assumption)) | (show _ ≤ _; first | omega | (dsimp only; omega) | (simp; done) | (simp; omega))))⟩

def shRoot (xs : List Leaf) (k s wd : Int) : ByteArray := if inB k 0 2 = true then nodeH xs k s wd else ⟨#[]⟩
theorem shRoot_no {xs : List Leaf} {k s wd : Int} (h : inB k 0 2 = false) : shRoot xs k s wd = ⟨#[]⟩ := by rw [shRoot, if_neg (by rw [h]; decide)]
theorem shRoot_yes {xs : List Leaf} {k s wd : Int} (h : inB k 0 2 = true) : shRoot xs k s wd = nodeH xs k s wd := by rw [shRoot, if_pos h]
theorem impl_RootOf (v : Value) (xs : List Leaf) (wd : Int) (w : World) (h : Lvs w v xs) (hf : LeafFit xs) (hT : Tabs w) :
    Calls Tryd.prog 27 #[v, .int .i64 wd] w fun e w' => e = .returned (.string (nodeH xs 0 0 wd)) ∧ Ext w w' := by
  have HT := Lib.hid hT
  clear hT
  obtain ⟨a, c, rfl⟩ := h.form
  go_enter Tryd.func27, Tryd.ntmps27
  go_wp2_with fail
  refine (impl_NodeHash _ xs 0 0 wd _ (h.ext (by repeat (first | (with_reducible first | exact Ext.refl _ | assumption | apply Ext.alloc | apply Ext.drew | apply Ext.drewN | refine Ext.setCell ?_ ?_ _ | refine Ext.trans ?_ (by assumption)) | (show _ ≤ _; first | omega | (dsimp only; omega) | (simp; done) | (simp; omega))))) hf (by exact HT.out.ext (by repeat (first | (with_reducible first | exact Ext.refl _ | assumption | apply Ext.alloc | apply Ext.drew | apply Ext.drewN | refine Ext.setCell ?_ ?_ _ | refine Ext.trans ?_ (by assumption)) | (show _ ≤ _; first | omega | (dsimp only; omega) | (simp; done) | (simp; omega)))))).mono ?_
  rintro e w1 ⟨rfl, x1⟩
  go_wp2
  go_ret
  exact ⟨rfl, (by repeat (first | (with_reducible first | exact Ext.refl _ | assumption | apply Ext.alloc | apply Ext.drew | apply Ext.drewN | refine Ext.setCell ?_ ?_ _ | refine Ext.trans ?_ (by assumption)) | (show _ ≤ _; first | omega | (dsimp only; omega) | (simp; done) | (simp; omega))))⟩
theorem impl_ShardRoot (v : Value) (xs : List Leaf) (k s wd : Int) (w : World) (h : Lvs w v xs) (hf : LeafFit xs) (hT : Tabs w) :
    Calls Tryd.prog 29 #[v, .int .i64 k, .int .i64 s, .int .i64 wd] w fun e w' => e = .returned (.string (shRoot xs k s wd)) ∧ Ext w w' := by
  have HT := Lib.hid hT
  clear hT
  obtain ⟨a, c, rfl⟩ := h.form
  cases hk : inB k 0 2
  · have R := Lib.hid (shRoot_no (xs := xs) (s := s) (wd := wd) hk)
    have K := Lib.hid hk
    clear hk
    go_enter Tryd.func29, Tryd.ntmps29
    go_wp2_with fail
    refine (impl_isSplit _ _).mono ?_; rw [K.out]; rintro e w' ⟨rfl, rfl⟩
    go_wp2
    go_ret
    exact ⟨ret_str R.out.symm, (by repeat (first | (with_reducible first | exact Ext.refl _ | assumption | apply Ext.alloc | apply Ext.drew | apply Ext.drewN | refine Ext.setCell ?_ ?_ _ | refine Ext.trans ?_ (by assumption)) | (show _ ≤ _; first | omega | (dsimp only; omega) | (simp; done) | (simp; omega))))⟩
  · have R := Lib.hid (shRoot_yes (xs := xs) (s := s) (wd := wd) hk)
    have K := Lib.hid hk
    clear hk
    go_enter Tryd.func29, Tryd.ntmps29
    go_wp2_with fail
    refine (impl_isSplit _ _).mono ?_; rw [K.out]; rintro e w' ⟨rfl, rfl⟩
    go_wp2_with fail
    refine (impl_NodeHash _ xs k s wd _ (h.ext (by repeat (first | (with_reducible first | exact Ext.refl _ | assumption | apply Ext.alloc | apply Ext.drew | apply Ext.drewN | refine Ext.setCell ?_ ?_ _ | refine Ext.trans ?_ (by assumption)) | (show _ ≤ _; first | omega | (dsimp only; omega) | (simp; done) | (simp; omega))))) hf (by exact HT.out.ext (by repeat (first | (with_reducible first | exact Ext.refl _ | assumption | apply Ext.alloc | apply Ext.drew | apply Ext.drewN | refine Ext.setCell ?_ ?_ _ | refine Ext.trans ?_ (by assumption)) | (show _ ≤ _; first | omega | (dsimp only; omega) | (simp; done) | (simp; omega)))))).mono ?_
    rintro e w1 ⟨rfl, x1⟩
    go_wp2
    go_ret
    exact ⟨ret_str R.out.symm, (by repeat (first | (with_reducible first | exact Ext.refl _ | assumption | apply Ext.alloc | apply Ext.drew | apply Ext.drewN | refine Ext.setCell ?_ ?_ _ | refine Ext.trans ?_ (by assumption)) | (show _ ≤ _; first | omega | (dsimp only; omega) | (simp; done) | (simp; omega))))⟩
theorem spec_RootOf (v : Value) (xs : List Leaf) (wd : Int) (w : World) (h : Lvs w v xs) (hf : LeafFit xs) :
    Calls Tryd.prog 26 #[v, .int .i64 wd] w fun e w' => e = .returned (.string (nodeH xs 0 0 wd)) ∧ Ext w w' := by
  obtain ⟨a, c, rfl⟩ := h.form
  go_enter Tryd.func26, Tryd.ntmps26
  go_wp2_with fail
  refine (spec_NodeHash _ xs 0 0 wd _ (h.ext (by repeat (first | (with_reducible first | exact Ext.refl _ | assumption | apply Ext.alloc | apply Ext.drew | apply Ext.drewN | refine Ext.setCell ?_ ?_ _ | refine Ext.trans ?_ (by assumption)) | (show _ ≤ _; first | omega | (dsimp only; omega) | (simp; done) | (simp; omega))))) hf).mono ?_
  rintro e w1 ⟨rfl, x1⟩
  go_wp2
  go_ret
  exact ⟨rfl, (by repeat (first | (with_reducible first | exact Ext.refl _ | assumption | apply Ext.alloc | apply Ext.drew | apply Ext.drewN | refine Ext.setCell ?_ ?_ _ | refine Ext.trans ?_ (by assumption)) | (show _ ≤ _; first | omega | (dsimp only; omega) | (simp; done) | (simp; omega))))⟩
theorem spec_ShardRoot (v : Value) (xs : List Leaf) (k s wd : Int) (w : World) (h : Lvs w v xs) (hf : LeafFit xs) :
    Calls Tryd.prog 28 #[v, .int .i64 k, .int .i64 s, .int .i64 wd] w fun e w' => e = .returned (.string (shRoot xs k s wd)) ∧ Ext w w' := by
  obtain ⟨a, c, rfl⟩ := h.form
  cases hk : inB k 0 2
  · have R := Lib.hid (shRoot_no (xs := xs) (s := s) (wd := wd) hk)
    have K := Lib.hid hk
    clear hk
    go_enter Tryd.func28, Tryd.ntmps28
    go_wp2_with fail
    refine (spec_l01In _ _ _ _).mono ?_; rw [K.out]; rintro e w' ⟨rfl, rfl⟩
    go_wp2
    go_ret
    exact ⟨ret_str R.out.symm, (by repeat (first | (with_reducible first | exact Ext.refl _ | assumption | apply Ext.alloc | apply Ext.drew | apply Ext.drewN | refine Ext.setCell ?_ ?_ _ | refine Ext.trans ?_ (by assumption)) | (show _ ≤ _; first | omega | (dsimp only; omega) | (simp; done) | (simp; omega))))⟩
  · have R := Lib.hid (shRoot_yes (xs := xs) (s := s) (wd := wd) hk)
    have K := Lib.hid hk
    clear hk
    go_enter Tryd.func28, Tryd.ntmps28
    go_wp2_with fail
    refine (spec_l01In _ _ _ _).mono ?_; rw [K.out]; rintro e w' ⟨rfl, rfl⟩
    go_wp2_with fail
    refine (spec_NodeHash _ xs k s wd _ (h.ext (by repeat (first | (with_reducible first | exact Ext.refl _ | assumption | apply Ext.alloc | apply Ext.drew | apply Ext.drewN | refine Ext.setCell ?_ ?_ _ | refine Ext.trans ?_ (by assumption)) | (show _ ≤ _; first | omega | (dsimp only; omega) | (simp; done) | (simp; omega))))) hf).mono ?_
    rintro e w1 ⟨rfl, x1⟩
    go_wp2
    go_ret
    exact ⟨ret_str R.out.symm, (by repeat (first | (with_reducible first | exact Ext.refl _ | assumption | apply Ext.alloc | apply Ext.drew | apply Ext.drewN | refine Ext.setCell ?_ ?_ _ | refine Ext.trans ?_ (by assumption)) | (show _ ≤ _; first | omega | (dsimp only; omega) | (simp; done) | (simp; omega))))⟩
set_option maxHeartbeats 800000 in
theorem laws_FnExactNodeHash (v : Value) (xs : List Leaf) (l p wd : Int) (w : World) (h : Lvs w v xs) (hs : LeafFit xs) (hT : Tabs w) :
    Calls Tryd.prog 5 #[v, .int .i64 l, .int .i64 p, .int .i64 wd] w fun e w' => e = .returned (.bool true) ∧ Ext w w' := by
  have HT := Lib.hid hT
  clear hT
  obtain ⟨a, c, rfl⟩ := h.form
  rcases szr_cases (xs.length + leafBytes xs) with ⟨hz, -⟩ | ⟨z, hz, hz0, hz1, -⟩
  · have HZ := Lib.hid hz
    clear hz
    go_enter Tryd.func5, Tryd.ntmps5
    go_wp2_with (go_at_call 21; refine (laws_szLeafS _ xs _ _ (h.ext (by repeat (first | (with_reducible first | exact Ext.refl _ | assumption | apply Ext.alloc | apply Ext.drew | apply Ext.drewN | refine Ext.setCell ?_ ?_ _ | refine Ext.trans ?_ (by assumption)) | (show _ ≤ _; first | omega | (dsimp only; omega) | (simp; done) | (simp; omega))))) (by omega) hs).mono ?_; rw [HZ.out]; rintro e w1 ⟨rfl, x1⟩)
    go_ret
    exact ⟨rfl, (by repeat (first | (with_reducible first | exact Ext.refl _ | assumption | apply Ext.alloc | apply Ext.drew | apply Ext.drewN | refine Ext.setCell ?_ ?_ _ | refine Ext.trans ?_ (by assumption)) | (show _ ≤ _; first | omega | (dsimp only; omega) | (simp; done) | (simp; omega))))⟩
  · have HZ := Lib.hid hz
    have hlen : xs.length ≤ 1099511627776 := by omega
    clear hz hz1
    go_enter Tryd.func5, Tryd.ntmps5
    go_wp2_with (go_at_call 21; refine (laws_szLeafS _ xs _ _ (h.ext (by repeat (first | (with_reducible first | exact Ext.refl _ | assumption | apply Ext.alloc | apply Ext.drew | apply Ext.drewN | refine Ext.setCell ?_ ?_ _ | refine Ext.trans ?_ (by assumption)) | (show _ ≤ _; first | omega | (dsimp only; omega) | (simp; done) | (simp; omega))))) (by omega) hs).mono ?_; rw [HZ.out]; rintro e w1 ⟨rfl, x1⟩)
    refine (laws_toLeafS _ xs _ (h.ext (by repeat (first | (with_reducible first | exact Ext.refl _ | assumption | apply Ext.alloc | apply Ext.drew | apply Ext.drewN | refine Ext.setCell ?_ ?_ _ | refine Ext.trans ?_ (by assumption)) | (show _ ≤ _; first | omega | (dsimp only; omega) | (simp; done) | (simp; omega))))) hlen).mono ?_
    rintro e w2 ⟨a2, d2, rfl, o2, x2⟩
    have s2 := o2.lvs
    clear o2
    go_wp2_with fail
    refine (spec_NodeHash _ xs l p wd _ (s2.ext (by repeat (first | (with_reducible first | exact Ext.refl _ | assumption | apply Ext.alloc | apply Ext.drew | apply Ext.drewN | refine Ext.setCell ?_ ?_ _ | refine Ext.trans ?_ (by assumption)) | (show _ ≤ _; first | omega | (dsimp only; omega) | (simp; done) | (simp; omega))))) hs).mono ?_
    rintro e w3 ⟨rfl, x3⟩
    clear s2
    go_wp2_with fail
    refine (laws_toLeafS _ xs _ (h.ext (by repeat (first | (with_reducible first | exact Ext.refl _ | assumption | apply Ext.alloc | apply Ext.drew | apply Ext.drewN | refine Ext.setCell ?_ ?_ _ | refine Ext.trans ?_ (by assumption)) | (show _ ≤ _; first | omega | (dsimp only; omega) | (simp; done) | (simp; omega))))) hlen).mono ?_
    rintro e w4 ⟨a4, d4, rfl, o4, x4⟩
    have s4 := o4.lvs
    clear o4
    go_wp2_with fail
    refine (impl_NodeHash _ xs l p wd _ (s4.ext (by repeat (first | (with_reducible first | exact Ext.refl _ | assumption | apply Ext.alloc | apply Ext.drew | apply Ext.drewN | refine Ext.setCell ?_ ?_ _ | refine Ext.trans ?_ (by assumption)) | (show _ ≤ _; first | omega | (dsimp only; omega) | (simp; done) | (simp; omega))))) hs (by exact HT.out.ext (by repeat (first | (with_reducible first | exact Ext.refl _ | assumption | apply Ext.alloc | apply Ext.drew | apply Ext.drewN | refine Ext.setCell ?_ ?_ _ | refine Ext.trans ?_ (by assumption)) | (show _ ≤ _; first | omega | (dsimp only; omega) | (simp; done) | (simp; omega)))))).mono ?_
    rintro e w5 ⟨rfl, x5⟩
    go_wp2_with fail
    refine (laws_toLeafS _ xs _ (h.ext (by repeat (first | (with_reducible first | exact Ext.refl _ | assumption | apply Ext.alloc | apply Ext.drew | apply Ext.drewN | refine Ext.setCell ?_ ?_ _ | refine Ext.trans ?_ (by assumption)) | (show _ ≤ _; first | omega | (dsimp only; omega) | (simp; done) | (simp; omega))))) hlen).mono ?_
    rintro e w6 ⟨a6, d6, rfl, o6, x6⟩
    have s6 := o6.lvs
    clear o6
    go_wp2_with fail
    refine (laws_eqLeafS _ _ xs xs _ (s4.ext (by repeat (first | (with_reducible first | exact Ext.refl _ | assumption | apply Ext.alloc | apply Ext.drew | apply Ext.drewN | refine Ext.setCell ?_ ?_ _ | refine Ext.trans ?_ (by assumption)) | (show _ ≤ _; first | omega | (dsimp only; omega) | (simp; done) | (simp; omega))))) (s6.ext (by repeat (first | (with_reducible first | exact Ext.refl _ | assumption | apply Ext.alloc | apply Ext.drew | apply Ext.drewN | refine Ext.setCell ?_ ?_ _ | refine Ext.trans ?_ (by assumption)) | (show _ ≤ _; first | omega | (dsimp only; omega) | (simp; done) | (simp; omega)))))).mono ?_
    rintro e w7 ⟨rfl, x7⟩
    go_wp2
    go_ret
    exact ⟨rfl, (by repeat (first | (with_reducible first | exact Ext.refl _ | assumption | apply Ext.alloc | apply Ext.drew | apply Ext.drewN | refine Ext.setCell ?_ ?_ _ | refine Ext.trans ?_ (by assumption)) | (show _ ≤ _; first | omega | (dsimp only; omega) | (simp; done) | (simp; omega))))⟩
set_option maxHeartbeats 800000 in
theorem laws_FnExactRootOf (v : Value) (xs : List Leaf) (wd : Int) (w : World) (h : Lvs w v xs) (hs : LeafFit xs) (hT : Tabs w) :
    Calls Tryd.prog 6 #[v, .int .i64 wd] w fun e w' => e = .returned (.bool true) ∧ Ext w w' := by
  have HT := Lib.hid hT
  clear hT
  obtain ⟨a, c, rfl⟩ := h.form
  rcases szr_cases (xs.length + leafBytes xs) with ⟨hz, -⟩ | ⟨z, hz, hz0, hz1, -⟩
  · have HZ := Lib.hid hz
    clear hz
    go_enter Tryd.func6, Tryd.ntmps6
    go_wp2_with (go_at_call 21; refine (laws_szLeafS _ xs _ _ (h.ext (by repeat (first | (with_reducible first | exact Ext.refl _ | assumption | apply Ext.alloc | apply Ext.drew | apply Ext.drewN | refine Ext.setCell ?_ ?_ _ | refine Ext.trans ?_ (by assumption)) | (show _ ≤ _; first | omega | (dsimp only; omega) | (simp; done) | (simp; omega))))) (by omega) hs).mono ?_; rw [HZ.out]; rintro e w1 ⟨rfl, x1⟩)
    go_ret
    exact ⟨rfl, (by repeat (first | (with_reducible first | exact Ext.refl _ | assumption | apply Ext.alloc | apply Ext.drew | apply Ext.drewN | refine Ext.setCell ?_ ?_ _ | refine Ext.trans ?_ (by assumption)) | (show _ ≤ _; first | omega | (dsimp only; omega) | (simp; done) | (simp; omega))))⟩
  · have HZ := Lib.hid hz
    have hlen : xs.length ≤ 1099511627776 := by omega
    clear hz hz1
    go_enter Tryd.func6, Tryd.ntmps6
    go_wp2_with (go_at_call 21; refine (laws_szLeafS _ xs _ _ (h.ext (by repeat (first | (with_reducible first | exact Ext.refl _ | assumption | apply Ext.alloc | apply Ext.drew | apply Ext.drewN | refine Ext.setCell ?_ ?_ _ | refine Ext.trans ?_ (by assumption)) | (show _ ≤ _; first | omega | (dsimp only; omega) | (simp; done) | (simp; omega))))) (by omega) hs).mono ?_; rw [HZ.out]; rintro e w1 ⟨rfl, x1⟩)
    refine (laws_toLeafS _ xs _ (h.ext (by repeat (first | (with_reducible first | exact Ext.refl _ | assumption | apply Ext.alloc | apply Ext.drew | apply Ext.drewN | refine Ext.setCell ?_ ?_ _ | refine Ext.trans ?_ (by assumption)) | (show _ ≤ _; first | omega | (dsimp only; omega) | (simp; done) | (simp; omega))))) hlen).mono ?_
    rintro e w2 ⟨a2, d2, rfl, o2, x2⟩
    have s2 := o2.lvs
    clear o2
    go_wp2_with fail
    refine (spec_RootOf _ xs wd _ (s2.ext (by repeat (first | (with_reducible first | exact Ext.refl _ | assumption | apply Ext.alloc | apply Ext.drew | apply Ext.drewN | refine Ext.setCell ?_ ?_ _ | refine Ext.trans ?_ (by assumption)) | (show _ ≤ _; first | omega | (dsimp only; omega) | (simp; done) | (simp; omega))))) hs).mono ?_
    rintro e w3 ⟨rfl, x3⟩
    clear s2
    go_wp2_with fail
    refine (laws_toLeafS _ xs _ (h.ext (by repeat (first | (with_reducible first | exact Ext.refl _ | assumption | apply Ext.alloc | apply Ext.drew | apply Ext.drewN | refine Ext.setCell ?_ ?_ _ | refine Ext.trans ?_ (by assumption)) | (show _ ≤ _; first | omega | (dsimp only; omega) | (simp; done) | (simp; omega))))) hlen).mono ?_
    rintro e w4 ⟨a4, d4, rfl, o4, x4⟩
    have s4 := o4.lvs
    clear o4
    go_wp2_with fail
    refine (impl_RootOf _ xs wd _ (s4.ext (by repeat (first | (with_reducible first | exact Ext.refl _ | assumption | apply Ext.alloc | apply Ext.drew | apply Ext.drewN | refine Ext.setCell ?_ ?_ _ | refine Ext.trans ?_ (by assumption)) | (show _ ≤ _; first | omega | (dsimp only; omega) | (simp; done) | (simp; omega))))) hs (by exact HT.out.ext (by repeat (first | (with_reducible first | exact Ext.refl _ | assumption | apply Ext.alloc | apply Ext.drew | apply Ext.drewN | refine Ext.setCell ?_ ?_ _ | refine Ext.trans ?_ (by assumption)) | (show _ ≤ _; first | omega | (dsimp only; omega) | (simp; done) | (simp; omega)))))).mono ?_
    rintro e w5 ⟨rfl, x5⟩
    go_wp2_with fail
    refine (laws_toLeafS _ xs _ (h.ext (by repeat (first | (with_reducible first | exact Ext.refl _ | assumption | apply Ext.alloc | apply Ext.drew | apply Ext.drewN | refine Ext.setCell ?_ ?_ _ | refine Ext.trans ?_ (by assumption)) | (show _ ≤ _; first | omega | (dsimp only; omega) | (simp; done) | (simp; omega))))) hlen).mono ?_
    rintro e w6 ⟨a6, d6, rfl, o6, x6⟩
    have s6 := o6.lvs
    clear o6
    go_wp2_with fail
    refine (laws_eqLeafS _ _ xs xs _ (s4.ext (by repeat (first | (with_reducible first | exact Ext.refl _ | assumption | apply Ext.alloc | apply Ext.drew | apply Ext.drewN | refine Ext.setCell ?_ ?_ _ | refine Ext.trans ?_ (by assumption)) | (show _ ≤ _; first | omega | (dsimp only; omega) | (simp; done) | (simp; omega))))) (s6.ext (by repeat (first | (with_reducible first | exact Ext.refl _ | assumption | apply Ext.alloc | apply Ext.drew | apply Ext.drewN | refine Ext.setCell ?_ ?_ _ | refine Ext.trans ?_ (by assumption)) | (show _ ≤ _; first | omega | (dsimp only; omega) | (simp; done) | (simp; omega)))))).mono ?_
    rintro e w7 ⟨rfl, x7⟩
    go_wp2
    go_ret
    exact ⟨rfl, (by repeat (first | (with_reducible first | exact Ext.refl _ | assumption | apply Ext.alloc | apply Ext.drew | apply Ext.drewN | refine Ext.setCell ?_ ?_ _ | refine Ext.trans ?_ (by assumption)) | (show _ ≤ _; first | omega | (dsimp only; omega) | (simp; done) | (simp; omega))))⟩
set_option maxHeartbeats 800000 in
theorem laws_FnExactShardRoot (v : Value) (xs : List Leaf) (k s wd : Int) (w : World) (h : Lvs w v xs) (hs : LeafFit xs) (hT : Tabs w) :
    Calls Tryd.prog 7 #[v, .int .i64 k, .int .i64 s, .int .i64 wd] w fun e w' => e = .returned (.bool true) ∧ Ext w w' := by
  have HT := Lib.hid hT
  clear hT
  obtain ⟨a, c, rfl⟩ := h.form
  rcases szr_cases (xs.length + leafBytes xs) with ⟨hz, -⟩ | ⟨z, hz, hz0, hz1, -⟩
  · have HZ := Lib.hid hz
    clear hz
    go_enter Tryd.func7, Tryd.ntmps7
    go_wp2_with (go_at_call 21; refine (laws_szLeafS _ xs _ _ (h.ext (by repeat (first | (with_reducible first | exact Ext.refl _ | assumption | apply Ext.alloc | apply Ext.drew | apply Ext.drewN | refine Ext.setCell ?_ ?_ _ | refine Ext.trans ?_ (by assumption)) | (show _ ≤ _; first | omega | (dsimp only; omega) | (simp; done) | (simp; omega))))) (by omega) hs).mono ?_; rw [HZ.out]; rintro e w1 ⟨rfl, x1⟩)
    go_ret
    exact ⟨rfl, (by repeat (first | (with_reducible first | exact Ext.refl _ | assumption | apply Ext.alloc | apply Ext.drew | apply Ext.drewN | refine Ext.setCell ?_ ?_ _ | refine Ext.trans ?_ (by assumption)) | (show _ ≤ _; first | omega | (dsimp only; omega) | (simp; done) | (simp; omega))))⟩
  · have HZ := Lib.hid hz
    have hlen : xs.length ≤ 1099511627776 := by omega
    clear hz hz1
    go_enter Tryd.func7, Tryd.ntmps7
    go_wp2_with (go_at_call 21; refine (laws_szLeafS _ xs _ _ (h.ext (by repeat (first | (with_reducible first | exact Ext.refl _ | assumption | apply Ext.alloc | apply Ext.drew | apply Ext.drewN | refine Ext.setCell ?_ ?_ _ | refine Ext.trans ?_ (by assumption)) | (show _ ≤ _; first | omega | (dsimp only; omega) | (simp; done) | (simp; omega))))) (by omega) hs).mono ?_; rw [HZ.out]; rintro e w1 ⟨rfl, x1⟩)
    refine (laws_toLeafS _ xs _ (h.ext (by repeat (first | (with_reducible first | exact Ext.refl _ | assumption | apply Ext.alloc | apply Ext.drew | apply Ext.drewN | refine Ext.setCell ?_ ?_ _ | refine Ext.trans ?_ (by assumption)) | (show _ ≤ _; first | omega | (dsimp only; omega) | (simp; done) | (simp; omega))))) hlen).mono ?_
    rintro e w2 ⟨a2, d2, rfl, o2, x2⟩
    have s2 := o2.lvs
    clear o2
    go_wp2_with fail
    refine (spec_ShardRoot _ xs k s wd _ (s2.ext (by repeat (first | (with_reducible first | exact Ext.refl _ | assumption | apply Ext.alloc | apply Ext.drew | apply Ext.drewN | refine Ext.setCell ?_ ?_ _ | refine Ext.trans ?_ (by assumption)) | (show _ ≤ _; first | omega | (dsimp only; omega) | (simp; done) | (simp; omega))))) hs).mono ?_
    rintro e w3 ⟨rfl, x3⟩
    clear s2
    go_wp2_with fail
    refine (laws_toLeafS _ xs _ (h.ext (by repeat (first | (with_reducible first | exact Ext.refl _ | assumption | apply Ext.alloc | apply Ext.drew | apply Ext.drewN | refine Ext.setCell ?_ ?_ _ | refine Ext.trans ?_ (by assumption)) | (show _ ≤ _; first | omega | (dsimp only; omega) | (simp; done) | (simp; omega))))) hlen).mono ?_
    rintro e w4 ⟨a4, d4, rfl, o4, x4⟩
    have s4 := o4.lvs
    clear o4
    go_wp2_with fail
    refine (impl_ShardRoot _ xs k s wd _ (s4.ext (by repeat (first | (with_reducible first | exact Ext.refl _ | assumption | apply Ext.alloc | apply Ext.drew | apply Ext.drewN | refine Ext.setCell ?_ ?_ _ | refine Ext.trans ?_ (by assumption)) | (show _ ≤ _; first | omega | (dsimp only; omega) | (simp; done) | (simp; omega))))) hs (by exact HT.out.ext (by repeat (first | (with_reducible first | exact Ext.refl _ | assumption | apply Ext.alloc | apply Ext.drew | apply Ext.drewN | refine Ext.setCell ?_ ?_ _ | refine Ext.trans ?_ (by assumption)) | (show _ ≤ _; first | omega | (dsimp only; omega) | (simp; done) | (simp; omega)))))).mono ?_
    rintro e w5 ⟨rfl, x5⟩
    go_wp2_with fail
    refine (laws_toLeafS _ xs _ (h.ext (by repeat (first | (with_reducible first | exact Ext.refl _ | assumption | apply Ext.alloc | apply Ext.drew | apply Ext.drewN | refine Ext.setCell ?_ ?_ _ | refine Ext.trans ?_ (by assumption)) | (show _ ≤ _; first | omega | (dsimp only; omega) | (simp; done) | (simp; omega))))) hlen).mono ?_
    rintro e w6 ⟨a6, d6, rfl, o6, x6⟩
    have s6 := o6.lvs
    clear o6
    go_wp2_with fail
    refine (laws_eqLeafS _ _ xs xs _ (s4.ext (by repeat (first | (with_reducible first | exact Ext.refl _ | assumption | apply Ext.alloc | apply Ext.drew | apply Ext.drewN | refine Ext.setCell ?_ ?_ _ | refine Ext.trans ?_ (by assumption)) | (show _ ≤ _; first | omega | (dsimp only; omega) | (simp; done) | (simp; omega))))) (s6.ext (by repeat (first | (with_reducible first | exact Ext.refl _ | assumption | apply Ext.alloc | apply Ext.drew | apply Ext.drewN | refine Ext.setCell ?_ ?_ _ | refine Ext.trans ?_ (by assumption)) | (show _ ≤ _; first | omega | (dsimp only; omega) | (simp; done) | (simp; omega)))))).mono ?_
    rintro e w7 ⟨rfl, x7⟩
    go_wp2
    go_ret
    exact ⟨rfl, (by repeat (first | (with_reducible first | exact Ext.refl _ | assumption | apply Ext.alloc | apply Ext.drew | apply Ext.drewN | refine Ext.setCell ?_ ?_ _ | refine Ext.trans ?_ (by assumption)) | (show _ ≤ _; first | omega | (dsimp only; omega) | (simp; done) | (simp; omega))))⟩
end Go.Proofs.YtagkcgbggeajkaaDoor
