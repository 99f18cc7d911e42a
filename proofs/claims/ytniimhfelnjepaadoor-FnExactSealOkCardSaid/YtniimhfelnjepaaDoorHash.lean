/- Cut digests, tagged hashes, indices, bits. -/
import Derived.Test.YtniimhfelnjepaaDoorDig2
import Derived.Test.YtniimhfelnjepaaDoorDig3
import Derived.Test.YtniimhfelnjepaaDoorTag
import Derived.Test.YtniimhfelnjepaaDoorIn
import Derived.Test.YtniimhfelnjepaaDoorWide
namespace Go.Proofs.YtniimhfelnjepaaDoor
open Go.RowKit

theorem digT_size (t : ByteArray) : (digT t).size = 32 := by
  rw [digT, strOfNums_size]
  rfl
/-- the first wd bytes of the digest -/
def cutT (t : ByteArray) (wd : Int) : ByteArray := if inB wd 1 32 = true then (digT t).extract 0 wd.toNat else ⟨#[]⟩
theorem cutT_yes {t : ByteArray} {n : Nat} (h : inB (n : Int) 1 32 = true) : cutT t n = (digT t).extract 0 n := by
  rw [cutT, if_pos h]
  rfl
theorem cutT_no {t : ByteArray} {wd : Int} (h : inB wd 1 32 = false) : cutT t wd = ⟨#[]⟩ := by
  rw [cutT, if_neg (by rw [h]; decide)]
theorem cutT_size (t : ByteArray) (wd : Int) (h : inB wd 1 32 = true) : ((cutT t wd).size : Int) = wd := by
  have h1 := inB_true.1 h
  obtain ⟨n, rfl⟩ := Int.eq_ofNat_of_zero_le (show 0 ≤ wd by omega)
  rw [cutT_yes h, ByteArray.size_extract, digT_size]
  omega
theorem cutT_le (t : ByteArray) (wd : Int) : (cutT t wd).size ≤ 32 := by
  cases h : inB wd 1 32
  · rw [cutT_no h]; exact Nat.zero_le _
  · have h1 := inB_true.1 h
    have := cutT_size t wd h
    omega

set_option maxHeartbeats 400000 in
theorem impl_CutDigest (t : ByteArray) (wd : Int) (w : World) (ht : t.size ≤ 1073741824) (hT : Tabs w) :
    Calls Tryd.prog 75 #[.string t, .int .i64 wd] w fun e w' => e = .returned (.string (cutT t wd)) ∧ Ext w w' := by
  have HT := Lib.hid hT
  clear hT
  cases h : inB wd 1 32
  · have R := Lib.hid (cutT_no (t := t) h)
    have H := Lib.hid h
    clear h
    go_enter Tryd.func75, Tryd.ntmps75
    go_wp2_with (go_at_call 96; refine (impl_isWide _ _).mono ?_; rw [H.out]; rintro e w' ⟨rfl, rfl⟩)
    go_ret
    exact ⟨ret_str R.out.symm, (by repeat (first | (with_reducible first | exact Ext.refl _ | assumption | apply Ext.alloc | apply Ext.drew | apply Ext.drewN | refine Ext.setCell ?_ ?_ _ | refine Ext.trans ?_ (by assumption)) | (show _ ≤ _; first | omega | (dsimp only; omega) | (simp; done) | (simp; omega))))⟩
  · have h1 := inB_true.1 h
    obtain ⟨n, rfl⟩ := Int.eq_ofNat_of_zero_le (show 0 ≤ wd by omega)
    have R := Lib.hid (cutT_yes (t := t) h)
    have H := Lib.hid h
    have hz : (n : Int) ≤ (digT t).size := by rw [digT_size]; omega
    have hz0 : (0 : Int) ≤ (n : Int) := by omega
    have hn : n ≤ (digT t).size := by omega
    clear h h1
    go_enter Tryd.func75, Tryd.ntmps75
    go_wp2_with (first | (go_at_call 96; refine (impl_isWide _ _).mono ?_; rw [H.out]; rintro e w' ⟨rfl, rfl⟩) | (go_at_call 97; refine (impl_Digest t _ ht (by exact HT.out)).mono ?_; rintro e w1 ⟨rfl, x1⟩))
    go_ret
    exact ⟨ret_str R.out.symm, (by repeat (first | (with_reducible first | exact Ext.refl _ | assumption | apply Ext.alloc | apply Ext.drew | apply Ext.drewN | refine Ext.setCell ?_ ?_ _ | refine Ext.trans ?_ (by assumption)) | (show _ ≤ _; first | omega | (dsimp only; omega) | (simp; done) | (simp; omega))))⟩
set_option maxHeartbeats 400000 in
theorem spec_CutDigest (t : ByteArray) (wd : Int) (w : World) (ht : t.size ≤ 1073741824) :
    Calls Tryd.prog 91 #[.string t, .int .i64 wd] w fun e w' => e = .returned (.string (cutT t wd)) ∧ Ext w w' := by
  cases h : inB wd 1 32
  · have R := Lib.hid (cutT_no (t := t) h)
    have H := Lib.hid h
    clear h
    go_enter Tryd.func91, Tryd.ntmps91
    go_wp2_with (go_at_call 65; refine (spec_l01In _ _ _ _).mono ?_; rw [H.out]; rintro e w' ⟨rfl, rfl⟩)
    go_ret
    exact ⟨ret_str R.out.symm, (by repeat (first | (with_reducible first | exact Ext.refl _ | assumption | apply Ext.alloc | apply Ext.drew | apply Ext.drewN | refine Ext.setCell ?_ ?_ _ | refine Ext.trans ?_ (by assumption)) | (show _ ≤ _; first | omega | (dsimp only; omega) | (simp; done) | (simp; omega))))⟩
  · have h1 := inB_true.1 h
    obtain ⟨n, rfl⟩ := Int.eq_ofNat_of_zero_le (show 0 ≤ wd by omega)
    have R := Lib.hid (cutT_yes (t := t) h)
    have H := Lib.hid h
    have hz : (n : Int) ≤ (digT t).size := by rw [digT_size]; omega
    have hz0 : (0 : Int) ≤ (n : Int) := by omega
    have hn : n ≤ (digT t).size := by omega
    clear h h1
    go_enter Tryd.func91, Tryd.ntmps91
    go_wp2_with (first | (go_at_call 65; refine (spec_l01In _ _ _ _).mono ?_; rw [H.out]; rintro e w' ⟨rfl, rfl⟩) | (go_at_call 101; refine (spec_Digest t _ ht).mono ?_; rintro e w1 ⟨rfl, x1⟩))
    go_ret
    exact ⟨ret_str R.out.symm, (by repeat (first | (with_reducible first | exact Ext.refl _ | assumption | apply Ext.alloc | apply Ext.drew | apply Ext.drewN | refine Ext.setCell ?_ ?_ _ | refine Ext.trans ?_ (by assumption)) | (show _ ≤ _; first | omega | (dsimp only; omega) | (simp; done) | (simp; omega))))⟩

/-- a tagged hash -/
def tagH (kind : Int) (ps : List ByteArray) (wd : Int) : ByteArray := if tagWell kind ps = true then cutT (tagTx kind ps) wd else ⟨#[]⟩
theorem tagTx_size (kind : Int) (ps : List ByteArray) : (tagTx kind ps).size ≤ 1073741824 := by
  cases h : tagWell kind ps
  · rw [tag_no kind ps h]; exact Nat.zero_le _
  · have h2 := h
    simp only [tagWell, Bool.and_eq_true, decide_eq_true_eq, List.all_eq_true] at h2
    have := tagUpto_size kind ps ps.length (Nat.le_refl _) (fun p hp => h2.2.2 p (by rwa [List.take_length] at hp))
    rw [tagTx, if_pos h]
    omega
theorem tagH_le (kind : Int) (ps : List ByteArray) (wd : Int) : (tagH kind ps wd).size ≤ 32 := by
  unfold tagH
  split
  · exact cutT_le _ _
  · exact Nat.zero_le _

set_option maxHeartbeats 400000 in
theorem impl_TagHash (kind : Int) (v : Value) (ps : List ByteArray) (wd : Int) (w : World) (h : Strs w v ps) (hs : ∀ s ∈ ps, s.size ≤ maxLen) (hT : Tabs w) :
    Calls Tryd.prog 89 #[.int .i64 kind, v, .int .i64 wd] w fun e w' => e = .returned (.string (tagH kind ps wd)) ∧ Ext w w' := by
  have HT := Lib.hid hT
  have hz := tagTx_size kind ps
  clear hT
  cases hk : tagWell kind ps
  · have R := Lib.hid (show tagH kind ps wd = ⟨#[]⟩ by rw [tagH, if_neg (by rw [hk]; decide)])
    have H := Lib.hid hk
    clear hk
    go_enter Tryd.func89, Tryd.ntmps89
    go_wp2_with (go_at_call 95; refine (impl_TagText kind v ps _ (by exact h) hs).mono ?_; rw [H.out]; rintro e w1 ⟨rfl, x1⟩)
    go_ret
    exact ⟨ret_str R.out.symm, (by repeat (first | (with_reducible first | exact Ext.refl _ | assumption | apply Ext.alloc | apply Ext.drew | apply Ext.drewN | refine Ext.setCell ?_ ?_ _ | refine Ext.trans ?_ (by assumption)) | (show _ ≤ _; first | omega | (dsimp only; omega) | (simp; done) | (simp; omega))))⟩
  · have R := Lib.hid (show tagH kind ps wd = cutT (tagTx kind ps) wd by rw [tagH, if_pos hk])
    have H := Lib.hid hk
    clear hk
    go_enter Tryd.func89, Tryd.ntmps89
    go_wp2_with (first | (go_at_call 95; refine (impl_TagText kind v ps _ (by exact h) hs).mono ?_; rw [H.out]; rintro e w1 ⟨rfl, x1⟩) | (go_at_call 75; refine (impl_CutDigest (tagTx kind ps) wd _ hz (by exact HT.out.ext x1)).mono ?_; rintro e w2 ⟨rfl, x2⟩))
    go_ret
    exact ⟨ret_str R.out.symm, (by repeat (first | (with_reducible first | exact Ext.refl _ | assumption | apply Ext.alloc | apply Ext.drew | apply Ext.drewN | refine Ext.setCell ?_ ?_ _ | refine Ext.trans ?_ (by assumption)) | (show _ ≤ _; first | omega | (dsimp only; omega) | (simp; done) | (simp; omega))))⟩
set_option maxHeartbeats 400000 in
theorem spec_TagHash (kind : Int) (v : Value) (ps : List ByteArray) (wd : Int) (w : World) (h : Strs w v ps) (hs : ∀ s ∈ ps, s.size ≤ maxLen) :
    Calls Tryd.prog 69 #[.int .i64 kind, v, .int .i64 wd] w fun e w' => e = .returned (.string (tagH kind ps wd)) ∧ Ext w w' := by
  have hz := tagTx_size kind ps
  cases hk : tagWell kind ps
  · have R := Lib.hid (show tagH kind ps wd = ⟨#[]⟩ by rw [tagH, if_neg (by rw [hk]; decide)])
    have H := Lib.hid hk
    clear hk
    go_enter Tryd.func69, Tryd.ntmps69
    go_wp2_with (go_at_call 90; refine (spec_TagText kind v ps _ (by exact h) hs).mono ?_; rw [H.out]; rintro e w1 ⟨rfl, x1⟩)
    go_ret
    exact ⟨ret_str R.out.symm, (by repeat (first | (with_reducible first | exact Ext.refl _ | assumption | apply Ext.alloc | apply Ext.drew | apply Ext.drewN | refine Ext.setCell ?_ ?_ _ | refine Ext.trans ?_ (by assumption)) | (show _ ≤ _; first | omega | (dsimp only; omega) | (simp; done) | (simp; omega))))⟩
  · have R := Lib.hid (show tagH kind ps wd = cutT (tagTx kind ps) wd by rw [tagH, if_pos hk])
    have H := Lib.hid hk
    clear hk
    go_enter Tryd.func69, Tryd.ntmps69
    go_wp2_with (first | (go_at_call 90; refine (spec_TagText kind v ps _ (by exact h) hs).mono ?_; rw [H.out]; rintro e w1 ⟨rfl, x1⟩) | (go_at_call 91; refine (spec_CutDigest (tagTx kind ps) wd _ hz).mono ?_; rintro e w2 ⟨rfl, x2⟩))
    go_ret
    exact ⟨ret_str R.out.symm, (by repeat (first | (with_reducible first | exact Ext.refl _ | assumption | apply Ext.alloc | apply Ext.drew | apply Ext.drewN | refine Ext.setCell ?_ ?_ _ | refine Ext.trans ?_ (by assumption)) | (show _ ≤ _; first | omega | (dsimp only; omega) | (simp; done) | (simp; omega))))⟩
theorem impl_hashOf (kind : Int) (v : Value) (ps : List ByteArray) (wd : Int) (w : World) (h : Strs w v ps) (hs : ∀ s ∈ ps, s.size ≤ maxLen) (hT : Tabs w) :
    Calls Tryd.prog 68 #[.int .i64 kind, .int .i64 wd, v] w fun e w' => e = .returned (.string (tagH kind ps wd)) ∧ Ext w w' := by
  have HT := Lib.hid hT
  clear hT
  go_enter Tryd.func68, Tryd.ntmps68
  go_wp2_with (go_at_call 89; refine (impl_TagHash kind v ps wd _ (by exact h) hs (by exact HT.out)).mono ?_; rintro e w1 ⟨rfl, x1⟩)
  go_ret
  exact ⟨rfl, (by repeat (first | (with_reducible first | exact Ext.refl _ | assumption | apply Ext.alloc | apply Ext.drew | apply Ext.drewN | refine Ext.setCell ?_ ?_ _ | refine Ext.trans ?_ (by assumption)) | (show _ ≤ _; first | omega | (dsimp only; omega) | (simp; done) | (simp; omega))))⟩

/-- the index of a name -/
def idxT (t : ByteArray) : Int := ((digT t).data.getD 0 0).toNat
theorem idxT_bd (t : ByteArray) : 0 ≤ idxT t ∧ idxT t ≤ 255 := by
  have := ((digT t).data.getD 0 0).toNat_lt
  unfold idxT
  omega
theorem idx_at (t : ByteArray) (h : 0 < (digT t).size) : ((((digT t)[0]'h).toNat : Nat) : Int) = idxT t := by
  rw [idxT, byte_getD _ _ h]
def bitT (i l : Int) : Int := if inB l 0 7 = true then bits .and .i64 (i / 2 ^ (7 - l).toNat) 1 else 0
theorem bitT_yes {i l : Int} (h : inB l 0 7 = true) : bitT i l = bits .and .i64 (i / 2 ^ (7 - l).toNat) 1 := by rw [bitT, if_pos h]
theorem bitT_no {i l : Int} (h : inB l 0 7 = false) : bitT i l = 0 := by rw [bitT, if_neg (by rw [h]; decide)]
theorem impl_BitOf (i l : Int) (w : World) :
    Calls Tryd.prog 82 #[.int .i64 i, .int .i64 l] w fun e w' => e = .returned (.int .i64 (bitT i l)) ∧ w = w' := by
  cases h : inB l 0 7
  · have R := Lib.hid (bitT_no (i := i) h)
    have H := Lib.hid h
    clear h
    go_enter Tryd.func82, Tryd.ntmps82
    go_wp2_with (go_at_call 79; refine (impl_in _ _ _ _).mono ?_; rw [H.out]; rintro e w' ⟨rfl, rfl⟩)
    go_ret
    exact ⟨ret_int R.out.symm, rfl⟩
  · have R := Lib.hid (bitT_yes (i := i) h)
    have h1 := inB_true.1 h
    obtain ⟨h2, h3⟩ := h1
    have H := Lib.hid h
    clear h
    go_enter Tryd.func82, Tryd.ntmps82
    go_wp2_with (go_at_call 79; refine (impl_in _ _ _ _).mono ?_; rw [H.out]; rintro e w' ⟨rfl, rfl⟩)
    go_ret
    exact ⟨ret_int R.out.symm, rfl⟩
theorem spec_BitOf (i l : Int) (w : World) :
    Calls Tryd.prog 73 #[.int .i64 i, .int .i64 l] w fun e w' => e = .returned (.int .i64 (bitT i l)) ∧ w = w' := by
  cases h : inB l 0 7
  · have R := Lib.hid (bitT_no (i := i) h)
    have H := Lib.hid h
    clear h
    go_enter Tryd.func73, Tryd.ntmps73
    go_wp2_with (go_at_call 65; refine (spec_l01In _ _ _ _).mono ?_; rw [H.out]; rintro e w' ⟨rfl, rfl⟩)
    go_ret
    exact ⟨ret_int R.out.symm, rfl⟩
  · have R := Lib.hid (bitT_yes (i := i) h)
    have h1 := inB_true.1 h
    obtain ⟨h2, h3⟩ := h1
    have H := Lib.hid h
    clear h
    go_enter Tryd.func73, Tryd.ntmps73
    go_wp2_with (go_at_call 65; refine (spec_l01In _ _ _ _).mono ?_; rw [H.out]; rintro e w' ⟨rfl, rfl⟩)
    go_ret
    exact ⟨ret_int R.out.symm, rfl⟩
end Go.Proofs.YtniimhfelnjepaaDoor
