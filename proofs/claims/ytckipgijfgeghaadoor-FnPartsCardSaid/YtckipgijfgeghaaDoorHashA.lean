/- Hash, Shard, Empty, Roots in one text. -/
import Derived.Test.YtckipgijfgeghaaDoorDig2
import Derived.Test.YtckipgijfgeghaaDoorDig3
import Derived.Test.YtckipgijfgeghaaDoorTagA
import Derived.Test.YtckipgijfgeghaaDoorCore
import Derived.Test.YtckipgijfgeghaaDoorStrA
import Derived.Deep.RegionHeld3
import Derived.Deep.AppendLies
import Derived.Laws.AppendOwnNone
namespace Go.Proofs.YtckipgijfgeghaaDoor
open Go.RowKit

theorem digT_size (t : ByteArray) : (digT t).size = 32 := by
  rw [digT, strOfNums_size]
  rfl
/-- the first wd bytes of the digest -/
def cutT (t : ByteArray) (wd : Int) : ByteArray := if inB wd 1 32 = true then (digT t).extract 0 wd.toNat else ⟨#[]⟩
theorem cutT_yes {t : ByteArray} {n : Nat} (h : inB (n : Int) 1 32 = true) : cutT t n = (digT t).extract 0 n := by
  rw [cutT, if_pos h]
  rfl
theorem cutT_no {t : ByteArray} {wd : Int} (h : inB wd 1 32 = false) : cutT t wd = ⟨#[]⟩ := by
  rw [cutT, if_neg (by rw [h]; decide)]
theorem cutT_size (t : ByteArray) (wd : Int) (h : inB wd 1 32 = true) : ((cutT t wd).size : Int) = wd := by
  have h1 := inB_true.1 h
  obtain ⟨n, rfl⟩ := Int.eq_ofNat_of_zero_le (show 0 ≤ wd by omega)
  rw [cutT_yes h, ByteArray.size_extract, digT_size]
  omega
theorem cutT_le (t : ByteArray) (wd : Int) : (cutT t wd).size ≤ 32 := by
  cases h : inB wd 1 32
  · rw [cutT_no h]; exact Nat.zero_le _
  · have h1 := inB_true.1 h
    have := cutT_size t wd h
    omega

set_option maxHeartbeats 400000 in
theorem impl_CutDigest (t : ByteArray) (wd : Int) (w : World) (ht : t.size ≤ 1073741824) (hT : Tabs w) :
    Calls Tryd.prog 53 #[.string t, .int .i64 wd] w fun e w' => e = .returned (.string (cutT t wd)) ∧ Ext w w' := by
  have HT := Lib.hid hT
  clear hT
  cases h : inB wd 1 32
  · have R := Lib.hid (cutT_no (t := t) h)
    have H := Lib.hid h
    clear h
    go_enter Tryd.func53, Tryd.ntmps53
    go_wp2_with (go_at_call 32; refine (impl_isWide _ _).mono ?_; rw [H.out]; rintro e w' ⟨rfl, rfl⟩)
    go_ret
    exact ⟨ret_str R.out.symm, (by repeat (first | (with_reducible first | exact Ext.refl _ | assumption | apply Ext.alloc | apply Ext.drew | apply Ext.drewN | refine Ext.setCell ?_ ?_ _ | refine Ext.trans ?_ (by assumption)) | (show _ ≤ _; first | omega | (dsimp only; omega) | (simp; done) | (simp; omega))))⟩
  · have h1 := inB_true.1 h
    obtain ⟨n, rfl⟩ := Int.eq_ofNat_of_zero_le (show 0 ≤ wd by omega)
    have R := Lib.hid (cutT_yes (t := t) h)
    have H := Lib.hid h
    have hz : (n : Int) ≤ (digT t).size := by rw [digT_size]; omega
    have hz0 : (0 : Int) ≤ (n : Int) := by omega
    have hn : n ≤ (digT t).size := by omega
    clear h h1
    go_enter Tryd.func53, Tryd.ntmps53
    go_wp2_with (first | (go_at_call 32; refine (impl_isWide _ _).mono ?_; rw [H.out]; rintro e w' ⟨rfl, rfl⟩) | (go_at_call 31; refine (impl_Digest t _ ht (by exact HT.out)).mono ?_; rintro e w1 ⟨rfl, x1⟩))
    go_ret
    exact ⟨ret_str R.out.symm, (by repeat (first | (with_reducible first | exact Ext.refl _ | assumption | apply Ext.alloc | apply Ext.drew | apply Ext.drewN | refine Ext.setCell ?_ ?_ _ | refine Ext.trans ?_ (by assumption)) | (show _ ≤ _; first | omega | (dsimp only; omega) | (simp; done) | (simp; omega))))⟩
set_option maxHeartbeats 400000 in
theorem spec_CutDigest (t : ByteArray) (wd : Int) (w : World) (ht : t.size ≤ 1073741824) :
    Calls Tryd.prog 78 #[.string t, .int .i64 wd] w fun e w' => e = .returned (.string (cutT t wd)) ∧ Ext w w' := by
  cases h : inB wd 1 32
  · have R := Lib.hid (cutT_no (t := t) h)
    have H := Lib.hid h
    clear h
    go_enter Tryd.func78, Tryd.ntmps78
    go_wp2_with (go_at_call 44; refine (spec_l01In _ _ _ _).mono ?_; rw [H.out]; rintro e w' ⟨rfl, rfl⟩)
    go_ret
    exact ⟨ret_str R.out.symm, (by repeat (first | (with_reducible first | exact Ext.refl _ | assumption | apply Ext.alloc | apply Ext.drew | apply Ext.drewN | refine Ext.setCell ?_ ?_ _ | refine Ext.trans ?_ (by assumption)) | (show _ ≤ _; first | omega | (dsimp only; omega) | (simp; done) | (simp; omega))))⟩
  · have h1 := inB_true.1 h
    obtain ⟨n, rfl⟩ := Int.eq_ofNat_of_zero_le (show 0 ≤ wd by omega)
    have R := Lib.hid (cutT_yes (t := t) h)
    have H := Lib.hid h
    have hz : (n : Int) ≤ (digT t).size := by rw [digT_size]; omega
    have hz0 : (0 : Int) ≤ (n : Int) := by omega
    have hn : n ≤ (digT t).size := by omega
    clear h h1
    go_enter Tryd.func78, Tryd.ntmps78
    go_wp2_with (first | (go_at_call 44; refine (spec_l01In _ _ _ _).mono ?_; rw [H.out]; rintro e w' ⟨rfl, rfl⟩) | (go_at_call 80; refine (spec_Digest t _ ht).mono ?_; rintro e w1 ⟨rfl, x1⟩))
    go_ret
    exact ⟨ret_str R.out.symm, (by repeat (first | (with_reducible first | exact Ext.refl _ | assumption | apply Ext.alloc | apply Ext.drew | apply Ext.drewN | refine Ext.setCell ?_ ?_ _ | refine Ext.trans ?_ (by assumption)) | (show _ ≤ _; first | omega | (dsimp only; omega) | (simp; done) | (simp; omega))))⟩

/-- a tagged hash -/
def tagH (kind : Int) (ps : List ByteArray) (wd : Int) : ByteArray := if tagWell kind ps = true then cutT (tagTx kind ps) wd else ⟨#[]⟩
theorem tagTx_size (kind : Int) (ps : List ByteArray) : (tagTx kind ps).size ≤ 1073741824 := by
  cases h : tagWell kind ps
  · rw [tag_no kind ps h]; exact Nat.zero_le _
  · have h2 := h
    simp only [tagWell, Bool.and_eq_true, decide_eq_true_eq, List.all_eq_true] at h2
    have := tagUpto_size kind ps ps.length (Nat.le_refl _) (fun p hp => h2.2.2 p (by rwa [List.take_length] at hp))
    rw [tagTx, if_pos h]
    omega
theorem tagH_le (kind : Int) (ps : List ByteArray) (wd : Int) : (tagH kind ps wd).size ≤ 32 := by
  unfold tagH
  split
  · exact cutT_le _ _
  · exact Nat.zero_le _

set_option maxHeartbeats 400000 in
theorem impl_TagHash (kind : Int) (v : Value) (ps : List ByteArray) (wd : Int) (w : World) (h : Strs w v ps) (hs : ∀ s ∈ ps, s.size ≤ maxLen) (hT : Tabs w) :
    Calls Tryd.prog 67 #[.int .i64 kind, v, .int .i64 wd] w fun e w' => e = .returned (.string (tagH kind ps wd)) ∧ Ext w w' := by
  have HT := Lib.hid hT
  have hz := tagTx_size kind ps
  clear hT
  cases hk : tagWell kind ps
  · have R := Lib.hid (show tagH kind ps wd = ⟨#[]⟩ by rw [tagH, if_neg (by rw [hk]; decide)])
    have H := Lib.hid hk
    clear hk
    go_enter Tryd.func67, Tryd.ntmps67
    go_wp2_with (go_at_call 75; refine (impl_TagText kind v ps _ (by exact h) hs).mono ?_; rw [H.out]; rintro e w1 ⟨rfl, x1⟩)
    go_ret
    exact ⟨ret_str R.out.symm, (by repeat (first | (with_reducible first | exact Ext.refl _ | assumption | apply Ext.alloc | apply Ext.drew | apply Ext.drewN | refine Ext.setCell ?_ ?_ _ | refine Ext.trans ?_ (by assumption)) | (show _ ≤ _; first | omega | (dsimp only; omega) | (simp; done) | (simp; omega))))⟩
  · have R := Lib.hid (show tagH kind ps wd = cutT (tagTx kind ps) wd by rw [tagH, if_pos hk])
    have H := Lib.hid hk
    clear hk
    go_enter Tryd.func67, Tryd.ntmps67
    go_wp2_with (first | (go_at_call 75; refine (impl_TagText kind v ps _ (by exact h) hs).mono ?_; rw [H.out]; rintro e w1 ⟨rfl, x1⟩) | (go_at_call 53; refine (impl_CutDigest (tagTx kind ps) wd _ hz (by exact HT.out.ext x1)).mono ?_; rintro e w2 ⟨rfl, x2⟩))
    go_ret
    exact ⟨ret_str R.out.symm, (by repeat (first | (with_reducible first | exact Ext.refl _ | assumption | apply Ext.alloc | apply Ext.drew | apply Ext.drewN | refine Ext.setCell ?_ ?_ _ | refine Ext.trans ?_ (by assumption)) | (show _ ≤ _; first | omega | (dsimp only; omega) | (simp; done) | (simp; omega))))⟩
set_option maxHeartbeats 400000 in
theorem spec_TagHash (kind : Int) (v : Value) (ps : List ByteArray) (wd : Int) (w : World) (h : Strs w v ps) (hs : ∀ s ∈ ps, s.size ≤ maxLen) :
    Calls Tryd.prog 71 #[.int .i64 kind, v, .int .i64 wd] w fun e w' => e = .returned (.string (tagH kind ps wd)) ∧ Ext w w' := by
  have hz := tagTx_size kind ps
  cases hk : tagWell kind ps
  · have R := Lib.hid (show tagH kind ps wd = ⟨#[]⟩ by rw [tagH, if_neg (by rw [hk]; decide)])
    have H := Lib.hid hk
    clear hk
    go_enter Tryd.func71, Tryd.ntmps71
    go_wp2_with (go_at_call 79; refine (spec_TagText kind v ps _ (by exact h) hs).mono ?_; rw [H.out]; rintro e w1 ⟨rfl, x1⟩)
    go_ret
    exact ⟨ret_str R.out.symm, (by repeat (first | (with_reducible first | exact Ext.refl _ | assumption | apply Ext.alloc | apply Ext.drew | apply Ext.drewN | refine Ext.setCell ?_ ?_ _ | refine Ext.trans ?_ (by assumption)) | (show _ ≤ _; first | omega | (dsimp only; omega) | (simp; done) | (simp; omega))))⟩
  · have R := Lib.hid (show tagH kind ps wd = cutT (tagTx kind ps) wd by rw [tagH, if_pos hk])
    have H := Lib.hid hk
    clear hk
    go_enter Tryd.func71, Tryd.ntmps71
    go_wp2_with (first | (go_at_call 79; refine (spec_TagText kind v ps _ (by exact h) hs).mono ?_; rw [H.out]; rintro e w1 ⟨rfl, x1⟩) | (go_at_call 78; refine (spec_CutDigest (tagTx kind ps) wd _ hz).mono ?_; rintro e w2 ⟨rfl, x2⟩))
    go_ret
    exact ⟨ret_str R.out.symm, (by repeat (first | (with_reducible first | exact Ext.refl _ | assumption | apply Ext.alloc | apply Ext.drew | apply Ext.drewN | refine Ext.setCell ?_ ?_ _ | refine Ext.trans ?_ (by assumption)) | (show _ ≤ _; first | omega | (dsimp only; omega) | (simp; done) | (simp; omega))))⟩
theorem impl_hashOf (kind : Int) (v : Value) (ps : List ByteArray) (wd : Int) (w : World) (h : Strs w v ps) (hs : ∀ s ∈ ps, s.size ≤ maxLen) (hT : Tabs w) :
    Calls Tryd.prog 42 #[.int .i64 kind, .int .i64 wd, v] w fun e w' => e = .returned (.string (tagH kind ps wd)) ∧ Ext w w' := by
  have HT := Lib.hid hT
  clear hT
  go_enter Tryd.func42, Tryd.ntmps42
  go_wp2_with (go_at_call 67; refine (impl_TagHash kind v ps wd _ (by exact h) hs (by exact HT.out)).mono ?_; rintro e w1 ⟨rfl, x1⟩)
  go_ret
  exact ⟨rfl, (by repeat (first | (with_reducible first | exact Ext.refl _ | assumption | apply Ext.alloc | apply Ext.drew | apply Ext.drewN | refine Ext.setCell ?_ ?_ _ | refine Ext.trans ?_ (by assumption)) | (show _ ≤ _; first | omega | (dsimp only; omega) | (simp; done) | (simp; omega))))⟩

/-- the index of a name -/
def idxT (t : ByteArray) : Int := ((digT t).data.getD 0 0).toNat
theorem idxT_bd (t : ByteArray) : 0 ≤ idxT t ∧ idxT t ≤ 255 := by
  have := ((digT t).data.getD 0 0).toNat_lt
  unfold idxT
  omega
theorem idx_at (t : ByteArray) (h : 0 < (digT t).size) : ((((digT t)[0]'h).toNat : Nat) : Int) = idxT t := by
  rw [idxT, byte_getD _ _ h]
set_option maxHeartbeats 400000 in
theorem impl_IndexOf (t : ByteArray) (w : World) (ht : t.size ≤ 1073741824) (hT : Tabs w) :
    Calls Tryd.prog 19 #[.string t] w fun e w' => e = .returned (.int .i64 (idxT t)) ∧ Ext w w' := by
  have HT := Lib.hid hT
  have hz : 0 < (digT t).size := by rw [digT_size]; omega
  have hz1 : (0 : Int) < (digT t).size := by omega
  have R := Lib.hid (idx_at t hz)
  have hb := ((digT t)[0]'hz).toNat_lt
  clear hT
  go_enter Tryd.func19, Tryd.ntmps19
  go_wp2_with (go_at_call 31; refine (impl_Digest t _ ht (by exact HT.out)).mono ?_; rintro e w1 ⟨rfl, x1⟩)
  go_ret
  exact ⟨ret_int R.out, (by repeat (first | (with_reducible first | exact Ext.refl _ | assumption | apply Ext.alloc | apply Ext.drew | apply Ext.drewN | refine Ext.setCell ?_ ?_ _ | refine Ext.trans ?_ (by assumption)) | (show _ ≤ _; first | omega | (dsimp only; omega) | (simp; done) | (simp; omega))))⟩
set_option maxHeartbeats 400000 in
theorem spec_IndexOf (t : ByteArray) (w : World) (ht : t.size ≤ 1073741824) :
    Calls Tryd.prog 72 #[.string t] w fun e w' => e = .returned (.int .i64 (idxT t)) ∧ Ext w w' := by
  have hz : 0 < (digT t).size := by rw [digT_size]; omega
  have hz1 : (0 : Int) < (digT t).size := by omega
  have R := Lib.hid (idx_at t hz)
  have hb := ((digT t)[0]'hz).toNat_lt
  go_enter Tryd.func72, Tryd.ntmps72
  go_wp2_with (go_at_call 80; refine (spec_Digest t _ ht).mono ?_; rintro e w1 ⟨rfl, x1⟩)
  go_ret
  exact ⟨ret_int R.out, (by repeat (first | (with_reducible first | exact Ext.refl _ | assumption | apply Ext.alloc | apply Ext.drew | apply Ext.drewN | refine Ext.setCell ?_ ?_ _ | refine Ext.trans ?_ (by assumption)) | (show _ ≤ _; first | omega | (dsimp only; omega) | (simp; done) | (simp; omega))))⟩

/-- a bit of an index -/
def bitT (i l : Int) : Int := if inB l 0 7 = true then bits .and .i64 (i / 2 ^ (7 - l).toNat) 1 else 0
theorem bitT_yes {i l : Int} (h : inB l 0 7 = true) : bitT i l = bits .and .i64 (i / 2 ^ (7 - l).toNat) 1 := by rw [bitT, if_pos h]
theorem bitT_no {i l : Int} (h : inB l 0 7 = false) : bitT i l = 0 := by rw [bitT, if_neg (by rw [h]; decide)]
end Go.Proofs.YtckipgijfgeghaaDoor
namespace Go.Proofs.YtckipgijfgeghaaDoor
open Go.RowKit

/-- the shard of a name -/
def shardT (t : ByteArray) (k : Int) : Int := if inB k 0 2 = true then idxT t / 2 ^ (8 - k).toNat else 0
theorem shardT_yes {t : ByteArray} {k : Int} (h : inB k 0 2 = true) : shardT t k = idxT t / 2 ^ (8 - k).toNat := by rw [shardT, if_pos h]
theorem shardT_no {t : ByteArray} {k : Int} (h : inB k 0 2 = false) : shardT t k = 0 := by rw [shardT, if_neg (by rw [h]; decide)]
theorem impl_isSplit (n : Int) (w : World) :
    Calls Tryd.prog 18 #[.int .i64 n] w fun e w' => e = .returned (.bool (inB n 0 2)) ∧ w = w' := by
  go_enter Tryd.func18, Tryd.ntmps18
  go_wp2_with (go_at_call 30; refine (impl_in _ _ _ _).mono ?_; rintro e w' ⟨rfl, rfl⟩)
  all_goals go_ret
  all_goals exact ⟨rfl, rfl⟩
set_option maxHeartbeats 400000 in
theorem impl_ShardOf (t : ByteArray) (k : Int) (w : World) (ht : t.size ≤ 1073741824) (hT : Tabs w) :
    Calls Tryd.prog 8 #[.string t, .int .i64 k] w fun e w' => e = .returned (.int .i64 (shardT t k)) ∧ Ext w w' := by
  have HT := Lib.hid hT
  clear hT
  cases h : inB k 0 2
  · have R := Lib.hid (shardT_no (t := t) h)
    have H := Lib.hid h
    clear h
    go_enter Tryd.func8, Tryd.ntmps8
    go_wp2_with (go_at_call 18; refine (impl_isSplit _ _).mono ?_; rw [H.out]; rintro e w' ⟨rfl, rfl⟩)
    go_ret
    exact ⟨ret_int R.out.symm, (by repeat (first | (with_reducible first | exact Ext.refl _ | assumption | apply Ext.alloc | apply Ext.drew | apply Ext.drewN | refine Ext.setCell ?_ ?_ _ | refine Ext.trans ?_ (by assumption)) | (show _ ≤ _; first | omega | (dsimp only; omega) | (simp; done) | (simp; omega))))⟩
  · have R := Lib.hid (shardT_yes (t := t) h)
    obtain ⟨h1, h2⟩ := inB_true.1 h
    have H := Lib.hid h
    obtain ⟨b1, b2⟩ := idxT_bd t
    clear h
    go_enter Tryd.func8, Tryd.ntmps8
    go_wp2_with (first | (go_at_call 18; refine (impl_isSplit _ _).mono ?_; rw [H.out]; rintro e w' ⟨rfl, rfl⟩) | (go_at_call 19; refine (impl_IndexOf t _ ht (by exact HT.out)).mono ?_; rintro e w1 ⟨rfl, x1⟩))
    go_ret
    exact ⟨ret_int R.out.symm, (by repeat (first | (with_reducible first | exact Ext.refl _ | assumption | apply Ext.alloc | apply Ext.drew | apply Ext.drewN | refine Ext.setCell ?_ ?_ _ | refine Ext.trans ?_ (by assumption)) | (show _ ≤ _; first | omega | (dsimp only; omega) | (simp; done) | (simp; omega))))⟩
end Go.Proofs.YtckipgijfgeghaaDoor
namespace Go.Proofs.YtckipgijfgeghaaDoor
open Go.RowKit

/-- the hash of an empty place, k levels above the buckets -/
def emptyAt (wd : Int) : Nat → ByteArray
  | 0 => tagH 1 [] wd
  | k + 1 => tagH 3 [emptyAt wd k, emptyAt wd k] wd
theorem emptyAt_le (wd : Int) : ∀ k, (emptyAt wd k).size ≤ 32
  | 0 => tagH_le _ _ _
  | _ + 1 => tagH_le _ _ _
def emptyH (l wd : Int) : ByteArray := if inB l 0 8 = true then (if inB wd 1 32 = true then emptyAt wd (8 - l).toNat else ⟨#[]⟩) else ⟨#[]⟩

set_option maxHeartbeats 800000 in
theorem impl_emptyHash (n : Nat) (wd : Int) (w : World) (hn : n ≤ 8) (hT : Tabs w) :
    Calls Tryd.prog 55 #[.int .i64 (8 - (n : Int)), .int .i64 wd] w fun e w' => e = .returned (.string (emptyAt wd n)) ∧ Ext w w' := by
  have HT := Lib.hid hT
  clear hT
  go_enter Tryd.func55, Tryd.ntmps55
  go_wp2_with (go_at_call 42; refine (impl_hashOf 1 _ [] wd _ (by exact strs_nil _) fit0 (by exact HT.out)).mono ?_; rintro e w1 ⟨rfl, x1⟩)
  go_loopw [5, 6] (fun h l wr => ∃ k : Nat, k ≤ n ∧ l = .int .i64 (8 - (k : Int)) ∧ h = .string (emptyAt wd k) ∧ Ext w wr) (fun _ l _ => (intOf l).toNat - (8 - n))
  case atStart => exact ⟨0, by omega, rfl, rfl, x1⟩
  case round =>
    clear x1
    obtain ⟨k, hk, rfl, rfl, hx⟩ := hrel
    by_cases hlt : k < n
    · have hq : 8 - (n : Int) < 8 - (k : Int) := by omega
      have hz := le_max (emptyAt_le wd k) (by omega)
      have E1 := Lib.hid (show emptyAt wd (k + 1) = tagH 3 [emptyAt wd k, emptyAt wd k] wd from rfl)
      go_wp2_with (go_at_call 42; refine (impl_hashOf 3 _ [emptyAt wd k, emptyAt wd k] wd _ (by exact strs_lit2 _ _ _ _) (fit2 hz hz) (by exact HT.out.ext (by repeat (first | (with_reducible first | exact Ext.refl _ | assumption | apply Ext.alloc | apply Ext.drew | apply Ext.drewN | refine Ext.setCell ?_ ?_ _ | refine Ext.trans ?_ (by assumption)) | (show _ ≤ _; first | omega | (dsimp only; omega) | (simp; done) | (simp; omega)))))).mono ?_; rintro e w2 ⟨rfl, x2⟩)
      go_roundw
      case rel => exact ⟨k + 1, by omega, by go_num, by rw [E1.out], (by repeat (first | (with_reducible first | exact Ext.refl _ | assumption | apply Ext.alloc | apply Ext.drew | apply Ext.drewN | refine Ext.setCell ?_ ?_ _ | refine Ext.trans ?_ (by assumption)) | (show _ ≤ _; first | omega | (dsimp only; omega) | (simp; done) | (simp; omega))))⟩
      case measure => simp [intOf]; omega
    · obtain rfl : k = n := by omega
      have hq : ¬ (8 - (k : Int) < 8 - (k : Int)) := by omega
      go_wp2
      go_ret
      exact ⟨rfl, hx⟩

/-- the list when k levels above the buckets are laid -/
def emL (wd : Int) (k : Nat) : List ByteArray := List.replicate (8 - k) ⟨#[]⟩ ++ (List.range (k + 1)).map fun j => emptyAt wd (k - j)
theorem emL_len (wd : Int) (k : Nat) (h : k ≤ 8) : (emL wd k).length = 9 := by
  rw [emL, List.length_append, List.length_replicate, List.length_map, List.length_range]
  omega
theorem emL_get (wd : Int) (k i : Nat) (h : k ≤ 8) (hi : i < 9) : (emL wd k)[i]? = some (if i < 8 - k then ⟨#[]⟩ else emptyAt wd (8 - i)) := by
  rw [emL]
  by_cases hlt : i < 8 - k
  · rw [List.getElem?_append_left (by rw [List.length_replicate]; exact hlt), if_pos hlt]
    simp [hlt]
  · rw [List.getElem?_append_right (by rw [List.length_replicate]; omega), if_neg hlt, List.length_replicate, List.getElem?_map, List.getElem?_range (by omega)]
    simp only [Option.map_some]
    congr 2
    omega
theorem emL_set (wd : Int) (k : Nat) (h : k < 8) : (emL wd k).set (7 - k) (emptyAt wd (k + 1)) = emL wd (k + 1) := by
  apply List.ext_getElem?
  intro i
  by_cases hi : i < 9
  · rw [List.getElem?_set, emL_get wd k i (by omega) hi, emL_get wd (k + 1) i (by omega) hi, emL_len wd k (by omega)]
    by_cases e : 7 - k = i
    · rw [if_pos e, if_pos (by omega), if_neg (by omega)]
      congr 2
      omega
    · rw [if_neg e]
      by_cases h2 : i < 8 - (k + 1)
      · rw [if_pos h2, if_pos (by omega)]
      · rw [if_neg h2, if_neg (by omega)]
  · rw [List.getElem?_eq_none (by rw [List.length_set, emL_len wd k (by omega)]; omega), List.getElem?_eq_none (by rw [emL_len wd (k + 1) (by omega)]; omega)]
theorem map_set_str (xs : List ByteArray) (k : Nat) (s : ByteArray) : (xs.map Value.string).set k (.string s) = (xs.set k s).map Value.string := by rw [List.map_set]

theorem cell_new {w : World} {b o : Nat} {v : Value} {t : TypeId} {xs : Array Value} (h : w.cell? ⟨b, o, none⟩ = some v) (hb : b < w.heap.size) : (w.drew.alloc (.cells xs t)).cell? ⟨b, o, none⟩ = some v :=
  (World.cell?_alloc_past (w := w.drew) _ b o hb).trans h
theorem cell_set {w : World} {b o p : Nat} {u v : Value} (h : w.cell? ⟨b, o, none⟩ = some v) (hn : p ≠ o) : (w.setCell ⟨b, p, none⟩ u).cell? ⟨b, o, none⟩ = some v := by
  rw [World.cell?_setCell_other _ _ _ _ (fun e => hn (by injection e))]
  exact h
set_option maxRecDepth 100000 in
set_option maxHeartbeats 1600000 in
theorem spec_l10Empties (wd : Int) (w : World) :
    Calls Tryd.prog 47 #[.int .i64 wd] w fun e w' => ∃ a c, e = .returned (.slice a 9 c) ∧ OwnStrs w' w.heap.size (.slice a 9 c) (emL wd 8) ∧ Ext w w' := by
  obtain ⟨i0, hi, hz0, hz1, hz2⟩ := info_parts infoString
  go_enter Tryd.func47, Tryd.ntmps47
  go_wp2_with (at_make; refine wpList_make_full _ rfl _ _ 29 rfl w.heap.size 9 i0 _ 1 Tryd.underlying29 hi hz0 hz1 _ _ _ _ 9 rfl rfl rfl rfl (by rw [hz2]; omega) (by unfold maxLen; omega) (Nat.le_refl _) ?_; intro w1 hown1 hgrow1)
  have hx1 : Ext w w1 := (Ext.refl w).grown hgrow1 (by simp)
  rw [Nat.mul_one, show (Value.string ⟨#[]⟩).cells = #[.string ⟨#[]⟩] from rfl, toList_madeCells_one] at hown1
  have l1 : w.heap.size < w1.heap.size := (hown1.lt _ rfl).2
  have O1 := Lib.hid hown1
  clear hown1 hgrow1
  go_wp2_with fail
  refine (spec_TagHash 1 _ [] wd _ (by exact strs_lit0 _ _) fit0).mono ?_
  rintro e w2 ⟨rfl, x2⟩
  have x3 : Ext w1 w2 := (by repeat (first | (with_reducible first | exact Ext.refl _ | assumption | apply Ext.alloc | apply Ext.drew | apply Ext.drewN | refine Ext.setCell ?_ ?_ _ | refine Ext.trans ?_ (by assumption)) | (show _ ≤ _; first | omega | (dsimp only; omega) | (simp; done) | (simp; omega))))
  have o2 := own_ext O1.out x3
  have x4 : Ext w w2 := hx1.trans x3
  have l2 := o2.lt _ rfl
  have c8 := o2.cellAt 8 (by decide)
  have f8 := o2.frozenAt 8
  have S0 := (o2.stored 8 (.string (emptyAt wd 0))).1
  have HS := Lib.hid (show (w2.setCell ⟨w.heap.size, 8, none⟩ (.string (emptyAt wd 0))).ownsRow w.heap.size 9 1 (.slice (some ⟨w.heap.size, 0, none⟩) 9 9) 9 ((emL wd 0).map Value.string) from S0)
  have hxs : Ext w (w2.setCell ⟨w.heap.size, 8, none⟩ (.string (emptyAt wd 0))) := x4.setCell (Nat.le_refl _) _
  clear O1 o2 S0 hx1 x2 x3
  go_wp2
  go_loopw [4] (fun i wr => ∃ m : Nat, m ≤ 8 ∧ i = .int .i64 ((m : Int) - 1) ∧ wr.ownsRow w.heap.size 9 1 (.slice (some ⟨w.heap.size, 0, none⟩) 9 9) 9 ((emL wd (8 - m)).map Value.string) ∧ Ext w wr) (fun i _ => (intOf i + 1).toNat)
  case atStart => exact ⟨8, by omega, rfl, HS.out, hxs⟩
  case round =>
    clear HS hxs x4 l2 c8 f8 l1
    obtain ⟨m, hm, rfl, own, hx⟩ := hrel
    have lw := (own.lt _ rfl).2
    by_cases hlt : m = 0
    · subst hlt
      have O := Lib.hid own
      clear own
      go_wp2
      go_ret
      exact ⟨_, _, rfl, O.out, hx⟩
    · obtain ⟨n, rfl⟩ : ∃ n, m = n + 1 := ⟨m - 1, by omega⟩
      have e1 : wr.cell? ⟨w.heap.size, n + 1, none⟩ = some (.string (emptyAt wd (7 - n))) := by
        rw [own.cellAt (n + 1) (by omega), List.getElem?_map, emL_get wd (8 - (n + 1)) (n + 1) (by omega) (by omega), if_neg (by omega), show 8 - (n + 1) = 7 - n by omega]
        rfl
      have en := Lib.hid (show ((emL wd (8 - (n + 1))).map Value.string)[n]? = some (.string ⟨#[]⟩) by
        rw [List.getElem?_map, emL_get wd (8 - (n + 1)) n (by omega) (by omega), if_pos (by omega)]
        rfl)
      have hz := le_max (emptyAt_le wd (7 - n)) (by omega)
      have HE := Lib.hid (emL_set wd (7 - n) (by omega))
      have O := Lib.hid own
      have i0 : (0 : Int) ≤ (n : Int) := by omega
      have i1 : (0 : Int) ≤ (n : Int) + 1 := by omega
      have i2 : (n : Int) < 9 := by omega
      have i3 : (n : Int) + 1 < 9 := by omega
      have w1 : IntKind.i64.wrap ((n : Int) + 1) = (n : Int) + 1 := IntWalk.i64_in _ (by omega)
      have t1 : ((n : Int) + 1).toNat = n + 1 := by omega
      have hq : (0 : Int) ≤ ((n + 1 : Nat) : Int) - 1 := by omega
      rw [show ((n + 1 : Nat) : Int) - 1 = (n : Int) by omega]
      have hlen := Lib.hid (emL_len wd (8 - (n + 1)) (by omega))
      clear own hq
      go_wp2
      go_region_held3 (fun W => W.cell? ⟨w.heap.size, n + 1, none⟩ = some (.string (emptyAt wd (7 - n)))) (first | exact e1 | exact (cell_new e1 lw) | exact (cell_set e1 (by omega))) ((go_at_call 71; refine (spec_TagHash 3 _ [emptyAt wd (7 - n), emptyAt wd (7 - n)] wd _ (by exact strs_lit2 _ _ _ _) (fit2 hz hz)).mono ?_; rintro e w3 ⟨rfl, x3⟩; have x4 : Ext wr w3 := (by repeat (first | (with_reducible first | exact Ext.refl _ | assumption | apply Ext.alloc | apply Ext.drew | apply Ext.drewN | refine Ext.setCell ?_ ?_ _ | refine Ext.trans ?_ (by assumption)) | (show _ ≤ _; first | omega | (dsimp only; omega) | (simp; done) | (simp; omega)))); have o4 := own_ext O.out x4; have e1 := (x4.cell _ _ lw).trans e1; have e2 := (o4.cellAt n (by omega)).trans en.out; have f2 := o4.frozenAt n; have HO := Lib.hid o4; clear o4))
      all_goals
        go_wp2
        go_roundw
        case rel =>
          have S := (HO.out.stored n (.string (emptyAt wd (7 - n + 1)))).1
          have he := HE.out
          rw [show 7 - (7 - n) = n by omega] at he
          rw [map_set_str, show 8 - (n + 1) = 7 - n by omega, he, show 7 - n + 1 = 8 - n by omega] at S
          refine ⟨n, by omega, rfl, ?_, (by repeat (first | (with_reducible first | exact Ext.refl _ | assumption | apply Ext.alloc | apply Ext.drew | apply Ext.drewN | refine Ext.setCell ?_ ?_ _ | refine Ext.trans ?_ (by assumption)) | (show _ ≤ _; first | omega | (dsimp only; omega) | (simp; done) | (simp; omega))))⟩
          rw [show tagH 3 [emptyAt wd (7 - n), emptyAt wd (7 - n)] wd = emptyAt wd (8 - n) by rw [show 8 - n = (7 - n) + 1 by omega]; rfl]
          exact S
        case measure => simp [intOf]

theorem emptyH_no1 {l wd : Int} (h : inB l 0 8 = false) : emptyH l wd = ⟨#[]⟩ := by rw [emptyH, if_neg (by rw [h]; decide)]
theorem emptyH_no2 {l wd : Int} (h : inB wd 1 32 = false) : emptyH l wd = ⟨#[]⟩ := by rw [emptyH, if_neg (c := inB wd 1 32 = true) (by rw [h]; decide)]; split <;> rfl
theorem emptyH_yes {l wd : Int} (h : inB l 0 8 = true) (k : inB wd 1 32 = true) : emptyH l wd = emptyAt wd (8 - l).toNat := by rw [emptyH, if_pos h, if_pos k]
end Go.Proofs.YtckipgijfgeghaaDoor
namespace Go.Proofs.YtckipgijfgeghaaDoor
open Go.RowKit

/-- how many roots there may be -/
def cntOk (n : Nat) : Bool := (decide (n = 1) || decide (n = 2)) || decide (n = 4)
def rootsOk (xs : List ByteArray) (wd : Int) : Bool := cntOk xs.length && (inB wd 1 32 && wide xs wd)
theorem cnt_cases (n : Nat) : (cntOk n = true ∧ n = 1) ∨ (cntOk n = true ∧ n = 2) ∨ (cntOk n = true ∧ n = 4) ∨ (cntOk n = false ∧ n ≠ 1 ∧ n ≠ 2 ∧ n ≠ 4) := by
  unfold cntOk
  by_cases h1 : n = 1
  · subst h1; simp
  · by_cases h2 : n = 2
    · subst h2; simp
    · by_cases h4 : n = 4
      · subst h4; simp
      · simp [h1, h2, h4]
theorem rootsOk_true {xs : List ByteArray} {wd : Int} (h : rootsOk xs wd = true) : (xs.length = 1 ∨ xs.length = 2 ∨ xs.length = 4) ∧ inB wd 1 32 = true ∧ wide xs wd = true := by
  unfold rootsOk at h
  rw [Bool.and_eq_true, Bool.and_eq_true] at h
  refine ⟨?_, h.2⟩
  rcases cnt_cases xs.length with ⟨-, h1⟩ | ⟨-, h1⟩ | ⟨-, h1⟩ | ⟨h1, -⟩
  · exact Or.inl h1
  · exact Or.inr (Or.inl h1)
  · exact Or.inr (Or.inr h1)
  · rw [h1] at h; cases h.1
theorem wide_fit {xs : List ByteArray} {wd : Int} (h1 : inB wd 1 32 = true) (h2 : wide xs wd = true) : ∀ s ∈ xs, s.size ≤ 32 := by
  intro s hs
  rw [wide, List.all_eq_true] at h2
  have := of_decide_eq_true (h2 s hs)
  rw [inB_true] at h1
  omega

theorem cell_newp {w : World} {b o : Nat} {v : Value} {t : TypeId} {xs : Array Value} (h : w.cell? ⟨b, o, none⟩ = some v) (hb : b < w.heap.size) : (w.drew.alloc (.cells xs t)).cell? ⟨b, o, none⟩ = some v :=
  (World.cell?_alloc_past (w := w.drew) _ b o hb).trans h
/-- the hash of the pair at a place -/
def pairH (xs : List ByteArray) (wd : Int) (i : Nat) : ByteArray := tagH 3 [xs.getD (2 * i) ⟨#[]⟩, xs.getD (2 * i + 1) ⟨#[]⟩] wd
def upK (xs : List ByteArray) (wd : Int) (k : Nat) : List ByteArray := (List.range k).map (pairH xs wd)
/-- one level up -/
def upL (xs : List ByteArray) (wd : Int) : List ByteArray := upK xs wd (xs.length / 2)
theorem upK_length (xs : List ByteArray) (wd : Int) (k : Nat) : (upK xs wd k).length = k := by simp [upK]
theorem upL_length (xs : List ByteArray) (wd : Int) : (upL xs wd).length = xs.length / 2 := upK_length _ _ _
theorem ba_getD (xs : List ByteArray) (i : Nat) (h : i < xs.length) (d : ByteArray) : xs.getD i d = xs[i] := by simp [List.getD, h]
theorem upK_succ (xs : List ByteArray) (wd : Int) (k m : Nat) (hm : m = 2 * k) (h : m + 1 < xs.length) : upK xs wd (k + 1) = upK xs wd k ++ [tagH 3 [xs[m], xs[m + 1]] wd] := by
  subst hm
  unfold upK
  rw [List.range_succ, List.map_append]
  simp only [List.map_cons, List.map_nil, pairH]
  rw [ba_getD _ _ (by omega), ba_getD _ _ h]
theorem upK_fit (xs : List ByteArray) (wd : Int) (k : Nat) : ∀ s ∈ upK xs wd k, s.size ≤ 32 := by
  intro s hs
  unfold upK at hs
  rw [List.mem_map] at hs
  obtain ⟨i, -, rfl⟩ := hs
  exact tagH_le _ _ _
def topT (wd : Int) : Nat → List ByteArray → ByteArray
  | 0, xs => xs.getD 0 ⟨#[]⟩
  | n + 1, xs => topT wd n (upL xs wd)
def lvl (n : Nat) : Nat := if n = 4 then 2 else if n = 2 then 1 else 0
theorem lvl_pow {n : Nat} (h : n = 1 ∨ n = 2 ∨ n = 4) : n = 2 ^ lvl n := by rcases h with rfl | rfl | rfl <;> rfl
def combT (xs : List ByteArray) (wd : Int) : ByteArray := topT wd (lvl xs.length) xs
def combR (xs : List ByteArray) (wd : Int) : ByteArray := if rootsOk xs wd = true then combT xs wd else ⟨#[]⟩
def lenOf : Value → Nat
  | .slice _ n _ => n
  | _ => 0

set_option maxHeartbeats 800000 in
theorem impl_rootsOk (v : Value) (xs : List ByteArray) (wd : Int) (w : World) (h : Strs w v xs) (hs : ∀ s ∈ xs, s.size ≤ maxLen) :
    Calls Tryd.prog 24 #[v, .int .i64 wd] w fun e w' => e = .returned (.bool (rootsOk xs wd)) ∧ w = w' := by
  obtain ⟨a, c, rfl⟩ := h.form
  rcases cnt_cases xs.length with ⟨hc, hl⟩ | ⟨hc, hl⟩ | ⟨hc, hl⟩ | ⟨hc, n1, n2, n4⟩
  · have i1 : ((xs.length : Int) == 1) = true := by rw [hl]; rfl
    have d1 : decide ((xs.length : Int) = 1) = true := by rw [hl]; rfl
    clear hl
    cases h3 : inB wd 1 32
    · have R := Lib.hid (show rootsOk xs wd = false by rw [rootsOk, h3]; simp)
      have H3 := Lib.hid h3
      clear hc h3
      go_enter Tryd.func24, Tryd.ntmps24
      go_wp2_with (go_at_call 32; refine (impl_isWide wd _).mono ?_; rw [H3.out]; rintro e w' ⟨rfl, rfl⟩)
      go_ret
      exact ⟨ret_bool R.out.symm, rfl⟩
    · have R := Lib.hid (show rootsOk xs wd = wide xs wd by rw [rootsOk, h3, hc]; simp)
      have H4 := Lib.hid (show ∀ n : Int, n = xs.length → (wide xs wd && decide ((xs.length : Int) = n)) = wide xs wd by intro n hn; rw [hn]; simp)
      have H3 := Lib.hid h3
      clear hc h3
      go_enter Tryd.func24, Tryd.ntmps24
      go_wp2_with (first | (go_at_call 32; refine (impl_isWide wd _).mono ?_; rw [H3.out]; rintro e w' ⟨rfl, rfl⟩) | (go_at_call 41; refine (impl_haveWidth _ xs _ _ _ h hs).mono ?_; rw [H4.out _ rfl]; rintro e w' ⟨rfl, rfl⟩))
      go_ret
      exact ⟨ret_bool R.out.symm, rfl⟩
  · have i1 : ((xs.length : Int) == 1) = false := by rw [hl]; rfl
    have d1 : decide ((xs.length : Int) = 1) = false := by rw [hl]; rfl
    have i2 : ((xs.length : Int) == 2) = true := by rw [hl]; rfl
    have d2 : decide ((xs.length : Int) = 2) = true := by rw [hl]; rfl
    clear hl
    cases h3 : inB wd 1 32
    · have R := Lib.hid (show rootsOk xs wd = false by rw [rootsOk, h3]; simp)
      have H3 := Lib.hid h3
      clear hc h3
      go_enter Tryd.func24, Tryd.ntmps24
      go_wp2_with (go_at_call 32; refine (impl_isWide wd _).mono ?_; rw [H3.out]; rintro e w' ⟨rfl, rfl⟩)
      go_ret
      exact ⟨ret_bool R.out.symm, rfl⟩
    · have R := Lib.hid (show rootsOk xs wd = wide xs wd by rw [rootsOk, h3, hc]; simp)
      have H4 := Lib.hid (show ∀ n : Int, n = xs.length → (wide xs wd && decide ((xs.length : Int) = n)) = wide xs wd by intro n hn; rw [hn]; simp)
      have H3 := Lib.hid h3
      clear hc h3
      go_enter Tryd.func24, Tryd.ntmps24
      go_wp2_with (first | (go_at_call 32; refine (impl_isWide wd _).mono ?_; rw [H3.out]; rintro e w' ⟨rfl, rfl⟩) | (go_at_call 41; refine (impl_haveWidth _ xs _ _ _ h hs).mono ?_; rw [H4.out _ rfl]; rintro e w' ⟨rfl, rfl⟩))
      go_ret
      exact ⟨ret_bool R.out.symm, rfl⟩
  · have i1 : ((xs.length : Int) == 1) = false := by rw [hl]; rfl
    have d1 : decide ((xs.length : Int) = 1) = false := by rw [hl]; rfl
    have i2 : ((xs.length : Int) == 2) = false := by rw [hl]; rfl
    have d2 : decide ((xs.length : Int) = 2) = false := by rw [hl]; rfl
    have i4 : ((xs.length : Int) == 4) = true := by rw [hl]; rfl
    have d4 : decide ((xs.length : Int) = 4) = true := by rw [hl]; rfl
    clear hl
    cases h3 : inB wd 1 32
    · have R := Lib.hid (show rootsOk xs wd = false by rw [rootsOk, h3]; simp)
      have H3 := Lib.hid h3
      clear hc h3
      go_enter Tryd.func24, Tryd.ntmps24
      go_wp2_with (go_at_call 32; refine (impl_isWide wd _).mono ?_; rw [H3.out]; rintro e w' ⟨rfl, rfl⟩)
      go_ret
      exact ⟨ret_bool R.out.symm, rfl⟩
    · have R := Lib.hid (show rootsOk xs wd = wide xs wd by rw [rootsOk, h3, hc]; simp)
      have H4 := Lib.hid (show ∀ n : Int, n = xs.length → (wide xs wd && decide ((xs.length : Int) = n)) = wide xs wd by intro n hn; rw [hn]; simp)
      have H3 := Lib.hid h3
      clear hc h3
      go_enter Tryd.func24, Tryd.ntmps24
      go_wp2_with (first | (go_at_call 32; refine (impl_isWide wd _).mono ?_; rw [H3.out]; rintro e w' ⟨rfl, rfl⟩) | (go_at_call 41; refine (impl_haveWidth _ xs _ _ _ h hs).mono ?_; rw [H4.out _ rfl]; rintro e w' ⟨rfl, rfl⟩))
      go_ret
      exact ⟨ret_bool R.out.symm, rfl⟩
  · have i1 : ((xs.length : Int) == 1) = false := beq_eq_false_iff_ne.2 (by omega)
    have d1 : decide ((xs.length : Int) = 1) = false := decide_eq_false (by omega)
    have i2 : ((xs.length : Int) == 2) = false := beq_eq_false_iff_ne.2 (by omega)
    have d2 : decide ((xs.length : Int) = 2) = false := decide_eq_false (by omega)
    have i4 : ((xs.length : Int) == 4) = false := beq_eq_false_iff_ne.2 (by omega)
    have d4 : decide ((xs.length : Int) = 4) = false := decide_eq_false (by omega)
    have R := Lib.hid (show rootsOk xs wd = false by rw [rootsOk, hc]; rfl)
    clear hc n1 n2 n4
    go_enter Tryd.func24, Tryd.ntmps24
    go_wp2
    go_ret
    exact ⟨ret_bool R.out.symm, rfl⟩

set_option maxRecDepth 100000 in
set_option maxHeartbeats 1600000 in
theorem impl_above (v : Value) (xs : List ByteArray) (wd : Int) (w : World) (h : Strs w v xs) (hs : ∀ s ∈ xs, s.size ≤ 32) (hb : xs.length ≤ 1000) (hT : Tabs w) :
    Calls Tryd.prog 25 #[v, .int .i64 wd] w fun e w' => ∃ a c, e = .returned (.slice a (upL xs wd).length c) ∧ OwnStrs w' w.heap.size (.slice a (upL xs wd).length c) (upL xs wd) ∧ Ext w w' := by
  have HT := Lib.hid hT
  clear hT
  obtain ⟨i0, hi, hz0, hz1, hz2⟩ := info_parts infoString
  obtain ⟨-, a1, c1, rfl, hc1, hm1, g1⟩ := h
  unfold maxLen at hm1
  go_enter Tryd.func25, Tryd.ntmps25
  go_wp2
  go_loopw [5, 6] (fun v ii wr => ∃ k m : Nat, m = 2 * k ∧ m ≤ xs.length ∧ ii = .int .i64 m ∧ wr.ownsRow w.heap.size 9 1 v (upK xs wd k).length ((upK xs wd k).map Value.string) ∧ Ext w wr) (fun _ ii _ => xs.length - (intOf ii).toNat)
  case atStart => exact ⟨0, 0, rfl, Nat.zero_le _, rfl, World.ownsRow_nil _ _ _ _, (by repeat (first | (with_reducible first | exact Ext.refl _ | assumption | apply Ext.alloc | apply Ext.drew | apply Ext.drewN | refine Ext.setCell ?_ ?_ _ | refine Ext.trans ?_ (by assumption)) | (show _ ≤ _; first | omega | (dsimp only; omega) | (simp; done) | (simp; omega))))⟩
  case round =>
    obtain ⟨k, m, hm2, hk, rfl, hown, hx⟩ := hrel
    obtain ⟨a, c, rfl⟩ := own_any hown
    have hsz := hx.size
    have HM := Lib.hid hm2
    clear hm2
    have ws : IntKind.i64.wrap ((m : Int) + 1) = (m : Int) + 1 := IntWalk.i64_in _ (by omega)
    have HK := Lib.hid (upK_length xs wd k)
    by_cases hlt : m + 1 < xs.length
    · rcases g1 with g1 | ⟨b1, o1, rfl, hb1, g1⟩
      · omega
      have f1 := Lib.hid (g1 m (.string xs[m]) (by simp; try omega))
      have f2 := Lib.hid (g1 (m + 1) (.string xs[m + 1]) (by simp; try omega))
      have j0 : (0 : Int) ≤ (m : Int) := by omega
      have j1 : (m : Int) < xs.length := by omega
      have j2 : (0 : Int) ≤ (m : Int) + 1 := by omega
      have j3 : (m : Int) + 1 < xs.length := by omega
      have j4 : ((m : Int) + 1).toNat = m + 1 := by omega
      have e1 : wr.cell? ⟨b1, o1 + m, none⟩ = some (.string xs[m]) := (hx.cell b1 _ hb1).trans f1.out
      have e2 : wr.cell? ⟨b1, o1 + (m + 1), none⟩ = some (.string xs[m + 1]) := (hx.cell b1 _ hb1).trans f2.out
      have HU := Lib.hid (upK_succ xs wd k m HM.out hlt)
      have HO := Lib.hid hown
      have ff := fit2 (le_max (hs xs[m] (List.getElem_mem _)) (by omega)) (le_max (hs xs[m + 1] (List.getElem_mem _)) (by omega))
      have l1 : b1 < wr.heap.size := Nat.lt_of_lt_of_le hb1 hx.size
      clear g1 hown
      go_wp2_with fail
      generalize hA : xs[m] = A at *
      generalize hB : xs[m + 1] = B at *
      go_region_held3 (fun W => W.cell? ⟨b1, o1 + m, none⟩ = some (.string A) ∧ W.cell? ⟨b1, o1 + (m + 1), none⟩ = some (.string B)) (first | exact ⟨e1, e2⟩ | exact ⟨cell_newp e1 l1, cell_newp e2 l1⟩ | exact ⟨d1, d2⟩ | exact ⟨cell_newp d1 l2, cell_newp d2 l2⟩ | exact ⟨(y9.cell b1 _ hb1).trans f1.out, (y9.cell b1 _ hb1).trans f2.out⟩) (first | (go_at_call 42; refine (impl_hashOf 3 _ [A, B] wd _ (by exact strs_lit2 wr.drew _ _ _) ff (by exact HT.out.ext (by repeat (first | (with_reducible first | exact Ext.refl _ | assumption | apply Ext.alloc | apply Ext.drew | apply Ext.drewN | refine Ext.setCell ?_ ?_ _ | refine Ext.trans ?_ (by assumption)) | (show _ ≤ _; first | omega | (dsimp only; omega) | (simp; done) | (simp; omega)))))).mono ?_; rintro e w1 ⟨rfl, x1⟩; have y1 : Ext wr w1 := (by repeat (first | (with_reducible first | exact Ext.refl _ | assumption | apply Ext.alloc | apply Ext.drew | apply Ext.drewN | refine Ext.setCell ?_ ?_ _ | refine Ext.trans ?_ (by assumption)) | (show _ ≤ _; first | omega | (dsimp only; omega) | (simp; done) | (simp; omega)))); have l2 := Nat.lt_of_lt_of_le l1 y1.size; have d1 := (y1.cell _ _ l1).trans e1; have d2 := (y1.cell _ _ l1).trans e2) | (refine step_append_lies _ rfl (.tmp 14) (.tmp 27) 29 (by rfl) w.heap.size 9 i0 (.string ⟨#[]⟩) 1 16 Tryd.underlying29 hi hz0 hz1 hz2 rfl (by decide) _ _ _ (by rfl) (own_alloc (own_ext HO.out y1) _) ⟨w1.heap.size, 0, none⟩ 1 1 [.string (tagH 3 [A, B] wd)] (by rfl) rfl (World.news_of_block (heap_alloc_new w1 (Obj.cells #[Value.string (tagH 3 [A, B] wd)] 9))) (by intro u hu; simp at hu; rcases hu with rfl; rfl) (by decide) (by have := HM.out; have := HK.out; unfold maxLen; omega) (by have := HM.out; have := HK.out; omega) (by have := y1.size; simp; omega) _ rfl ?_; intro g cap w9 hown9 hgrow _ _; have y9 : Ext w w9 := own_ext_of ((hx.trans y1).alloc _) (own_alloc (own_ext HO.out y1) _) hgrow (Nat.le_refl _)))
      have HO9 := Lib.hid hown9
      clear hown9 hgrow
      go_wp2
      go_roundw
      case rel => exact ⟨k + 1, m + 2, by have := HM.out; omega, by omega, by go_num, by rw [HU.out, List.length_append, List.map_append]; simpa using HO9.out, y9⟩
      case measure => simp [intOf]; omega
    · have hkn : k = xs.length / 2 := by have := HM.out; omega
      have hL : upK xs wd k = upL xs wd := by rw [hkn]; rfl
      have HL := Lib.hid hL
      have HO := Lib.hid hown
      clear g1 hL hown
      go_wp2
      go_ret
      refine ⟨a, c, ?_, ?_, hx⟩
      · rw [← HL.out]; rfl
      · rw [← HL.out]; exact HO.out

end Go.Proofs.YtckipgijfgeghaaDoor
