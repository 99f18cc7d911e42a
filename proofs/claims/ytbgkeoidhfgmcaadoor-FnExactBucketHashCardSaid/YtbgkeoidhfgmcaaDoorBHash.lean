/- The hash of a bucket; the law. -/
import Derived.Test.YtbgkeoidhfgmcaaDoorHash
import Derived.Test.YtbgkeoidhfgmcaaDoorBucket
namespace Go.Proofs.YtbgkeoidhfgmcaaDoor
open Go.RowKit

def bucketH (xs : List Leaf) (wd : Int) : ByteArray := if leavesOk xs = true then cutT (bucketTx xs) wd else ⟨#[]⟩
theorem bucketTx_size (xs : List Leaf) : (bucketTx xs).size ≤ 1073741824 := by
  unfold bucketTx
  split
  · exact tagTx_size _ _
  · exact Nat.zero_le _

set_option maxHeartbeats 800000 in
theorem impl_BucketHash (v : Value) (xs : List Leaf) (wd : Int) (w : World) (h : Lvs w v xs) (hs : LeafFit xs) (hT : Tabs w) :
    Calls Tryd.prog 48 #[v, .int .i64 wd] w fun e w' => e = .returned (.string (bucketH xs wd)) ∧ Ext w w' := by
  have HT := Lib.hid hT
  clear hT
  obtain ⟨a, c, rfl⟩ := h.form
  have hz := bucketTx_size xs
  cases hk : leavesOk xs
  · have R := Lib.hid (show bucketH xs wd = ⟨#[]⟩ by rw [bucketH, if_neg (by rw [hk]; decide)])
    have HK := Lib.hid hk
    clear hk
    go_enter Tryd.func48, Tryd.ntmps48
    go_wp2_with (go_at_call 82; refine (impl_BucketText _ xs _ (h.ext (by repeat (first | (with_reducible first | exact Ext.refl _ | assumption | apply Ext.alloc | apply Ext.drew | apply Ext.drewN | refine Ext.setCell ?_ ?_ _ | refine Ext.trans ?_ (by assumption)) | (show _ ≤ _; first | omega | (dsimp only; omega) | (simp; done) | (simp; omega))))) hs).mono ?_; rw [HK.out]; rintro e w1 ⟨rfl, x1⟩)
    go_ret
    exact ⟨ret_str R.out.symm, (by repeat (first | (with_reducible first | exact Ext.refl _ | assumption | apply Ext.alloc | apply Ext.drew | apply Ext.drewN | refine Ext.setCell ?_ ?_ _ | refine Ext.trans ?_ (by assumption)) | (show _ ≤ _; first | omega | (dsimp only; omega) | (simp; done) | (simp; omega))))⟩
  · have R := Lib.hid (show bucketH xs wd = cutT (bucketTx xs) wd by rw [bucketH, if_pos hk])
    have HK := Lib.hid hk
    clear hk
    go_enter Tryd.func48, Tryd.ntmps48
    go_wp2_with (go_at_call 82; refine (impl_BucketText _ xs _ (h.ext (by repeat (first | (with_reducible first | exact Ext.refl _ | assumption | apply Ext.alloc | apply Ext.drew | apply Ext.drewN | refine Ext.setCell ?_ ?_ _ | refine Ext.trans ?_ (by assumption)) | (show _ ≤ _; first | omega | (dsimp only; omega) | (simp; done) | (simp; omega))))) hs).mono ?_; rw [HK.out]; rintro e w1 ⟨rfl, x1⟩)
    refine (impl_CutDigest (bucketTx xs) wd _ hz (by exact HT.out.ext (by repeat (first | (with_reducible first | exact Ext.refl _ | assumption | apply Ext.alloc | apply Ext.drew | apply Ext.drewN | refine Ext.setCell ?_ ?_ _ | refine Ext.trans ?_ (by assumption)) | (show _ ≤ _; first | omega | (dsimp only; omega) | (simp; done) | (simp; omega)))))).mono ?_
    rintro e w2 ⟨rfl, x2⟩
    go_wp2
    go_ret
    exact ⟨ret_str R.out.symm, (by repeat (first | (with_reducible first | exact Ext.refl _ | assumption | apply Ext.alloc | apply Ext.drew | apply Ext.drewN | refine Ext.setCell ?_ ?_ _ | refine Ext.trans ?_ (by assumption)) | (show _ ≤ _; first | omega | (dsimp only; omega) | (simp; done) | (simp; omega))))⟩

set_option maxHeartbeats 800000 in
theorem spec_BucketHash (v : Value) (xs : List Leaf) (wd : Int) (w : World) (h : Lvs w v xs) (hs : LeafFit xs) :
    Calls Tryd.prog 47 #[v, .int .i64 wd] w fun e w' => e = .returned (.string (bucketH xs wd)) ∧ Ext w w' := by
  obtain ⟨a, c, rfl⟩ := h.form
  have hz := bucketTx_size xs
  cases hk : leavesOk xs
  · have R := Lib.hid (show bucketH xs wd = ⟨#[]⟩ by rw [bucketH, if_neg (by rw [hk]; decide)])
    have HK := Lib.hid hk
    clear hk
    go_enter Tryd.func47, Tryd.ntmps47
    go_wp2_with (go_at_call 80; refine (spec_BucketText _ xs _ (h.ext (by repeat (first | (with_reducible first | exact Ext.refl _ | assumption | apply Ext.alloc | apply Ext.drew | apply Ext.drewN | refine Ext.setCell ?_ ?_ _ | refine Ext.trans ?_ (by assumption)) | (show _ ≤ _; first | omega | (dsimp only; omega) | (simp; done) | (simp; omega))))) hs).mono ?_; rw [HK.out]; rintro e w1 ⟨rfl, x1⟩)
    go_ret
    exact ⟨ret_str R.out.symm, (by repeat (first | (with_reducible first | exact Ext.refl _ | assumption | apply Ext.alloc | apply Ext.drew | apply Ext.drewN | refine Ext.setCell ?_ ?_ _ | refine Ext.trans ?_ (by assumption)) | (show _ ≤ _; first | omega | (dsimp only; omega) | (simp; done) | (simp; omega))))⟩
  · have R := Lib.hid (show bucketH xs wd = cutT (bucketTx xs) wd by rw [bucketH, if_pos hk])
    have HK := Lib.hid hk
    clear hk
    go_enter Tryd.func47, Tryd.ntmps47
    go_wp2_with (go_at_call 80; refine (spec_BucketText _ xs _ (h.ext (by repeat (first | (with_reducible first | exact Ext.refl _ | assumption | apply Ext.alloc | apply Ext.drew | apply Ext.drewN | refine Ext.setCell ?_ ?_ _ | refine Ext.trans ?_ (by assumption)) | (show _ ≤ _; first | omega | (dsimp only; omega) | (simp; done) | (simp; omega))))) hs).mono ?_; rw [HK.out]; rintro e w1 ⟨rfl, x1⟩)
    refine (spec_CutDigest (bucketTx xs) wd _ hz).mono ?_
    rintro e w2 ⟨rfl, x2⟩
    go_wp2
    go_ret
    exact ⟨ret_str R.out.symm, (by repeat (first | (with_reducible first | exact Ext.refl _ | assumption | apply Ext.alloc | apply Ext.drew | apply Ext.drewN | refine Ext.setCell ?_ ?_ _ | refine Ext.trans ?_ (by assumption)) | (show _ ≤ _; first | omega | (dsimp only; omega) | (simp; done) | (simp; omega))))⟩

set_option maxHeartbeats 400000 in
theorem laws_FnExactBucketHash (v : Value) (xs : List Leaf) (wd : Int) (w : World) (h : Lvs w v xs) (hs : LeafFit xs) (hT : Tabs w) :
    Calls Tryd.prog 12 #[v, .int .i64 wd] w fun e w' => e = .returned (.bool true) ∧ Ext w w' := by
  have HT := Lib.hid hT
  clear hT
  obtain ⟨a, c, rfl⟩ := h.form
  rcases szr_cases (xs.length + leafBytes xs) with ⟨hz, -⟩ | ⟨z, hz, hz0, hz1, -⟩
  · have HZ := Lib.hid hz
    clear hz
    go_enter Tryd.func12, Tryd.ntmps12
    go_wp2_with (go_at_call 18; refine (laws_szLeafS _ xs _ _ (h.ext (by repeat (first | (with_reducible first | exact Ext.refl _ | assumption | apply Ext.alloc | apply Ext.drew | apply Ext.drewN | refine Ext.setCell ?_ ?_ _ | refine Ext.trans ?_ (by assumption)) | (show _ ≤ _; first | omega | (dsimp only; omega) | (simp; done) | (simp; omega))))) (by omega) hs).mono ?_; rw [HZ.out]; rintro e w1 ⟨rfl, x1⟩)
    go_ret
    exact ⟨rfl, (by repeat (first | (with_reducible first | exact Ext.refl _ | assumption | apply Ext.alloc | apply Ext.drew | apply Ext.drewN | refine Ext.setCell ?_ ?_ _ | refine Ext.trans ?_ (by assumption)) | (show _ ≤ _; first | omega | (dsimp only; omega) | (simp; done) | (simp; omega))))⟩
  · have HZ := Lib.hid hz
    have hlen : xs.length ≤ 1099511627776 := by omega
    clear hz hz1
    go_enter Tryd.func12, Tryd.ntmps12
    go_wp2_with (go_at_call 18; refine (laws_szLeafS _ xs _ _ (h.ext (by repeat (first | (with_reducible first | exact Ext.refl _ | assumption | apply Ext.alloc | apply Ext.drew | apply Ext.drewN | refine Ext.setCell ?_ ?_ _ | refine Ext.trans ?_ (by assumption)) | (show _ ≤ _; first | omega | (dsimp only; omega) | (simp; done) | (simp; omega))))) (by omega) hs).mono ?_; rw [HZ.out]; rintro e w1 ⟨rfl, x1⟩)
    refine (laws_toLeafS _ xs _ (h.ext (by repeat (first | (with_reducible first | exact Ext.refl _ | assumption | apply Ext.alloc | apply Ext.drew | apply Ext.drewN | refine Ext.setCell ?_ ?_ _ | refine Ext.trans ?_ (by assumption)) | (show _ ≤ _; first | omega | (dsimp only; omega) | (simp; done) | (simp; omega))))) hlen).mono ?_
    rintro e w2 ⟨a2, d2, rfl, o2, x2⟩
    have s2 := o2.lvs
    clear o2
    go_wp2_with fail
    refine (spec_BucketHash _ xs wd _ (s2.ext (by repeat (first | (with_reducible first | exact Ext.refl _ | assumption | apply Ext.alloc | apply Ext.drew | apply Ext.drewN | refine Ext.setCell ?_ ?_ _ | refine Ext.trans ?_ (by assumption)) | (show _ ≤ _; first | omega | (dsimp only; omega) | (simp; done) | (simp; omega))))) hs).mono ?_
    rintro e w3 ⟨rfl, x3⟩
    clear s2
    go_wp2_with fail
    refine (laws_toLeafS _ xs _ (h.ext (by repeat (first | (with_reducible first | exact Ext.refl _ | assumption | apply Ext.alloc | apply Ext.drew | apply Ext.drewN | refine Ext.setCell ?_ ?_ _ | refine Ext.trans ?_ (by assumption)) | (show _ ≤ _; first | omega | (dsimp only; omega) | (simp; done) | (simp; omega))))) hlen).mono ?_
    rintro e w4 ⟨a4, d4, rfl, o4, x4⟩
    have s4 := o4.lvs
    clear o4
    go_wp2_with fail
    refine (impl_BucketHash _ xs wd _ (s4.ext (by repeat (first | (with_reducible first | exact Ext.refl _ | assumption | apply Ext.alloc | apply Ext.drew | apply Ext.drewN | refine Ext.setCell ?_ ?_ _ | refine Ext.trans ?_ (by assumption)) | (show _ ≤ _; first | omega | (dsimp only; omega) | (simp; done) | (simp; omega))))) hs (by exact HT.out.ext (by repeat (first | (with_reducible first | exact Ext.refl _ | assumption | apply Ext.alloc | apply Ext.drew | apply Ext.drewN | refine Ext.setCell ?_ ?_ _ | refine Ext.trans ?_ (by assumption)) | (show _ ≤ _; first | omega | (dsimp only; omega) | (simp; done) | (simp; omega)))))).mono ?_
    rintro e w5 ⟨rfl, x5⟩
    go_wp2_with fail
    refine (laws_toLeafS _ xs _ (h.ext (by repeat (first | (with_reducible first | exact Ext.refl _ | assumption | apply Ext.alloc | apply Ext.drew | apply Ext.drewN | refine Ext.setCell ?_ ?_ _ | refine Ext.trans ?_ (by assumption)) | (show _ ≤ _; first | omega | (dsimp only; omega) | (simp; done) | (simp; omega))))) hlen).mono ?_
    rintro e w6 ⟨a6, d6, rfl, o6, x6⟩
    have s6 := o6.lvs
    clear o6
    go_wp2_with fail
    refine (laws_eqLeafS _ _ xs xs _ (s4.ext (by repeat (first | (with_reducible first | exact Ext.refl _ | assumption | apply Ext.alloc | apply Ext.drew | apply Ext.drewN | refine Ext.setCell ?_ ?_ _ | refine Ext.trans ?_ (by assumption)) | (show _ ≤ _; first | omega | (dsimp only; omega) | (simp; done) | (simp; omega))))) (s6.ext (by repeat (first | (with_reducible first | exact Ext.refl _ | assumption | apply Ext.alloc | apply Ext.drew | apply Ext.drewN | refine Ext.setCell ?_ ?_ _ | refine Ext.trans ?_ (by assumption)) | (show _ ≤ _; first | omega | (dsimp only; omega) | (simp; done) | (simp; omega)))))).mono ?_
    rintro e w7 ⟨rfl, x7⟩
    go_wp2
    go_ret
    exact ⟨rfl, (by repeat (first | (with_reducible first | exact Ext.refl _ | assumption | apply Ext.alloc | apply Ext.drew | apply Ext.drewN | refine Ext.setCell ?_ ?_ _ | refine Ext.trans ?_ (by assumption)) | (show _ ≤ _; first | omega | (dsimp only; omega) | (simp; done) | (simp; omega))))⟩
end Go.Proofs.YtbgkeoidhfgmcaaDoor
