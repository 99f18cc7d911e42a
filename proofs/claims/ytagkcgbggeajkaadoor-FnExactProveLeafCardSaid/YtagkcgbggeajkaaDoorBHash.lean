/- The hash of a bucket; the law. -/
import Derived.Test.YtagkcgbggeajkaaDoorHash
import Derived.Test.YtagkcgbggeajkaaDoorBucket
namespace Go.Proofs.YtagkcgbggeajkaaDoor
open Go.RowKit

def bucketH (xs : List Leaf) (wd : Int) : ByteArray := if leavesOk xs = true then cutT (bucketTx xs) wd else ⟨#[]⟩
theorem bucketTx_size (xs : List Leaf) : (bucketTx xs).size ≤ 1073741824 := by
  unfold bucketTx
  split
  · exact tagTx_size _ _
  · exact Nat.zero_le _

set_option maxHeartbeats 800000 in
theorem spec_BucketHash (v : Value) (xs : List Leaf) (wd : Int) (w : World) (h : Lvs w v xs) (hs : LeafFit xs) :
    Calls Tryd.prog 97 #[v, .int .i64 wd] w fun e w' => e = .returned (.string (bucketH xs wd)) ∧ Ext w w' := by
  obtain ⟨a, c, rfl⟩ := h.form
  have hz := bucketTx_size xs
  cases hk : leavesOk xs
  · have R := Lib.hid (show bucketH xs wd = ⟨#[]⟩ by rw [bucketH, if_neg (by rw [hk]; decide)])
    have HK := Lib.hid hk
    clear hk
    go_enter Tryd.func97, Tryd.ntmps97
    go_wp2_with (go_at_call 80; refine (spec_BucketText _ xs _ (h.ext (by repeat (first | (with_reducible first | exact Ext.refl _ | assumption | apply Ext.alloc | apply Ext.drew | apply Ext.drewN | refine Ext.setCell ?_ ?_ _ | refine Ext.trans ?_ (by assumption)) | (show _ ≤ _; first | omega | (dsimp only; omega) | (simp; done) | (simp; omega))))) hs).mono ?_; rw [HK.out]; rintro e w1 ⟨rfl, x1⟩)
    go_ret
    exact ⟨ret_str R.out.symm, (by repeat (first | (with_reducible first | exact Ext.refl _ | assumption | apply Ext.alloc | apply Ext.drew | apply Ext.drewN | refine Ext.setCell ?_ ?_ _ | refine Ext.trans ?_ (by assumption)) | (show _ ≤ _; first | omega | (dsimp only; omega) | (simp; done) | (simp; omega))))⟩
  · have R := Lib.hid (show bucketH xs wd = cutT (bucketTx xs) wd by rw [bucketH, if_pos hk])
    have HK := Lib.hid hk
    clear hk
    go_enter Tryd.func97, Tryd.ntmps97
    go_wp2_with (go_at_call 80; refine (spec_BucketText _ xs _ (h.ext (by repeat (first | (with_reducible first | exact Ext.refl _ | assumption | apply Ext.alloc | apply Ext.drew | apply Ext.drewN | refine Ext.setCell ?_ ?_ _ | refine Ext.trans ?_ (by assumption)) | (show _ ≤ _; first | omega | (dsimp only; omega) | (simp; done) | (simp; omega))))) hs).mono ?_; rw [HK.out]; rintro e w1 ⟨rfl, x1⟩)
    refine (spec_CutDigest (bucketTx xs) wd _ hz).mono ?_
    rintro e w2 ⟨rfl, x2⟩
    go_wp2
    go_ret
    exact ⟨ret_str R.out.symm, (by repeat (first | (with_reducible first | exact Ext.refl _ | assumption | apply Ext.alloc | apply Ext.drew | apply Ext.drewN | refine Ext.setCell ?_ ?_ _ | refine Ext.trans ?_ (by assumption)) | (show _ ≤ _; first | omega | (dsimp only; omega) | (simp; done) | (simp; omega))))⟩

end Go.Proofs.YtagkcgbggeajkaaDoor
