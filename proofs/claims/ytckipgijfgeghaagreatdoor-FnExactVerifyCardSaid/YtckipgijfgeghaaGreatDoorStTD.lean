/- StampT, StampD in one text. -/
import Derived.Test.YtckipgijfgeghaaGreatDoorHHash
import Derived.Test.YtckipgijfgeghaaGreatDoorSigU
namespace Go.Proofs.YtckipgijfgeghaaGreatDoor
open Go.RowKit

def stampH (h ep : Int) (r p : ByteArray) : ByteArray := tagH 8 [headH h ep r p] 16
theorem headH_32 (h ep : Int) (r p : ByteArray) : (headH h ep r p).size ≤ 32 := by
  unfold headH
  split
  · exact tagH_le _ _ _
  · exact Nat.zero_le _
theorem headH_le (h ep : Int) (r p : ByteArray) : (headH h ep r p).size ≤ maxLen := le_max (headH_32 h ep r p) (by omega)
theorem stampH_le (h ep : Int) (r p : ByteArray) : (stampH h ep r p).size ≤ maxLen := le_max (tagH_le 8 [headH h ep r p] 16) (by omega)
set_option maxHeartbeats 800000 in
theorem impl_stampText (h ep : Int) (r p : ByteArray) (w : World) (hT : Tabs w) :
    Calls Tryz.prog 84 #[.agg #[.int .i64 h, .int .i64 ep, .string r, .string p]] w fun e w' => e = .returned (.string (stampH h ep r p)) ∧ Ext w w' := by
  have HT := Lib.hid hT
  clear hT
  have ff := fit1 (headH_le h ep r p)
  have R := Lib.hid (show stampH h ep r p = tagH 8 [headH h ep r p] 16 from rfl)
  go_enter Tryz.func84, Tryz.ntmps84
  go_wp2_with fail
  refine (impl_HeadHash _ _ _ _ _ (by exact HT.out.ext (by repeat (first | (with_reducible first | exact Ext.refl _ | assumption | apply Ext.alloc | apply Ext.drew | apply Ext.drewN | refine Ext.setCell ?_ ?_ _ | refine Ext.trans ?_ (by assumption)) | (show _ ≤ _; first | omega | (dsimp only; omega) | (simp; done) | (simp; omega)))))).mono ?_
  generalize headH h ep r p = H at *
  rintro e w1 ⟨rfl, x1⟩
  go_wp2_with fail
  refine (impl_hashOf 8 _ [H] 16 _ (by exact strs_lit1 _ _ _) ff (by exact HT.out.ext (by repeat (first | (with_reducible first | exact Ext.refl _ | assumption | apply Ext.alloc | apply Ext.drew | apply Ext.drewN | refine Ext.setCell ?_ ?_ _ | refine Ext.trans ?_ (by assumption)) | (show _ ≤ _; first | omega | (dsimp only; omega) | (simp; done) | (simp; omega)))))).mono ?_
  rintro e w2 ⟨rfl, x2⟩
  go_wp2
  go_ret
  exact ⟨ret_str R.out.symm, (by repeat (first | (with_reducible first | exact Ext.refl _ | assumption | apply Ext.alloc | apply Ext.drew | apply Ext.drewN | refine Ext.setCell ?_ ?_ _ | refine Ext.trans ?_ (by assumption)) | (show _ ≤ _; first | omega | (dsimp only; omega) | (simp; done) | (simp; omega))))⟩
set_option maxHeartbeats 800000 in
theorem spec_l14Stamp (h ep : Int) (r p : ByteArray) (w : World) :
    Calls Tryz.prog 67 #[.agg #[.int .i64 h, .int .i64 ep, .string r, .string p]] w fun e w' => e = .returned (.string (stampH h ep r p)) ∧ Ext w w' := by
  have ff := fit1 (headH_le h ep r p)
  have R := Lib.hid (show stampH h ep r p = tagH 8 [headH h ep r p] 16 from rfl)
  go_enter Tryz.func67, Tryz.ntmps67
  go_wp2_with fail
  refine (spec_HeadHash _ _ _ _ _).mono ?_
  generalize headH h ep r p = H at *
  rintro e w1 ⟨rfl, x1⟩
  go_wp2_with fail
  refine (spec_TagHash 8 _ [H] 16 _ (by exact strs_lit1 _ _ _) ff).mono ?_
  rintro e w2 ⟨rfl, x2⟩
  go_wp2
  go_ret
  exact ⟨ret_str R.out.symm, (by repeat (first | (with_reducible first | exact Ext.refl _ | assumption | apply Ext.alloc | apply Ext.drew | apply Ext.drewN | refine Ext.setCell ?_ ?_ _ | refine Ext.trans ?_ (by assumption)) | (show _ ≤ _; first | omega | (dsimp only; omega) | (simp; done) | (simp; omega))))⟩
end Go.Proofs.YtckipgijfgeghaaGreatDoor
namespace Go.Proofs.YtckipgijfgeghaaGreatDoor
open Go.RowKit

def stampOkB (root : ByteArray) (hh ep : Int) (r p : ByteArray) (s : SigV) : Bool := headOk hh ep r p && (decide (s.at_ = stampAt hh ep) && sigOkB root (stampH hh ep r p) s)
def sealOkB (root : ByteArray) (hh ep : Int) (r p : ByteArray) (s : SigV) : Bool := headOk hh ep r p && (decide (s.at_ = sealAt ep) && sigOkB root (headH hh ep r p) s)
end Go.Proofs.YtckipgijfgeghaaGreatDoor
