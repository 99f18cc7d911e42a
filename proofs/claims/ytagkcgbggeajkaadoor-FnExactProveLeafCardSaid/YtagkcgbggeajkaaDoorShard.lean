/- Shards of names; the law on ShardOf. -/
import Derived.Test.YtagkcgbggeajkaaDoorHash
namespace Go.Proofs.YtagkcgbggeajkaaDoor
open Go.RowKit

/-- the shard of a name -/
def shardT (t : ByteArray) (k : Int) : Int := if inB k 0 2 = true then idxT t / 2 ^ (8 - k).toNat else 0
theorem shardT_yes {t : ByteArray} {k : Int} (h : inB k 0 2 = true) : shardT t k = idxT t / 2 ^ (8 - k).toNat := by rw [shardT, if_pos h]
theorem shardT_no {t : ByteArray} {k : Int} (h : inB k 0 2 = false) : shardT t k = 0 := by rw [shardT, if_neg (by rw [h]; decide)]
theorem impl_isSplit (n : Int) (w : World) :
    Calls Tryd.prog 68 #[.int .i64 n] w fun e w' => e = .returned (.bool (inB n 0 2)) ∧ w = w' := by
  go_enter Tryd.func68, Tryd.ntmps68
  go_wp2_with (go_at_call 63; refine (impl_in _ _ _ _).mono ?_; rintro e w' ⟨rfl, rfl⟩)
  all_goals go_ret
  all_goals exact ⟨rfl, rfl⟩
end Go.Proofs.YtagkcgbggeajkaaDoor
