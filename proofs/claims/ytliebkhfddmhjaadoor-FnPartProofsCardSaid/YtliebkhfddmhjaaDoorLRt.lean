/- FnRoots: the walk. -/
import Derived.Test.YtliebkhfddmhjaaDoorCur3
import Derived.Test.YtliebkhfddmhjaaDoorTreeP
import Derived.Test.YtliebkhfddmhjaaDoorCurA
import Derived.Test.YtliebkhfddmhjaaDoorDrwA
import Derived.Test.YtliebkhfddmhjaaDoorLftA
namespace Go.Proofs.YtliebkhfddmhjaaDoor
open Go.RowKit

theorem nodeT_size (xs : List Leaf) (wd : Int) (hw : inB wd 1 32 = true) : ∀ n p, ((nodeT xs wd n p).size : Int) = wd
  | 0, p => cutT_size _ _ hw
  | n + 1, p => by
    rw [node_both, tagH, if_pos (tag_yes rfl (by simp) (fun q hq => by
      simp only [List.mem_cons, List.not_mem_nil, or_false] at hq
      have h1 := nodeT_le xs wd n (2 * p)
      have h2 := nodeT_le xs wd n (2 * p + 1)
      rcases hq with rfl | rfl <;> omega))]
    exact cutT_size _ _ hw
theorem root_size {xs : List Leaf} {wd : Int} (h : leavesOk xs = true) (hw : inB wd 1 32 = true) : ((nodeH xs 0 0 wd).size : Int) = wd := by
  rw [nodeH_yes (l := 0) (p := 0) h rfl rfl hw]
  exact nodeT_size xs wd hw _ _
theorem bkt_fit {xs : List Leaf} {i : Int} (h : leavesOk xs = true) : LeafFit (bktL xs i) := by rw [bkt_bel]; exact ok_fit (belL_ok h 0 i)
theorem bucketH_le (xs : List Leaf) (wd : Int) : (bucketH xs wd).size ≤ 32 := by
  rw [bucketH]
  split
  · exact cutT_le _ _
  · decide
theorem sd_fit (xs : List Leaf) (i l wd : Int) : ∀ s ∈ sdF xs i l wd, s.size ≤ maxLen := by
  intro s hs
  rw [sdF] at hs
  split at hs
  · rw [sdL, List.mem_map] at hs
    obtain ⟨j, -, rfl⟩ := hs
    have := nodeT_le xs wd j (besT i j)
    unfold maxLen; omega
  · cases hs
end Go.Proofs.YtliebkhfddmhjaaDoor
