/- The bound on widths. -/
import Derived.Test.YtbgkeoidhfgmcaaDoorIn
namespace Go.Proofs.YtbgkeoidhfgmcaaDoor
open Go.RowKit

theorem impl_isWide (n : Int) (w : World) :
    Calls Tryd.prog 60 #[.int .i64 n] w fun e w' => e = .returned (.bool (inB n 1 32)) ∧ w = w' := by
  go_enter Tryd.func60, Tryd.ntmps60
  go_wp2_with (go_at_call 59; refine (impl_in _ _ _ _).mono ?_; rintro e w' ⟨rfl, rfl⟩)
  all_goals go_ret
  all_goals exact ⟨rfl, rfl⟩
end Go.Proofs.YtbgkeoidhfgmcaaDoor
