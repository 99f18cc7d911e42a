/- The bound on widths. -/
import Derived.Test.YtniimhfelnjepaaDoorIn
namespace Go.Proofs.YtniimhfelnjepaaDoor
open Go.RowKit

theorem impl_isWide (n : Int) (w : World) :
    Calls Tryd.prog 96 #[.int .i64 n] w fun e w' => e = .returned (.bool (inB n 1 32)) ∧ w = w' := by
  go_enter Tryd.func96, Tryd.ntmps96
  go_wp2_with (go_at_call 79; refine (impl_in _ _ _ _).mono ?_; rintro e w' ⟨rfl, rfl⟩)
  all_goals go_ret
  all_goals exact ⟨rfl, rfl⟩
end Go.Proofs.YtniimhfelnjepaaDoor
