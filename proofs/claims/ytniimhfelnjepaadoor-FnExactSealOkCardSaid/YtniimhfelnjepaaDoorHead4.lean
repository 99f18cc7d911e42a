/- Heads: the laws on their texts. -/
import Derived.Test.YtniimhfelnjepaaDoorHead3
namespace Go.Proofs.YtniimhfelnjepaaDoor
open Go.RowKit

theorem laws_eqHead (h1 e1 h2 e2 : Int) (r1 p1 r2 p2 : ByteArray) (w : World) :
    Calls Tryd.prog 52 #[.agg #[.int .i64 h1, .int .i64 e1, .string r1, .string p1], .agg #[.int .i64 h2, .int .i64 e2, .string r2, .string p2]] w fun e w' => e = .returned (.bool (decide (h1 = h2) && (decide (e1 = e2) && (decide (r1 = r2) && decide (p1 = p2))))) ∧ Ext w w' := by
  go_enter Tryd.func52, Tryd.ntmps52
  go_wp2
  all_goals go_ret
  all_goals refine ⟨ret_bool ?_, (by repeat (first | (with_reducible first | exact Ext.refl _ | assumption | apply Ext.alloc | apply Ext.drew | apply Ext.drewN | refine Ext.setCell ?_ ?_ _ | refine Ext.trans ?_ (by assumption)) | (show _ ≤ _; first | omega | (dsimp only; omega) | (simp; done) | (simp; omega))))⟩
  all_goals simp_all [toList_inj]

end Go.Proofs.YtniimhfelnjepaaDoor
