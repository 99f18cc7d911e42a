/- laws.sameLeaves on one list twice. -/
import Derived.Test.YtckipgijfgeghaaDoorLeafA
namespace Go.Proofs.YtckipgijfgeghaaDoor
open Go.RowKit

set_option maxHeartbeats 800000 in
theorem laws_sameLeaves (v1 v2 : Value) (xs : List Leaf) (w : World) (h1 : Lvs w v1 xs) (h2 : Lvs w v2 xs) :
    Calls Tryd.prog 12 #[v1, v2] w fun e w' => e = .returned (.bool true) ∧ Ext w w' := by
  obtain ⟨-, a1, c1, rfl, hc1, hm1, g1⟩ := h1
  obtain ⟨-, a2, c2, rfl, hc2, hm2, g2⟩ := h2
  unfold maxLen at hm1 hm2
  go_enter Tryd.func12, Tryd.ntmps12
  go_wp2
  go_loopw [5] (fun i wr => ∃ k : Nat, k ≤ xs.length ∧ i = .int .i64 k ∧ Ext w wr) (fun i _ => xs.length - (intOf i).toNat)
  case atStart => exact ⟨0, Nat.zero_le _, rfl, Ext.refl _⟩
  case round =>
    obtain ⟨k, hk, rfl, hx⟩ := hrel
    by_cases hlt : k < xs.length
    · rcases g1 with g1 | ⟨b1, o1, rfl, hb1, g1⟩
      · omega
      rcases g2 with g2 | ⟨b2, o2, rfl, hb2, g2⟩
      · omega
      have e1 : wr.cell? ⟨b1, o1 + k * 2, none⟩ = some (.string xs[k].name) := (hx.cell b1 _ hb1).trans (g1 _ _ (leaf_c0 xs k hlt))
      have e2 : wr.cell? ⟨b1, o1 + k * 2 + 1, none⟩ = some (.string xs[k].value) := (hx.cell b1 _ hb1).trans (g1 _ _ (leaf_c1 xs k hlt))
      have e3 : wr.cell? ⟨b2, o2 + k * 2, none⟩ = some (.string xs[k].name) := (hx.cell b2 _ hb2).trans (g2 _ _ (leaf_c0 xs k hlt))
      have e4 : wr.cell? ⟨b2, o2 + k * 2 + 1, none⟩ = some (.string xs[k].value) := (hx.cell b2 _ hb2).trans (g2 _ _ (leaf_c1 xs k hlt))
      have q1 : (xs[k].name.toList == xs[k].name.toList) = true := by simp
      have q2 : (xs[k].value.toList == xs[k].value.toList) = true := by simp
      clear g1 g2
      go_wp2_with fail
      go_region
      all_goals
        go_wp2
        go_roundw
        case rel => exact ⟨k + 1, by omega, by go_num, (by repeat (first | (with_reducible first | exact Ext.refl _ | assumption | apply Ext.alloc | apply Ext.drew | apply Ext.drewN | refine Ext.setCell ?_ ?_ _ | refine Ext.trans ?_ (by assumption)) | (show _ ≤ _; first | omega | (dsimp only; omega) | (simp; done) | (simp; omega))))⟩
        case measure => simp [intOf]; omega
    · have hkn : k = xs.length := by omega
      subst hkn
      clear g1 g2
      go_wp2
      go_ret
      exact ⟨rfl, hx⟩
end Go.Proofs.YtckipgijfgeghaaDoor
