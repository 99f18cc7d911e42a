/- The reference's constants; the digest in pieces. -/
import Derived.Test.YtckipgijfgeghaaDoorSha4
import Derived.Test.YtckipgijfgeghaaDoorOwnP
namespace Go.Proofs.YtckipgijfgeghaaDoor
open Go.RowKit

set_option maxRecDepth 100000 in
set_option maxHeartbeats 800000 in
theorem spec_l03First (w : World) :
    Calls Tryd.prog 84 #[] w fun e w' => e = .returned st0.val ∧ Ext w w' := by
  go_enter Tryd.func84, Tryd.ntmps84
  go_wp2
  refine bodyPost_ret (v := st0.val) ?_ rfl ⟨rfl, (by repeat (first | (with_reducible first | exact Ext.refl _ | assumption | apply Ext.alloc | apply Ext.drew | apply Ext.drewN | refine Ext.setCell ?_ ?_ _ | refine Ext.trans ?_ (by assumption)) | (show _ ≤ _; first | omega | (dsimp only; omega) | (simp; done) | (simp; omega))))⟩
  simp [results, Tryd.results84, go_sem]
  rfl

theorem keys_one : keysV.all (·.oneCell') = true := by
  rw [Array.all_eq_true_iff_forall_mem]
  intro v hv
  simp only [keysV, List.mem_toArray, List.mem_map] at hv
  obtain ⟨x, -, rfl⟩ := hv
  rfl
theorem keys_size : keysV.size = 64 := by
  simp [keysV, keysL_len]
set_option maxRecDepth 100000 in
set_option maxHeartbeats 800000 in
theorem spec_l03Keys (w : World) :
    Calls Tryd.prog 85 #[] w fun e w' => e = .returned (.agg keysV) ∧ Ext w w' := by
  go_enter Tryd.func85, Tryd.ntmps85
  go_wp2_with (refine wpList_store_row rfl 98 (.tmp 0) (.tmp 1) rfl w.heap.size keysV rfl rfl 98 (List.replicate 64 (Value.int .u32 0)).toArray (heap_alloc_at _ rfl) (by rw [keys_size]; kernel_rfl) (by rw [keys_size]; rfl) keys_one ?_; rw [setRow_alloc_at _ _ _ rfl])
  refine bodyPost_ret (v := .agg keysV) ?_ rfl ⟨rfl, (by repeat (first | (with_reducible first | exact Ext.refl _ | assumption | apply Ext.alloc | apply Ext.drew | apply Ext.drewN | refine Ext.setCell ?_ ?_ _ | refine Ext.trans ?_ (by assumption)) | (show _ ≤ _; first | omega | (dsimp only; omega) | (simp; done) | (simp; omega))))⟩
  exact results_cell_row (P := Tryd.prog) (ty := 98) (p := 0) Tryd.results85 _ _ w.heap.size 98 keysV (0, 0) _ rfl (heap_alloc_at _ rfl) Tryd.underlying98 rfl (by rw [keys_size]; kernel_rfl)
end Go.Proofs.YtckipgijfgeghaaDoor
