/- The roots of a list's shards, one by one. -/
import Derived.Test.YtliebkhfddmhjaaDoorTree
import Derived.Deep.AppendLies
namespace Go.Proofs.YtliebkhfddmhjaaDoor
open Go.RowKit

def rtsN (xs : List Leaf) (k n : Nat) : List ByteArray := (List.range n).map fun j : Nat => shRoot xs k j 16
theorem rtsN_len (xs : List Leaf) (k n : Nat) : (rtsN xs k n).length = n := by simp [rtsN]
theorem rtsN_succ (xs : List Leaf) (k n : Nat) : rtsN xs k (n + 1) = rtsN xs k n ++ [shRoot xs k n 16] := by simp [rtsN, List.range_succ]
set_option maxRecDepth 100000 in
set_option maxHeartbeats 1600000 in
theorem laws_rootsOf (v : Value) (xs : List Leaf) (k : Nat) (w : World) (h : Lvs w v xs) (hf : LeafFit xs) (hk : k ≤ 2) :
    Calls Tryd.prog 75 #[v, .int .i64 k] w fun e w' => ∃ oa oc, e = .returned (.slice oa (rtsN xs k (2 ^ k)).length oc) ∧ OwnStrs w' w.heap.size (.slice oa (rtsN xs k (2 ^ k)).length oc) (rtsN xs k (2 ^ k)) ∧ Ext w w' := by
  obtain ⟨i0, hi, hz0, hz1, hz2⟩ := info_parts infoString
  obtain ⟨a, c, rfl⟩ := h.form
  have HL := Lib.hid h
  have HF := Lib.hid hf
  clear h hf
  rcases (by omega : k = 0 ∨ k = 1 ∨ k = 2) with rfl | rfl | rfl
  · rw [show ((0 : Nat) : Int) = 0 from rfl]
    go_enter Tryd.func75, Tryd.ntmps75
    go_wp2
    go_loopw [5, 6] (fun u i wr => ∃ j : Nat, j ≤ 1 ∧ i = .int .i64 j ∧ wr.ownsRow w.heap.size 9 1 u j ((rtsN xs 0 j).map Value.string) ∧ Ext w wr) (fun _ i _ => 1 - (intOf i).toNat)
    case atStart => exact ⟨0, by omega, rfl, World.ownsRow_lit w #[] 0 (Nat.le_refl _) (Nat.zero_le _) rfl, (by repeat (first | (with_reducible first | exact Ext.refl _ | assumption | apply Ext.alloc | apply Ext.drew | apply Ext.drewN | refine Ext.setCell ?_ ?_ _ | refine Ext.trans ?_ (by assumption)) | (show _ ≤ _; first | omega | (dsimp only; omega) | (simp; done) | (simp; omega))))⟩
    case round =>
      obtain ⟨j, hj, rfl, hown, X⟩ := hrel
      obtain ⟨oa, oc, rfl⟩ := own_any hown
      have hsz := X.size
      by_cases hlt : j < 1
      · have hlti : (j : Int) < 1 := by omega
        have HU := Lib.hid (rtsN_succ xs 0 j)
        go_wp2_with fail
        refine (spec_ShardRoot _ xs 0 j 16 _ (HL.out.ext X) HF.out).mono ?_
        skip
        generalize hsr : shRoot xs 0 j 16 = sr at *
        rintro e w5 ⟨rfl, x5⟩
        have own5 := own_ext hown x5
        have X5 := X.trans x5
        have z5 := X5.size
        clear hown
        go_wp2_with (at_builtin; refine wpList_append_own _ rfl (.tmp 15) (.tmp 20) 22 rfl w.heap.size 9 i0 (.string ⟨#[]⟩) 1 16 Tryd.underlying22 hi hz0 hz1 hz2 rfl (by decide) _ _ _ rfl (own_alloc own5 _) ⟨w5.heap.size, 0, none⟩ 1 1 [.string sr] rfl rfl ?c1 ?c2 ?c3 ?c4 ?c5 ?_)
        case c1 => exact World.news_of_block (heap_alloc_new w5 (Obj.cells #[Value.string sr] 9))
        case c2 => intro u hu; simp at hu; subst hu; rfl
        case c3 => unfold maxLen; omega
        case c4 => omega
        case c5 => simp; omega
        intro v' w6 own6 hgrow _
        have X6 := own_ext_of (X5.trans ((Ext.refl w5).alloc _)) (own_alloc own5 _) hgrow (Nat.le_refl _)
        obtain ⟨oa6, oc6, rfl⟩ := own_any own6
        have O6 := Lib.hid own6
        clear own6 hgrow own5
        go_wp2
        go_roundw
        case rel => exact ⟨j + 1, by omega, by go_num, by rw [HU.out, List.map_append]; exact O6.out, X6⟩
        case measure => simp [intOf]; omega
      · obtain rfl : j = 1 := by omega
        go_wp2
        go_ret
        exact ⟨oa, oc, by rw [rtsN_len]; rfl, by unfold OwnStrs; rw [rtsN_len]; exact hown, X⟩
  · rw [show ((1 : Nat) : Int) = 1 from rfl]
    go_enter Tryd.func75, Tryd.ntmps75
    go_wp2
    go_loopw [5, 6] (fun u i wr => ∃ j : Nat, j ≤ 2 ∧ i = .int .i64 j ∧ wr.ownsRow w.heap.size 9 1 u j ((rtsN xs 1 j).map Value.string) ∧ Ext w wr) (fun _ i _ => 2 - (intOf i).toNat)
    case atStart => exact ⟨0, by omega, rfl, World.ownsRow_lit w #[] 0 (Nat.le_refl _) (Nat.zero_le _) rfl, (by repeat (first | (with_reducible first | exact Ext.refl _ | assumption | apply Ext.alloc | apply Ext.drew | apply Ext.drewN | refine Ext.setCell ?_ ?_ _ | refine Ext.trans ?_ (by assumption)) | (show _ ≤ _; first | omega | (dsimp only; omega) | (simp; done) | (simp; omega))))⟩
    case round =>
      obtain ⟨j, hj, rfl, hown, X⟩ := hrel
      obtain ⟨oa, oc, rfl⟩ := own_any hown
      have hsz := X.size
      by_cases hlt : j < 2
      · have hlti : (j : Int) < 2 := by omega
        have HU := Lib.hid (rtsN_succ xs 1 j)
        go_wp2_with fail
        refine (spec_ShardRoot _ xs 1 j 16 _ (HL.out.ext X) HF.out).mono ?_
        skip
        generalize hsr : shRoot xs 1 j 16 = sr at *
        rintro e w5 ⟨rfl, x5⟩
        have own5 := own_ext hown x5
        have X5 := X.trans x5
        have z5 := X5.size
        clear hown
        go_wp2_with (at_builtin; refine wpList_append_own _ rfl (.tmp 15) (.tmp 20) 22 rfl w.heap.size 9 i0 (.string ⟨#[]⟩) 1 16 Tryd.underlying22 hi hz0 hz1 hz2 rfl (by decide) _ _ _ rfl (own_alloc own5 _) ⟨w5.heap.size, 0, none⟩ 1 1 [.string sr] rfl rfl ?c1 ?c2 ?c3 ?c4 ?c5 ?_)
        case c1 => exact World.news_of_block (heap_alloc_new w5 (Obj.cells #[Value.string sr] 9))
        case c2 => intro u hu; simp at hu; subst hu; rfl
        case c3 => unfold maxLen; omega
        case c4 => omega
        case c5 => simp; omega
        intro v' w6 own6 hgrow _
        have X6 := own_ext_of (X5.trans ((Ext.refl w5).alloc _)) (own_alloc own5 _) hgrow (Nat.le_refl _)
        obtain ⟨oa6, oc6, rfl⟩ := own_any own6
        have O6 := Lib.hid own6
        clear own6 hgrow own5
        go_wp2
        go_roundw
        case rel => exact ⟨j + 1, by omega, by go_num, by rw [HU.out, List.map_append]; exact O6.out, X6⟩
        case measure => simp [intOf]; omega
      · obtain rfl : j = 2 := by omega
        go_wp2
        go_ret
        exact ⟨oa, oc, by rw [rtsN_len]; rfl, by unfold OwnStrs; rw [rtsN_len]; exact hown, X⟩
  · rw [show ((2 : Nat) : Int) = 2 from rfl]
    go_enter Tryd.func75, Tryd.ntmps75
    go_wp2
    go_loopw [5, 6] (fun u i wr => ∃ j : Nat, j ≤ 4 ∧ i = .int .i64 j ∧ wr.ownsRow w.heap.size 9 1 u j ((rtsN xs 2 j).map Value.string) ∧ Ext w wr) (fun _ i _ => 4 - (intOf i).toNat)
    case atStart => exact ⟨0, by omega, rfl, World.ownsRow_lit w #[] 0 (Nat.le_refl _) (Nat.zero_le _) rfl, (by repeat (first | (with_reducible first | exact Ext.refl _ | assumption | apply Ext.alloc | apply Ext.drew | apply Ext.drewN | refine Ext.setCell ?_ ?_ _ | refine Ext.trans ?_ (by assumption)) | (show _ ≤ _; first | omega | (dsimp only; omega) | (simp; done) | (simp; omega))))⟩
    case round =>
      obtain ⟨j, hj, rfl, hown, X⟩ := hrel
      obtain ⟨oa, oc, rfl⟩ := own_any hown
      have hsz := X.size
      by_cases hlt : j < 4
      · have hlti : (j : Int) < 4 := by omega
        have HU := Lib.hid (rtsN_succ xs 2 j)
        go_wp2_with fail
        refine (spec_ShardRoot _ xs 2 j 16 _ (HL.out.ext X) HF.out).mono ?_
        skip
        generalize hsr : shRoot xs 2 j 16 = sr at *
        rintro e w5 ⟨rfl, x5⟩
        have own5 := own_ext hown x5
        have X5 := X.trans x5
        have z5 := X5.size
        clear hown
        go_wp2_with (at_builtin; refine wpList_append_own _ rfl (.tmp 15) (.tmp 20) 22 rfl w.heap.size 9 i0 (.string ⟨#[]⟩) 1 16 Tryd.underlying22 hi hz0 hz1 hz2 rfl (by decide) _ _ _ rfl (own_alloc own5 _) ⟨w5.heap.size, 0, none⟩ 1 1 [.string sr] rfl rfl ?c1 ?c2 ?c3 ?c4 ?c5 ?_)
        case c1 => exact World.news_of_block (heap_alloc_new w5 (Obj.cells #[Value.string sr] 9))
        case c2 => intro u hu; simp at hu; subst hu; rfl
        case c3 => unfold maxLen; omega
        case c4 => omega
        case c5 => simp; omega
        intro v' w6 own6 hgrow _
        have X6 := own_ext_of (X5.trans ((Ext.refl w5).alloc _)) (own_alloc own5 _) hgrow (Nat.le_refl _)
        obtain ⟨oa6, oc6, rfl⟩ := own_any own6
        have O6 := Lib.hid own6
        clear own6 hgrow own5
        go_wp2
        go_roundw
        case rel => exact ⟨j + 1, by omega, by go_num, by rw [HU.out, List.map_append]; exact O6.out, X6⟩
        case measure => simp [intOf]; omega
      · obtain rfl : j = 4 := by omega
        go_wp2
        go_ret
        exact ⟨oa, oc, by rw [rtsN_len]; rfl, by unfold OwnStrs; rw [rtsN_len]; exact hown, X⟩
end Go.Proofs.YtliebkhfddmhjaaDoor
