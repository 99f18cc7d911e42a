/- The hash of a place: the reference. -/
import Derived.Test.YtagkcgbggeajkaaDoorNodeP
import Derived.Test.YtagkcgbggeajkaaDoorFold
import Derived.Deep.AppendLies
namespace Go.Proofs.YtagkcgbggeajkaaDoor
open Go.RowKit

/-- a leaf and its index -/
def spotC (l : Leaf) : List Value := [.string l.name, .string l.value, .int .i64 (idxT l.name)]
theorem spotC_len (l : Leaf) : (spotC l).length = 3 := rfl
def Spts (w : World) (v : Value) (xs : List Leaf) : Prop := Row w 3 v xs.length (xs.flatMap spotC)
theorem Spts.ext {w w' : World} {v : Value} {xs : List Leaf} (h : Spts w v xs) (hx : Ext w w') : Spts w' v xs := Row.ext h hx
theorem sp_c0 (xs : List Leaf) (k : Nat) (h : k < xs.length) : (xs.flatMap spotC)[k * 3]? = some (.string xs[k].name) := flat_get spotC_len xs k 0 h (by omega)
theorem sp_c1 (xs : List Leaf) (k : Nat) (h : k < xs.length) : (xs.flatMap spotC)[k * 3 + 1]? = some (.string xs[k].value) := flat_get spotC_len xs k 1 h (by omega)
theorem sp_c2 (xs : List Leaf) (k : Nat) (h : k < xs.length) : (xs.flatMap spotC)[k * 3 + 2]? = some (.int .i64 (idxT xs[k].name)) := flat_get spotC_len xs k 2 h (by omega)
theorem infoSpot : (Tryd.prog.info? 110).map (fun i => (i.zero, i.size, i.bytes)) = some (some (.agg #[.string ⟨#[]⟩, .string ⟨#[]⟩, .int .i64 0]), 3, 40) := by kernel_rfl
theorem spot_one (z : Leaf) : ∀ u ∈ spotC z, u.oneCell' = true := by
  intro u hu
  simp only [spotC, List.mem_cons, List.not_mem_nil, or_false] at hu
  rcases hu with rfl | rfl | rfl <;> rfl
theorem take_flat_succ {α : Type} (f : α → List Value) (xs : List α) (k : Nat) (h : k < xs.length) : (xs.take (k + 1)).flatMap f = (xs.take k).flatMap f ++ f xs[k] := by
  rw [List.take_succ_eq_append_getElem h, List.flatMap_append]
  simp

set_option maxRecDepth 100000 in
set_option maxHeartbeats 3200000 in
theorem spec_l10Spots (v : Value) (xs : List Leaf) (w : World) (h : Lvs w v xs) (hn : NamesFit xs) (hb : xs.length ≤ 1000) :
    Calls Tryd.prog 59 #[v] w fun e w' => ∃ a c, e = .returned (.slice a xs.length c) ∧ Spts w' (.slice a xs.length c) xs ∧ Ext w w' := by
  obtain ⟨i0, hi, hz0, hz1, hz2⟩ := info_parts infoSpot
  obtain ⟨-, a1, c1, rfl, hc1, hm1, g1⟩ := h
  unfold maxLen at hm1
  have HN := Lib.hid hn
  clear hn
  go_enter Tryd.func59, Tryd.ntmps59
  go_wp2
  go_loopw [3, 4] (fun v i wr => ∃ j : Nat, j ≤ xs.length ∧ i = .int .i64 j ∧ wr.ownsRow w.heap.size 110 3 v j ((xs.take j).flatMap spotC) ∧ Ext w wr) (fun _ i _ => xs.length - (intOf i).toNat)
  case atStart => exact ⟨0, Nat.zero_le _, rfl, World.ownsRow_lit w #[] 0 (Nat.le_refl _) (Nat.zero_le _) rfl, (by repeat (first | (with_reducible first | exact Ext.refl _ | assumption | apply Ext.alloc | apply Ext.drew | apply Ext.drewN | refine Ext.setCell ?_ ?_ _ | refine Ext.trans ?_ (by assumption)) | (show _ ≤ _; first | omega | (dsimp only; omega) | (simp; done) | (simp; omega))))⟩
  case round =>
    obtain ⟨j, hj, rfl, hown, hx⟩ := hrel
    obtain ⟨a, c, rfl⟩ := own_any hown
    have hsz := hx.size
    by_cases hlt : j < xs.length
    · rcases g1 with g1 | ⟨b1, o1, rfl, hb1, g1⟩
      · omega
      have f1 := Lib.hid (g1 _ _ (leaf_c0 xs j hlt))
      have f2 := Lib.hid (g1 _ _ (leaf_c1 xs j hlt))
      have e1 : wr.cell? ⟨b1, o1 + j * 2, none⟩ = some (.string xs[j].name) := (hx.cell b1 _ hb1).trans f1.out
      have e2 : wr.cell? ⟨b1, o1 + j * 2 + 1, none⟩ = some (.string xs[j].value) := (hx.cell b1 _ hb1).trans f2.out
      have l1 : b1 < wr.heap.size := Nat.lt_of_lt_of_le hb1 hsz
      have hnm := HN.out xs[j] (List.getElem_mem hlt)
      have HU := Lib.hid (take_flat_succ spotC xs j hlt)
      have HO := Lib.hid hown
      have hi0 : (0 : Int) ≤ (j : Int) := by omega
      have hi1 : (j : Int) < (xs.length : Int) := by omega
      clear g1 hown
      generalize xs[j] = z at *
      go_wp2_with fail
      go_region_held3 (fun W => W.cell? ⟨b1, o1 + j * 2, none⟩ = some (.string z.name) ∧ W.cell? ⟨b1, o1 + j * 2 + 1, none⟩ = some (.string z.value)) (first | exact ⟨e1, e2⟩ | exact ⟨d1, d2⟩ | exact ⟨cell_new1 d1 l2, cell_new1 d2 l2⟩ | exact ⟨(y9.cell b1 _ hb1).trans f1.out, (y9.cell b1 _ hb1).trans f2.out⟩) (first | (go_at_call 73; refine (spec_IndexOf z.name _ hnm).mono ?_; rintro e w1 ⟨rfl, x1⟩; have y1 : Ext wr w1 := (by repeat (first | (with_reducible first | exact Ext.refl _ | assumption | apply Ext.alloc | apply Ext.drew | apply Ext.drewN | refine Ext.setCell ?_ ?_ _ | refine Ext.trans ?_ (by assumption)) | (show _ ≤ _; first | omega | (dsimp only; omega) | (simp; done) | (simp; omega)))); have l2 := Nat.lt_of_lt_of_le l1 y1.size; have z1 := y1.size; have d1 := (y1.cell _ _ l1).trans e1; have d2 := (y1.cell _ _ l1).trans e2) | (refine step_append_lies _ rfl (.tmp 12) (.tmp 24) 79 (by rfl) w.heap.size 110 i0 (.agg #[.string ⟨#[]⟩, .string ⟨#[]⟩, .int .i64 0]) 3 40 Tryd.underlying79 hi hz0 hz1 hz2 rfl (by decide) _ _ _ (by rfl) (own_alloc (own_ext HO.out y1) _) ⟨w1.heap.size, 0, none⟩ 1 1 (spotC z) (by rfl) rfl (World.news_of_block (heap_alloc_new w1 (Obj.cells #[Value.string z.name, Value.string z.value, Value.int .i64 (idxT z.name)] 110))) (spot_one z) (by decide) (by unfold maxLen; omega) (by omega) (by simp; omega) _ rfl ?_; intro g cap w9 hown9 hgrow _ _; have y9 : Ext w w9 := own_ext_of ((hx.trans y1).alloc _) (own_alloc (own_ext HO.out y1) _) hgrow (Nat.le_refl _); have HO9 := Lib.hid hown9; clear hown9 hgrow))
      all_goals
        go_wp2
        go_roundw
        case rel => exact ⟨j + 1, by omega, by go_num, by rw [HU.out]; exact HO9.out, y9⟩
        case measure => simp [intOf]; omega
    · obtain rfl : j = xs.length := by omega
      rw [List.take_length] at hown
      have hr : Spts wr (.slice a xs.length c) xs := Row.of_owns hown
      clear hown g1
      go_wp2
      go_ret
      exact ⟨_, _, rfl, hr, hx⟩
end Go.Proofs.YtagkcgbggeajkaaDoor
