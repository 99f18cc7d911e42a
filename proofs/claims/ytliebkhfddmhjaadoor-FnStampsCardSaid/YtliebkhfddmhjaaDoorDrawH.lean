/- The draws of heads. -/
import Derived.Test.YtliebkhfddmhjaaDoorCurA
import Derived.Test.YtliebkhfddmhjaaDoorHashA
namespace Go.Proofs.YtliebkhfddmhjaaDoor
open Go.RowKit

theorem Code.ext {w w' : World} {b b' : Nat} {v : Value} {xs : List Int} (h : Code w b v xs) (hb : b ≤ w.heap.size) (hx : Ext w w') (hb' : b ≤ b') : Code w' b' v xs := by
  obtain ⟨a, cap, rfl, h1, h2⟩ := h
  refine ⟨a, cap, rfl, h1, ?_⟩
  rcases h2 with h2 | ⟨g, o, rfl, hg, h2⟩
  · exact Or.inl h2
  · exact Or.inr ⟨g, o, rfl, by omega, fun j hj => (hx.cell _ _ (by omega)).trans (h2 j hj)⟩
theorem long_set (n k : Nat) (hk : k < n) (x : Int) : ((List.replicate k x ++ List.replicate (n - k) 0).map (Value.int .u8)).set k (.int .u8 x) = (List.replicate (k + 1) x ++ List.replicate (n - (k + 1)) 0).map (Value.int .u8) := by
  rw [List.map_append, List.set_append_right _ _ (by simp)]
  simp only [List.length_map, List.length_replicate, Nat.sub_self]
  rw [show n - k = (n - (k + 1)) + 1 by omega, List.replicate_succ, List.replicate_succ']
  simp
set_option maxHeartbeats 800000 in
theorem spec_l01Long (n : Nat) (x : Int) (w : World) (hn : n ≤ 1048576) :
    Calls Tryd.prog 131 #[.int .i64 n, .int .u8 x] w fun e w' => ∃ s : ByteArray, e = .returned (.string s) ∧ s.size = n ∧ Ext w w' := by
  obtain ⟨i0, hi, hz0, hz1, hz2⟩ := info_parts infoByte
  go_enter Tryd.func131, Tryd.ntmps131
  go_wp2_with (at_make; refine wpList_make_full _ rfl _ _ 44 rfl w.heap.size 5 i0 _ 1 Tryd.underlying44 hi hz0 hz1 _ _ _ _ n rfl rfl rfl rfl (by rw [hz2]; omega) (by unfold maxLen; omega) (Nat.le_refl _) ?_; intro w1 hown1 hgrow1)
  have hx1 : Ext w w1 := (Ext.refl w).grown hgrow1 (by simp)
  rw [Nat.mul_one, show (Value.int .u8 0).cells = #[.int .u8 0] from rfl, toList_madeCells_one] at hown1
  go_loopw [6] (fun i wr => ∃ k : Nat, k ≤ n ∧ i = .int .i64 k ∧ wr.ownsRow w.heap.size 5 1 (.slice (some ⟨w.heap.size, 0, none⟩) n n) n ((List.replicate k x ++ List.replicate (n - k) 0).map (Value.int .u8)) ∧ Ext w wr) (fun i _ => n - (intOf i).toNat)
  case atStart => exact ⟨0, Nat.zero_le _, rfl, by simpa using hown1, hx1⟩
  case round =>
    obtain ⟨k, hk, rfl, hown, hx⟩ := hrel
    by_cases hlt : k < n
    · have hlt' : (k : Int) < n := by omega
      have hk0 : (0 : Int) ≤ k := by omega
      have e2 : wr.cell? ⟨w.heap.size, k, none⟩ = some (.int .u8 0) := by
        rw [hown.cellAt k (by omega)]
        rw [show n - k = (n - (k + 1)) + 1 by omega, List.replicate_succ, List.map_append, List.getElem?_append_right (by simp)]
        simp
      have e3 : wr.frozen? ⟨w.heap.size, k, none⟩ = false := hown.frozenAt k
      have S := hown.stored k (.int .u8 x)
      rw [long_set n k hlt] at S
      have HS := Lib.hid S
      clear S hown hown1 hgrow1
      go_wp2
      go_roundw
      case rel => exact ⟨k + 1, by omega, by go_num, HS.out.1, hx.setCell (Nat.le_refl _) _⟩
      case measure => simp [intOf]; omega
    · have hlt' : ¬ (k : Int) < n := by omega
      obtain ⟨s, hs, hcv⟩ := own_str hown
      go_wp2
      go_ret
      exact ⟨s, rfl, hs, hx⟩
set_option maxHeartbeats 800000 in
theorem spec_l13Root (b : Nat) (w : World) (h : Cur w b) :
    Calls Tryd.prog 132 #[.pointer (some ⟨b, 0, none⟩)] w fun e w' => ∃ s : ByteArray, e = .returned (.string s) ∧ s.size = 16 ∧ Cur w' b ∧ Mut b w w' := by
  go_enter Tryd.func132, Tryd.ntmps132
  go_wp2_with fail
  refine (spec_l01Text b 2 _ h (by omega)).mono ?_
  rintro e w1 ⟨s, rfl, hs, C1, M1⟩
  go_wp2_with fail
  have hz : (cutT s 16).size = 16 := by
    have := cutT_size s 16 (by decide)
    omega
  refine (spec_CutDigest s 16 _ (by omega)).mono ?_
  generalize cutT s 16 = r at *
  rintro e w2 ⟨rfl, x2⟩
  go_wp2
  go_ret
  exact ⟨_, rfl, hz, C1.ext x2, M1.trans (Mut.of_ext x2)⟩
end Go.Proofs.YtliebkhfddmhjaaDoor
