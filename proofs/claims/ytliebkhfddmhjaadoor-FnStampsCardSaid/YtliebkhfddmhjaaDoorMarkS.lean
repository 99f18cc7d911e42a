/- The laws' marks on strings. -/
import Derived.Test.YtliebkhfddmhjaaDoorMarkA
import Derived.Test.YtliebkhfddmhjaaDoorStrA
namespace Go.Proofs.YtliebkhfddmhjaaDoor
open Go.RowKit

def marksS (n : Nat) (k : Int) : List ByteArray := (List.range n).map fun i : Nat => markI (k + (i : Int))
/-- the first i are marked -/
def markOnS (xs : List ByteArray) (k : Int) : Nat → List ByteArray
  | 0 => xs
  | i + 1 => (markOnS xs k i).set i (markI (k + (i : Int)))
theorem markOnS_length (xs : List ByteArray) (k : Int) : ∀ i, (markOnS xs k i).length = xs.length
  | 0 => rfl
  | i + 1 => by rw [markOnS, List.length_set, markOnS_length xs k i]
theorem markOnS_get (xs : List ByteArray) (k : Int) (j : Nat) : ∀ i, i ≤ xs.length → (markOnS xs k i)[j]? = if j < i then some (markI (k + (j : Int))) else xs[j]?
  | 0, _ => by simp [markOnS]
  | i + 1, h => by
    rw [markOnS, List.getElem?_set, markOnS_get xs k j i (by omega), markOnS_length]
    by_cases hj : i = j
    · subst hj; simp; omega
    · rw [if_neg hj]
      by_cases h2 : j < i
      · rw [if_pos h2, if_pos (by omega)]
      · rw [if_neg h2, if_neg (by omega)]
theorem markOnS_all (xs : List ByteArray) (k : Int) : markOnS xs k xs.length = marksS xs.length k := by
  apply List.ext_getElem?
  intro j
  rw [markOnS_get xs k j _ (Nat.le_refl _), marksS, List.getElem?_map]
  by_cases hj : j < xs.length
  · simp [hj]
  · simp [hj]

set_option maxHeartbeats 800000 in
theorem laws_markStringS (v : Value) (xs : List ByteArray) (k : Int) (base : Nat) (w : World) (h : OwnStrs w base v xs) (hk : 1 ≤ k ∧ k + xs.length ≤ 1099511627776) :
    Calls Tryd.prog 19 #[v, .int .i64 k] w fun e w' => e = .returned (.int .i64 (k + xs.length)) ∧ OwnStrs w' base v (marksS xs.length k) ∧ w.grownBy w' v.ownBlock := by
  obtain ⟨a, c, rfl⟩ := own_any h
  have H := Lib.hid h
  clear h
  go_enter Tryd.func19, Tryd.ntmps19
  go_wp2
  go_loopw [1, 5] (fun q i wr => ∃ j : Nat, j ≤ xs.length ∧ i = .int .i64 j ∧ q = .int .i64 (k + (j : Int)) ∧ wr.ownsRow base 9 1 (.slice a xs.length c) xs.length ((markOnS xs k j).map Value.string) ∧ w.grownBy wr (Value.slice a xs.length c).ownBlock) (fun _ i _ => xs.length - (intOf i).toNat)
  case atStart => exact ⟨0, Nat.zero_le _, rfl, by simp, H.out, ⟨rfl, rfl, rfl, Nat.le_refl _, fun _ _ _ => rfl⟩⟩
  case round =>
    obtain ⟨j, hj, rfl, rfl, hown, hx⟩ := hrel
    by_cases hlt : j < xs.length
    · obtain ⟨g, cap, hv⟩ := own_form hown (by omega)
      injection hv with e1 e2 e3
      subst e1 e3
      have hgb := (own_lt hown g rfl).2
      have hls : j < (markOnS xs k j).length := by rw [markOnS_length]; exact hlt
      have hg0 : ((markOnS xs k j).map Value.string)[j]? = some (.string (markOnS xs k j)[j]) := by simp [hls]
      have HX : Mut g w wr := hx
      have HO := Lib.hid hown
      have HS := Lib.hid (show ((markOnS xs k j).map Value.string).set j (.string (markI (k + (j : Int)))) = (markOnS xs k (j + 1)).map Value.string by rw [markOnS, List.map_set])
      clear hx
      have m1 : 1 ≤ k + (j : Int) ∧ k + (j : Int) ≤ 1099511627776 := by omega
      clear hown
      go_wp2_with fail
      refine (laws_markText _ _ m1).mono ?_
      rintro e w2 ⟨rfl, x2⟩
      have hown2 := own_ext HO.out x2
      have c2 : w2.cell? ⟨g, j, none⟩ = some (.string (markOnS xs k j)[j]) := by rw [hown2.cellAt _ (by omega)]; exact hg0
      have f2 : w2.frozen? ⟨g, j, none⟩ = false := hown2.frozenAt _
      have S2 := (hown2.stored j (.string (markI (k + (j : Int))))).1
      have M4 : Mut g w (w2.setCell ⟨g, j, none⟩ (.string (markI (k + (j : Int))))) := Mut.setCell (HX.trans (Mut.of_ext x2)) _ _
      have HS2 := Lib.hid S2
      clear S2 hown2 hg0
      go_wp2
      go_roundw
      case rel => exact ⟨j + 1, by omega, by go_num, by go_num, by rw [← HS.out]; exact HS2.out, M4⟩
      case measure => simp [intOf]; omega
    · have hjn : j = xs.length := by omega
      subst hjn
      rw [markOnS_all] at hown
      have HO := Lib.hid hown
      clear hown
      go_wp2
      go_ret
      exact ⟨rfl, by unfold OwnStrs; rw [show (marksS xs.length k).length = xs.length by simp [marksS]]; exact HO.out, hx⟩

theorem marksS_length (n : Nat) (k : Int) : (marksS n k).length = n := by simp [marksS]

set_option maxHeartbeats 800000 in
theorem laws_heldStringS (v : Value) (n : Nat) (k : Int) (w : World) (h : Strs w v (marksS n k)) (hk : 1 ≤ k ∧ k + n ≤ 1099511627776) :
    Calls Tryd.prog 91 #[v, .int .i64 k] w fun e w' => e = .returned (.int .i64 (k + n)) ∧ Ext w w' := by
  obtain ⟨-, a1, c1, rfl, hc1, hm1, g1⟩ := h
  rw [marksS_length] at *
  unfold maxLen at hm1
  go_enter Tryd.func91, Tryd.ntmps91
  go_wp2
  go_loopw [1, 5] (fun q i wr => ∃ j : Nat, j ≤ n ∧ i = .int .i64 j ∧ q = .int .i64 (k + (j : Int)) ∧ Ext w wr) (fun _ i _ => n - (intOf i).toNat)
  case atStart => exact ⟨0, Nat.zero_le _, rfl, by simp, (by repeat (first | (with_reducible first | exact Ext.refl _ | assumption | apply Ext.alloc | apply Ext.drew | apply Ext.drewN | refine Ext.setCell ?_ ?_ _ | refine Ext.trans ?_ (by assumption)) | (show _ ≤ _; first | omega | (dsimp only; omega) | (simp; done) | (simp; omega))))⟩
  case round =>
    obtain ⟨j, hj, rfl, rfl, hx⟩ := hrel
    by_cases hlt : j < n
    · rcases g1 with g1 | ⟨b1, o1, rfl, hb1, g1⟩
      · omega
      have d1 := g1 j (.string (markI (k + (j : Int)))) (by simp [marksS, hlt])
      have l1 : b1 < wr.heap.size := Nat.lt_of_lt_of_le hb1 hx.size
      have e1 : wr.cell? ⟨b1, o1 + j, none⟩ = some (.string (markI (k + (j : Int)))) := (hx.cell b1 _ hb1).trans d1
      have m1 : 1 ≤ k + (j : Int) ∧ k + (j : Int) ≤ 1099511627776 := by omega
      clear g1 d1
      go_wp2_with fail
      go_region_held3 (fun W => W.cell? ⟨b1, o1 + j, none⟩ = some (.string (markI (k + (j : Int))))) (first | exact e1 | exact (ya.cell _ _ l1).trans e1) ((go_at_call 90; refine (laws_markText _ _ m1).mono ?_; rintro e wa ⟨rfl, xa⟩; have ya : Ext wr wa := (by repeat (first | (with_reducible first | exact Ext.refl _ | assumption | apply Ext.alloc | apply Ext.drew | apply Ext.drewN | refine Ext.setCell ?_ ?_ _ | refine Ext.trans ?_ (by assumption)) | (show _ ≤ _; first | omega | (dsimp only; omega) | (simp; done) | (simp; omega))))))
      all_goals
        go_wp2
        go_roundw
        case rel => exact ⟨j + 1, by omega, by go_num, by go_num, (by repeat (first | (with_reducible first | exact Ext.refl _ | assumption | apply Ext.alloc | apply Ext.drew | apply Ext.drewN | refine Ext.setCell ?_ ?_ _ | refine Ext.trans ?_ (by assumption)) | (show _ ≤ _; first | omega | (dsimp only; omega) | (simp; done) | (simp; omega))))⟩
        case measure => simp [intOf]; omega
    · have hjn : j = n := by omega
      subst hjn
      clear g1
      go_wp2
      go_ret
      exact ⟨rfl, hx⟩
end Go.Proofs.YtliebkhfddmhjaaDoor
