/- The drawn chain. -/
import Derived.Test.YtcinihfjkkaclaaDoorDrwB
namespace Go.Proofs.YtcinihfjkkaclaaDoor
open Go.RowKit

set_option maxHeartbeats 800000 in
theorem spec_DrawChain (v : Value) (bs : List Int) (w : World) (h : Code w w.heap.size v bs) (hl : bs.length ≤ 1048576) :
    Calls Tryd.prog 22 #[v] w fun e w' => ∃ (xs : List Hd) (g c : Nat) (house : Int), e = .returned (.tuple #[.slice (some ⟨g, 0, none⟩) xs.length c, .int .i64 house]) ∧ (0 ≤ house ∧ house < 3) ∧ xs.length ≤ 4 ∧ chainOk xs house = true ∧ OwnHds w' w.heap.size (.slice (some ⟨g, 0, none⟩) xs.length c) xs ∧ Ext w w' := by
  go_enter Tryd.func22, Tryd.ntmps22
  go_wp2_with fail
  refine (spec_l01New v bs _ h hl).mono ?_
  rintro e w1 ⟨rfl, C1, x1⟩
  go_wp2_with fail
  refine (spec_l13Chain _ _ C1).mono ?_
  rintro e w2 ⟨xs, g, c, house, rfl, hh, h4, hch, hown, C2, M2⟩
  have X2 := x1.mut M2 (Nat.le_refl _)
  have hs := x1.size
  have HCH := Lib.hid hch
  clear hch
  go_wp2
  go_ret2
  exact ⟨xs, g, c, house, rfl, hh, h4, HCH.out, own_mono hown hs, X2⟩
end Go.Proofs.YtcinihfjkkaclaaDoor
