/- Decimal figures, one alone. -/
import Derived.Test.YtliebkhfddmhjaaDoorStrA
import Derived.Test.YtliebkhfddmhjaaDoorCore
namespace Go.Proofs.YtliebkhfddmhjaaDoor
open Go.RowKit

theorem spec_l01Figure2 (x : Int) (w : World) (hx : 0 ≤ x ∧ x < 10) :
    Calls Tryd.prog 145 #[.int .i64 x] w fun e w' => e = .returned (.int .u8 (48 + x)) ∧ w = w' := by
  obtain ⟨h0, h1⟩ := hx
  have e1 : (48 + x) % 256 = 48 + x := by omega
  go_enter Tryd.func145, Tryd.ntmps145
  go_wp2
  go_ret
  exact ⟨rfl, rfl⟩
def decS (n : Nat) : ByteArray := strOfNums [48 + (n : Int)]
set_option maxRecDepth 100000 in
set_option maxHeartbeats 800000 in
theorem spec_Decimal1 (n : Nat) (w : World) (hn : n < 10) :
    Calls Tryd.prog 69 #[.int .i64 n] w fun e w' => e = .returned (.string (decS n)) ∧ Ext w w' := by
  have hcv := conv_lit1
  by_cases h0 : n = 0
  · subst h0
    go_enter Tryd.func69, Tryd.ntmps69
    go_wp2
    go_ret
    exact ⟨rfl, Ext.refl _⟩
  · have hz : (n : Int) ≠ 0 := by omega
    have hn0 : ¬ ((n : Int) < 0) := by omega
    go_enter Tryd.func69, Tryd.ntmps69
    go_wp2
    go_loopw [0, 4] (fun c v wr => ∃ (m : Nat) (acc : ByteArray), c = .int .i64 m ∧ v = .string acc ∧ ((m = n ∧ acc = ⟨#[]⟩) ∨ (m = 0 ∧ acc = decS n)) ∧ Ext w wr) (fun c _ _ => (intOf c).toNat)
    case atStart => exact ⟨n, ⟨#[]⟩, rfl, rfl, Or.inl ⟨rfl, rfl⟩, Ext.refl _⟩
    case round =>
      obtain ⟨m, acc, rfl, rfl, hd, hx⟩ := hrel
      rcases hd with ⟨rfl, rfl⟩ | ⟨rfl, rfl⟩
      · have hz1 : (strOfNums [48 + (m : Int)]).size = 1 := strOfNums_size _
        have hr : 0 ≤ (m : Int) ∧ (m : Int) < 10 := by omega
        have hmod : (m : Int) % 10 = m := by omega
        have HA := Lib.hid (show strOfNums [48 + (m : Int)] ++ (⟨#[]⟩ : ByteArray) = decS m by apply ba_ext; rw [ba_append, show (⟨#[]⟩ : ByteArray).data.toList = [] from rfl, List.append_nil]; rfl)
        go_wp2_with fail
        refine (spec_l01Figure2 _ _ hr).mono ?_
        rintro e w' ⟨rfl, rfl⟩
        go_wp2
        go_roundw
        case rel => exact ⟨0, _, by go_num, rfl, Or.inr ⟨rfl, by first | exact HA.out | rfl⟩, (by repeat (first | (with_reducible first | exact Ext.refl _ | assumption | apply Ext.alloc | apply Ext.drew | apply Ext.drewN | refine Ext.setCell ?_ ?_ _ | refine Ext.trans ?_ (by assumption)) | (show _ ≤ _; first | omega | (dsimp only; omega) | (simp; done) | (simp; omega))))⟩
        case measure => simp [intOf]; omega
      · go_wp2
        go_ret
        exact ⟨rfl, hx⟩
end Go.Proofs.YtliebkhfddmhjaaDoor
