/- Decimal figures: the size of what is told. -/
import Derived.Test.YtcinihfjkkaclaaDoorStrA
import Derived.Test.YtcinihfjkkaclaaDoorCore
namespace Go.Proofs.YtcinihfjkkaclaaDoor
open Go.RowKit

theorem spec_l01Figure (x : Int) (w : World) (hx : 0 ≤ x ∧ x < 10) :
    Calls Tryd.prog 82 #[.int .i64 x] w fun e w' => e = .returned (.int .u8 (48 + x)) ∧ w = w' := by
  obtain ⟨h0, h1⟩ := hx
  have e1 : (48 + x) % 256 = 48 + x := by omega
  go_enter Tryd.func82, Tryd.ntmps82
  go_wp2
  go_ret
  exact ⟨rfl, rfl⟩
set_option maxRecDepth 100000 in
set_option maxHeartbeats 800000 in
theorem spec_Decimal (n : Nat) (w : World) (hn : n < 10000) :
    Calls Tryd.prog 25 #[.int .i64 n] w fun e w' => ∃ s : ByteArray, e = .returned (.string s) ∧ (1 ≤ s.size ∧ s.size ≤ 10000) ∧ Ext w w' := by
  have hcv := conv_lit1
  by_cases h0 : n = 0
  · subst h0
    go_enter Tryd.func25, Tryd.ntmps25
    go_wp2
    go_ret
    exact ⟨_, rfl, by decide, Ext.refl _⟩
  · have hz : (n : Int) ≠ 0 := by omega
    have hn0 : ¬ ((n : Int) < 0) := by omega
    go_enter Tryd.func25, Tryd.ntmps25
    go_wp2
    go_loopw [0, 4] (fun c v wr => ∃ (m : Nat) (acc : ByteArray), c = .int .i64 m ∧ v = .string acc ∧ (acc.size = 0 → m ≠ 0) ∧ acc.size + m ≤ n ∧ Ext w wr) (fun c _ _ => (intOf c).toNat)
    case atStart => exact ⟨n, ⟨#[]⟩, rfl, rfl, fun _ => h0, by simp [ByteArray.size], Ext.refl _⟩
    case round =>
      obtain ⟨m, acc, rfl, rfl, hd, hle, hx⟩ := hrel
      have HD := Lib.hid hd
      clear hd
      by_cases hm : m = 0
      · subst hm
        have hp : 1 ≤ acc.size := by
          have := HD.out
          omega
        go_wp2
        go_ret
        exact ⟨acc, rfl, ⟨hp, by omega⟩, hx⟩
      · have hmz : (m : Int) ≠ 0 := by omega
        have hz1 : (strOfNums [48 + (m : Int) % 10]).size = 1 := strOfNums_size _
        have hr : 0 ≤ (m : Int) % 10 ∧ (m : Int) % 10 < 10 := by omega
        go_wp2_with fail
        refine (spec_l01Figure _ _ hr).mono ?_
        rintro e w' ⟨rfl, rfl⟩
        go_wp2
        go_roundw
        case rel => exact ⟨m / 10, _, by go_num, rfl, fun e => by rw [ByteArray.size_append, hz1] at e; omega, by rw [ByteArray.size_append, hz1]; omega, (by repeat (first | (with_reducible first | exact Ext.refl _ | assumption | apply Ext.alloc | apply Ext.drew | apply Ext.drewN | refine Ext.setCell ?_ ?_ _ | refine Ext.trans ?_ (by assumption)) | (show _ ≤ _; first | omega | (dsimp only; omega) | (simp; done) | (simp; omega))))⟩
        case measure => simp [intOf]; omega
end Go.Proofs.YtcinihfjkkaclaaDoor
