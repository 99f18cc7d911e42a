/- The operations that write a record, the program. -/
import Derived.Test.YtckipgijfgeghaaDskP
import Derived.Test.YtckipgijfgeghaaFilC
namespace Go.Proofs.Ytckipgijfgeghaa
open Go.RowKit

theorem impl_isLogName (w : World) :
    Calls Try.prog 41 #[.string logT] w fun e w' => e = .returned (.bool true) ∧ w = w' := by
  unfold logT
  go_enter Try.func41, Try.ntmps41
  go_wp2_with (go_at_call 77; refine (impl_isFileName _ _).mono ?_; rw [show inB ((⟨#[108, 111, 103]⟩ : ByteArray).size : Int) 1 8 = true by decide]; rintro e w' ⟨rfl, rfl⟩)
  go_ret
  exact ⟨rfl, rfl⟩
set_option maxHeartbeats 800000 in
theorem impl_LogActs (t : ByteArray) (w : World) (ht : recOk t = true) :
    Calls Try.prog 18 #[.string logT, .string t] w fun e w' => ∃ b, e = .returned (.tuple #[.slice (some ⟨b, 0, none⟩) 2 2, .bool true]) ∧ Acs w' (.slice (some ⟨b, 0, none⟩) 2 2) (logQ t) ∧ Ext w w' := by
  have HT := Lib.hid ht
  have hsz := (recOk_true.1 ht).2
  clear ht
  go_enter Try.func18, Try.ntmps18
  go_wp2_with fail
  refine (impl_Frame t _ (by omega)).mono ?_
  rw [HT.out, if_pos rfl]
  rintro e w1 ⟨rfl, x1⟩
  go_wp2_with fail
  refine (impl_isLogName _).mono ?_
  rintro e w2 ⟨rfl, rfl⟩
  have X : Ext w (w1.alloc (Obj.cells #[.int .i64 1, .string logT, .string (frT t), .string ⟨#[]⟩, .int .i64 2, .string logT, .string ⟨#[]⟩, .string ⟨#[]⟩] 75)) := x1.alloc _
  have Q := Bx.new w1 #[.int .i64 1, .string logT, .string (frT t), .string ⟨#[]⟩, .int .i64 2, .string logT, .string ⟨#[]⟩, .string ⟨#[]⟩] 75
  have HA := Lib.hid (acs_of (qs := logQ t) (n := 2) (c := 2) Q rfl rfl (by omega) (by decide))
  clear Q x1
  go_wp2
  go_ret2
  exact ⟨_, rfl, HA.out, X⟩
end Go.Proofs.Ytckipgijfgeghaa
