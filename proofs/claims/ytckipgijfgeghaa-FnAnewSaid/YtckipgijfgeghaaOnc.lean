/- A drawn chance (its own text: Cur3 has it too). -/
import Derived.Test.YtckipgijfgeghaaCurA
namespace Go.Proofs.Ytckipgijfgeghaa
open Go.RowKit

theorem spec_l01Once (b : Nat) (n : Int) (w : World) (h : Cur w b) (hn : 0 < n ∧ n ≤ 4294967296) :
    Calls Try.prog 56 #[.pointer (some ⟨b, 0, none⟩), .int .i64 n] w fun e w' => ∃ q : Bool, e = .returned (.bool q) ∧ Cur w' b ∧ Mut b w w' := by
  go_enter Try.func56, Try.ntmps56
  go_wp2_with fail
  refine (spec_l01Below b n _ h hn).mono ?_
  rintro e w1 ⟨x, rfl, hx, C1, M1⟩
  go_wp2
  go_ret
  exact ⟨_, rfl, C1, M1⟩
end Go.Proofs.Ytckipgijfgeghaa
