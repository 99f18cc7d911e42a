/- A record that is written: the program's steps. -/
import Derived.Test.YtckipgijfgeghaaStL2
import Derived.Test.YtckipgijfgeghaaActs
namespace Go.Proofs.Ytckipgijfgeghaa
open Go.RowKit

theorem steps_I {L : List ByteArray} {s : ByteArray} (hz : (frsT L ++ frT s).size ≤ 20000) : StepsI (logQ s) (stL L s) := by
  intro k hk a c w hf hv
  have hs := app_size (frsT L) (frT s)
  have hk2 : k = 0 ∨ k = 1 := by simp [logQ] at hk; omega
  rcases hk2 with rfl | rfl
  · by_cases h : L = []
    · subst h
      have e1 : addAt (stL [] s 0 ++ [⟨logT, ⟨#[]⟩, 0⟩]) (stL [] s 0).length (frT s) = stL [] s (0 + 1) := rfl
      have := impl_DoAct_new _ (stL [] s 0) logT (frT s) (by rw [← frsT_nil] at *; omega) (fAt_none (by simp [stL, logD])) w hf hv (by intro l hl; cases hl) rfl logT_ok (by rw [e1]; exact st1_ok hz) (by rw [e1]; exact fit_one logT_ok hz) (by rw [e1]; simp [stL]) (by simp [stL, logD])
      rw [e1] at this
      exact this
    · have e0 : stL L s 0 = [⟨logT, frsT L, (frsT L).size⟩] := logD_some h
      rw [e0] at hf hv ⊢
      have e1 : addAt [⟨logT, frsT L, (frsT L).size⟩] 0 (frT s) = stL L s (0 + 1) := rfl
      have := impl_DoAct_some _ [⟨logT, frsT L, (frsT L).size⟩] logT (frT s) 0 (by simp) (by simp; omega) fAt_zero w hf hv (fit_one logT_ok (by omega)) (diskOk_one logT_ok (by omega) (by omega)) logT_ok (by rw [e1]; exact st1_ok hz) (by rw [e1]; exact fit_one logT_ok hz) (by rw [e1]; simp [stL]) (by simp)
      rw [e1] at this
      exact this
  · have e1 : keepAt (stL L s 1) 0 = stL L s (1 + 1) := rfl
    have := impl_DoAct_keep _ (stL L s 1) logT 0 (by simp [stL]) fAt_zero w hf hv (fit_one logT_ok hz) (st1_ok hz) logT_ok (by rw [e1]; exact st2_ok hz) (by rw [e1]; exact fit_one logT_ok hz) (by rw [e1]; simp [stL]) (by simp [stL])
    rw [e1] at this
    exact this
end Go.Proofs.Ytckipgijfgeghaa
