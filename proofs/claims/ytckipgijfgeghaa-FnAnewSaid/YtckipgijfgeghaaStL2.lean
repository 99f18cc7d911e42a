/- A record that is written: the states of the disk. -/
import Derived.Test.YtckipgijfgeghaaDActs
import Derived.Test.YtckipgijfgeghaaDskP
namespace Go.Proofs.Ytckipgijfgeghaa
open Go.RowKit

theorem bless_irr : ∀ l : List UInt8, Op.bytesLess l l = false
  | [] => rfl
  | a :: l => by
    show (decide (a < a) || (a == a && Op.bytesLess l l)) = false
    rw [bless_irr l]
    simp
theorem putF_one {f g : Fil} (e : g.name = f.name) : putF [g] f = [f] := by
  simp [putF, ltF, gtF, e, bless_irr]
theorem putF_nil (f : Fil) : putF [] f = [f] := rfl
/-- the disk: at first, with the record added, with it kept -/
def stL (L : List ByteArray) (s : ByteArray) : Nat → List Fil
  | 0 => logD L
  | 1 => [⟨logT, frsT L ++ frT s, (frsT L).size⟩]
  | _ => [⟨logT, frsT L ++ frT s, (frsT L ++ frT s).size⟩]
theorem stL_two (L : List ByteArray) (s : ByteArray) : stL L s 2 = logD (L ++ [s]) := by
  rw [logD, if_neg (by simp), frsT_snoc]; rfl
theorem logD_nil : logD [] = [] := rfl
theorem logD_some {L : List ByteArray} (h : L ≠ []) : logD L = [⟨logT, frsT L, (frsT L).size⟩] := by rw [logD, if_neg h]
theorem frsT_nil : frsT [] = ⟨#[]⟩ := rfl
theorem app_size (a b : ByteArray) : (a ++ b).size = a.size + b.size := ByteArray.size_append
theorem st1_ok {L : List ByteArray} {s : ByteArray} (hz : (frsT L ++ frT s).size ≤ 20000) : diskOk (stL L s 1) = true := diskOk_one logT_ok hz (by rw [app_size]; omega)
theorem st2_ok {L : List ByteArray} {s : ByteArray} (hz : (frsT L ++ frT s).size ≤ 20000) : diskOk (stL L s 2) = true := diskOk_one logT_ok hz (by omega)
theorem st0_ok {L : List ByteArray} (hz : (frsT L).size ≤ 20000) : diskOk (logD L) = true := by
  by_cases h : L = []
  · subst h; rfl
  · rw [logD_some h]; exact diskOk_one logT_ok hz (by omega)
theorem st0_fit {L : List ByteArray} (hz : (frsT L).size ≤ 20000) : FilFit (logD L) := by
  by_cases h : L = []
  · subst h; intro l hl; cases hl
  · rw [logD_some h]; exact fit_one logT_ok hz
theorem logD_len (L : List ByteArray) : (logD L).length ≤ 1 := by rw [logD]; split <;> simp

theorem steps_S {L : List ByteArray} {s : ByteArray} (hz : (frsT L ++ frT s).size ≤ 20000) : StepsS (logQ s) (stL L s) := by
  intro k hk a c w hf
  have hs := app_size (frsT L) (frT s)
  have hk2 : k = 0 ∨ k = 1 := by simp [logQ] at hk; omega
  rcases hk2 with rfl | rfl
  · by_cases h : L = []
    · subst h
      have e1 : putF (stL [] s 0) ⟨logT, (⟨#[]⟩ : ByteArray) ++ frT s, 0⟩ = stL [] s (0 + 1) := rfl
      have := spec_DoAct_new _ (stL [] s 0) logT (frT s) (by rw [← frsT_nil] at *; omega) (fAt_none (by simp [stL, logD])) w hf (by intro l hl; cases hl) rfl logT_ok (by rw [e1]; exact st1_ok hz) (by rw [e1]; exact fit_one logT_ok hz) (by simp [stL, logD])
      rw [e1] at this
      exact this
    · have e0 : stL L s 0 = [⟨logT, frsT L, (frsT L).size⟩] := logD_some h
      rw [e0] at hf ⊢
      have e1 : putF [⟨logT, frsT L, (frsT L).size⟩] ⟨logT, frsT L ++ frT s, (frsT L).size⟩ = stL L s (0 + 1) := putF_one rfl
      have := spec_DoAct_some _ [⟨logT, frsT L, (frsT L).size⟩] logT (frT s) 0 (by simp) (by simp; omega) fAt_zero w hf (fit_one logT_ok (by omega)) (diskOk_one logT_ok (by omega) (by omega)) logT_ok (by show diskOk (putF _ ⟨logT, frsT L ++ frT s, (frsT L).size⟩) = true; rw [e1]; exact st1_ok hz) (by show FilFit (putF _ ⟨logT, frsT L ++ frT s, (frsT L).size⟩); rw [e1]; exact fit_one logT_ok hz) (by simp)
      rw [show ([⟨logT, frsT L, (frsT L).size⟩] : List Fil)[0]'(by simp) = ⟨logT, frsT L, (frsT L).size⟩ from rfl] at this
      dsimp only at this
      rw [e1] at this
      exact this
  · have e1 : putF (stL L s 1) ⟨logT, frsT L ++ frT s, (frsT L ++ frT s).size⟩ = stL L s (1 + 1) := putF_one rfl
    have := spec_DoAct_keep _ (stL L s 1) logT 0 (by simp [stL]) fAt_zero w hf (fit_one logT_ok hz) (st1_ok hz) logT_ok (by show diskOk (putF _ ⟨logT, frsT L ++ frT s, (frsT L ++ frT s).size⟩) = true; rw [e1]; exact st2_ok hz) (by show FilFit (putF _ ⟨logT, frsT L ++ frT s, (frsT L ++ frT s).size⟩); rw [e1]; exact fit_one logT_ok hz) (by simp [stL])
    rw [show (stL L s 1)[0]'(by simp [stL]) = ⟨logT, frsT L ++ frT s, (frsT L).size⟩ from rfl] at this
    dsimp only at this
    rw [e1] at this
    exact this
end Go.Proofs.Ytckipgijfgeghaa
