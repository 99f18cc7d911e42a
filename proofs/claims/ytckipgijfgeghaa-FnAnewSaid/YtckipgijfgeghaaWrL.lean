/- A record that is written: what the disk's file holds. -/
import Derived.Test.YtckipgijfgeghaaStI
import Derived.Test.YtckipgijfgeghaaLose
import Derived.Test.YtckipgijfgeghaaLogA
namespace Go.Proofs.Ytckipgijfgeghaa
open Go.RowKit

theorem impl_LogTexts_logD (L : List ByteArray) (v : Value) (w : World) (h : Fls w v (logD L)) (hr : ∀ s ∈ L, recOk s = true) (hz : (frsT L).size ≤ 20000) :
    Calls Try.prog 19 #[.agg #[v], .string logT] w fun e w' => ∃ (oa : Option Addr) (oc : Nat), e = .returned (.slice oa L.length oc) ∧ Strs w' (.slice oa L.length oc) L ∧ Ext w w' := by
  by_cases hL : L = []
  · subst hL
    refine (impl_LogTexts_none v _ logT w h (fAt_none (by simp [logD]))).mono ?_
    rintro e w' ⟨rfl, hx⟩
    exact ⟨none, 0, rfl, ⟨rfl, none, 0, rfl, Nat.le_refl _, Nat.zero_le _, Or.inl rfl⟩, hx⟩
  · have e0 := logD_some hL
    have e1 : (logD L).length = 1 := by rw [e0]; rfl
    have e2 : (logD L)[0]'(by omega) = ⟨logT, frsT L, (frsT L).size⟩ := by simp [e0]
    refine (impl_LogTexts v (logD L) logT 0 (by omega) w h (st0_fit hz) (by rw [e0]; exact fAt_zero) (st0_ok hz) (by rw [e2]; exact hz)).mono ?_
    rintro e w' ⟨ss, m, oa, oc, rfl, ow, hu, hx⟩
    rw [e2] at hu
    dsimp only at hu
    rw [frsT_list] at hu
    obtain ⟨rfl, -⟩ := hu.one (frsB_unfr hr)
    exact ⟨oa, oc, rfl, ow.strs, hx⟩
/-- each state of the disk holds one file of the old records and some bytes of the new one, at least the old ones kept -/
theorem lost_one {L : List ByteArray} {s : ByteArray} {m : Nat} {ys : List Fil} (hm : m = 1 ∨ m = 2) (h : Lost (stL L s m) ys) : ∃ n : Nat, ys = [⟨logT, (frsT (L ++ [s])).extract 0 n, n⟩] ∧ (frsB L).length ≤ n ∧ n ≤ (frsT (L ++ [s])).size ∧ (m = 2 → n = (frsT (L ++ [s])).size) := by
  obtain ⟨q, hq, hq1, hq2, hq3⟩ : ∃ q : Int, stL L s m = [⟨logT, frsT (L ++ [s]), q⟩] ∧ (frsB L).length ≤ q ∧ q ≤ (frsT (L ++ [s])).size ∧ (m = 2 → q = (frsT (L ++ [s])).size) := by
    have hz := app_size (frsT L) (frT s)
    have hl := frsT_size L
    rw [frsT_snoc]
    rcases hm with rfl | rfl
    · exact ⟨(frsT L).size, rfl, by omega, by omega, by omega⟩
    · exact ⟨(frsT L ++ frT s).size, rfl, by omega, by omega, fun _ => rfl⟩
  rw [hq] at h
  obtain ⟨h1, h2⟩ := h
  obtain ⟨n, e, e1, e2⟩ := h2 0 (by simp)
  simp only [List.getD_cons_zero] at e e1 e2
  have hy : ys = [ys.getD 0 noFil] := by
    match ys, h1 with
    | [y], _ => rfl
  refine ⟨n, by rw [hy, e], by omega, e2, fun h => ?_⟩
  have := hq3 h
  omega
theorem lost_zero {L : List ByteArray} {s : ByteArray} {ys : List Fil} (h : Lost (stL L s 0) ys) : ys = logD L := by
  obtain ⟨h1, h2⟩ := h
  by_cases hL : L = []
  · subst hL; exact List.eq_nil_of_length_eq_zero h1
  · have e0 : stL L s 0 = [⟨logT, frsT L, (frsT L).size⟩] := logD_some hL
    rw [e0] at h1 h2
    obtain ⟨n, e, e1, e2⟩ := h2 0 (by simp)
    simp only [List.getD_cons_zero] at e e1 e2
    obtain rfl : n = (frsT L).size := by omega
    rw [logD_some hL]
    match ys, h1 with
    | [y], _ =>
      simp only [List.getD_cons_zero] at e
      rw [e]
      have hx : (frsT L).extract 0 (frsT L).size = frsT L := by
        apply ba_ext
        rw [ba_extract, List.drop_zero, Nat.sub_zero, ← ba_len, List.take_length]
      rw [hx]
theorem impl_LogTexts_lost {L : List ByteArray} {s : ByteArray} {m : Nat} {ys : List Fil} (v : Value) (w : World) (hm : m ≤ 2) (h : Lost (stL L s m) ys) (hf : Fls w v ys) (hr : ∀ s ∈ L, recOk s = true) (hs : recOk s = true) (hz : (frsT (L ++ [s])).size ≤ 20000) :
    Calls Try.prog 19 #[.agg #[v], .string logT] w fun e w' => ∃ (ss : List ByteArray) (oa : Option Addr) (oc : Nat), e = .returned (.slice oa ss.length oc) ∧ Strs w' (.slice oa ss.length oc) ss ∧ (ss = L ∨ ss = L ++ [s]) ∧ (m = 2 → ss = L ++ [s]) ∧ Ext w w' := by
  by_cases h0 : m = 0
  · subst h0
    obtain rfl := lost_zero h
    have hz2 : (frsT L).size ≤ 20000 := by
      have e := app_size (frsT L) (frT s)
      rw [frsT_snoc] at hz
      omega
    refine (impl_LogTexts_logD L v w hf hr hz2).mono ?_
    rintro e w' ⟨oa, oc, rfl, hS, hx⟩
    exact ⟨L, oa, oc, rfl, hS, Or.inl rfl, by omega, hx⟩
  · obtain ⟨n, rfl, h1, h2, h3⟩ := lost_one (by omega) h
    have hxz : ((frsT (L ++ [s])).extract 0 n).size = n := by rw [ByteArray.size_extract]; omega
    refine (impl_LogTexts v _ logT 0 (by simp) w hf (fit_one logT_ok (by omega)) fAt_zero (diskOk_one logT_ok (by omega) (by omega)) (by simp; omega)).mono ?_
    rintro e w' ⟨ss, q, oa, oc, rfl, ow, hu, hx⟩
    simp only [List.getElem_cons_zero] at hu
    rw [ba_extract, frsT_list] at hu
    simp only [List.drop_zero] at hu
    obtain ⟨g1, g2⟩ := wr_cut hr hs h1 (by simpa using hu)
    rw [frsT_size] at h3
    exact ⟨ss, oa, oc, rfl, ow.strs, g1, fun h => g2 (by have := h3 h; omega), hx⟩
/-- each state of the disk is right -/
theorem st_all {L : List ByteArray} {s : ByteArray} (h0 : (frsT L).size ≤ 20000) (hz : (frsT L ++ frT s).size ≤ 20000) (m : Nat) (hm : m ≤ 2) : diskOk (stL L s m) = true ∧ (stL L s m).length ≤ 30 ∧ (∀ f ∈ stL L s m, 0 ≤ f.kept ∧ f.kept ≤ f.text.size ∧ f.text.size ≤ 20000) ∧ FilFit (stL L s m) := by
  have hs := app_size (frsT L) (frT s)
  rcases (show m = 0 ∨ m = 1 ∨ m = 2 by omega) with rfl | rfl | rfl
  · refine ⟨st0_ok h0, Nat.le_trans (logD_len L) (by omega), ?_, st0_fit h0⟩
    intro f hf
    by_cases hL : L = []
    · subst hL; cases hf
    · have e0 : stL L s 0 = [⟨logT, frsT L, (frsT L).size⟩] := logD_some hL
      rw [e0] at hf
      simp at hf
      subst hf
      exact ⟨by dsimp only; omega, by dsimp only; omega, h0⟩
  · refine ⟨st1_ok hz, by simp [stL], ?_, fit_one logT_ok hz⟩
    intro f hf
    simp [stL] at hf
    subst hf
    exact ⟨by dsimp only; omega, by dsimp only; omega, hz⟩
  · refine ⟨st2_ok hz, by simp [stL], ?_, fit_one logT_ok hz⟩
    intro f hf
    simp [stL] at hf
    subst hf
    exact ⟨by dsimp only; omega, by dsimp only; omega, hz⟩
end Go.Proofs.Ytckipgijfgeghaa
