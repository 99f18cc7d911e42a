/- A file that is laid anew: the states of the disk. -/
import Derived.Test.YtckipgijfgeghaaActM
import Derived.Test.YtckipgijfgeghaaDAny
import Derived.Test.YtckipgijfgeghaaAnP
import Derived.Test.YtckipgijfgeghaaWrL
namespace Go.Proofs.Ytckipgijfgeghaa
open Go.RowKit

def stA (L : List ByteArray) (S : ByteArray) : Nat → List Fil
  | 0 => logD L
  | 1 => logD L ++ [⟨newT, S, 0⟩]
  | 2 => logD L ++ [⟨newT, S, S.size⟩]
  | _ => [⟨logT, S, S.size⟩]
theorem nT_le : newT.size ≤ 20000 := by decide
theorem addAt_end (xs : List Fil) (f : Fil) (t : ByteArray) : addAt (xs ++ [f]) xs.length t = xs ++ [⟨f.name, f.text ++ t, f.kept⟩] := by
  simp [addAt]
theorem keepAt_end (xs : List Fil) (f : Fil) : keepAt (xs ++ [f]) xs.length = xs ++ [⟨f.name, f.text, f.text.size⟩] := by
  simp [keepAt]
theorem ba_nil2 (t : ByteArray) : (⟨#[]⟩ : ByteArray) ++ t = t := by
  apply ba_ext
  rw [ba_append]
  rfl
theorem logD_name {L : List ByteArray} {f : Fil} (h : f ∈ logD L) : f.name ≠ newT := by
  rw [logD] at h
  split at h
  · cases h
  · simp at h
    subst h
    intro e
    have := new_log
    dsimp only at e
    rw [e] at this
    simp at this
theorem fAt_new_end (L : List ByteArray) (t : ByteArray) (q : Int) : fAt (logD L ++ [⟨newT, t, q⟩]) newT = (logD L).length := by
  refine fAt_some (k := (logD L).length) (by simp) ?_ (by simp)
  intro f hf
  rw [List.take_left'] at hf
  · exact logD_name hf
  · rfl
theorem len_two (L : List ByteArray) (f : Fil) : (logD L ++ [f]).length ≤ 2 := by
  have := logD_len L
  rw [List.length_append, List.length_singleton]; omega
theorem steps_A {L : List ByteArray} {S : ByteArray} (hz : (frsT L).size ≤ 20000) (hS : S.size ≤ 20000) : StepsI (layQ S logT) (stA L S) := by
  intro k hk a c w hf hv
  have hl := logD_len L
  have hk2 : k = 0 ∨ k = 1 ∨ k = 2 := by simp [layQ] at hk; omega
  rcases hk2 with rfl | rfl | rfl
  · have e1 : addAt (stA L S 0 ++ [⟨newT, ⟨#[]⟩, 0⟩]) (stA L S 0).length S = stA L S (0 + 1) := by
      show addAt (logD L ++ [⟨newT, ⟨#[]⟩, 0⟩]) (logD L).length S = logD L ++ [⟨newT, S, 0⟩]
      rw [addAt_end]
      dsimp only
      rw [ba_nil2]
    have := impl_DoAct_new _ (stA L S 0) newT S hS (fAt_newLog L) w hf hv (st0_fit hz) (st0_ok hz) newT_ok (by rw [e1]; exact diskOk_two hz hS (by omega)) (by rw [e1]; exact fit_two hz nT_le hS) (by rw [e1]; exact len_two _ _) (show (logD L).length ≤ 30 by omega)
    rw [e1] at this
    exact this
  · have e1 : keepAt (stA L S 1) (logD L).length = stA L S (1 + 1) := keepAt_end _ _
    have hl2 := len_two L ⟨newT, S, 0⟩
    have := impl_DoAct_keep _ (stA L S 1) newT (logD L).length (by simp [stA]) (fAt_new_end L S 0) w hf hv (fit_two hz nT_le hS) (diskOk_two hz hS (by omega)) newT_ok (by rw [e1]; exact diskOk_two hz hS (by omega)) (by rw [e1]; exact fit_two hz nT_le hS) (by rw [e1]; exact len_two _ _) (show (logD L ++ [_]).length ≤ 30 by omega)
    rw [e1] at this
    exact this
  · have hf3 : fAt [(⟨newT, S, S.size⟩ : Fil)] newT = 0 := fAt_zero
    have hnn : (logT.toList == newT.toList) = false := new_log
    have hne : newT ≠ logT := fun e => by rw [e] at hnn; simp at hnn
    by_cases hL : L = []
    · subst hL
      exact impl_DoAct_move1 _ (stA [] S 2) newT logT S 0 rfl rfl logT_ok new_log fAt_zero (fAt_none (by intro f hf; simp [stA, logD] at hf; subst hf; exact hne)) hf3 w hf hv (fit_two hz nT_le hS) (diskOk_two hz hS (by omega)) newT_ok (diskOk_one logT_ok hS (by omega)) (fit_one logT_ok hS) (by simp) (by simp [stA, logD])
    · have e0 : stA L S 2 = [⟨logT, frsT L, (frsT L).size⟩, ⟨newT, S, S.size⟩] := by show logD L ++ _ = _; rw [logD_some hL]; rfl
      exact impl_DoAct_move2 _ (stA L S 2) newT logT S (frsT L) (frsT L).size 1 e0 rfl logT_ok new_log (by have := fAt_new_end L S S.size; rw [logD_some hL] at this; rw [e0]; exact this) (by rw [e0]; exact fAt_some (k := 0) (by simp) (by simp) rfl) hf3 w hf hv (fit_two hz nT_le hS) (diskOk_two hz hS (by omega)) newT_ok (diskOk_one logT_ok hS (by omega)) (fit_one logT_ok hS) (by simp) (by rw [e0]; simp)

/-- each state of the disk is right -/
theorem stA_all {L : List ByteArray} {S : ByteArray} (h0 : (frsT L).size ≤ 20000) (hz : S.size ≤ 20000) (m : Nat) (hm : m ≤ 3) : diskOk (stA L S m) = true ∧ (stA L S m).length ≤ 30 ∧ (∀ f ∈ stA L S m, 0 ≤ f.kept ∧ f.kept ≤ f.text.size ∧ f.text.size ≤ 20000) ∧ FilFit (stA L S m) := by
  have hlog : ∀ f ∈ logD L, 0 ≤ f.kept ∧ f.kept ≤ f.text.size ∧ f.text.size ≤ 20000 := by
    intro f hf
    rw [logD] at hf
    split at hf
    · cases hf
    · simp at hf; subst hf; exact ⟨by dsimp only; omega, by dsimp only; omega, h0⟩
  have hl := logD_len L
  rcases (show m = 0 ∨ m = 1 ∨ m = 2 ∨ m = 3 by omega) with rfl | rfl | rfl | rfl
  · exact ⟨st0_ok h0, Nat.le_trans hl (by omega), hlog, st0_fit h0⟩
  · refine ⟨diskOk_two h0 hz (by omega), Nat.le_trans (len_two _ _) (by omega), ?_, fit_two h0 nT_le hz⟩
    intro f hf
    rcases List.mem_append.1 hf with hf | hf
    · exact hlog f hf
    · simp at hf; subst hf; exact ⟨by dsimp only; omega, by dsimp only; omega, hz⟩
  · refine ⟨diskOk_two h0 hz (by omega), Nat.le_trans (len_two _ _) (by omega), ?_, fit_two h0 nT_le hz⟩
    intro f hf
    rcases List.mem_append.1 hf with hf | hf
    · exact hlog f hf
    · simp at hf; subst hf; exact ⟨by dsimp only; omega, by dsimp only; omega, hz⟩
  · refine ⟨diskOk_one logT_ok hz (by omega), by simp [stA], ?_, fit_one logT_ok hz⟩
    intro f hf
    simp [stA] at hf; subst hf; exact ⟨by dsimp only; omega, by dsimp only; omega, hz⟩
/-- a file all of which is kept is left as it is -/
theorem lostF_all {n t : ByteArray} {y : Fil} (h : LostF ⟨n, t, t.size⟩ y) : y = ⟨n, t, t.size⟩ := by
  obtain ⟨q, rfl, h1, h2⟩ := h
  dsimp only at h1 h2
  obtain rfl : q = t.size := by omega
  have hx : t.extract 0 t.size = t := by
    apply ba_ext
    rw [ba_extract, List.drop_zero, Nat.sub_zero, ← ba_len, List.take_length]
  dsimp only
  rw [hx]
theorem lost_cons {x : Fil} {xs ys : List Fil} (h : Lost (x :: xs) ys) : ∃ y zs, ys = y :: zs ∧ LostF x y ∧ Lost xs zs := by
  obtain ⟨h1, h2⟩ := h
  match ys, h1 with
  | y :: zs, h1 =>
    refine ⟨y, zs, rfl, by simpa using h2 0 (by simp), by simpa using h1, fun i hi => ?_⟩
    have := h2 (i + 1) (by simpa using hi)
    simpa using this
theorem lost_nil {ys : List Fil} (h : Lost [] ys) : ys = [] := List.eq_nil_of_length_eq_zero h.1
theorem lost_log {L : List ByteArray} {f : Fil} {ys : List Fil} (h : Lost (logD L ++ [f]) ys) : ∃ y, ys = logD L ++ [y] ∧ LostF f y := by
  by_cases hL : L = []
  · subst hL
    obtain ⟨y, zs, rfl, h1, h2⟩ := lost_cons h
    rw [lost_nil h2]
    exact ⟨y, rfl, h1⟩
  · rw [logD_some hL] at h ⊢
    obtain ⟨y, zs, rfl, h1, h2⟩ := lost_cons h
    obtain ⟨y2, zs2, rfl, h3, h4⟩ := lost_cons h2
    rw [lost_nil h4, lostF_all h1]
    exact ⟨y2, rfl, h3⟩
theorem lost_logD {L : List ByteArray} {ys : List Fil} (h : Lost (logD L) ys) : ys = logD L := by
  by_cases hL : L = []
  · subst hL; exact lost_nil h
  · rw [logD_some hL] at h ⊢
    obtain ⟨y, zs, rfl, h1, h2⟩ := lost_cons h
    rw [lost_nil h2, lostF_all h1]
/-- the log beside a new file -/
theorem impl_LogTexts_two (L : List ByteArray) (t : ByteArray) (q : Int) (v : Value) (w : World) (h : Fls w v (logD L ++ [⟨newT, t, q⟩])) (hr : ∀ s ∈ L, recOk s = true) (hz : (frsT L).size ≤ 20000) (ht : t.size ≤ 20000) (hq : 0 ≤ q ∧ q ≤ t.size) :
    Calls Try.prog 19 #[.agg #[v], .string logT] w fun e w' => ∃ (oa : Option Addr) (oc : Nat), e = .returned (.slice oa L.length oc) ∧ Strs w' (.slice oa L.length oc) L ∧ Ext w w' := by
  have hnn : (logT.toList == newT.toList) = false := new_log
  have hne : newT ≠ logT := fun e => by rw [e] at hnn; simp at hnn
  by_cases hL : L = []
  · subst hL
    refine (impl_LogTexts_none v _ logT w h (fAt_none (by intro f hf; simp [logD] at hf; subst hf; exact hne))).mono ?_
    rintro e w' ⟨rfl, hx⟩
    exact ⟨none, 0, rfl, ⟨rfl, none, 0, rfl, Nat.le_refl _, Nat.zero_le _, Or.inl rfl⟩, hx⟩
  · have e0 : logD L ++ [⟨newT, t, q⟩] = [⟨logT, frsT L, (frsT L).size⟩, ⟨newT, t, q⟩] := by rw [logD_some hL]; rfl
    have ho := diskOk_two hz ht hq
    have hft := fit_two (f := ⟨newT, t, q⟩) hz nT_le ht
    rw [e0] at h ho hft
    refine (impl_LogTexts v _ logT 0 (by simp) w h hft (fAt_some (k := 0) (by simp) (by simp) rfl) ho (by simpa using hz)).mono ?_
    rintro e w' ⟨ss, m, oa, oc, rfl, ow, hu, hx⟩
    simp only [List.getElem_cons_zero] at hu
    rw [frsT_list] at hu
    obtain ⟨rfl, -⟩ := hu.one (frsB_unfr hr)
    exact ⟨oa, oc, rfl, ow.strs, hx⟩
theorem impl_LogTexts_anew {L l : List ByteArray} {m : Nat} {ys : List Fil} (v : Value) (w : World) (hm : m ≤ 3) (h : Lost (stA L (frsT l) m) ys) (hf : Fls w v ys) (hr : ∀ s ∈ L, recOk s = true) (hr2 : ∀ s ∈ l, recOk s = true) (hz : (frsT L).size ≤ 20000) (hz2 : (frsT l).size ≤ 20000) :
    Calls Try.prog 19 #[.agg #[v], .string logT] w fun e w' => ∃ (ss : List ByteArray) (oa : Option Addr) (oc : Nat), e = .returned (.slice oa ss.length oc) ∧ Strs w' (.slice oa ss.length oc) ss ∧ (m ≤ 2 → ss = L) ∧ (m = 3 → ss = l) ∧ Ext w w' := by
  rcases (show m = 0 ∨ m = 1 ∨ m = 2 ∨ m = 3 by omega) with rfl | rfl | rfl | rfl
  · obtain rfl := lost_logD h
    refine (impl_LogTexts_logD L v w hf hr hz).mono ?_
    rintro e w' ⟨oa, oc, rfl, hS, hx⟩
    exact ⟨L, oa, oc, rfl, hS, fun _ => rfl, by omega, hx⟩
  · obtain ⟨y, rfl, q, rfl, h1, h2⟩ := lost_log h
    dsimp only at h1 h2 hf
    have hxz : ((frsT l).extract 0 q).size = q := by rw [ByteArray.size_extract]; omega
    refine (impl_LogTexts_two L _ q v w hf hr hz (by omega) (by omega)).mono ?_
    rintro e w' ⟨oa, oc, rfl, hS, hx⟩
    exact ⟨L, oa, oc, rfl, hS, fun _ => rfl, by omega, hx⟩
  · obtain ⟨y, rfl, q, rfl, h1, h2⟩ := lost_log h
    dsimp only at h1 h2 hf
    have hxz : ((frsT l).extract 0 q).size = q := by rw [ByteArray.size_extract]; omega
    refine (impl_LogTexts_two L _ q v w hf hr hz (by omega) (by omega)).mono ?_
    rintro e w' ⟨oa, oc, rfl, hS, hx⟩
    exact ⟨L, oa, oc, rfl, hS, fun _ => rfl, by omega, hx⟩
  · obtain ⟨y, zs, rfl, h1, h2⟩ := lost_cons h
    obtain rfl := lost_nil h2
    rw [lostF_all h1] at hf
    refine (impl_LogTexts v _ logT 0 (by simp) w hf (fit_one logT_ok hz2) fAt_zero (diskOk_one logT_ok hz2 (by omega)) (by simpa using hz2)).mono ?_
    rintro e w' ⟨ss, m, oa, oc, rfl, ow, hu, hx⟩
    simp only [List.getElem_cons_zero] at hu
    rw [frsT_list] at hu
    obtain ⟨rfl, -⟩ := hu.one (frsB_unfr hr2)
    exact ⟨ss, oa, oc, rfl, ow.strs, by omega, fun _ => rfl, hx⟩
end Go.Proofs.Ytckipgijfgeghaa
