/- CombineRoots; the law. -/
import Derived.Test.YtckipgijfgeghaaDoorHashA
namespace Go.Proofs.YtckipgijfgeghaaDoor
open Go.RowKit

/-- the first string of a list of one -/
theorem strs_first {w : World} {a : Option Addr} {n c : Nat} {ys : List ByteArray} (h : Strs w (.slice a n c) ys) (hn : 0 < ys.length) : ∃ b o, a = some ⟨b, o, none⟩ ∧ b < w.heap.size ∧ w.cell? ⟨b, o, none⟩ = some (.string (ys.getD 0 ⟨#[]⟩)) := by
  obtain ⟨-, a1, c1, hv, -, -, g⟩ := h
  injection hv with e1 e2 e3
  subst e1
  rcases g with g | ⟨b, o, rfl, hb, g⟩
  · omega
  · refine ⟨b, o, rfl, hb, ?_⟩
    have := g 0 (.string (ys.getD 0 ⟨#[]⟩)) (by rw [ba_getD _ _ hn]; simp [hn])
    simpa using this
/-- the cells of a list, as they are copied -/
theorem strs_cells {w : World} {b o n c : Nat} {ys : List ByteArray} (h : Strs w (.slice (some ⟨b, o, none⟩) n c) ys) (hn : 0 < ys.length) : ∀ j u, (ys.map Value.string)[j]? = some u → w.cell? ((⟨b, o, none⟩ : Addr).add j) = some u := by
  obtain ⟨-, a1, c1, hv, -, -, g⟩ := h
  injection hv with e1 e2 e3
  subst e1
  rcases g with g | ⟨b', o', hb', hb, g⟩
  · omega
  · injection hb' with hb'
    injection hb' with h1 h2
    subst h1 h2
    intro j u hu
    rw [Addr.add_lit]
    exact g j u hu
theorem combR_yes {xs : List ByteArray} {wd : Int} (h : rootsOk xs wd = true) : combR xs wd = combT xs wd := by rw [combR, if_pos h]
theorem combR_no {xs : List ByteArray} {wd : Int} (h : rootsOk xs wd = false) : combR xs wd = ⟨#[]⟩ := by rw [combR, if_neg (by rw [h]; decide)]
theorem lvl_le (n : Nat) : lvl n ≤ 2 := by unfold lvl; split <;> (try split) <;> omega

set_option maxRecDepth 100000 in
set_option maxHeartbeats 1600000 in
theorem impl_CombineRoots (v : Value) (xs : List ByteArray) (wd : Int) (w : World) (h : Strs w v xs) (hs : ∀ s ∈ xs, s.size ≤ maxLen) (hT : Tabs w) :
    Calls Tryd.prog 11 #[v, .int .i64 wd] w fun e w' => e = .returned (.tuple #[.string (combR xs wd), .bool (rootsOk xs wd)]) ∧ Ext w w' := by
  have HT := Lib.hid hT
  clear hT
  obtain ⟨a, c, rfl⟩ := h.form
  cases hk : rootsOk xs wd
  · have R := Lib.hid (combR_no hk)
    have HK := Lib.hid hk
    clear hk
    go_enter Tryd.func11, Tryd.ntmps11
    go_wp2_with (go_at_call 24; refine (impl_rootsOk _ xs _ _ (h.ext (by repeat (first | (with_reducible first | exact Ext.refl _ | assumption | apply Ext.alloc | apply Ext.drew | apply Ext.drewN | refine Ext.setCell ?_ ?_ _ | refine Ext.trans ?_ (by assumption)) | (show _ ≤ _; first | omega | (dsimp only; omega) | (simp; done) | (simp; omega))))) hs).mono ?_; rw [HK.out]; rintro e w' ⟨rfl, rfl⟩)
    go_ret2
    exact ⟨ret_sb R.out.symm rfl, (by repeat (first | (with_reducible first | exact Ext.refl _ | assumption | apply Ext.alloc | apply Ext.drew | apply Ext.drewN | refine Ext.setCell ?_ ?_ _ | refine Ext.trans ?_ (by assumption)) | (show _ ≤ _; first | omega | (dsimp only; omega) | (simp; done) | (simp; omega))))⟩
  obtain ⟨hl, hin, hwi⟩ := rootsOk_true hk
  have hfit := wide_fit hin hwi
  have hlv := lvl_le xs.length
  have HP := Lib.hid (lvl_pow hl)
  have R := Lib.hid (combR_yes hk)
  have HK := Lib.hid hk
  clear hk hin hwi
  go_enter Tryd.func11, Tryd.ntmps11
  go_wp2_with (go_at_call 24; refine (impl_rootsOk _ xs _ _ (h.ext (by repeat (first | (with_reducible first | exact Ext.refl _ | assumption | apply Ext.alloc | apply Ext.drew | apply Ext.drewN | refine Ext.setCell ?_ ?_ _ | refine Ext.trans ?_ (by assumption)) | (show _ ≤ _; first | omega | (dsimp only; omega) | (simp; done) | (simp; omega))))) hs).mono ?_; rw [HK.out]; rintro e w' ⟨rfl, rfl⟩)
  go_loopw [6] (fun lv wr => ∃ n ys, Strs wr lv ys ∧ ys.length = 2 ^ n ∧ n ≤ 2 ∧ topT wd n ys = combT xs wd ∧ (∀ s ∈ ys, s.size ≤ 32) ∧ Ext w wr) (fun lv _ => lenOf lv)
  case atStart => exact ⟨lvl xs.length, xs, h.ext (by repeat (first | (with_reducible first | exact Ext.refl _ | assumption | apply Ext.alloc | apply Ext.drew | apply Ext.drewN | refine Ext.setCell ?_ ?_ _ | refine Ext.trans ?_ (by assumption)) | (show _ ≤ _; first | omega | (dsimp only; omega) | (simp; done) | (simp; omega)))), HP.out, hlv, rfl, hfit, (by repeat (first | (with_reducible first | exact Ext.refl _ | assumption | apply Ext.alloc | apply Ext.drew | apply Ext.drewN | refine Ext.setCell ?_ ?_ _ | refine Ext.trans ?_ (by assumption)) | (show _ ≤ _; first | omega | (dsimp only; omega) | (simp; done) | (simp; omega))))⟩
  case round =>
    obtain ⟨n, ys, hst, hyl, hn2, htop, hfit, hx⟩ := hrel
    obtain ⟨a', c', rfl⟩ := hst.form
    cases n with
    | zero =>
      have hy1 : ys.length = 1 := hyl
      have hgt : ¬ ((1 : Int) < ys.length) := by omega
      have hin : (0 : Int) < ys.length := by omega
      obtain ⟨b1, o1, rfl, hb1, e0⟩ := strs_first hst (by omega)
      have HH := Lib.hid htop
      clear htop
      go_wp2
      go_ret2
      exact ⟨ret_sb (by rw [R.out, ← HH.out]; exact (ba_getD ys 0 (by omega) _).symm) rfl, hx⟩
    | succ n =>
      have hp : 0 < 2 ^ n := Nat.pow_pos (by decide)
      rw [Nat.pow_succ] at hyl
      have hgt : (1 : Int) < ys.length := by omega
      have hul : (upL ys wd).length = 2 ^ n := by rw [upL_length]; omega
      have hb : ys.length ≤ 1000 := by
        have : 2 ^ n ≤ 2 ^ 1 := Nat.pow_le_pow_right (by decide) (by omega)
        omega
      have HU := Lib.hid hul
      have HH := Lib.hid (show topT wd n (upL ys wd) = combT xs wd from htop)
      have hlt : (upL ys wd).length < ys.length := by omega
      clear htop hul hyl hp
      go_wp2_with fail
      refine (impl_above _ ys wd _ hst hfit hb (by exact HT.out.ext (by repeat (first | (with_reducible first | exact Ext.refl _ | assumption | apply Ext.alloc | apply Ext.drew | apply Ext.drewN | refine Ext.setCell ?_ ?_ _ | refine Ext.trans ?_ (by assumption)) | (show _ ≤ _; first | omega | (dsimp only; omega) | (simp; done) | (simp; omega)))))).mono ?_
      rintro e w2 ⟨a2, c2, rfl, o2, x2⟩
      have s2 := o2.strs
      clear o2
      have hx2 : Ext w w2 := (by repeat (first | (with_reducible first | exact Ext.refl _ | assumption | apply Ext.alloc | apply Ext.drew | apply Ext.drewN | refine Ext.setCell ?_ ?_ _ | refine Ext.trans ?_ (by assumption)) | (show _ ≤ _; first | omega | (dsimp only; omega) | (simp; done) | (simp; omega))))
      go_wp2
      go_roundw
      case rel => exact ⟨n, upL ys wd, s2, HU.out, by omega, HH.out, upK_fit _ _ _, hx2⟩
      case measure => exact hlt

end Go.Proofs.YtckipgijfgeghaaDoor
