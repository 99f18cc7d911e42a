/- Signatures checked: the program's SigOk. -/
import Derived.Test.YtniimhfelnjepaaDoorSigF
namespace Go.Proofs.YtniimhfelnjepaaDoor
open Go.RowKit

theorem sgUp_top (text : ByteArray) (s : SigV) (n : Nat) : ((sgUp text s n).getD (8 + n) ⟨#[]⟩).size ≤ 1073741824 := by
  cases n with
  | zero =>
    have e : (sgUp text s 0).getD (8 + 0) ⟨#[]⟩ = tagTx 6 (lkL (sgIdx text) s 8) := by simp [sgUp, sgMid, sgLow]
    rw [e]
    exact tagTx_size _ _
  | succ n =>
    have e : (sgUp text s (n + 1)).getD (8 + (n + 1)) ⟨#[]⟩ = sgTx text s n := by
      rw [sgUp_succ, List.getD_eq_getElem?_getD, List.getElem?_append_right (by rw [sgUp_len]; omega), sgUp_len]
      simp [show 8 + (n + 1) - (9 + n) = 0 by omega]
    rw [e]
    exact tagTx_size _ _
theorem sigOk_no {root text : ByteArray} {s : SigV} (h : ¬ (sigWell s = true ∧ text.size ≤ 200)) : sigOkB root text s = false := by
  by_cases hw : sigWell s = true
  · exact sigOk_no2 (fun k => h ⟨hw, k⟩)
  · exact sigOk_no1 (by simpa using hw)
theorem sgTexts_no {text : ByteArray} {s : SigV} (h : ¬ (sigWell s = true ∧ text.size ≤ 200)) : sgTexts text s = [] := by rw [sgTexts, if_neg h]

set_option maxHeartbeats 1600000 in
theorem impl_SigOk (root text : ByteArray) (v1 v2 v3 : Value) (s : SigV) (w : World) (h1 : Strs w v1 s.op) (h2 : Strs w v2 s.sh) (h3 : Strs w v3 s.si) (hs : SigFit s) (ht : text.size ≤ maxLen) (hT : Tabs w) :
    Calls Tryd.prog 48 #[.string root, .string text, .agg #[.int .i64 s.at_, v1, v2, v3]] w fun e w' => e = .returned (.bool (sigOkB root text s)) ∧ Ext w w' := by
  have HT := Lib.hid hT
  clear hT
  obtain ⟨a1, c1, rfl⟩ := h1.form
  obtain ⟨a2, c2, rfl⟩ := h2.form
  obtain ⟨a3, c3, rfl⟩ := h3.form
  by_cases hW : sigWell s = true ∧ text.size ≤ 200
  case neg =>
    have R := Lib.hid (sigOk_no (root := root) hW)
    have L := Lib.hid (sgTexts_no hW)
    clear hW
    go_enter Tryd.func48, Tryd.ntmps48
    go_wp2_with fail
    refine (impl_SigTexts text _ _ _ s _ (h1.ext (by repeat (first | (with_reducible first | exact Ext.refl _ | assumption | apply Ext.alloc | apply Ext.drew | apply Ext.drewN | refine Ext.setCell ?_ ?_ _ | refine Ext.trans ?_ (by assumption)) | (show _ ≤ _; first | omega | (dsimp only; omega) | (simp; done) | (simp; omega))))) (h2.ext (by repeat (first | (with_reducible first | exact Ext.refl _ | assumption | apply Ext.alloc | apply Ext.drew | apply Ext.drewN | refine Ext.setCell ?_ ?_ _ | refine Ext.trans ?_ (by assumption)) | (show _ ≤ _; first | omega | (dsimp only; omega) | (simp; done) | (simp; omega))))) (h3.ext (by repeat (first | (with_reducible first | exact Ext.refl _ | assumption | apply Ext.alloc | apply Ext.drew | apply Ext.drewN | refine Ext.setCell ?_ ?_ _ | refine Ext.trans ?_ (by assumption)) | (show _ ≤ _; first | omega | (dsimp only; omega) | (simp; done) | (simp; omega))))) hs ht (by exact HT.out.ext (by repeat (first | (with_reducible first | exact Ext.refl _ | assumption | apply Ext.alloc | apply Ext.drew | apply Ext.drewN | refine Ext.setCell ?_ ?_ _ | refine Ext.trans ?_ (by assumption)) | (show _ ≤ _; first | omega | (dsimp only; omega) | (simp; done) | (simp; omega)))))).mono ?_
    rw [L.out]
    rintro e w1 ⟨a, c, rfl, hown, x1⟩
    go_wp2
    go_ret
    exact ⟨ret_bool R.out.symm, (by repeat (first | (with_reducible first | exact Ext.refl _ | assumption | apply Ext.alloc | apply Ext.drew | apply Ext.drewN | refine Ext.setCell ?_ ?_ _ | refine Ext.trans ?_ (by assumption)) | (show _ ≤ _; first | omega | (dsimp only; omega) | (simp; done) | (simp; omega))))⟩
  have R := Lib.hid (sigOk_yes (root := root) hW.1 hW.2)
  have LT := Lib.hid (sgTexts_yes hW.1 hW.2)
  obtain ⟨⟨g1, g2⟩, ⟨n1, -⟩, ⟨n2, -⟩, n3, -⟩ := sigWell_true hW.1
  obtain ⟨k1, k2, k3⟩ := sigWell_wide hW.1
  have hn4 : s.si.length ≤ 4 := by omega
  have HLAST := Lib.hid (show cutT ((sgUp text s s.si.length).getD (8 + s.si.length) ⟨#[]⟩) 16 = sgRoot text s from sgUp_last text s (wide16_32 k2) (wide16_32 k3) s.si.length)
  have hz := sgUp_top text s s.si.length
  have HLEN := Lib.hid (sgUp_len text s s.si.length)
  clear k1 k2 k3 n1 n2 n3 g1 g2 hW
  go_enter Tryd.func48, Tryd.ntmps48
  go_wp2_with fail
  refine (impl_SigTexts text _ _ _ s _ (h1.ext (by repeat (first | (with_reducible first | exact Ext.refl _ | assumption | apply Ext.alloc | apply Ext.drew | apply Ext.drewN | refine Ext.setCell ?_ ?_ _ | refine Ext.trans ?_ (by assumption)) | (show _ ≤ _; first | omega | (dsimp only; omega) | (simp; done) | (simp; omega))))) (h2.ext (by repeat (first | (with_reducible first | exact Ext.refl _ | assumption | apply Ext.alloc | apply Ext.drew | apply Ext.drewN | refine Ext.setCell ?_ ?_ _ | refine Ext.trans ?_ (by assumption)) | (show _ ≤ _; first | omega | (dsimp only; omega) | (simp; done) | (simp; omega))))) (h3.ext (by repeat (first | (with_reducible first | exact Ext.refl _ | assumption | apply Ext.alloc | apply Ext.drew | apply Ext.drewN | refine Ext.setCell ?_ ?_ _ | refine Ext.trans ?_ (by assumption)) | (show _ ≤ _; first | omega | (dsimp only; omega) | (simp; done) | (simp; omega))))) hs ht (by exact HT.out.ext (by repeat (first | (with_reducible first | exact Ext.refl _ | assumption | apply Ext.alloc | apply Ext.drew | apply Ext.drewN | refine Ext.setCell ?_ ?_ _ | refine Ext.trans ?_ (by assumption)) | (show _ ≤ _; first | omega | (dsimp only; omega) | (simp; done) | (simp; omega)))))).mono ?_
  rw [LT.out]
  generalize sgUp text s s.si.length = L at *
  generalize s.si.length = n at *
  rintro e w1 ⟨a, c, rfl, hown, x1⟩
  have hst : Strs w1 (.slice a L.length c) L := Row.of_owns hown
  have hl0 : 0 < L.length := by have := HLEN.out; omega
  obtain ⟨b, o, rfl, lb, hc⟩ := str_cell hst hl0
  have hc8 := hc (8 + n) (by have := HLEN.out; omega)
  rw [HLEN.out]
  generalize L.getD (8 + n) ⟨#[]⟩ = T at *
  clear hst hown hc hl0
  have i1 : ((9 + n : Nat) : Int) - 1 = ((8 + n : Nat) : Int) := by omega
  have i2 : (0 : Int) ≤ ((8 + n : Nat) : Int) := by omega
  have i3 : ((8 + n : Nat) : Int) < ((9 + n : Nat) : Int) := by omega
  have i4 : (0 : Int) < ((9 + n : Nat) : Int) := by omega
  have i5 : IntKind.i64.wrap ((8 + n : Nat) : Int) = ((8 + n : Nat) : Int) := IntWalk.i64_in _ (by omega)
  have hlt : 8 + n < 9 + n := by omega
  generalize 9 + n = N9 at *
  generalize 8 + n = N8 at *
  go_wp2_with fail
  trace_state
  refine (impl_CutDigest T 16 _ hz (by exact HT.out.ext (by repeat (first | (with_reducible first | exact Ext.refl _ | assumption | apply Ext.alloc | apply Ext.drew | apply Ext.drewN | refine Ext.setCell ?_ ?_ _ | refine Ext.trans ?_ (by assumption)) | (show _ ≤ _; first | omega | (dsimp only; omega) | (simp; done) | (simp; omega)))))).mono ?_
  rw [HLAST.out]
  rintro e w2 ⟨rfl, x2⟩
  go_wp2
  go_ret
  exact ⟨ret_bool (by rw [R.out, toList_beq]), (by repeat (first | (with_reducible first | exact Ext.refl _ | assumption | apply Ext.alloc | apply Ext.drew | apply Ext.drewN | refine Ext.setCell ?_ ?_ _ | refine Ext.trans ?_ (by assumption)) | (show _ ≤ _; first | omega | (dsimp only; omega) | (simp; done) | (simp; omega))))⟩
end Go.Proofs.YtniimhfelnjepaaDoor
