/- Signatures checked: the bits, the locks; the reference. -/
import Derived.Test.YtniimhfelnjepaaDoorSigP
import Derived.Test.YtniimhfelnjepaaDoorSig4
namespace Go.Proofs.YtniimhfelnjepaaDoor
open Go.RowKit

theorem bitT_two (i l : Int) : bitT i l = 0 ∨ bitT i l = 1 := by
  unfold bitT
  split
  · show IntKind.i64.wrap ((BitVec.ofInt 64 _ &&& BitVec.ofInt 64 1).toNat : Int) = 0 ∨ IntKind.i64.wrap ((BitVec.ofInt 64 _ &&& BitVec.ofInt 64 1).toNat : Int) = 1
    have h : (BitVec.ofInt 64 (i / 2 ^ (7 - l).toNat) &&& BitVec.ofInt 64 1).toNat ≤ 1 := by
      rw [BitVec.toNat_and]
      exact Nat.le_trans Nat.and_le_right (by decide)
    generalize (BitVec.ofInt 64 (i / 2 ^ (7 - l).toNat) &&& BitVec.ofInt 64 1).toNat = m at h ⊢
    have : m = 0 ∨ m = 1 := by omega
    rcases this with rfl | rfl
    · left; decide
    · right; decide
  · exact Or.inl rfl
theorem wide16_32 {xs : List ByteArray} (h : wide xs 16 = true) : ∀ x ∈ xs, x.size ≤ 32 := by
  intro x hx
  rw [wide, List.all_eq_true] at h
  have := of_decide_eq_true (h x hx)
  omega
theorem sigWell_wide {s : SigV} (h : sigWell s = true) : wide s.op 16 = true ∧ wide s.sh 16 = true ∧ wide s.si 16 = true := by
  simp only [sigWell, Bool.and_eq_true] at h
  exact ⟨h.2.1.1, h.2.2.1.1, h.2.2.2.1⟩
theorem sg_size {text : ByteArray} (h : text.size ≤ 200) : (tagH 7 [text] 16).size = 16 := by
  have hw : tagWell 7 [text] = true := tag_yes (by decide) (by simp) (fun p hp => by simp at hp; rw [hp]; exact h)
  have := cutT_size (tagTx 7 [text]) 16 (by decide)
  rw [tagH, if_pos hw]
  omega
theorem sg_at (text : ByteArray) (h : 0 < (tagH 7 [text] 16).size) : ((((tagH 7 [text] 16)[0]'h).toNat : Nat) : Int) = sgIdx text := by
  rw [sgIdx, byte_getD _ _ h]

set_option maxHeartbeats 400000 in
theorem impl_SignBitsOf (text : ByteArray) (w : World) (ht : text.size ≤ 200) (hT : Tabs w) :
    Calls Tryd.prog 81 #[.string text] w fun e w' => e = .returned (.int .i64 (sgIdx text)) ∧ Ext w w' := by
  have HT := Lib.hid hT
  have h16 := sg_size ht
  have hz : 0 < (tagH 7 [text] 16).size := by omega
  have hz1 : (0 : Int) < (tagH 7 [text] 16).size := by omega
  have R := Lib.hid (sg_at text hz)
  have hb := ((tagH 7 [text] 16)[0]'hz).toNat_lt
  have ff := fit1 (a := text) (by unfold maxLen; omega)
  have H16 := Lib.hid h16
  clear hT h16
  go_enter Tryd.func81, Tryd.ntmps81
  go_wp2_with (go_at_call 68; refine (impl_hashOf 7 _ [text] 16 _ (by exact strs_lit1 _ _ _) ff (by exact HT.out.ext (by repeat (first | (with_reducible first | exact Ext.refl _ | assumption | apply Ext.alloc | apply Ext.drew | apply Ext.drewN | refine Ext.setCell ?_ ?_ _ | refine Ext.trans ?_ (by assumption)) | (show _ ≤ _; first | omega | (dsimp only; omega) | (simp; done) | (simp; omega)))))).mono ?_; rintro e w1 ⟨rfl, x1⟩)
  go_ret
  exact ⟨ret_int R.out, (by repeat (first | (with_reducible first | exact Ext.refl _ | assumption | apply Ext.alloc | apply Ext.drew | apply Ext.drewN | refine Ext.setCell ?_ ?_ _ | refine Ext.trans ?_ (by assumption)) | (show _ ≤ _; first | omega | (dsimp only; omega) | (simp; done) | (simp; omega))))⟩
set_option maxHeartbeats 400000 in
theorem spec_SignBitsOf (text : ByteArray) (w : World) (ht : text.size ≤ 200) :
    Calls Tryd.prog 71 #[.string text] w fun e w' => e = .returned (.int .i64 (sgIdx text)) ∧ Ext w w' := by
  have h16 := sg_size ht
  have hz : 0 < (tagH 7 [text] 16).size := by omega
  have hz1 : (0 : Int) < (tagH 7 [text] 16).size := by omega
  have R := Lib.hid (sg_at text hz)
  have hb := ((tagH 7 [text] 16)[0]'hz).toNat_lt
  have ff := fit1 (a := text) (by unfold maxLen; omega)
  have hne0 : ¬ tagH 7 [text] 16 = ⟨#[]⟩ := fun e => by rw [e] at hz; exact absurd hz (by decide)
  have hE : (tagH 7 [text] 16).toList.isEmpty = false := by
    cases h : (tagH 7 [text] 16).toList with
    | nil => exact absurd (toList_inj.1 (h.trans (show [] = (⟨#[]⟩ : ByteArray).toList by first | rfl | decide | simp))) hne0
    | cons => rfl
  have H16 := Lib.hid h16
  clear h16
  go_enter Tryd.func71, Tryd.ntmps71
  go_wp2_with (go_at_call 69; refine (spec_TagHash 7 _ [text] 16 _ (by exact strs_lit1 _ _ _) ff).mono ?_; rintro e w1 ⟨rfl, x1⟩)
  go_ret
  exact ⟨ret_int R.out, (by repeat (first | (with_reducible first | exact Ext.refl _ | assumption | apply Ext.alloc | apply Ext.drew | apply Ext.drewN | refine Ext.setCell ?_ ?_ _ | refine Ext.trans ?_ (by assumption)) | (show _ ≤ _; first | omega | (dsimp only; omega) | (simp; done) | (simp; omega))))⟩
theorem spec_LockOf (o : ByteArray) (w : World) (ho : o.size ≤ maxLen) :
    Calls Tryd.prog 72 #[.string o] w fun e w' => e = .returned (.string (lkH o)) ∧ Ext w w' := by
  have ff := fit1 ho
  go_enter Tryd.func72, Tryd.ntmps72
  go_wp2_with (go_at_call 69; refine (spec_TagHash 6 _ [o] 16 _ (by exact strs_lit1 _ _ _) ff).mono ?_; rintro e w1 ⟨rfl, x1⟩)
  go_ret
  exact ⟨rfl, (by repeat (first | (with_reducible first | exact Ext.refl _ | assumption | apply Ext.alloc | apply Ext.drew | apply Ext.drewN | refine Ext.setCell ?_ ?_ _ | refine Ext.trans ?_ (by assumption)) | (show _ ≤ _; first | omega | (dsimp only; omega) | (simp; done) | (simp; omega))))⟩
theorem half_all : ∀ b : Fin 16, ((b.val : Nat) : Int).tmod 2 = ((b.val % 2 : Nat) : Int) ∧ ((b.val : Nat) : Int).tdiv 2 = ((b.val / 2 : Nat) : Int) := by decide
theorem sigOk_no1 {root text : ByteArray} {s : SigV} (h : sigWell s = false) : sigOkB root text s = false := by rw [sigOkB, h]; rfl
theorem sigOk_no2 {root text : ByteArray} {s : SigV} (h : ¬ text.size ≤ 200) : sigOkB root text s = false := by rw [sigOkB, decide_eq_false h]; simp
theorem sigOk_yes {root text : ByteArray} {s : SigV} (h : sigWell s = true) (k : text.size ≤ 200) : sigOkB root text s = decide (sgRoot text s = root) := by rw [sigOkB, h, decide_eq_true k]; rfl
theorem str_cell {w : World} {a : Option Addr} {n c : Nat} {ys : List ByteArray} (h : Strs w (.slice a n c) ys) (hn : 0 < ys.length) : ∃ b o, a = some ⟨b, o, none⟩ ∧ b < w.heap.size ∧ ∀ t, t < ys.length → w.cell? ⟨b, o + t, none⟩ = some (.string (ys.getD t ⟨#[]⟩)) := by
  obtain ⟨-, a1, c1, hv, -, -, g⟩ := h
  injection hv with e1 e2 e3
  subst e1
  rcases g with g | ⟨b, o, rfl, hb, g⟩
  · omega
  · refine ⟨b, o, rfl, hb, fun t ht => g t _ ?_⟩
    rw [List.getElem?_map, List.getD_eq_getElem?_getD, List.getElem?_eq_getElem ht]
    rfl
theorem lkPair_0 {idx : Int} {s : SigV} {j : Nat} (h : bitT idx j = 0) : lkPair idx s j = [lkH (s.op.getD j ⟨#[]⟩), s.sh.getD j ⟨#[]⟩] := by rw [lkPair, if_pos h]
theorem lkPair_1 {idx : Int} {s : SigV} {j : Nat} (h : bitT idx j = 1) : lkPair idx s j = [s.sh.getD j ⟨#[]⟩, lkH (s.op.getD j ⟨#[]⟩)] := by rw [lkPair, if_neg (by rw [h]; decide)]
end Go.Proofs.YtniimhfelnjepaaDoor
