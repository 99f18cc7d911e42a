/- SigP, SigB in one text. -/
import Derived.Test.YtckipgijfgeghaaGreatDoorSig
import Derived.Test.YtckipgijfgeghaaGreatDoorHashA
import Derived.Test.YtckipgijfgeghaaGreatDoorStrA
import Derived.Test.YtckipgijfgeghaaGreatDoorOwnP
import Derived.Deep.RegionHeld3
import Derived.Test.YtckipgijfgeghaaGreatDoorSigA
namespace Go.Proofs.YtckipgijfgeghaaGreatDoor
open Go.RowKit

/-- the bits that are signed -/
def sgIdx (text : ByteArray) : Int := ((tagH 7 [text] 16).data.getD 0 0).toNat
def lkT (o : ByteArray) : ByteArray := tagTx 6 [o]
def lkH (o : ByteArray) : ByteArray := tagH 6 [o] 16
def lkPair (idx : Int) (s : SigV) (j : Nat) : List ByteArray := if bitT idx j = 0 then [lkH (s.op.getD j ⟨#[]⟩), s.sh.getD j ⟨#[]⟩] else [s.sh.getD j ⟨#[]⟩, lkH (s.op.getD j ⟨#[]⟩)]
def lkL (idx : Int) (s : SigV) (n : Nat) : List ByteArray := (List.range n).flatMap (lkPair idx s)
theorem lkPair_len (idx : Int) (s : SigV) (j : Nat) : (lkPair idx s j).length = 2 := by unfold lkPair; split <;> rfl
theorem lkL_succ (idx : Int) (s : SigV) (n : Nat) : lkL idx s (n + 1) = lkL idx s n ++ lkPair idx s n := by simp [lkL, List.range_succ]
theorem lkL_len (idx : Int) (s : SigV) : ∀ n, (lkL idx s n).length = n * 2
  | 0 => rfl
  | n + 1 => by rw [lkL_succ, List.length_append, lkL_len idx s n, lkPair_len]; omega
theorem getD_le {ss : List ByteArray} {m : Nat} (h : ∀ s ∈ ss, s.size ≤ m) (k : Nat) : (ss.getD k ⟨#[]⟩).size ≤ m := by
  rw [List.getD_eq_getElem?_getD]
  cases e : ss[k]? with
  | none => exact Nat.zero_le _
  | some s => exact h s (List.mem_of_getElem? e)
theorem lkL_fit (idx : Int) (s : SigV) (hs : ∀ x ∈ s.sh, x.size ≤ 32) (n : Nat) : ∀ x ∈ lkL idx s n, x.size ≤ 32 := by
  intro x hx
  rw [lkL, List.mem_flatMap] at hx
  obtain ⟨j, -, hx⟩ := hx
  have h1 : (lkH (s.op.getD j ⟨#[]⟩)).size ≤ 32 := tagH_le _ _ _
  have h2 := getD_le hs j
  unfold lkPair at hx
  split at hx <;> simp only [List.mem_cons, List.not_mem_nil, or_false] at hx <;> rcases hx with rfl | rfl <;> assumption
/-- the pair of a step, by a bit -/
def sgPair (b : Nat) (h s : ByteArray) : List ByteArray := if b = 0 then [h, s] else [s, h]
def sgSt (h : ByteArray) (a : Nat) (ss : List ByteArray) : Nat → ByteArray
  | 0 => h
  | k + 1 => tagH 3 (sgPair (a / 2 ^ k % 2) (sgSt h a ss k) (ss.getD k ⟨#[]⟩)) 16
theorem sgSt_le (h : ByteArray) (a : Nat) (ss : List ByteArray) (hh : h.size ≤ 32) : ∀ k, (sgSt h a ss k).size ≤ 32
  | 0 => hh
  | _ + 1 => tagH_le _ _ _
theorem sg_bits : ∀ a : Fin 16, ∀ k : Fin 4, bits .and .i64 ((a.val : Nat) / 2 ^ k.val : Nat) 1 = ((a.val / 2 ^ k.val % 2 : Nat) : Int) := by decide +kernel
/-- the root to which a signature leads -/
def sgRoot (text : ByteArray) (s : SigV) : ByteArray := sgSt (tagH 6 (lkL (sgIdx text) s 8) 16) s.at_.toNat s.si s.si.length
def sigOkB (root text : ByteArray) (s : SigV) : Bool := sigWell s && (decide (text.size ≤ 200) && decide (sgRoot text s = root))
theorem sgPair_well {b : Nat} {h s : ByteArray} (hh : h.size ≤ 32) (hs : s.size ≤ 32) : tagWell 3 (sgPair b h s) = true := by
  refine tag_yes (by decide) ?_ ?_
  · unfold sgPair; split <;> simp
  · intro p hp
    unfold sgPair at hp
    split at hp <;> simp only [List.mem_cons, List.not_mem_nil, or_false] at hp <;> rcases hp with rfl | rfl <;> omega
theorem one_well {o : ByteArray} (h : o.size ≤ 32) : tagWell 6 [o] = true := tag_yes (by decide) (by simp) (fun p hp => by simp at hp; rw [hp]; omega)
theorem lk_well (idx : Int) (s : SigV) (hs : ∀ x ∈ s.sh, x.size ≤ 32) : tagWell 6 (lkL idx s 8) = true :=
  tag_yes (by decide) (by rw [lkL_len]; decide) (fun p hp => by have := lkL_fit idx s hs 8 p hp; omega)
theorem tagH_cut {k : Int} {ps : List ByteArray} (h : tagWell k ps = true) (wd : Int) : cutT (tagTx k ps) wd = tagH k ps wd := by rw [tagH, if_pos h]
/-- the texts -/
def sgTx (text : ByteArray) (s : SigV) (k : Nat) : ByteArray := tagTx 3 (sgPair (s.at_.toNat / 2 ^ k % 2) (sgSt (tagH 6 (lkL (sgIdx text) s 8) 16) s.at_.toNat s.si k) (s.si.getD k ⟨#[]⟩))
def sgLow (s : SigV) (n : Nat) : List ByteArray := (List.range n).map fun j => lkT (s.op.getD j ⟨#[]⟩)
def sgMid (text : ByteArray) (s : SigV) : List ByteArray := sgLow s 8 ++ [tagTx 6 (lkL (sgIdx text) s 8)]
def sgUp (text : ByteArray) (s : SigV) (n : Nat) : List ByteArray := sgMid text s ++ (List.range n).map (sgTx text s)
theorem sgLow_succ (s : SigV) (n : Nat) : sgLow s (n + 1) = sgLow s n ++ [lkT (s.op.getD n ⟨#[]⟩)] := by simp [sgLow, List.range_succ]
theorem sgLow_len (s : SigV) (n : Nat) : (sgLow s n).length = n := by simp [sgLow]
theorem sgUp_succ (text : ByteArray) (s : SigV) (n : Nat) : sgUp text s (n + 1) = sgUp text s n ++ [sgTx text s n] := by simp [sgUp, List.range_succ]
theorem sgUp_len (text : ByteArray) (s : SigV) (n : Nat) : (sgUp text s n).length = 9 + n := by simp [sgUp, sgMid, sgLow]; omega
theorem sgUp_last (text : ByteArray) (s : SigV) (hs : ∀ x ∈ s.sh, x.size ≤ 32) (hi : ∀ x ∈ s.si, x.size ≤ 32) (n : Nat) : cutT ((sgUp text s n).getD (8 + n) ⟨#[]⟩) 16 = sgSt (tagH 6 (lkL (sgIdx text) s 8) 16) s.at_.toNat s.si n := by
  cases n with
  | zero =>
    have e : (sgUp text s 0).getD (8 + 0) ⟨#[]⟩ = tagTx 6 (lkL (sgIdx text) s 8) := by simp [sgUp, sgMid, sgLow]
    rw [e]
    exact tagH_cut (lk_well _ s hs) 16
  | succ n =>
    have e : (sgUp text s (n + 1)).getD (8 + (n + 1)) ⟨#[]⟩ = sgTx text s n := by
      rw [sgUp_succ, List.getD_eq_getElem?_getD, List.getElem?_append_right (by rw [sgUp_len]; omega), sgUp_len]
      simp [show 8 + (n + 1) - (9 + n) = 0 by omega]
    rw [e]
    exact tagH_cut (sgPair_well (sgSt_le _ _ _ (tagH_le _ _ _) n) (getD_le hi n)) 16
end Go.Proofs.YtckipgijfgeghaaGreatDoor
namespace Go.Proofs.YtckipgijfgeghaaGreatDoor
open Go.RowKit

theorem bitT_two (i l : Int) : bitT i l = 0 ∨ bitT i l = 1 := by
  unfold bitT
  split
  · show IntKind.i64.wrap ((BitVec.ofInt 64 _ &&& BitVec.ofInt 64 1).toNat : Int) = 0 ∨ IntKind.i64.wrap ((BitVec.ofInt 64 _ &&& BitVec.ofInt 64 1).toNat : Int) = 1
    have h : (BitVec.ofInt 64 (i / 2 ^ (7 - l).toNat) &&& BitVec.ofInt 64 1).toNat ≤ 1 := by
      rw [BitVec.toNat_and]
      exact Nat.le_trans Nat.and_le_right (by decide)
    generalize (BitVec.ofInt 64 (i / 2 ^ (7 - l).toNat) &&& BitVec.ofInt 64 1).toNat = m at h ⊢
    have : m = 0 ∨ m = 1 := by omega
    rcases this with rfl | rfl
    · left; decide
    · right; decide
  · exact Or.inl rfl
theorem wide16_32 {xs : List ByteArray} (h : wide xs 16 = true) : ∀ x ∈ xs, x.size ≤ 32 := by
  intro x hx
  rw [wide, List.all_eq_true] at h
  have := of_decide_eq_true (h x hx)
  omega
theorem sigWell_wide {s : SigV} (h : sigWell s = true) : wide s.op 16 = true ∧ wide s.sh 16 = true ∧ wide s.si 16 = true := by
  simp only [sigWell, Bool.and_eq_true] at h
  exact ⟨h.2.1.1, h.2.2.1.1, h.2.2.2.1⟩
theorem sg_size {text : ByteArray} (h : text.size ≤ 200) : (tagH 7 [text] 16).size = 16 := by
  have hw : tagWell 7 [text] = true := tag_yes (by decide) (by simp) (fun p hp => by simp at hp; rw [hp]; exact h)
  have := cutT_size (tagTx 7 [text]) 16 (by decide)
  rw [tagH, if_pos hw]
  omega
theorem sg_at (text : ByteArray) (h : 0 < (tagH 7 [text] 16).size) : ((((tagH 7 [text] 16)[0]'h).toNat : Nat) : Int) = sgIdx text := by
  rw [sgIdx, byte_getD _ _ h]

set_option maxHeartbeats 400000 in
theorem impl_SignBitsOf (text : ByteArray) (w : World) (ht : text.size ≤ 200) (hT : Tabs w) :
    Calls Tryz.prog 151 #[.string text] w fun e w' => e = .returned (.int .i64 (sgIdx text)) ∧ Ext w w' := by
  have HT := Lib.hid hT
  have h16 := sg_size ht
  have hz : 0 < (tagH 7 [text] 16).size := by omega
  have hz1 : (0 : Int) < (tagH 7 [text] 16).size := by omega
  have R := Lib.hid (sg_at text hz)
  have hb := ((tagH 7 [text] 16)[0]'hz).toNat_lt
  have ff := fit1 (a := text) (by unfold maxLen; omega)
  have H16 := Lib.hid h16
  clear hT h16
  go_enter Tryz.func151, Tryz.ntmps151
  go_wp2_with (go_at_call 126; refine (impl_hashOf 7 _ [text] 16 _ (by exact strs_lit1 _ _ _) ff (by exact HT.out.ext (by repeat (first | (with_reducible first | exact Ext.refl _ | assumption | apply Ext.alloc | apply Ext.drew | apply Ext.drewN | refine Ext.setCell ?_ ?_ _ | refine Ext.trans ?_ (by assumption)) | (show _ ≤ _; first | omega | (dsimp only; omega) | (simp; done) | (simp; omega)))))).mono ?_; rintro e w1 ⟨rfl, x1⟩)
  go_ret
  exact ⟨ret_int R.out, (by repeat (first | (with_reducible first | exact Ext.refl _ | assumption | apply Ext.alloc | apply Ext.drew | apply Ext.drewN | refine Ext.setCell ?_ ?_ _ | refine Ext.trans ?_ (by assumption)) | (show _ ≤ _; first | omega | (dsimp only; omega) | (simp; done) | (simp; omega))))⟩
set_option maxHeartbeats 400000 in
theorem spec_SignBitsOf (text : ByteArray) (w : World) (ht : text.size ≤ 200) :
    Calls Tryz.prog 111 #[.string text] w fun e w' => e = .returned (.int .i64 (sgIdx text)) ∧ Ext w w' := by
  have h16 := sg_size ht
  have hz : 0 < (tagH 7 [text] 16).size := by omega
  have hz1 : (0 : Int) < (tagH 7 [text] 16).size := by omega
  have R := Lib.hid (sg_at text hz)
  have hb := ((tagH 7 [text] 16)[0]'hz).toNat_lt
  have ff := fit1 (a := text) (by unfold maxLen; omega)
  have hne0 : ¬ tagH 7 [text] 16 = ⟨#[]⟩ := fun e => by rw [e] at hz; exact absurd hz (by decide)
  have hE : (tagH 7 [text] 16).toList.isEmpty = false := by
    cases h : (tagH 7 [text] 16).toList with
    | nil => exact absurd (toList_inj.1 (h.trans (show [] = (⟨#[]⟩ : ByteArray).toList by first | rfl | decide | simp))) hne0
    | cons => rfl
  have H16 := Lib.hid h16
  clear h16
  go_enter Tryz.func111, Tryz.ntmps111
  go_wp2_with (go_at_call 64; refine (spec_TagHash 7 _ [text] 16 _ (by exact strs_lit1 _ _ _) ff).mono ?_; rintro e w1 ⟨rfl, x1⟩)
  go_ret
  exact ⟨ret_int R.out, (by repeat (first | (with_reducible first | exact Ext.refl _ | assumption | apply Ext.alloc | apply Ext.drew | apply Ext.drewN | refine Ext.setCell ?_ ?_ _ | refine Ext.trans ?_ (by assumption)) | (show _ ≤ _; first | omega | (dsimp only; omega) | (simp; done) | (simp; omega))))⟩
theorem spec_LockOf (o : ByteArray) (w : World) (ho : o.size ≤ maxLen) :
    Calls Tryz.prog 112 #[.string o] w fun e w' => e = .returned (.string (lkH o)) ∧ Ext w w' := by
  have ff := fit1 ho
  go_enter Tryz.func112, Tryz.ntmps112
  go_wp2_with (go_at_call 64; refine (spec_TagHash 6 _ [o] 16 _ (by exact strs_lit1 _ _ _) ff).mono ?_; rintro e w1 ⟨rfl, x1⟩)
  go_ret
  exact ⟨rfl, (by repeat (first | (with_reducible first | exact Ext.refl _ | assumption | apply Ext.alloc | apply Ext.drew | apply Ext.drewN | refine Ext.setCell ?_ ?_ _ | refine Ext.trans ?_ (by assumption)) | (show _ ≤ _; first | omega | (dsimp only; omega) | (simp; done) | (simp; omega))))⟩
theorem half_all : ∀ b : Fin 16, ((b.val : Nat) : Int).tmod 2 = ((b.val % 2 : Nat) : Int) ∧ ((b.val : Nat) : Int).tdiv 2 = ((b.val / 2 : Nat) : Int) := by decide
theorem sigOk_no1 {root text : ByteArray} {s : SigV} (h : sigWell s = false) : sigOkB root text s = false := by rw [sigOkB, h]; rfl
theorem sigOk_no2 {root text : ByteArray} {s : SigV} (h : ¬ text.size ≤ 200) : sigOkB root text s = false := by rw [sigOkB, decide_eq_false h]; simp
theorem sigOk_yes {root text : ByteArray} {s : SigV} (h : sigWell s = true) (k : text.size ≤ 200) : sigOkB root text s = decide (sgRoot text s = root) := by rw [sigOkB, h, decide_eq_true k]; rfl
theorem str_cell {w : World} {a : Option Addr} {n c : Nat} {ys : List ByteArray} (h : Strs w (.slice a n c) ys) (hn : 0 < ys.length) : ∃ b o, a = some ⟨b, o, none⟩ ∧ b < w.heap.size ∧ ∀ t, t < ys.length → w.cell? ⟨b, o + t, none⟩ = some (.string (ys.getD t ⟨#[]⟩)) := by
  obtain ⟨-, a1, c1, hv, -, -, g⟩ := h
  injection hv with e1 e2 e3
  subst e1
  rcases g with g | ⟨b, o, rfl, hb, g⟩
  · omega
  · refine ⟨b, o, rfl, hb, fun t ht => g t _ ?_⟩
    rw [List.getElem?_map, List.getD_eq_getElem?_getD, List.getElem?_eq_getElem ht]
    rfl
theorem lkPair_0 {idx : Int} {s : SigV} {j : Nat} (h : bitT idx j = 0) : lkPair idx s j = [lkH (s.op.getD j ⟨#[]⟩), s.sh.getD j ⟨#[]⟩] := by rw [lkPair, if_pos h]
theorem lkPair_1 {idx : Int} {s : SigV} {j : Nat} (h : bitT idx j = 1) : lkPair idx s j = [s.sh.getD j ⟨#[]⟩, lkH (s.op.getD j ⟨#[]⟩)] := by rw [lkPair, if_neg (by rw [h]; decide)]
end Go.Proofs.YtckipgijfgeghaaGreatDoor
