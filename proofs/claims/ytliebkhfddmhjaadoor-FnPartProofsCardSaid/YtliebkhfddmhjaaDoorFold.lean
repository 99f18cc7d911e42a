/- The way up; the law on FoldUp. -/
import Derived.Test.YtliebkhfddmhjaaDoorHashA
import Derived.Test.YtliebkhfddmhjaaDoorStrA
import Derived.Test.YtliebkhfddmhjaaDoorMarkA
import Derived.Test.YtliebkhfddmhjaaDoorOwnP
import Derived.Deep.RegionHeld3
namespace Go.Proofs.YtliebkhfddmhjaaDoor
open Go.RowKit

theorem bitT_01 (i l : Int) : bitT i l = 0 ∨ bitT i l = 1 := by
  unfold bitT
  split
  · show IntKind.i64.wrap ((BitVec.ofInt 64 _ &&& BitVec.ofInt 64 1).toNat : Int) = 0 ∨ IntKind.i64.wrap ((BitVec.ofInt 64 _ &&& BitVec.ofInt 64 1).toNat : Int) = 1
    have h : (BitVec.ofInt 64 (i / 2 ^ (7 - l).toNat) &&& BitVec.ofInt 64 1).toNat ≤ 1 := by
      rw [BitVec.toNat_and]
      exact Nat.le_trans Nat.and_le_right (by decide)
    generalize (BitVec.ofInt 64 (i / 2 ^ (7 - l).toNat) &&& BitVec.ofInt 64 1).toNat = m at h ⊢
    have : m = 0 ∨ m = 1 := by omega
    rcases this with rfl | rfl
    · left; decide
    · right; decide
  · exact Or.inl rfl

theorem cell_new1 {w : World} {b o : Nat} {v : Value} {t : TypeId} {xs : Array Value} (h : w.cell? ⟨b, o, none⟩ = some v) (hb : b < w.heap.size) : (w.alloc (.cells xs t)).cell? ⟨b, o, none⟩ = some v :=
  (World.cell?_alloc_past (w := w) _ b o hb).trans h
/-- a pair in the order that a bit says -/
def pairOf (b : Int) (h s : ByteArray) : List ByteArray := if b = 1 then [s, h] else [h, s]
/-- the hash behind k steps up from level l -/
def foldSt (h : ByteArray) (i l wd : Int) (ss : List ByteArray) : Nat → ByteArray
  | 0 => h
  | k + 1 => tagH 3 (pairOf (bitT i (l - 1 - k)) (foldSt h i l wd ss k) (ss.getD k ⟨#[]⟩)) wd
/-- the text of step k -/
def foldTx (h : ByteArray) (i l wd : Int) (ss : List ByteArray) (k : Nat) : ByteArray := tagTx 3 (pairOf (bitT i (l - 1 - k)) (foldSt h i l wd ss k) (ss.getD k ⟨#[]⟩))
def foldTxs (h : ByteArray) (i l wd : Int) (ss : List ByteArray) (n : Nat) : List ByteArray := (List.range n).map (foldTx h i l wd ss)
theorem foldTxs_len (h : ByteArray) (i l wd : Int) (ss : List ByteArray) (n : Nat) : (foldTxs h i l wd ss n).length = n := by simp [foldTxs]
theorem foldTxs_succ (h : ByteArray) (i l wd : Int) (ss : List ByteArray) (n : Nat) : foldTxs h i l wd ss (n + 1) = foldTxs h i l wd ss n ++ [foldTx h i l wd ss n] := by simp [foldTxs, List.range_succ]
theorem foldSt_le (h : ByteArray) (i l wd : Int) (ss : List ByteArray) (hh : h.size ≤ maxLen) : ∀ k, (foldSt h i l wd ss k).size ≤ maxLen
  | 0 => hh
  | _ + 1 => le_max (tagH_le _ _ _) (by omega)
def foldH (h : ByteArray) (i l : Int) (ss : List ByteArray) (wd : Int) : ByteArray := if inB l 0 8 = true then (if (ss.length : Int) ≤ l then foldSt h i l wd ss ss.length else ⟨#[]⟩) else ⟨#[]⟩

theorem strs_pair0 (w : World) (B : Nat) (h s : ByteArray) (b : Int) (t : TypeId) (hb : b ≠ 1) (hB : B = w.heap.size) : Strs (w.alloc (.cells #[.string h, .string s] t)) (.slice (some ⟨B, 0, none⟩) 2 2) (pairOf b h s) := by
  subst hB
  rw [pairOf, if_neg hb]
  exact strs_lit2 _ _ _ _
theorem strs_pair1 (w : World) (B : Nat) (h s : ByteArray) (b : Int) (t : TypeId) (hb : b = 1) (hB : B = w.heap.size) : Strs (w.alloc (.cells #[.string s, .string h] t)) (.slice (some ⟨B, 0, none⟩) 2 2) (pairOf b h s) := by
  subst hB
  rw [pairOf, if_pos hb]
  exact strs_lit2 _ _ _ _
theorem fit_pair {b : Int} {h s : ByteArray} (hh : h.size ≤ maxLen) (hs : s.size ≤ maxLen) : ∀ x ∈ pairOf b h s, x.size ≤ maxLen := by
  unfold pairOf
  split
  · exact fit2 hs hh
  · exact fit2 hh hs

set_option maxRecDepth 100000 in
set_option maxHeartbeats 1600000 in
theorem spec_FoldUp (h : ByteArray) (i l : Int) (v : Value) (ss : List ByteArray) (wd : Int) (w : World) (hh : h.size ≤ maxLen) (hs : Strs w v ss) (hf : ∀ s ∈ ss, s.size ≤ maxLen) :
    Calls Tryd.prog 80 #[.string h, .int .i64 i, .int .i64 l, v, .int .i64 wd] w fun e w' => e = .returned (.string (foldH h i l ss wd)) ∧ Ext w w' := by
  have hs0 := hs
  obtain ⟨-, a1, c1, rfl, hc1, hm1, g1⟩ := hs
  unfold maxLen at hm1
  cases k : inB l 0 8
  · have R := Lib.hid (show foldH h i l ss wd = ⟨#[]⟩ by rw [foldH, if_neg (by rw [k]; decide)])
    have K := Lib.hid k
    clear k g1
    go_enter Tryd.func80, Tryd.ntmps80
    go_wp2_with (go_at_call 112; refine (spec_l01In _ _ _ _).mono ?_; rw [K.out]; rintro e w' ⟨rfl, rfl⟩)
    go_ret
    exact ⟨ret_str R.out.symm, (by repeat (first | (with_reducible first | exact Ext.refl _ | assumption | apply Ext.alloc | apply Ext.drew | apply Ext.drewN | refine Ext.setCell ?_ ?_ _ | refine Ext.trans ?_ (by assumption)) | (show _ ≤ _; first | omega | (dsimp only; omega) | (simp; done) | (simp; omega))))⟩
  · obtain ⟨k1, k2⟩ := inB_true.1 k
    by_cases hl : (ss.length : Int) ≤ l
    · have R := Lib.hid (show foldH h i l ss wd = foldSt h i l wd ss ss.length by rw [foldH, if_pos k, if_pos hl])
      have K := Lib.hid k
      have hl2 : ¬ (l < (ss.length : Int)) := by omega
      clear k
      go_enter Tryd.func80, Tryd.ntmps80
      go_wp2_with (go_at_call 112; refine (spec_l01In _ _ _ _).mono ?_; rw [K.out]; rintro e w' ⟨rfl, rfl⟩)
      go_loopw [11, 12] (fun x j wr => ∃ k : Nat, k ≤ ss.length ∧ j = .int .i64 k ∧ x = .string (foldSt h i l wd ss k) ∧ Ext w wr) (fun _ j _ => ss.length - (intOf j).toNat)
      case atStart => exact ⟨0, by omega, rfl, rfl, (by repeat (first | (with_reducible first | exact Ext.refl _ | assumption | apply Ext.alloc | apply Ext.drew | apply Ext.drewN | refine Ext.setCell ?_ ?_ _ | refine Ext.trans ?_ (by assumption)) | (show _ ≤ _; first | omega | (dsimp only; omega) | (simp; done) | (simp; omega))))⟩
      case round =>
        obtain ⟨k, hk, rfl, rfl, hx⟩ := hrel
        by_cases hlt : k < ss.length
        · rcases g1 with g1 | ⟨b1, o1, rfl, hb1, g1⟩
          · omega
          have e1 : wr.cell? ⟨b1, o1 + k, none⟩ = some (.string (ss.getD k ⟨#[]⟩)) := (hx.cell b1 _ hb1).trans (g1 k _ (by simp [hlt, List.getD_eq_getElem?_getD]))
          have lb : b1 < wr.heap.size := Nat.lt_of_lt_of_le hb1 hx.size
          have hz1 := foldSt_le h i l wd ss hh k
          have hz2 : (ss.getD k ⟨#[]⟩).size ≤ maxLen := hf _ (by rw [List.getD_eq_getElem?_getD, List.getElem?_eq_getElem hlt]; exact List.getElem_mem hlt)
          have E1 := Lib.hid (show foldSt h i l wd ss (k + 1) = tagH 3 (pairOf (bitT i (l - 1 - k)) (foldSt h i l wd ss k) (ss.getD k ⟨#[]⟩)) wd from rfl)
          generalize foldSt h i l wd ss k = H at *
          generalize ss.getD k ⟨#[]⟩ = s at *
          rcases bitT_01 i (l - 1 - k) with hb | hb
          · have P := Lib.hid (fun W B => strs_pair0 W B H s (bitT i (l - 1 - k)) 9 (by rw [hb]; decide))
            have F := Lib.hid (fit_pair (b := bitT i (l - 1 - k)) hz1 hz2)
            have HB := Lib.hid hb
            clear hb g1 hz1 hz2
            go_wp2_with fail
            refine (spec_BitOf _ _ _).mono ?_
            rw [HB.out]
            rintro e w' ⟨rfl, rfl⟩
            go_wp2_with fail
            refine (spec_TagHash 3 _ (pairOf (bitT i (l - 1 - k)) H s) wd _ (by exact P.out _ _ (by simp)) F.out).mono ?_
            rintro e w3 ⟨rfl, x3⟩
            go_wp2
            go_roundw
            case rel => exact ⟨k + 1, by omega, by go_num, by rw [E1.out], (by repeat (first | (with_reducible first | exact Ext.refl _ | assumption | apply Ext.alloc | apply Ext.drew | apply Ext.drewN | refine Ext.setCell ?_ ?_ _ | refine Ext.trans ?_ (by assumption)) | (show _ ≤ _; first | omega | (dsimp only; omega) | (simp; done) | (simp; omega))))⟩
            case measure => simp [intOf]; omega
          · have P := Lib.hid (fun W B => strs_pair1 W B H s (bitT i (l - 1 - k)) 9 hb)
            have F := Lib.hid (fit_pair (b := bitT i (l - 1 - k)) hz1 hz2)
            have HB := Lib.hid hb
            clear hb g1 hz1 hz2
            go_wp2_with fail
            refine (spec_BitOf _ _ _).mono ?_
            rw [HB.out]
            rintro e w' ⟨rfl, rfl⟩
            go_wp2_with fail
            refine (spec_TagHash 3 _ (pairOf (bitT i (l - 1 - k)) H s) wd _ (by exact P.out _ _ (by simp)) F.out).mono ?_
            rintro e w3 ⟨rfl, x3⟩
            go_wp2
            go_roundw
            case rel => exact ⟨k + 1, by omega, by go_num, by rw [E1.out], (by repeat (first | (with_reducible first | exact Ext.refl _ | assumption | apply Ext.alloc | apply Ext.drew | apply Ext.drewN | refine Ext.setCell ?_ ?_ _ | refine Ext.trans ?_ (by assumption)) | (show _ ≤ _; first | omega | (dsimp only; omega) | (simp; done) | (simp; omega))))⟩
            case measure => simp [intOf]; omega
        · obtain rfl : k = ss.length := by omega
          clear g1
          go_wp2
          go_ret
          exact ⟨ret_str R.out.symm, hx⟩
    · have R := Lib.hid (show foldH h i l ss wd = ⟨#[]⟩ by rw [foldH, if_pos k, if_neg hl])
      have K := Lib.hid k
      have hl2 : l < (ss.length : Int) := by omega
      clear k g1
      go_enter Tryd.func80, Tryd.ntmps80
      go_wp2_with (go_at_call 112; refine (spec_l01In _ _ _ _).mono ?_; rw [K.out]; rintro e w' ⟨rfl, rfl⟩)
      go_ret
      exact ⟨ret_str R.out.symm, (by repeat (first | (with_reducible first | exact Ext.refl _ | assumption | apply Ext.alloc | apply Ext.drew | apply Ext.drewN | refine Ext.setCell ?_ ?_ _ | refine Ext.trans ?_ (by assumption)) | (show _ ≤ _; first | omega | (dsimp only; omega) | (simp; done) | (simp; omega))))⟩

end Go.Proofs.YtliebkhfddmhjaaDoor
