/- The way up; the law on FoldUp. -/
import Derived.Test.YtckipgijfgeghaaGreatDoorHashA
import Derived.Test.YtckipgijfgeghaaGreatDoorStrA
import Derived.Test.YtckipgijfgeghaaGreatDoorMarkA
import Derived.Test.YtckipgijfgeghaaGreatDoorOwnP
import Derived.Deep.RegionHeld3
namespace Go.Proofs.YtckipgijfgeghaaGreatDoor
open Go.RowKit

theorem bitT_01 (i l : Int) : bitT i l = 0 ∨ bitT i l = 1 := by
  unfold bitT
  split
  · show IntKind.i64.wrap ((BitVec.ofInt 64 _ &&& BitVec.ofInt 64 1).toNat : Int) = 0 ∨ IntKind.i64.wrap ((BitVec.ofInt 64 _ &&& BitVec.ofInt 64 1).toNat : Int) = 1
    have h : (BitVec.ofInt 64 (i / 2 ^ (7 - l).toNat) &&& BitVec.ofInt 64 1).toNat ≤ 1 := by
      rw [BitVec.toNat_and]
      exact Nat.le_trans Nat.and_le_right (by decide)
    generalize (BitVec.ofInt 64 (i / 2 ^ (7 - l).toNat) &&& BitVec.ofInt 64 1).toNat = m at h ⊢
    have : m = 0 ∨ m = 1 := by omega
    rcases this with rfl | rfl
    · left; decide
    · right; decide
  · exact Or.inl rfl

theorem cell_new1 {w : World} {b o : Nat} {v : Value} {t : TypeId} {xs : Array Value} (h : w.cell? ⟨b, o, none⟩ = some v) (hb : b < w.heap.size) : (w.alloc (.cells xs t)).cell? ⟨b, o, none⟩ = some v :=
  (World.cell?_alloc_past (w := w) _ b o hb).trans h
/-- a pair in the order that a bit says -/
def pairOf (b : Int) (h s : ByteArray) : List ByteArray := if b = 1 then [s, h] else [h, s]
/-- the hash behind k steps up from level l -/
def foldSt (h : ByteArray) (i l wd : Int) (ss : List ByteArray) : Nat → ByteArray
  | 0 => h
  | k + 1 => tagH 3 (pairOf (bitT i (l - 1 - k)) (foldSt h i l wd ss k) (ss.getD k ⟨#[]⟩)) wd
/-- the text of step k -/
def foldTx (h : ByteArray) (i l wd : Int) (ss : List ByteArray) (k : Nat) : ByteArray := tagTx 3 (pairOf (bitT i (l - 1 - k)) (foldSt h i l wd ss k) (ss.getD k ⟨#[]⟩))
def foldTxs (h : ByteArray) (i l wd : Int) (ss : List ByteArray) (n : Nat) : List ByteArray := (List.range n).map (foldTx h i l wd ss)
theorem foldTxs_len (h : ByteArray) (i l wd : Int) (ss : List ByteArray) (n : Nat) : (foldTxs h i l wd ss n).length = n := by simp [foldTxs]
theorem foldTxs_succ (h : ByteArray) (i l wd : Int) (ss : List ByteArray) (n : Nat) : foldTxs h i l wd ss (n + 1) = foldTxs h i l wd ss n ++ [foldTx h i l wd ss n] := by simp [foldTxs, List.range_succ]
theorem foldSt_le (h : ByteArray) (i l wd : Int) (ss : List ByteArray) (hh : h.size ≤ maxLen) : ∀ k, (foldSt h i l wd ss k).size ≤ maxLen
  | 0 => hh
  | _ + 1 => le_max (tagH_le _ _ _) (by omega)
def foldH (h : ByteArray) (i l : Int) (ss : List ByteArray) (wd : Int) : ByteArray := if inB l 0 8 = true then (if (ss.length : Int) ≤ l then foldSt h i l wd ss ss.length else ⟨#[]⟩) else ⟨#[]⟩

theorem strs_pair0 (w : World) (B : Nat) (h s : ByteArray) (b : Int) (t : TypeId) (hb : b ≠ 1) (hB : B = w.heap.size) : Strs (w.alloc (.cells #[.string h, .string s] t)) (.slice (some ⟨B, 0, none⟩) 2 2) (pairOf b h s) := by
  subst hB
  rw [pairOf, if_neg hb]
  exact strs_lit2 _ _ _ _
theorem strs_pair1 (w : World) (B : Nat) (h s : ByteArray) (b : Int) (t : TypeId) (hb : b = 1) (hB : B = w.heap.size) : Strs (w.alloc (.cells #[.string s, .string h] t)) (.slice (some ⟨B, 0, none⟩) 2 2) (pairOf b h s) := by
  subst hB
  rw [pairOf, if_pos hb]
  exact strs_lit2 _ _ _ _
theorem fit_pair {b : Int} {h s : ByteArray} (hh : h.size ≤ maxLen) (hs : s.size ≤ maxLen) : ∀ x ∈ pairOf b h s, x.size ≤ maxLen := by
  unfold pairOf
  split
  · exact fit2 hs hh
  · exact fit2 hh hs

set_option maxRecDepth 100000 in
set_option maxHeartbeats 1600000 in
theorem spec_FoldUp (h : ByteArray) (i l : Int) (v : Value) (ss : List ByteArray) (wd : Int) (w : World) (hh : h.size ≤ maxLen) (hs : Strs w v ss) (hf : ∀ s ∈ ss, s.size ≤ maxLen) :
    Calls Tryz.prog 24 #[.string h, .int .i64 i, .int .i64 l, v, .int .i64 wd] w fun e w' => e = .returned (.string (foldH h i l ss wd)) ∧ Ext w w' := by
  have hs0 := hs
  obtain ⟨-, a1, c1, rfl, hc1, hm1, g1⟩ := hs
  unfold maxLen at hm1
  cases k : inB l 0 8
  · have R := Lib.hid (show foldH h i l ss wd = ⟨#[]⟩ by rw [foldH, if_neg (by rw [k]; decide)])
    have K := Lib.hid k
    clear k g1
    go_enter Tryz.func24, Tryz.ntmps24
    go_wp2_with (go_at_call 27; refine (spec_l01In _ _ _ _).mono ?_; rw [K.out]; rintro e w' ⟨rfl, rfl⟩)
    go_ret
    exact ⟨ret_str R.out.symm, (by repeat (first | (with_reducible first | exact Ext.refl _ | assumption | apply Ext.alloc | apply Ext.drew | apply Ext.drewN | refine Ext.setCell ?_ ?_ _ | refine Ext.trans ?_ (by assumption)) | (show _ ≤ _; first | omega | (dsimp only; omega) | (simp; done) | (simp; omega))))⟩
  · obtain ⟨k1, k2⟩ := inB_true.1 k
    by_cases hl : (ss.length : Int) ≤ l
    · have R := Lib.hid (show foldH h i l ss wd = foldSt h i l wd ss ss.length by rw [foldH, if_pos k, if_pos hl])
      have K := Lib.hid k
      have hl2 : ¬ (l < (ss.length : Int)) := by omega
      clear k
      go_enter Tryz.func24, Tryz.ntmps24
      go_wp2_with (go_at_call 27; refine (spec_l01In _ _ _ _).mono ?_; rw [K.out]; rintro e w' ⟨rfl, rfl⟩)
      go_loopw [11, 12] (fun x j wr => ∃ k : Nat, k ≤ ss.length ∧ j = .int .i64 k ∧ x = .string (foldSt h i l wd ss k) ∧ Ext w wr) (fun _ j _ => ss.length - (intOf j).toNat)
      case atStart => exact ⟨0, by omega, rfl, rfl, (by repeat (first | (with_reducible first | exact Ext.refl _ | assumption | apply Ext.alloc | apply Ext.drew | apply Ext.drewN | refine Ext.setCell ?_ ?_ _ | refine Ext.trans ?_ (by assumption)) | (show _ ≤ _; first | omega | (dsimp only; omega) | (simp; done) | (simp; omega))))⟩
      case round =>
        obtain ⟨k, hk, rfl, rfl, hx⟩ := hrel
        by_cases hlt : k < ss.length
        · rcases g1 with g1 | ⟨b1, o1, rfl, hb1, g1⟩
          · omega
          have e1 : wr.cell? ⟨b1, o1 + k, none⟩ = some (.string (ss.getD k ⟨#[]⟩)) := (hx.cell b1 _ hb1).trans (g1 k _ (by simp [hlt, List.getD_eq_getElem?_getD]))
          have lb : b1 < wr.heap.size := Nat.lt_of_lt_of_le hb1 hx.size
          have hz1 := foldSt_le h i l wd ss hh k
          have hz2 : (ss.getD k ⟨#[]⟩).size ≤ maxLen := hf _ (by rw [List.getD_eq_getElem?_getD, List.getElem?_eq_getElem hlt]; exact List.getElem_mem hlt)
          have E1 := Lib.hid (show foldSt h i l wd ss (k + 1) = tagH 3 (pairOf (bitT i (l - 1 - k)) (foldSt h i l wd ss k) (ss.getD k ⟨#[]⟩)) wd from rfl)
          generalize foldSt h i l wd ss k = H at *
          generalize ss.getD k ⟨#[]⟩ = s at *
          rcases bitT_01 i (l - 1 - k) with hb | hb
          · have P := Lib.hid (fun W B => strs_pair0 W B H s (bitT i (l - 1 - k)) 9 (by rw [hb]; decide))
            have F := Lib.hid (fit_pair (b := bitT i (l - 1 - k)) hz1 hz2)
            have HB := Lib.hid hb
            clear hb g1 hz1 hz2
            go_wp2_with fail
            refine (spec_BitOf _ _ _).mono ?_
            rw [HB.out]
            rintro e w' ⟨rfl, rfl⟩
            go_wp2_with fail
            refine (spec_TagHash 3 _ (pairOf (bitT i (l - 1 - k)) H s) wd _ (by exact P.out _ _ (by simp)) F.out).mono ?_
            rintro e w3 ⟨rfl, x3⟩
            go_wp2
            go_roundw
            case rel => exact ⟨k + 1, by omega, by go_num, by rw [E1.out], (by repeat (first | (with_reducible first | exact Ext.refl _ | assumption | apply Ext.alloc | apply Ext.drew | apply Ext.drewN | refine Ext.setCell ?_ ?_ _ | refine Ext.trans ?_ (by assumption)) | (show _ ≤ _; first | omega | (dsimp only; omega) | (simp; done) | (simp; omega))))⟩
            case measure => simp [intOf]; omega
          · have P := Lib.hid (fun W B => strs_pair1 W B H s (bitT i (l - 1 - k)) 9 hb)
            have F := Lib.hid (fit_pair (b := bitT i (l - 1 - k)) hz1 hz2)
            have HB := Lib.hid hb
            clear hb g1 hz1 hz2
            go_wp2_with fail
            refine (spec_BitOf _ _ _).mono ?_
            rw [HB.out]
            rintro e w' ⟨rfl, rfl⟩
            go_wp2_with fail
            refine (spec_TagHash 3 _ (pairOf (bitT i (l - 1 - k)) H s) wd _ (by exact P.out _ _ (by simp)) F.out).mono ?_
            rintro e w3 ⟨rfl, x3⟩
            go_wp2
            go_roundw
            case rel => exact ⟨k + 1, by omega, by go_num, by rw [E1.out], (by repeat (first | (with_reducible first | exact Ext.refl _ | assumption | apply Ext.alloc | apply Ext.drew | apply Ext.drewN | refine Ext.setCell ?_ ?_ _ | refine Ext.trans ?_ (by assumption)) | (show _ ≤ _; first | omega | (dsimp only; omega) | (simp; done) | (simp; omega))))⟩
            case measure => simp [intOf]; omega
        · obtain rfl : k = ss.length := by omega
          clear g1
          go_wp2
          go_ret
          exact ⟨ret_str R.out.symm, hx⟩
    · have R := Lib.hid (show foldH h i l ss wd = ⟨#[]⟩ by rw [foldH, if_pos k, if_neg hl])
      have K := Lib.hid k
      have hl2 : l < (ss.length : Int) := by omega
      clear k g1
      go_enter Tryz.func24, Tryz.ntmps24
      go_wp2_with (go_at_call 27; refine (spec_l01In _ _ _ _).mono ?_; rw [K.out]; rintro e w' ⟨rfl, rfl⟩)
      go_ret
      exact ⟨ret_str R.out.symm, (by repeat (first | (with_reducible first | exact Ext.refl _ | assumption | apply Ext.alloc | apply Ext.drew | apply Ext.drewN | refine Ext.setCell ?_ ?_ _ | refine Ext.trans ?_ (by assumption)) | (show _ ≤ _; first | omega | (dsimp only; omega) | (simp; done) | (simp; omega))))⟩

set_option maxRecDepth 100000 in
set_option maxHeartbeats 3200000 in
theorem impl_foldTexts (h : ByteArray) (i l : Int) (v : Value) (ss : List ByteArray) (wd : Int) (w : World) (hh : h.size ≤ maxLen) (hs : Strs w v ss) (hf : ∀ s ∈ ss, s.size ≤ maxLen) (hl : 0 ≤ l ∧ l ≤ 8 ∧ (ss.length : Int) ≤ l) (hT : Tabs w) :
    Calls Tryz.prog 80 #[.string h, .int .i64 i, .int .i64 l, v, .int .i64 wd] w fun e w' => ∃ a c, e = .returned (.tuple #[.slice a ss.length c, .string (foldSt h i l wd ss ss.length)]) ∧ w'.ownsRow w.heap.size 9 1 (.slice a ss.length c) ss.length ((foldTxs h i l wd ss ss.length).map Value.string) ∧ Ext w w' := by
  obtain ⟨i0, hi, hz0, hz1', hz2'⟩ := info_parts infoString
  have HT := Lib.hid hT
  obtain ⟨-, a1, c1, rfl, hc1, hm1, g1⟩ := hs
  unfold maxLen at hm1
  obtain ⟨k1, k2, k3⟩ := hl
  clear hT
  go_enter Tryz.func80, Tryz.ntmps80
  go_wp2
  go_loopw [0, 2, 12, 20] (fun x y o j wr => ∃ k : Nat, k ≤ ss.length ∧ j = .int .i64 k ∧ y = .int .i64 (l - k) ∧ x = .string (foldSt h i l wd ss k) ∧ wr.ownsRow w.heap.size 9 1 o k ((foldTxs h i l wd ss k).map Value.string) ∧ Ext w wr) (fun _ _ _ j _ => ss.length - (intOf j).toNat)
  case atStart => exact ⟨0, by omega, rfl, by simp, rfl, World.ownsRow_nil _ _ _ _, (by repeat (first | (with_reducible first | exact Ext.refl _ | assumption | apply Ext.alloc | apply Ext.drew | apply Ext.drewN | refine Ext.setCell ?_ ?_ _ | refine Ext.trans ?_ (by assumption)) | (show _ ≤ _; first | omega | (dsimp only; omega) | (simp; done) | (simp; omega))))⟩
  case round =>
    obtain ⟨k, hk, rfl, rfl, rfl, own, hx⟩ := hrel
    by_cases hlt : k < ss.length
    · rcases g1 with g1 | ⟨b1, o1, rfl, hb1, g1⟩
      · omega
      have e1 : wr.cell? ⟨b1, o1 + k, none⟩ = some (.string (ss.getD k ⟨#[]⟩)) := (hx.cell b1 _ hb1).trans (g1 k _ (by simp [hlt, List.getD_eq_getElem?_getD]))
      have hz1 := foldSt_le h i l wd ss hh k
      have hz2 : (ss.getD k ⟨#[]⟩).size ≤ maxLen := hf _ (by rw [List.getD_eq_getElem?_getD, List.getElem?_eq_getElem hlt]; exact List.getElem_mem hlt)
      have E1 := Lib.hid (show foldSt h i l wd ss (k + 1) = tagH 3 (pairOf (bitT i (l - 1 - k)) (foldSt h i l wd ss k) (ss.getD k ⟨#[]⟩)) wd from rfl)
      have E2 := Lib.hid (show foldTxs h i l wd ss (k + 1) = foldTxs h i l wd ss k ++ [tagTx 3 (pairOf (bitT i (l - 1 - k)) (foldSt h i l wd ss k) (ss.getD k ⟨#[]⟩))] from foldTxs_succ h i l wd ss k)
      have htz := tagTx_size 3 (pairOf (bitT i (l - 1 - k)) (foldSt h i l wd ss k) (ss.getD k ⟨#[]⟩))
      have lw := hx.size
      obtain ⟨oa, oc, rfl⟩ := own_any own
      have HO := Lib.hid own
      have hsub : IntKind.i64.wrap (l - (k : Int) - 1) = l - 1 - (k : Int) := by rw [IntWalk.i64_in _ (by omega)]; omega
      clear own g1
      generalize foldSt h i l wd ss k = H at *
      generalize ss.getD k ⟨#[]⟩ = s at *
      rcases bitT_01 i (l - 1 - k) with hb | hb
      · have P := Lib.hid (fun W B => strs_pair0 W B H s (bitT i (l - 1 - k)) 9 (by rw [hb]; decide))
        have F := Lib.hid (fit_pair (b := bitT i (l - 1 - k)) hz1 hz2)
        have HB := Lib.hid hb
        clear hb hz1 hz2
        cases hw : tagWell 3 (pairOf (bitT i (l - 1 - k)) H s)
        · have E3 := Lib.hid (show tagH 3 (pairOf (bitT i (l - 1 - k)) H s) wd = ⟨#[]⟩ by rw [tagH, if_neg (by rw [hw]; decide)])
          have HW := Lib.hid hw
          clear hw htz
          go_wp2_with fail
          refine (impl_BitOf _ _ _).mono ?_
          rw [HB.out]
          rintro e w' ⟨rfl, rfl⟩
          go_wp2_with fail
          refine (impl_TagText 3 _ (pairOf (bitT i (l - 1 - k)) H s) _ (by exact P.out _ _ (by simp)) F.out).mono ?_
          rw [HW.out]
          rintro e w2 ⟨rfl, x2⟩
          have x2' : Ext wr w2 := (by repeat (first | (with_reducible first | exact Ext.refl _ | assumption | apply Ext.alloc | apply Ext.drew | apply Ext.drewN | refine Ext.setCell ?_ ?_ _ | refine Ext.trans ?_ (by assumption)) | (show _ ≤ _; first | omega | (dsimp only; omega) | (simp; done) | (simp; omega))))
          have own2 := own_ext HO.out x2'
          have l2 := x2'.size
          generalize tagTx 3 (pairOf (bitT i (l - 1 - k)) H s) = T at *
          go_wp2_with (at_builtin; refine wpList_append_own _ rfl (.tmp 41) (.tmp 43) 22 rfl w.heap.size 9 i0 (.string ⟨#[]⟩) 1 16 Tryz.underlying22 hi hz0 hz1' hz2' rfl (by decide) _ _ _ rfl (own2.alloc _) ⟨w2.heap.size, 0, none⟩ 1 1 [.string T] rfl rfl ?c1 ?c2 ?c3 ?c4 ?c5 ?_)
          case c1 => exact news1 _ _ _
          case c2 => exact fun u hu => by rw [List.mem_singleton] at hu; rw [hu]; rfl
          case c3 => unfold maxLen; omega
          case c4 => omega
          case c5 => simp; omega
          intro v' w3 own3 hgrow _
          have hx3 : Ext w w3 := own_ext_of ((hx.trans x2').alloc _) (own2.alloc _) hgrow (Nat.le_refl _)
          have HO2 := Lib.hid own3
          clear own3 own2 hgrow
          obtain ⟨a', c', rfl⟩ := own_any HO2.out
          go_wp2
          go_roundw
          case rel => exact ⟨k + 1, by omega, by go_num, by go_num, by rw [E1.out, E3.out], by rw [E2.out, List.map_append]; exact HO2.out, (by repeat (first | (with_reducible first | exact Ext.refl _ | assumption | apply Ext.alloc | apply Ext.drew | apply Ext.drewN | refine Ext.setCell ?_ ?_ _ | refine Ext.trans ?_ (by assumption)) | (show _ ≤ _; first | omega | (dsimp only; omega) | (simp; done) | (simp; omega))))⟩
          case measure => simp [intOf]; omega
        · have E3 := Lib.hid (show tagH 3 (pairOf (bitT i (l - 1 - k)) H s) wd = cutT (tagTx 3 (pairOf (bitT i (l - 1 - k)) H s)) wd by rw [tagH, if_pos hw])
          have HW := Lib.hid hw
          clear hw
          go_wp2_with fail
          refine (impl_BitOf _ _ _).mono ?_
          rw [HB.out]
          rintro e w' ⟨rfl, rfl⟩
          go_wp2_with fail
          refine (impl_TagText 3 _ (pairOf (bitT i (l - 1 - k)) H s) _ (by exact P.out _ _ (by simp)) F.out).mono ?_
          rw [HW.out]
          rintro e w2 ⟨rfl, x2⟩
          have x2' : Ext wr w2 := (by repeat (first | (with_reducible first | exact Ext.refl _ | assumption | apply Ext.alloc | apply Ext.drew | apply Ext.drewN | refine Ext.setCell ?_ ?_ _ | refine Ext.trans ?_ (by assumption)) | (show _ ≤ _; first | omega | (dsimp only; omega) | (simp; done) | (simp; omega))))
          have own2 := own_ext HO.out x2'
          have l2 := x2'.size
          generalize tagTx 3 (pairOf (bitT i (l - 1 - k)) H s) = T at *
          go_wp2_with (at_builtin; refine wpList_append_own _ rfl (.tmp 41) (.tmp 43) 22 rfl w.heap.size 9 i0 (.string ⟨#[]⟩) 1 16 Tryz.underlying22 hi hz0 hz1' hz2' rfl (by decide) _ _ _ rfl (own2.alloc _) ⟨w2.heap.size, 0, none⟩ 1 1 [.string T] rfl rfl ?c1 ?c2 ?c3 ?c4 ?c5 ?_)
          case c1 => exact news1 _ _ _
          case c2 => exact fun u hu => by rw [List.mem_singleton] at hu; rw [hu]; rfl
          case c3 => unfold maxLen; omega
          case c4 => omega
          case c5 => simp; omega
          intro v' w3 own3 hgrow _
          have hx3 : Ext w w3 := own_ext_of ((hx.trans x2').alloc _) (own2.alloc _) hgrow (Nat.le_refl _)
          have HO2 := Lib.hid own3
          clear own3 own2 hgrow
          go_wp2_with fail
          refine (impl_CutDigest T wd _ htz (by exact HT.out.ext (by repeat (first | (with_reducible first | exact Ext.refl _ | assumption | apply Ext.alloc | apply Ext.drew | apply Ext.drewN | refine Ext.setCell ?_ ?_ _ | refine Ext.trans ?_ (by assumption)) | (show _ ≤ _; first | omega | (dsimp only; omega) | (simp; done) | (simp; omega)))))).mono ?_
          rintro e w4 ⟨rfl, x4⟩
          have HO3 := Lib.hid (own_ext HO2.out x4)
          obtain ⟨a', c', rfl⟩ := own_any HO2.out
          go_wp2
          go_roundw
          case rel => exact ⟨k + 1, by omega, by go_num, by go_num, by rw [E1.out, E3.out], by rw [E2.out, List.map_append]; exact HO3.out, (by repeat (first | (with_reducible first | exact Ext.refl _ | assumption | apply Ext.alloc | apply Ext.drew | apply Ext.drewN | refine Ext.setCell ?_ ?_ _ | refine Ext.trans ?_ (by assumption)) | (show _ ≤ _; first | omega | (dsimp only; omega) | (simp; done) | (simp; omega))))⟩
          case measure => simp [intOf]; omega
      · have P := Lib.hid (fun W B => strs_pair1 W B H s (bitT i (l - 1 - k)) 9 hb)
        have F := Lib.hid (fit_pair (b := bitT i (l - 1 - k)) hz1 hz2)
        have HB := Lib.hid hb
        clear hb hz1 hz2
        cases hw : tagWell 3 (pairOf (bitT i (l - 1 - k)) H s)
        · have E3 := Lib.hid (show tagH 3 (pairOf (bitT i (l - 1 - k)) H s) wd = ⟨#[]⟩ by rw [tagH, if_neg (by rw [hw]; decide)])
          have HW := Lib.hid hw
          clear hw htz
          go_wp2_with fail
          refine (impl_BitOf _ _ _).mono ?_
          rw [HB.out]
          rintro e w' ⟨rfl, rfl⟩
          go_wp2_with fail
          refine (impl_TagText 3 _ (pairOf (bitT i (l - 1 - k)) H s) _ (by exact P.out _ _ (by simp)) F.out).mono ?_
          rw [HW.out]
          rintro e w2 ⟨rfl, x2⟩
          have x2' : Ext wr w2 := (by repeat (first | (with_reducible first | exact Ext.refl _ | assumption | apply Ext.alloc | apply Ext.drew | apply Ext.drewN | refine Ext.setCell ?_ ?_ _ | refine Ext.trans ?_ (by assumption)) | (show _ ≤ _; first | omega | (dsimp only; omega) | (simp; done) | (simp; omega))))
          have own2 := own_ext HO.out x2'
          have l2 := x2'.size
          generalize tagTx 3 (pairOf (bitT i (l - 1 - k)) H s) = T at *
          go_wp2_with (at_builtin; refine wpList_append_own _ rfl (.tmp 41) (.tmp 43) 22 rfl w.heap.size 9 i0 (.string ⟨#[]⟩) 1 16 Tryz.underlying22 hi hz0 hz1' hz2' rfl (by decide) _ _ _ rfl (own2.alloc _) ⟨w2.heap.size, 0, none⟩ 1 1 [.string T] rfl rfl ?c1 ?c2 ?c3 ?c4 ?c5 ?_)
          case c1 => exact news1 _ _ _
          case c2 => exact fun u hu => by rw [List.mem_singleton] at hu; rw [hu]; rfl
          case c3 => unfold maxLen; omega
          case c4 => omega
          case c5 => simp; omega
          intro v' w3 own3 hgrow _
          have hx3 : Ext w w3 := own_ext_of ((hx.trans x2').alloc _) (own2.alloc _) hgrow (Nat.le_refl _)
          have HO2 := Lib.hid own3
          clear own3 own2 hgrow
          obtain ⟨a', c', rfl⟩ := own_any HO2.out
          go_wp2
          go_roundw
          case rel => exact ⟨k + 1, by omega, by go_num, by go_num, by rw [E1.out, E3.out], by rw [E2.out, List.map_append]; exact HO2.out, (by repeat (first | (with_reducible first | exact Ext.refl _ | assumption | apply Ext.alloc | apply Ext.drew | apply Ext.drewN | refine Ext.setCell ?_ ?_ _ | refine Ext.trans ?_ (by assumption)) | (show _ ≤ _; first | omega | (dsimp only; omega) | (simp; done) | (simp; omega))))⟩
          case measure => simp [intOf]; omega
        · have E3 := Lib.hid (show tagH 3 (pairOf (bitT i (l - 1 - k)) H s) wd = cutT (tagTx 3 (pairOf (bitT i (l - 1 - k)) H s)) wd by rw [tagH, if_pos hw])
          have HW := Lib.hid hw
          clear hw
          go_wp2_with fail
          refine (impl_BitOf _ _ _).mono ?_
          rw [HB.out]
          rintro e w' ⟨rfl, rfl⟩
          go_wp2_with fail
          refine (impl_TagText 3 _ (pairOf (bitT i (l - 1 - k)) H s) _ (by exact P.out _ _ (by simp)) F.out).mono ?_
          rw [HW.out]
          rintro e w2 ⟨rfl, x2⟩
          have x2' : Ext wr w2 := (by repeat (first | (with_reducible first | exact Ext.refl _ | assumption | apply Ext.alloc | apply Ext.drew | apply Ext.drewN | refine Ext.setCell ?_ ?_ _ | refine Ext.trans ?_ (by assumption)) | (show _ ≤ _; first | omega | (dsimp only; omega) | (simp; done) | (simp; omega))))
          have own2 := own_ext HO.out x2'
          have l2 := x2'.size
          generalize tagTx 3 (pairOf (bitT i (l - 1 - k)) H s) = T at *
          go_wp2_with (at_builtin; refine wpList_append_own _ rfl (.tmp 41) (.tmp 43) 22 rfl w.heap.size 9 i0 (.string ⟨#[]⟩) 1 16 Tryz.underlying22 hi hz0 hz1' hz2' rfl (by decide) _ _ _ rfl (own2.alloc _) ⟨w2.heap.size, 0, none⟩ 1 1 [.string T] rfl rfl ?c1 ?c2 ?c3 ?c4 ?c5 ?_)
          case c1 => exact news1 _ _ _
          case c2 => exact fun u hu => by rw [List.mem_singleton] at hu; rw [hu]; rfl
          case c3 => unfold maxLen; omega
          case c4 => omega
          case c5 => simp; omega
          intro v' w3 own3 hgrow _
          have hx3 : Ext w w3 := own_ext_of ((hx.trans x2').alloc _) (own2.alloc _) hgrow (Nat.le_refl _)
          have HO2 := Lib.hid own3
          clear own3 own2 hgrow
          go_wp2_with fail
          refine (impl_CutDigest T wd _ htz (by exact HT.out.ext (by repeat (first | (with_reducible first | exact Ext.refl _ | assumption | apply Ext.alloc | apply Ext.drew | apply Ext.drewN | refine Ext.setCell ?_ ?_ _ | refine Ext.trans ?_ (by assumption)) | (show _ ≤ _; first | omega | (dsimp only; omega) | (simp; done) | (simp; omega)))))).mono ?_
          rintro e w4 ⟨rfl, x4⟩
          have HO3 := Lib.hid (own_ext HO2.out x4)
          obtain ⟨a', c', rfl⟩ := own_any HO2.out
          go_wp2
          go_roundw
          case rel => exact ⟨k + 1, by omega, by go_num, by go_num, by rw [E1.out, E3.out], by rw [E2.out, List.map_append]; exact HO3.out, (by repeat (first | (with_reducible first | exact Ext.refl _ | assumption | apply Ext.alloc | apply Ext.drew | apply Ext.drewN | refine Ext.setCell ?_ ?_ _ | refine Ext.trans ?_ (by assumption)) | (show _ ≤ _; first | omega | (dsimp only; omega) | (simp; done) | (simp; omega))))⟩
          case measure => simp [intOf]; omega
    · obtain rfl : k = ss.length := by omega
      obtain ⟨oa, oc, rfl⟩ := own_any own
      have HO := Lib.hid own
      clear g1 own
      go_wp2
      go_ret2
      exact ⟨_, _, rfl, HO.out, hx⟩

set_option maxRecDepth 100000 in
set_option maxHeartbeats 800000 in
theorem impl_FoldUp (h : ByteArray) (i l : Int) (v : Value) (ss : List ByteArray) (wd : Int) (w : World) (hh : h.size ≤ maxLen) (hs : Strs w v ss) (hf : ∀ s ∈ ss, s.size ≤ maxLen) (hT : Tabs w) :
    Calls Tryz.prog 36 #[.string h, .int .i64 i, .int .i64 l, v, .int .i64 wd] w fun e w' => e = .returned (.string (foldH h i l ss wd)) ∧ Ext w w' := by
  obtain ⟨a1, c1, rfl⟩ := hs.form
  have HT := Lib.hid hT
  clear hT
  cases k : inB l 0 8
  · have R := Lib.hid (show foldH h i l ss wd = ⟨#[]⟩ by rw [foldH, if_neg (by rw [k]; decide)])
    have K := Lib.hid k
    clear k
    go_enter Tryz.func36, Tryz.ntmps36
    go_wp2_with (go_at_call 39; refine (impl_in _ _ _ _).mono ?_; rw [K.out]; rintro e w' ⟨rfl, rfl⟩)
    go_ret
    exact ⟨ret_str R.out.symm, (by repeat (first | (with_reducible first | exact Ext.refl _ | assumption | apply Ext.alloc | apply Ext.drew | apply Ext.drewN | refine Ext.setCell ?_ ?_ _ | refine Ext.trans ?_ (by assumption)) | (show _ ≤ _; first | omega | (dsimp only; omega) | (simp; done) | (simp; omega))))⟩
  · obtain ⟨k1, k2⟩ := inB_true.1 k
    by_cases hl : (ss.length : Int) ≤ l
    · have R := Lib.hid (show foldH h i l ss wd = foldSt h i l wd ss ss.length by rw [foldH, if_pos k, if_pos hl])
      have K := Lib.hid k
      have hl2 : ¬ (l < (ss.length : Int)) := by omega
      clear k
      go_enter Tryz.func36, Tryz.ntmps36
      go_wp2_with (go_at_call 39; refine (impl_in _ _ _ _).mono ?_; rw [K.out]; rintro e w' ⟨rfl, rfl⟩)
      refine (impl_foldTexts h i l _ ss wd _ hh (by exact hs) hf ⟨k1, k2, hl⟩ (by exact HT.out)).mono ?_
      rintro e w1 ⟨a, c, rfl, own, x1⟩
      clear own
      go_wp2
      go_ret
      exact ⟨ret_str R.out.symm, (by repeat (first | (with_reducible first | exact Ext.refl _ | assumption | apply Ext.alloc | apply Ext.drew | apply Ext.drewN | refine Ext.setCell ?_ ?_ _ | refine Ext.trans ?_ (by assumption)) | (show _ ≤ _; first | omega | (dsimp only; omega) | (simp; done) | (simp; omega))))⟩
    · have R := Lib.hid (show foldH h i l ss wd = ⟨#[]⟩ by rw [foldH, if_pos k, if_neg hl])
      have K := Lib.hid k
      have hl2 : l < (ss.length : Int) := by omega
      clear k
      go_enter Tryz.func36, Tryz.ntmps36
      go_wp2_with (go_at_call 39; refine (impl_in _ _ _ _).mono ?_; rw [K.out]; rintro e w' ⟨rfl, rfl⟩)
      go_ret
      exact ⟨ret_str R.out.symm, (by repeat (first | (with_reducible first | exact Ext.refl _ | assumption | apply Ext.alloc | apply Ext.drew | apply Ext.drewN | refine Ext.setCell ?_ ?_ _ | refine Ext.trans ?_ (by assumption)) | (show _ ≤ _; first | omega | (dsimp only; omega) | (simp; done) | (simp; omega))))⟩

end Go.Proofs.YtckipgijfgeghaaGreatDoor
