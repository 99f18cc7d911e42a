/- TagA, HashA, Sig2, Fields, HeadA, SigA, SigU. -/
import Derived.Test.YtkphipgfcbckcaaGreatDoorK2
import Derived.Lib.AppendStr
import Derived.Deep.RegionHeld3
import Derived.Deep.AppendLies
import Derived.Laws.AppendOwnNone
import Derived.Deep.RegionHeld
namespace Go.Proofs.YtkphipgfcbckcaaGreatDoor
open Go.RowKit

theorem conv_str {w : World} {base g cap n : Nat} {t : ByteArray} (h : w.ownsRow base 5 1 (.slice (some ⟨g, 0, none⟩) n cap) n (Lib.strCells t)) :
    (convert 22 9 (.slice (some ⟨g, 0, none⟩) n cap)).run Tryz.prog w = .ok (.string t) w := by
  rw [strCells_nums8] at h
  have := conv_own h
  rwa [strOfNums_nums8] at this

/-- a kind, and parts behind it -/
def tagUpto (kind : Int) (ps : List ByteArray) (k : Nat) : ByteArray := (ps.take k).foldl (fun a p => a ++ (varT p.size ++ p)) (strOfNums [kind])
def tagWell (kind : Int) (ps : List ByteArray) : Bool := inB kind 1 8 && (decide (ps.length ≤ 60) && ps.all fun p => decide (p.size ≤ 200))
def tagTx (kind : Int) (ps : List ByteArray) : ByteArray := if tagWell kind ps = true then tagUpto kind ps ps.length else ⟨#[]⟩
theorem tagUpto_succ (kind : Int) (ps : List ByteArray) (k : Nat) (h : k < ps.length) : tagUpto kind ps (k + 1) = tagUpto kind ps k ++ (varT ps[k].size ++ ps[k]) := by
  unfold tagUpto
  rw [List.take_succ_eq_append_getElem h, List.foldl_append]
  rfl
theorem short_succ {ps : List ByteArray} {k : Nat} (h : k < ps.length) (ha : ∀ p ∈ ps.take k, p.size ≤ 200) (e : ps[k].size ≤ 200) : ∀ p ∈ ps.take (k + 1), p.size ≤ 200 := by
  intro p hp
  rw [List.take_succ_eq_append_getElem h, List.mem_append] at hp
  rcases hp with hp | hp
  · exact ha p hp
  · simp at hp; rw [hp]; exact e
theorem tagUpto_size (kind : Int) (ps : List ByteArray) : ∀ k, k ≤ ps.length → (∀ p ∈ ps.take k, p.size ≤ 200) → (tagUpto kind ps k).size ≤ 1 + 401 * k
  | 0, _, _ => by simp [tagUpto, strOfNums_size]
  | k + 1, h, ha => by
    have hm : ∀ p ∈ ps.take k, p.size ≤ 200 := fun p hp => ha p (by rw [List.take_succ_eq_append_getElem (by omega)]; exact List.mem_append_left _ hp)
    have h1 := tagUpto_size kind ps k (by omega) hm
    have h2 := ha ps[k] (by rw [List.take_succ_eq_append_getElem (by omega)]; exact List.mem_append_right _ (List.mem_singleton.2 rfl))
    have h3 := varT_size ps[k].size
    rw [tagUpto_succ kind ps k (by omega)]
    simp only [ByteArray.size_append]
    omega
theorem tagUpto_pos (kind : Int) (ps : List ByteArray) : ∀ k, k ≤ ps.length → 0 < (tagUpto kind ps k).size
  | 0, _ => by simp [tagUpto, strOfNums_size]
  | k + 1, h => by
    have h1 := tagUpto_pos kind ps k (by omega)
    rw [tagUpto_succ kind ps k (by omega), ByteArray.size_append]
    omega
theorem tag_no (kind : Int) (ps : List ByteArray) (h : tagWell kind ps = false) : tagTx kind ps = ⟨#[]⟩ := by simp [tagTx, h]
theorem tag_yes {kind : Int} {ps : List ByteArray} (hi : inB kind 1 8 = true) (hl : ps.length ≤ 60) (ha : ∀ p ∈ ps, p.size ≤ 200) : tagWell kind ps = true := by
  rw [tagWell, hi, decide_eq_true hl, Bool.true_and, Bool.true_and, List.all_eq_true]
  exact fun p hp => decide_eq_true (ha p hp)
theorem tag_long {kind : Int} {ps : List ByteArray} {k : Nat} (h : k < ps.length) (e : ¬ ps[k].size ≤ 200) : tagWell kind ps = false := by
  have : ps.all (fun p => decide (p.size ≤ 200)) = false := by
    rw [List.all_eq_false]
    exact ⟨ps[k], List.getElem_mem h, by simpa using e⟩
  rw [tagWell, this]
  simp

set_option maxRecDepth 100000 in
set_option maxHeartbeats 800000 in
theorem impl_TagText (kind : Int) (v : Value) (ps : List ByteArray) (w : World) (h : Strs w v ps) (hs : ∀ s ∈ ps, s.size ≤ maxLen) :
    Calls Tryz.prog 97 #[.int .i64 kind, v] w fun e w' => e = .returned (.tuple #[.string (tagTx kind ps), .bool (tagWell kind ps)]) ∧ Ext w w' := by
  obtain ⟨i0, hi, hz0, hz1, hz2⟩ := info_parts infoByte
  obtain ⟨-, a1, c1, rfl, hc1, hm1, g1⟩ := h
  unfold maxLen at hm1 hs
  by_cases hin : inB kind 1 8 = true
  · by_cases hlen : ps.length ≤ 60
    · have hb := inB_true.1 hin
      have hli : ¬ ((60 : Int) < ps.length) := by omega
      have HI := Lib.hid hin
      clear hin
      go_enter Tryz.func97, Tryz.ntmps97
      go_wp2_with (go_at_call 53; refine (impl_in _ _ _ _).mono ?_; rw [HI.out]; rintro e w' ⟨rfl, rfl⟩)
      go_loopw [6, 8, 22] (fun v _ i wr => ∃ k : Nat, k ≤ ps.length ∧ i = .int .i64 k ∧ (∀ p ∈ ps.take k, p.size ≤ 200) ∧ wr.ownsRow w.heap.size 5 1 v (tagUpto kind ps k).size (Lib.strCells (tagUpto kind ps k)) ∧ Ext w wr) (fun _ _ i _ => ps.length - (intOf i).toNat)
      case atStart =>
        refine ⟨0, Nat.zero_le _, rfl, by simp, ?_, (by repeat (first | (with_reducible first | exact Ext.refl _ | assumption | apply Ext.alloc | apply Ext.drew | apply Ext.drewN | refine Ext.setCell ?_ ?_ _ | refine Ext.trans ?_ (by assumption)) | (show _ ≤ _; first | omega | (dsimp only; omega) | (simp; done) | (simp; omega))))⟩
        rw [show tagUpto kind ps 0 = strOfNums [kind] by simp [tagUpto], strCells_one kind (by omega), strOfNums_size]
        exact World.ownsRow_lit w #[.int .u8 kind] 1 (Nat.le_refl _) (by unfold maxLen; omega) rfl
      case round =>
        obtain ⟨k, hk, rfl, hall, hown, hx⟩ := hrel
        have HA := Lib.hid hall
        obtain ⟨g, cap, rfl⟩ := own_form hown (tagUpto_pos kind ps k hk)
        have hsz := hx.size
        have z0 := tagUpto_size kind ps k hk hall
        clear hall
        by_cases hlt : k < ps.length
        · rcases g1 with g1 | ⟨b1, o1, rfl, hb1, g1⟩
          · omega
          have e1 : wr.cell? ⟨b1, o1 + k, none⟩ = some (.string ps[k]) := (hx.cell b1 _ hb1).trans (g1 k _ (by simp [hlt]))
          have hsk := hs ps[k] (List.getElem_mem hlt)
          clear g1 hs
          by_cases hq : ps[k].size ≤ 200
          · have hqi : ¬ ((200 : Int) < ps[k].size) := by omega
            have z1 := varT_size ps[k].size
            have HO := Lib.hid hown
            have HU := Lib.hid (tagUpto_succ kind ps k hlt)
            have hm := (short_succ hlt HA.out hq)
            have HM := Lib.hid hm
            clear hown hm
            go_wp2_with fail
            refine (impl_shortText ps[k] _ (by omega)).mono ?_
            rintro e w1 ⟨rfl, x1⟩
            have hown := own_ext HO.out x1
            have hz1 := x1.size
            have hz2 : (varT ps[k].size ++ ps[k]).size ≤ 401 := by rw [ByteArray.size_append]; omega
            generalize hS : varT ps[k].size ++ ps[k] = S at *
            have HS := Lib.hid hS
            clear hS
            go_wp2_with (at_builtin; refine Lib.wpList_append_own_string _ rfl (.tmp 29) (.tmp 31) 22 9 rfl w.heap.size 5 i0 Tryz.underlying22 Tryz.underlying9 hi hz0 (by assumption) (by assumption) _ _ _ rfl hown S rfl ?c3 ?c4 ?c5 ?_)
            case c3 => unfold maxLen; omega
            case c4 => omega
            case c5 => omega
            intro v' w2 hown' hgrow _
            have hx2 : Ext w w2 := own_ext_of (hx.trans x1) hown hgrow (Nat.le_refl _)
            obtain ⟨a', c', rfl⟩ := own_any hown'
            have HO2 := Lib.hid hown'
            clear hown' hgrow hown
            go_wp2
            go_roundw
            case rel =>
              refine ⟨k + 1, by omega, by go_num, HM.out, ?_, hx2⟩
              rw [HU.out, strCells_append, ByteArray.size_append]
              exact HO2.out
            case measure => simp [intOf]; omega
          · have hqi : (200 : Int) < ps[k].size := by omega
            have hf := tag_long (kind := kind) hlt hq
            have HF := Lib.hid hf
            have HT := Lib.hid (tag_no kind ps hf)
            clear hf hq
            go_wp2
            go_ret2
            exact ⟨ret_sb HT.out.symm HF.out.symm, (by repeat (first | (with_reducible first | exact Ext.refl _ | assumption | apply Ext.alloc | apply Ext.drew | apply Ext.drewN | refine Ext.setCell ?_ ?_ _ | refine Ext.trans ?_ (by assumption)) | (show _ ≤ _; first | omega | (dsimp only; omega) | (simp; done) | (simp; omega))))⟩
        · have hkn : k = ps.length := by omega
          subst hkn
          have hall := HA.out
          rw [List.take_length] at hall
          have hf := tag_yes HI.out hlen hall
          have HF := Lib.hid hf
          have HT := Lib.hid (show tagTx kind ps = tagUpto kind ps ps.length by simp [tagTx, hf])
          have hcv := conv_str hown
          clear g1 hs hall hf hown
          go_wp2
          go_ret2
          exact ⟨ret_sb HT.out.symm HF.out.symm, hx⟩
    · have hli : (60 : Int) < ps.length := by omega
      have hf : tagWell kind ps = false := by simp [tagWell, hlen]
      have HF := Lib.hid hf
      have HT := Lib.hid (tag_no kind ps hf)
      have HI := Lib.hid hin
      clear hf hin
      go_enter Tryz.func97, Tryz.ntmps97
      go_wp2_with (go_at_call 53; refine (impl_in _ _ _ _).mono ?_; rw [HI.out]; rintro e w' ⟨rfl, rfl⟩)
      go_ret2
      exact ⟨ret_sb HT.out.symm HF.out.symm, (by repeat (first | (with_reducible first | exact Ext.refl _ | assumption | apply Ext.alloc | apply Ext.drew | apply Ext.drewN | refine Ext.setCell ?_ ?_ _ | refine Ext.trans ?_ (by assumption)) | (show _ ≤ _; first | omega | (dsimp only; omega) | (simp; done) | (simp; omega))))⟩
  · have hin' : inB kind 1 8 = false := by simpa using hin
    have hf : tagWell kind ps = false := by simp [tagWell, hin']
    have HF := Lib.hid hf
    have HT := Lib.hid (tag_no kind ps hf)
    have HI := Lib.hid hin'
    clear hf hin hin'
    go_enter Tryz.func97, Tryz.ntmps97
    go_wp2_with (go_at_call 53; refine (impl_in _ _ _ _).mono ?_; rw [HI.out]; rintro e w' ⟨rfl, rfl⟩)
    go_ret2
    exact ⟨ret_sb HT.out.symm HF.out.symm, (by repeat (first | (with_reducible first | exact Ext.refl _ | assumption | apply Ext.alloc | apply Ext.drew | apply Ext.drewN | refine Ext.setCell ?_ ?_ _ | refine Ext.trans ?_ (by assumption)) | (show _ ≤ _; first | omega | (dsimp only; omega) | (simp; done) | (simp; omega))))⟩

set_option maxRecDepth 100000 in
set_option maxHeartbeats 800000 in
theorem spec_TagText (kind : Int) (v : Value) (ps : List ByteArray) (w : World) (h : Strs w v ps) (hs : ∀ s ∈ ps, s.size ≤ maxLen) :
    Calls Tryz.prog 87 #[.int .i64 kind, v] w fun e w' => e = .returned (.tuple #[.string (tagTx kind ps), .bool (tagWell kind ps)]) ∧ Ext w w' := by
  obtain ⟨-, a1, c1, rfl, hc1, hm1, g1⟩ := h
  unfold maxLen at hm1 hs
  by_cases hin : inB kind 1 8 = true
  · by_cases hlen : ps.length ≤ 60
    · have hb := inB_true.1 hin
      have hli : ¬ ((60 : Int) < ps.length) := by omega
      have HI := Lib.hid hin
      have hcv := conv_lit1
      have e1 : kind % 256 = kind := by omega
      clear hin
      go_enter Tryz.func87, Tryz.ntmps87
      go_wp2_with (go_at_call 22; refine (spec_l01In _ _ _ _).mono ?_; rw [HI.out]; rintro e w' ⟨rfl, rfl⟩)
      clear hcv
      go_loopw [6, 7] (fun s i wr => ∃ k : Nat, k ≤ ps.length ∧ i = .int .i64 k ∧ (∀ p ∈ ps.take k, p.size ≤ 200) ∧ s = .string (tagUpto kind ps k) ∧ Ext w wr) (fun _ i _ => ps.length - (intOf i).toNat)
      case atStart => exact ⟨0, Nat.zero_le _, rfl, by simp, by simp [tagUpto], (by repeat (first | (with_reducible first | exact Ext.refl _ | assumption | apply Ext.alloc | apply Ext.drew | apply Ext.drewN | refine Ext.setCell ?_ ?_ _ | refine Ext.trans ?_ (by assumption)) | (show _ ≤ _; first | omega | (dsimp only; omega) | (simp; done) | (simp; omega))))⟩
      case round =>
        obtain ⟨k, hk, rfl, hall, rfl, hx⟩ := hrel
        have HA := Lib.hid hall
        have hsz := hx.size
        have z0 := tagUpto_size kind ps k hk hall
        clear hall
        by_cases hlt : k < ps.length
        · rcases g1 with g1 | ⟨b1, o1, rfl, hb1, g1⟩
          · omega
          have e1 : wr.cell? ⟨b1, o1 + k, none⟩ = some (.string ps[k]) := (hx.cell b1 _ hb1).trans (g1 k _ (by simp [hlt]))
          have l1 : b1 < wr.heap.size := Nat.lt_of_lt_of_le hb1 hx.size
          have hsk := hs ps[k] (List.getElem_mem hlt)
          clear g1 hs
          by_cases hq : ps[k].size ≤ 200
          · have hqi : ¬ ((200 : Int) < ps[k].size) := by omega
            have z1 := varT_size ps[k].size
            have HU := Lib.hid (tagUpto_succ kind ps k hlt)
            have HM := Lib.hid (short_succ hlt HA.out hq)
            have a1 : ¬ (9223372036854775807 < (tagUpto kind ps k).size + (varT ps[k].size).size) := by omega
            have a2 : ¬ (9223372036854775807 < (tagUpto kind ps k).size + (varT ps[k].size).size + ps[k].size) := by omega
            clear z0 z1
            go_wp2_with fail
            go_region_held3 (fun W => W.cell? ⟨b1, o1 + k, none⟩ = some (.string ps[k])) (first | exact e1 | exact (ya.cell _ _ l1).trans e1) ((go_at_call 73; refine (spec_l01Var ps[k].size _ (by omega)).mono ?_; rintro e wa ⟨rfl, xa⟩; have ya : Ext wr wa := (by repeat (first | (with_reducible first | exact Ext.refl _ | assumption | apply Ext.alloc | apply Ext.drew | apply Ext.drewN | refine Ext.setCell ?_ ?_ _ | refine Ext.trans ?_ (by assumption)) | (show _ ≤ _; first | omega | (dsimp only; omega) | (simp; done) | (simp; omega))))))
            all_goals
              go_wp2
              go_roundw
              case rel => exact ⟨k + 1, by omega, by go_num, HM.out, by rw [HU.out, ByteArray.append_assoc], (by repeat (first | (with_reducible first | exact Ext.refl _ | assumption | apply Ext.alloc | apply Ext.drew | apply Ext.drewN | refine Ext.setCell ?_ ?_ _ | refine Ext.trans ?_ (by assumption)) | (show _ ≤ _; first | omega | (dsimp only; omega) | (simp; done) | (simp; omega))))⟩
              case measure => simp [intOf]; omega
          · have hqi : (200 : Int) < ps[k].size := by omega
            have hf := tag_long (kind := kind) hlt hq
            have HF := Lib.hid hf
            have HT := Lib.hid (tag_no kind ps hf)
            clear hf hq
            go_wp2
            go_ret2
            exact ⟨ret_sb HT.out.symm HF.out.symm, (by repeat (first | (with_reducible first | exact Ext.refl _ | assumption | apply Ext.alloc | apply Ext.drew | apply Ext.drewN | refine Ext.setCell ?_ ?_ _ | refine Ext.trans ?_ (by assumption)) | (show _ ≤ _; first | omega | (dsimp only; omega) | (simp; done) | (simp; omega))))⟩
        · have hkn : k = ps.length := by omega
          subst hkn
          have hall := HA.out
          rw [List.take_length] at hall
          have hf := tag_yes HI.out hlen hall
          have HF := Lib.hid hf
          have HT := Lib.hid (show tagTx kind ps = tagUpto kind ps ps.length by simp [tagTx, hf])
          clear g1 hs hall hf
          go_wp2
          go_ret2
          exact ⟨ret_sb HT.out.symm HF.out.symm, hx⟩
    · have hli : (60 : Int) < ps.length := by omega
      have hf : tagWell kind ps = false := by simp [tagWell, hlen]
      have HF := Lib.hid hf
      have HT := Lib.hid (tag_no kind ps hf)
      have HI := Lib.hid hin
      clear hf hin
      go_enter Tryz.func87, Tryz.ntmps87
      go_wp2_with (go_at_call 22; refine (spec_l01In _ _ _ _).mono ?_; rw [HI.out]; rintro e w' ⟨rfl, rfl⟩)
      go_ret2
      exact ⟨ret_sb HT.out.symm HF.out.symm, (by repeat (first | (with_reducible first | exact Ext.refl _ | assumption | apply Ext.alloc | apply Ext.drew | apply Ext.drewN | refine Ext.setCell ?_ ?_ _ | refine Ext.trans ?_ (by assumption)) | (show _ ≤ _; first | omega | (dsimp only; omega) | (simp; done) | (simp; omega))))⟩
  · have hin' : inB kind 1 8 = false := by simpa using hin
    have hf : tagWell kind ps = false := by simp [tagWell, hin']
    have HF := Lib.hid hf
    have HT := Lib.hid (tag_no kind ps hf)
    have HI := Lib.hid hin'
    clear hf hin hin'
    go_enter Tryz.func87, Tryz.ntmps87
    go_wp2_with (go_at_call 22; refine (spec_l01In _ _ _ _).mono ?_; rw [HI.out]; rintro e w' ⟨rfl, rfl⟩)
    go_ret2
    exact ⟨ret_sb HT.out.symm HF.out.symm, (by repeat (first | (with_reducible first | exact Ext.refl _ | assumption | apply Ext.alloc | apply Ext.drew | apply Ext.drewN | refine Ext.setCell ?_ ?_ _ | refine Ext.trans ?_ (by assumption)) | (show _ ≤ _; first | omega | (dsimp only; omega) | (simp; done) | (simp; omega))))⟩
end Go.Proofs.YtkphipgfcbckcaaGreatDoor
namespace Go.Proofs.YtkphipgfcbckcaaGreatDoor
open Go.RowKit

/-- a number's bytes -/
def varB (n : Nat) : List UInt8 := (varT n).data.toList
theorem varB_more {n : Nat} (h : 127 < n) : varB n = UInt8.ofNat (128 + n % 128) :: varB (n / 128) := by
  rw [varB, varT, ba_nums, varL_more h, List.map_cons, varB, varT, ba_nums]
  congr 2
theorem varB_last {n : Nat} (h : ¬ 127 < n) : varB n = [UInt8.ofNat n] := by
  rw [varB, varT, ba_nums, varL_last h]
  simp
theorem ofNat_inj {a b : Nat} (ha : a < 256) (hb : b < 256) (h : UInt8.ofNat a = UInt8.ofNat b) : a = b := by
  have := congrArg UInt8.toNat h
  simp at this
  omega
/-- a number ends where it ends -/
theorem var_inj (n : Nat) : ∀ (m : Nat) (x y : List UInt8), varB n ++ x = varB m ++ y → n = m ∧ x = y := by
  induction n using Nat.strongRecOn with
  | ind n ih =>
    intro m x y h
    by_cases hn : 127 < n
    · by_cases hm : 127 < m
      · rw [varB_more hn, varB_more hm, List.cons_append, List.cons_append, List.cons.injEq] at h
        have h1 := ofNat_inj (by omega) (by omega) h.1
        obtain ⟨h2, h3⟩ := ih (n / 128) (by omega) (m / 128) x y h.2
        exact ⟨by omega, h3⟩
      · rw [varB_more hn, varB_last hm, List.cons_append, List.cons_append, List.cons.injEq] at h
        have h1 := ofNat_inj (by omega) (by omega) h.1
        omega
    · by_cases hm : 127 < m
      · rw [varB_last hn, varB_more hm, List.cons_append, List.cons_append, List.cons.injEq] at h
        have h1 := ofNat_inj (by omega) (by omega) h.1
        omega
      · rw [varB_last hn, varB_last hm, List.cons_append, List.cons_append, List.cons.injEq] at h
        have h1 := ofNat_inj (by omega) (by omega) h.1
        exact ⟨h1, by simpa using h.2⟩
theorem varB_pos (n : Nat) : varB n ≠ [] := by
  by_cases hn : 127 < n
  · rw [varB_more hn]; simp
  · rw [varB_last hn]; simp
end Go.Proofs.YtkphipgfcbckcaaGreatDoor

namespace Go.Proofs.YtkphipgfcbckcaaGreatDoor
open Go.RowKit

theorem digT_size (t : ByteArray) : (digT t).size = 32 := by
  rw [digT, strOfNums_size]
  rfl
/-- the first wd bytes of the digest -/
def cutT (t : ByteArray) (wd : Int) : ByteArray := if inB wd 1 32 = true then (digT t).extract 0 wd.toNat else ⟨#[]⟩
theorem cutT_yes {t : ByteArray} {n : Nat} (h : inB (n : Int) 1 32 = true) : cutT t n = (digT t).extract 0 n := by
  rw [cutT, if_pos h]
  rfl
theorem cutT_no {t : ByteArray} {wd : Int} (h : inB wd 1 32 = false) : cutT t wd = ⟨#[]⟩ := by
  rw [cutT, if_neg (by rw [h]; decide)]
theorem cutT_size (t : ByteArray) (wd : Int) (h : inB wd 1 32 = true) : ((cutT t wd).size : Int) = wd := by
  have h1 := inB_true.1 h
  obtain ⟨n, rfl⟩ := Int.eq_ofNat_of_zero_le (show 0 ≤ wd by omega)
  rw [cutT_yes h, ByteArray.size_extract, digT_size]
  omega
theorem cutT_le (t : ByteArray) (wd : Int) : (cutT t wd).size ≤ 32 := by
  cases h : inB wd 1 32
  · rw [cutT_no h]; exact Nat.zero_le _
  · have h1 := inB_true.1 h
    have := cutT_size t wd h
    omega

set_option maxHeartbeats 400000 in
theorem impl_CutDigest (t : ByteArray) (wd : Int) (w : World) (ht : t.size ≤ 1073741824) (hT : Tabs w) :
    Calls Tryz.prog 82 #[.string t, .int .i64 wd] w fun e w' => e = .returned (.string (cutT t wd)) ∧ Ext w w' := by
  have HT := Lib.hid hT
  clear hT
  cases h : inB wd 1 32
  · have R := Lib.hid (cutT_no (t := t) h)
    have H := Lib.hid h
    clear h
    go_enter Tryz.func82, Tryz.ntmps82
    go_wp2_with (go_at_call 98; refine (impl_isWide _ _).mono ?_; rw [H.out]; rintro e w' ⟨rfl, rfl⟩)
    go_ret
    exact ⟨ret_str R.out.symm, (by repeat (first | (with_reducible first | exact Ext.refl _ | assumption | apply Ext.alloc | apply Ext.drew | apply Ext.drewN | refine Ext.setCell ?_ ?_ _ | refine Ext.trans ?_ (by assumption)) | (show _ ≤ _; first | omega | (dsimp only; omega) | (simp; done) | (simp; omega))))⟩
  · have h1 := inB_true.1 h
    obtain ⟨n, rfl⟩ := Int.eq_ofNat_of_zero_le (show 0 ≤ wd by omega)
    have R := Lib.hid (cutT_yes (t := t) h)
    have H := Lib.hid h
    have hz : (n : Int) ≤ (digT t).size := by rw [digT_size]; omega
    have hz0 : (0 : Int) ≤ (n : Int) := by omega
    have hn : n ≤ (digT t).size := by omega
    clear h h1
    go_enter Tryz.func82, Tryz.ntmps82
    go_wp2_with (first | (go_at_call 98; refine (impl_isWide _ _).mono ?_; rw [H.out]; rintro e w' ⟨rfl, rfl⟩) | (go_at_call 99; refine (impl_Digest t _ ht (by exact HT.out)).mono ?_; rintro e w1 ⟨rfl, x1⟩))
    go_ret
    exact ⟨ret_str R.out.symm, (by repeat (first | (with_reducible first | exact Ext.refl _ | assumption | apply Ext.alloc | apply Ext.drew | apply Ext.drewN | refine Ext.setCell ?_ ?_ _ | refine Ext.trans ?_ (by assumption)) | (show _ ≤ _; first | omega | (dsimp only; omega) | (simp; done) | (simp; omega))))⟩
set_option maxHeartbeats 400000 in
theorem spec_CutDigest (t : ByteArray) (wd : Int) (w : World) (ht : t.size ≤ 1073741824) :
    Calls Tryz.prog 85 #[.string t, .int .i64 wd] w fun e w' => e = .returned (.string (cutT t wd)) ∧ Ext w w' := by
  cases h : inB wd 1 32
  · have R := Lib.hid (cutT_no (t := t) h)
    have H := Lib.hid h
    clear h
    go_enter Tryz.func85, Tryz.ntmps85
    go_wp2_with (go_at_call 22; refine (spec_l01In _ _ _ _).mono ?_; rw [H.out]; rintro e w' ⟨rfl, rfl⟩)
    go_ret
    exact ⟨ret_str R.out.symm, (by repeat (first | (with_reducible first | exact Ext.refl _ | assumption | apply Ext.alloc | apply Ext.drew | apply Ext.drewN | refine Ext.setCell ?_ ?_ _ | refine Ext.trans ?_ (by assumption)) | (show _ ≤ _; first | omega | (dsimp only; omega) | (simp; done) | (simp; omega))))⟩
  · have h1 := inB_true.1 h
    obtain ⟨n, rfl⟩ := Int.eq_ofNat_of_zero_le (show 0 ≤ wd by omega)
    have R := Lib.hid (cutT_yes (t := t) h)
    have H := Lib.hid h
    have hz : (n : Int) ≤ (digT t).size := by rw [digT_size]; omega
    have hz0 : (0 : Int) ≤ (n : Int) := by omega
    have hn : n ≤ (digT t).size := by omega
    clear h h1
    go_enter Tryz.func85, Tryz.ntmps85
    go_wp2_with (first | (go_at_call 22; refine (spec_l01In _ _ _ _).mono ?_; rw [H.out]; rintro e w' ⟨rfl, rfl⟩) | (go_at_call 102; refine (spec_Digest t _ ht).mono ?_; rintro e w1 ⟨rfl, x1⟩))
    go_ret
    exact ⟨ret_str R.out.symm, (by repeat (first | (with_reducible first | exact Ext.refl _ | assumption | apply Ext.alloc | apply Ext.drew | apply Ext.drewN | refine Ext.setCell ?_ ?_ _ | refine Ext.trans ?_ (by assumption)) | (show _ ≤ _; first | omega | (dsimp only; omega) | (simp; done) | (simp; omega))))⟩

/-- a tagged hash -/
def tagH (kind : Int) (ps : List ByteArray) (wd : Int) : ByteArray := if tagWell kind ps = true then cutT (tagTx kind ps) wd else ⟨#[]⟩
theorem tagTx_size (kind : Int) (ps : List ByteArray) : (tagTx kind ps).size ≤ 1073741824 := by
  cases h : tagWell kind ps
  · rw [tag_no kind ps h]; exact Nat.zero_le _
  · have h2 := h
    simp only [tagWell, Bool.and_eq_true, decide_eq_true_eq, List.all_eq_true] at h2
    have := tagUpto_size kind ps ps.length (Nat.le_refl _) (fun p hp => h2.2.2 p (by rwa [List.take_length] at hp))
    rw [tagTx, if_pos h]
    omega
theorem tagH_le (kind : Int) (ps : List ByteArray) (wd : Int) : (tagH kind ps wd).size ≤ 32 := by
  unfold tagH
  split
  · exact cutT_le _ _
  · exact Nat.zero_le _

set_option maxHeartbeats 400000 in
theorem impl_TagHash (kind : Int) (v : Value) (ps : List ByteArray) (wd : Int) (w : World) (h : Strs w v ps) (hs : ∀ s ∈ ps, s.size ≤ maxLen) (hT : Tabs w) :
    Calls Tryz.prog 86 #[.int .i64 kind, v, .int .i64 wd] w fun e w' => e = .returned (.string (tagH kind ps wd)) ∧ Ext w w' := by
  have HT := Lib.hid hT
  have hz := tagTx_size kind ps
  clear hT
  cases hk : tagWell kind ps
  · have R := Lib.hid (show tagH kind ps wd = ⟨#[]⟩ by rw [tagH, if_neg (by rw [hk]; decide)])
    have H := Lib.hid hk
    clear hk
    go_enter Tryz.func86, Tryz.ntmps86
    go_wp2_with (go_at_call 97; refine (impl_TagText kind v ps _ (by exact h) hs).mono ?_; rw [H.out]; rintro e w1 ⟨rfl, x1⟩)
    go_ret
    exact ⟨ret_str R.out.symm, (by repeat (first | (with_reducible first | exact Ext.refl _ | assumption | apply Ext.alloc | apply Ext.drew | apply Ext.drewN | refine Ext.setCell ?_ ?_ _ | refine Ext.trans ?_ (by assumption)) | (show _ ≤ _; first | omega | (dsimp only; omega) | (simp; done) | (simp; omega))))⟩
  · have R := Lib.hid (show tagH kind ps wd = cutT (tagTx kind ps) wd by rw [tagH, if_pos hk])
    have H := Lib.hid hk
    clear hk
    go_enter Tryz.func86, Tryz.ntmps86
    go_wp2_with (first | (go_at_call 97; refine (impl_TagText kind v ps _ (by exact h) hs).mono ?_; rw [H.out]; rintro e w1 ⟨rfl, x1⟩) | (go_at_call 82; refine (impl_CutDigest (tagTx kind ps) wd _ hz (by exact HT.out.ext x1)).mono ?_; rintro e w2 ⟨rfl, x2⟩))
    go_ret
    exact ⟨ret_str R.out.symm, (by repeat (first | (with_reducible first | exact Ext.refl _ | assumption | apply Ext.alloc | apply Ext.drew | apply Ext.drewN | refine Ext.setCell ?_ ?_ _ | refine Ext.trans ?_ (by assumption)) | (show _ ≤ _; first | omega | (dsimp only; omega) | (simp; done) | (simp; omega))))⟩
set_option maxHeartbeats 400000 in
theorem spec_TagHash (kind : Int) (v : Value) (ps : List ByteArray) (wd : Int) (w : World) (h : Strs w v ps) (hs : ∀ s ∈ ps, s.size ≤ maxLen) :
    Calls Tryz.prog 68 #[.int .i64 kind, v, .int .i64 wd] w fun e w' => e = .returned (.string (tagH kind ps wd)) ∧ Ext w w' := by
  have hz := tagTx_size kind ps
  cases hk : tagWell kind ps
  · have R := Lib.hid (show tagH kind ps wd = ⟨#[]⟩ by rw [tagH, if_neg (by rw [hk]; decide)])
    have H := Lib.hid hk
    clear hk
    go_enter Tryz.func68, Tryz.ntmps68
    go_wp2_with (go_at_call 87; refine (spec_TagText kind v ps _ (by exact h) hs).mono ?_; rw [H.out]; rintro e w1 ⟨rfl, x1⟩)
    go_ret
    exact ⟨ret_str R.out.symm, (by repeat (first | (with_reducible first | exact Ext.refl _ | assumption | apply Ext.alloc | apply Ext.drew | apply Ext.drewN | refine Ext.setCell ?_ ?_ _ | refine Ext.trans ?_ (by assumption)) | (show _ ≤ _; first | omega | (dsimp only; omega) | (simp; done) | (simp; omega))))⟩
  · have R := Lib.hid (show tagH kind ps wd = cutT (tagTx kind ps) wd by rw [tagH, if_pos hk])
    have H := Lib.hid hk
    clear hk
    go_enter Tryz.func68, Tryz.ntmps68
    go_wp2_with (first | (go_at_call 87; refine (spec_TagText kind v ps _ (by exact h) hs).mono ?_; rw [H.out]; rintro e w1 ⟨rfl, x1⟩) | (go_at_call 85; refine (spec_CutDigest (tagTx kind ps) wd _ hz).mono ?_; rintro e w2 ⟨rfl, x2⟩))
    go_ret
    exact ⟨ret_str R.out.symm, (by repeat (first | (with_reducible first | exact Ext.refl _ | assumption | apply Ext.alloc | apply Ext.drew | apply Ext.drewN | refine Ext.setCell ?_ ?_ _ | refine Ext.trans ?_ (by assumption)) | (show _ ≤ _; first | omega | (dsimp only; omega) | (simp; done) | (simp; omega))))⟩
theorem impl_hashOf (kind : Int) (v : Value) (ps : List ByteArray) (wd : Int) (w : World) (h : Strs w v ps) (hs : ∀ s ∈ ps, s.size ≤ maxLen) (hT : Tabs w) :
    Calls Tryz.prog 61 #[.int .i64 kind, .int .i64 wd, v] w fun e w' => e = .returned (.string (tagH kind ps wd)) ∧ Ext w w' := by
  have HT := Lib.hid hT
  clear hT
  go_enter Tryz.func61, Tryz.ntmps61
  go_wp2_with (go_at_call 86; refine (impl_TagHash kind v ps wd _ (by exact h) hs (by exact HT.out)).mono ?_; rintro e w1 ⟨rfl, x1⟩)
  go_ret
  exact ⟨rfl, (by repeat (first | (with_reducible first | exact Ext.refl _ | assumption | apply Ext.alloc | apply Ext.drew | apply Ext.drewN | refine Ext.setCell ?_ ?_ _ | refine Ext.trans ?_ (by assumption)) | (show _ ≤ _; first | omega | (dsimp only; omega) | (simp; done) | (simp; omega))))⟩

/-- a bit of an index -/
def bitT (i l : Int) : Int := if inB l 0 7 = true then bits .and .i64 (i / 2 ^ (7 - l).toNat) 1 else 0
theorem bitT_yes {i l : Int} (h : inB l 0 7 = true) : bitT i l = bits .and .i64 (i / 2 ^ (7 - l).toNat) 1 := by rw [bitT, if_pos h]
theorem bitT_no {i l : Int} (h : inB l 0 7 = false) : bitT i l = 0 := by rw [bitT, if_neg (by rw [h]; decide)]
theorem impl_BitOf (i l : Int) (w : World) :
    Calls Tryz.prog 56 #[.int .i64 i, .int .i64 l] w fun e w' => e = .returned (.int .i64 (bitT i l)) ∧ w = w' := by
  cases h : inB l 0 7
  · have R := Lib.hid (bitT_no (i := i) h)
    have H := Lib.hid h
    clear h
    go_enter Tryz.func56, Tryz.ntmps56
    go_wp2_with (go_at_call 53; refine (impl_in _ _ _ _).mono ?_; rw [H.out]; rintro e w' ⟨rfl, rfl⟩)
    go_ret
    exact ⟨ret_int R.out.symm, rfl⟩
  · have R := Lib.hid (bitT_yes (i := i) h)
    have h1 := inB_true.1 h
    obtain ⟨h2, h3⟩ := h1
    have H := Lib.hid h
    clear h
    go_enter Tryz.func56, Tryz.ntmps56
    go_wp2_with (go_at_call 53; refine (impl_in _ _ _ _).mono ?_; rw [H.out]; rintro e w' ⟨rfl, rfl⟩)
    go_ret
    exact ⟨ret_int R.out.symm, rfl⟩
theorem spec_BitOf (i l : Int) (w : World) :
    Calls Tryz.prog 63 #[.int .i64 i, .int .i64 l] w fun e w' => e = .returned (.int .i64 (bitT i l)) ∧ w = w' := by
  cases h : inB l 0 7
  · have R := Lib.hid (bitT_no (i := i) h)
    have H := Lib.hid h
    clear h
    go_enter Tryz.func63, Tryz.ntmps63
    go_wp2_with (go_at_call 22; refine (spec_l01In _ _ _ _).mono ?_; rw [H.out]; rintro e w' ⟨rfl, rfl⟩)
    go_ret
    exact ⟨ret_int R.out.symm, rfl⟩
  · have R := Lib.hid (bitT_yes (i := i) h)
    have h1 := inB_true.1 h
    obtain ⟨h2, h3⟩ := h1
    have H := Lib.hid h
    clear h
    go_enter Tryz.func63, Tryz.ntmps63
    go_wp2_with (go_at_call 22; refine (spec_l01In _ _ _ _).mono ?_; rw [H.out]; rintro e w' ⟨rfl, rfl⟩)
    go_ret
    exact ⟨ret_int R.out.symm, rfl⟩
end Go.Proofs.YtkphipgfcbckcaaGreatDoor
namespace Go.Proofs.YtkphipgfcbckcaaGreatDoor
open Go.RowKit

end Go.Proofs.YtkphipgfcbckcaaGreatDoor
namespace Go.Proofs.YtkphipgfcbckcaaGreatDoor
open Go.RowKit

end Go.Proofs.YtkphipgfcbckcaaGreatDoor
namespace Go.Proofs.YtkphipgfcbckcaaGreatDoor
open Go.RowKit

theorem cell_newp {w : World} {b o : Nat} {v : Value} {t : TypeId} {xs : Array Value} (h : w.cell? ⟨b, o, none⟩ = some v) (hb : b < w.heap.size) : (w.drew.alloc (.cells xs t)).cell? ⟨b, o, none⟩ = some v :=
  (World.cell?_alloc_past (w := w.drew) _ b o hb).trans h
/-- the hash of the pair at a place -/
def pairH (xs : List ByteArray) (wd : Int) (i : Nat) : ByteArray := tagH 3 [xs.getD (2 * i) ⟨#[]⟩, xs.getD (2 * i + 1) ⟨#[]⟩] wd
def upK (xs : List ByteArray) (wd : Int) (k : Nat) : List ByteArray := (List.range k).map (pairH xs wd)
/-- one level up -/
def upL (xs : List ByteArray) (wd : Int) : List ByteArray := upK xs wd (xs.length / 2)
theorem upK_length (xs : List ByteArray) (wd : Int) (k : Nat) : (upK xs wd k).length = k := by simp [upK]
theorem upL_length (xs : List ByteArray) (wd : Int) : (upL xs wd).length = xs.length / 2 := upK_length _ _ _
theorem ba_getD (xs : List ByteArray) (i : Nat) (h : i < xs.length) (d : ByteArray) : xs.getD i d = xs[i] := by simp [List.getD, h]
theorem upK_succ (xs : List ByteArray) (wd : Int) (k m : Nat) (hm : m = 2 * k) (h : m + 1 < xs.length) : upK xs wd (k + 1) = upK xs wd k ++ [tagH 3 [xs[m], xs[m + 1]] wd] := by
  subst hm
  unfold upK
  rw [List.range_succ, List.map_append]
  simp only [List.map_cons, List.map_nil, pairH]
  rw [ba_getD _ _ (by omega), ba_getD _ _ h]
theorem upK_fit (xs : List ByteArray) (wd : Int) (k : Nat) : ∀ s ∈ upK xs wd k, s.size ≤ 32 := by
  intro s hs
  unfold upK at hs
  rw [List.mem_map] at hs
  obtain ⟨i, -, rfl⟩ := hs
  exact tagH_le _ _ _
def topT (wd : Int) : Nat → List ByteArray → ByteArray
  | 0, xs => xs.getD 0 ⟨#[]⟩
  | n + 1, xs => topT wd n (upL xs wd)
def lenOf : Value → Nat
  | .slice _ n _ => n
  | _ => 0

end Go.Proofs.YtkphipgfcbckcaaGreatDoor

namespace Go.Proofs.YtkphipgfcbckcaaGreatDoor
open Go.RowKit

def sigT (s : SigV) : ByteArray := strOfNums [s.at_] ++ joinT s.op ++ joinT s.sh ++ joinT s.si
def sigTx (s : SigV) : ByteArray := if sigWell s = true then sigT s else ⟨#[]⟩
theorem wide_16 {xs : List ByteArray} (h1 : xs.length ≤ 1000) (h : wide xs 16 = true) : StrSmall xs := by
  refine ⟨h1, fun s hs => ?_⟩
  rw [wide, List.all_eq_true] at h
  have := of_decide_eq_true (h s hs)
  omega
theorem sigWell_true {s : SigV} (h : sigWell s = true) : (0 ≤ s.at_ ∧ s.at_ ≤ 15) ∧ (s.op.length = 8 ∧ StrSmall s.op) ∧ (s.sh.length = 8 ∧ StrSmall s.sh) ∧ (s.si.length = 4 ∧ StrSmall s.si) := by
  simp only [sigWell, Bool.and_eq_true, decide_eq_true_eq, inB_true] at h
  obtain ⟨h0, ⟨a1, a2⟩, ⟨b1, b2⟩, c1, c2⟩ := h
  exact ⟨h0, ⟨by omega, wide_16 (by omega) a1⟩, ⟨by omega, wide_16 (by omega) b1⟩, by omega, wide_16 (by omega) c1⟩
theorem joinT_size {xs : List ByteArray} (hs : StrSmall xs) : (joinT xs).size ≤ 200000 := by
  have h1 := joinOn_size ⟨#[]⟩ hs xs.length (Nat.le_refl _)
  have h2 := hs.1
  rw [ba_empty_size] at h1
  unfold joinT
  omega

theorem conv_one (x : Int) (W : World) (B : Nat) (h : W.cell? ⟨B, 0, none⟩ = some (.int .u8 x)) :
    (convert 22 9 (.slice (some ⟨B, 0, none⟩) 1 1)).run Tryz.prog W = .ok (.string (strOfNums [x])) W := by
  refine run_convert_bytes_arg W 22 5 Tryz.underlying22 Tryz.underlying5 B 0 1 1 [x] rfl (fun i hi => ?_) _ Tryz.underlying9
  obtain rfl : i = 0 := by omega
  simpa using h
end Go.Proofs.YtkphipgfcbckcaaGreatDoor

namespace Go.Proofs.YtkphipgfcbckcaaGreatDoor
open Go.RowKit

/-- block b is a reader's: its text, its place, whether it is bad -/
structure Fld (w : World) (b : Nat) (t : ByteArray) (at_ : Int) (bad : Bool) : Prop where
  c0 : w.cell? ⟨b, 0, none⟩ = some (.string t)
  c1 : w.cell? ⟨b, 1, none⟩ = some (.int .i64 at_)
  c2 : w.cell? ⟨b, 2, none⟩ = some (.bool bad)
  fz : ∀ o, w.frozen? ⟨b, o, none⟩ = false

/-- only block b may have changed -/
def Mut (b : Nat) (w w' : World) : Prop := w.grownBy w' (some b)
theorem Mut.refl (b : Nat) (w : World) : Mut b w w := ⟨rfl, rfl, rfl, Nat.le_refl _, fun _ _ _ => rfl⟩
theorem Mut.size {b : Nat} {w w' : World} (h : Mut b w w') : w.heap.size ≤ w'.heap.size := World.grownBy.size h
theorem Mut.cell {b : Nat} {w w' : World} (h : Mut b w w') : ∀ k o, k < w.heap.size → k ≠ b → w'.cell? ⟨k, o, none⟩ = w.cell? ⟨k, o, none⟩ := fun k o hk hb => World.cell?_of_block (w := w) (a := ⟨k, o, none⟩) (h.block k hk (by simpa using hb))
theorem Mut.frozen {b : Nat} {w w' : World} (h : Mut b w w') : ∀ k o, k < w.heap.size → k ≠ b → w'.frozen? ⟨k, o, none⟩ = w.frozen? ⟨k, o, none⟩ := fun k o hk hb => World.frozen?_of_block (w := w) (a := ⟨k, o, none⟩) (h.block k hk (by simpa using hb))
theorem Ext.mut {a b c : World} {k : Nat} (h : Ext a b) (hm : Mut k b c) (hk : a.heap.size ≤ k) : Ext a c := h.grown hm (fun _ e => by cases e; exact hk)
theorem Mut.of_ext {b : Nat} {w w' : World} (h : Ext w w') : Mut b w w' := ⟨h.os, h.tape, h.output, h.size, fun k hk _ => h.block k hk⟩
theorem Mut.trans {b : Nat} {w w' w'' : World} (h : Mut b w w') (k : Mut b w' w'') : Mut b w w'' :=
  ⟨k.os.trans h.os, k.tape.trans h.tape, k.output.trans h.output, Nat.le_trans h.size k.size, fun i hi hb => (k.block i (Nat.lt_of_lt_of_le hi h.size) hb).trans (h.block i hi hb)⟩
theorem Mut.setCell {b : Nat} {w w' : World} (h : Mut b w w') (o : Nat) (u : Value) : Mut b w (w'.setCell ⟨b, o, none⟩ u) :=
  h.trans ⟨rfl, rfl, rfl, by simp [World.setCell], fun k _ hb => Below.heap_setCell _ _ _ _ (by simpa using hb)⟩
theorem Mut.drewN {b : Nat} {w w' : World} (h : Mut b w w') (n : Nat) : Mut b w (w'.drewN n) := ⟨h.os, h.tape, h.output, h.size, h.block⟩
theorem Mut.drew {b : Nat} {w w' : World} (h : Mut b w w') : Mut b w w'.drew := ⟨h.os, h.tape, h.output, h.size, h.block⟩
theorem Mut.alloc {b : Nat} {w w' : World} (h : Mut b w w') (o : Obj) : Mut b w (w'.alloc o) := h.trans (Mut.of_ext ((Ext.refl _).alloc o))

theorem cell_set_off {w : World} {b o o' : Nat} {u : Value} (h : o ≠ o') : (w.setCell ⟨b, o, none⟩ u).cell? ⟨b, o', none⟩ = w.cell? ⟨b, o', none⟩ := by
  apply World.cell?_setCell_other
  intro e
  exact h (congrArg Addr.off e)
theorem Fld.drewN {w : World} {b : Nat} {t : ByteArray} {a : Int} {x : Bool} (h : Fld w b t a x) (n : Nat) : Fld (w.drewN n) b t a x := ⟨h.c0, h.c1, h.c2, h.fz⟩
theorem Fld.drew {w : World} {b : Nat} {t : ByteArray} {a : Int} {x : Bool} (h : Fld w b t a x) : Fld w.drew b t a x := ⟨h.c0, h.c1, h.c2, h.fz⟩
theorem Fld.at {w : World} {b : Nat} {t : ByteArray} {a : Int} {x : Bool} (h : Fld w b t a x) (a' : Int) : Fld (w.setCell ⟨b, 1, none⟩ (.int .i64 a')) b t a' x :=
  ⟨(cell_set_off (by decide)).trans h.c0, World.cell?_setCell_same _ _ _ h.c1, (cell_set_off (by decide)).trans h.c2, fun o => by rw [World.frozen?_setCell]; exact h.fz o⟩
theorem Fld.bad {w : World} {b : Nat} {t : ByteArray} {a : Int} {x : Bool} (h : Fld w b t a x) (x' : Bool) : Fld (w.setCell ⟨b, 2, none⟩ (.bool x')) b t a x' :=
  ⟨(cell_set_off (by decide)).trans h.c0, (cell_set_off (by decide)).trans h.c1, World.cell?_setCell_same _ _ _ h.c2, fun o => by rw [World.frozen?_setCell]; exact h.fz o⟩
/-- what 'bytes(n)' hands back, and what it leaves: the place, whether it is bad -/
def bytesOf (t : ByteArray) (at_ : Int) (bad : Bool) (n : Int) : ByteArray := if bad = true ∨ n > t.size - at_ then ⟨#[]⟩ else t.extract at_.toNat (at_ + n).toNat
def bytesAt (t : ByteArray) (at_ : Int) (bad : Bool) (n : Int) : Int := if bad = true ∨ n > t.size - at_ then at_ else at_ + n
def bytesBad (t : ByteArray) (at_ : Int) (bad : Bool) (n : Int) : Bool := if bad = true ∨ n > t.size - at_ then true else false

theorem bytes_bad (t : ByteArray) (a n : Int) : bytesBad t a true n = true ∧ bytesAt t a true n = a ∧ bytesOf t a true n = ⟨#[]⟩ := by simp [bytesBad, bytesAt, bytesOf]
theorem bytes_yes {t : ByteArray} {a n : Int} (h : n ≤ t.size - a) : bytesBad t a false n = false ∧ bytesAt t a false n = a + n ∧ bytesOf t a false n = t.extract a.toNat (a + n).toNat := by
  have hc : ¬ (false = true ∨ n > t.size - a) := by simp; omega
  simp only [bytesBad, bytesAt, bytesOf, if_neg hc, and_self]
theorem bytes_no {t : ByteArray} {a n : Int} (h : n > t.size - a) : bytesBad t a false n = true ∧ bytesAt t a false n = a ∧ bytesOf t a false n = ⟨#[]⟩ := by
  have hc : (false = true ∨ n > t.size - a) := Or.inr h
  simp only [bytesBad, bytesAt, bytesOf, if_pos hc, and_self]
theorem bytesAt_bd {t : ByteArray} {a n : Int} {x : Bool} (ha : 0 ≤ a ∧ a ≤ t.size) (hn : 0 ≤ n) : 0 ≤ bytesAt t a x n ∧ bytesAt t a x n ≤ t.size := by
  unfold bytesAt; split <;> omega

set_option maxHeartbeats 800000 in
theorem impl_fields_bytes (b : Nat) (t : ByteArray) (at_ : Int) (bad : Bool) (n : Int) (w : World) (h : Fld w b t at_ bad) (ha : 0 ≤ at_ ∧ at_ ≤ t.size) (hn : 0 ≤ n ∧ n ≤ 1048576) (hs : t.size ≤ 1099511627776) :
    Calls Tryz.prog 91 #[.pointer (some ⟨b, 0, none⟩), .int .i64 n] w fun e w' => e = .returned (.string (bytesOf t at_ bad n)) ∧ Mut b w w' ∧ Fld w' b t (bytesAt t at_ bad n) (bytesBad t at_ bad n) := by
  have F := h
  obtain ⟨h0, h1, h2, hf⟩ := h
  have hn0 : decide (n < 0) = false := by simp; omega
  obtain ⟨hn1, hn2⟩ := hn
  obtain ⟨ha1, ha2⟩ := ha
  have HF := Lib.hid F
  clear F
  cases bad
  · by_cases hc : n > t.size - at_
    · have HC := Lib.hid hc
      go_enter Tryz.func91, Tryz.ntmps91
      go_wp2
      go_quiet (fail)
      go_wp2
      go_ret
      exact ⟨by simp [bytesOf, HC.out], ((Mut.refl b w).drewN _).setCell _ _, by simpa [bytesAt, bytesBad, HC.out] using (HF.out.drewN _).bad true⟩
    · have HC := Lib.hid hc
      have hcb : decide ((t.size : Int) - at_ < n) = false := by simp; omega
      go_enter Tryz.func91, Tryz.ntmps91
      go_wp2
      go_quiet (fail)
      go_wp2
      go_quiet (fail)
      go_wp2
      go_ret
      have hc' : ¬ (false = true ∨ n > t.size - at_) := by have := HC.out; simp; omega
      exact ⟨ret_str (by simp only [bytesOf]; rw [if_neg hc']), (((Mut.refl b w).drewN _).setCell _ _).drewN _, by simp only [bytesAt, bytesBad]; rw [if_neg hc', if_neg hc']; exact ((HF.out.drewN _).at (at_ + n)).drewN _⟩
  · go_enter Tryz.func91, Tryz.ntmps91
    go_wp2
    go_quiet (fail)
    go_wp2
    go_ret
    exact ⟨by simp [bytesOf], ((Mut.refl b w).drewN _).setCell _ _, by simpa [bytesAt, bytesBad] using (HF.out.drewN _).bad true⟩

def oneOf (t : ByteArray) (at_ : Int) (bad : Bool) : Int := if h : bad = false ∧ 0 ≤ at_ ∧ at_.toNat < t.size then (t[at_.toNat]'h.2.2).toNat else 0

set_option maxHeartbeats 800000 in
theorem impl_fields_one (b : Nat) (t : ByteArray) (at_ : Int) (bad : Bool) (w : World) (h : Fld w b t at_ bad) (ha : 0 ≤ at_ ∧ at_ ≤ t.size) (hs : t.size ≤ 1099511627776) :
    Calls Tryz.prog 90 #[.pointer (some ⟨b, 0, none⟩)] w fun e w' => e = .returned (.int .i64 (oneOf t at_ bad)) ∧ Mut b w w' ∧ Fld w' b t (bytesAt t at_ bad 1) (bytesBad t at_ bad 1) := by
  obtain ⟨ha1, ha2⟩ := ha
  by_cases hc : bad = true ∨ (1 : Int) > t.size - at_
  · have hb : bytesOf t at_ bad 1 = ⟨#[]⟩ := by simp only [bytesOf]; rw [if_pos hc]
    have HB := Lib.hid hb
    clear hb
    go_enter Tryz.func90, Tryz.ntmps90
    go_wp2_with (go_at_call 91; refine (impl_fields_bytes _ _ _ _ _ _ h ⟨ha1, ha2⟩ (by omega) hs).mono ?_; rw [HB.out]; rintro e w1 ⟨rfl, m1, f1⟩)
    go_ret
    exact ⟨ret_int (by simp only [oneOf]; rw [dif_neg (by rcases hc with rfl | hc <;> first | (simp; done) | omega)]), m1, f1⟩
  · have hb : bytesOf t at_ bad 1 = t.extract at_.toNat (at_.toNat + 1) := by simp only [bytesOf]; rw [if_neg hc]; congr 1; omega
    have hlt : at_.toNat < t.size := by simp at hc; omega
    have hsz : (t.extract at_.toNat (at_.toNat + 1)).size = 1 := by rw [ByteArray.size_extract]; omega
    have hget : ∀ h0, ((t.extract at_.toNat (at_.toNat + 1))[0]'h0) = t[at_.toNat] := by
      intro h0
      rw [ByteArray.getElem_extract]
      simp
    have hbad : bad = false := by simpa using fun h => hc (Or.inl h)
    generalize t.extract at_.toNat (at_.toNat + 1) = x at *
    have HB := Lib.hid hb
    have HC := Lib.hid hc
    have HG := Lib.hid hget
    have h1 : x.toList.isEmpty = false := by rw [toList_empty]; exact decide_eq_false (by omega)
    have h2 : (x.toList == []) = false := by simpa using h1
    clear hb hc hget
    go_enter Tryz.func90, Tryz.ntmps90
    go_wp2_with (go_at_call 91; refine (impl_fields_bytes _ _ _ _ _ _ h ⟨ha1, ha2⟩ (by omega) hs).mono ?_; rw [HB.out]; rintro e w1 ⟨rfl, m1, f1⟩)
    go_ret
    exact ⟨ret_int (by rw [wrap64_byte, HG.out]; simp only [oneOf]; rw [dif_pos ⟨hbad, ha1, hlt⟩]), m1, f1⟩
end Go.Proofs.YtkphipgfcbckcaaGreatDoor

namespace Go.Proofs.YtkphipgfcbckcaaGreatDoor
open Go.RowKit

theorem headOk_true {h ep : Int} {r p : ByteArray} (hh : headOk h ep r p = true) : (0 ≤ h ∧ h ≤ 2) ∧ (1 ≤ ep ∧ ep ≤ 4) ∧ r.size = 16 ∧ p.size ≤ 16 ∧ ((ep = 1 ∧ p.size = 0) ∨ (ep ≠ 1 ∧ p.size = 16)) := by
  simp only [headOk, Bool.and_eq_true, inB_true, decide_eq_true_eq] at hh
  obtain ⟨h1, h2, h3, h4⟩ := hh
  refine ⟨h1, h2, h3, ?_⟩
  split at h4 <;> rename_i he <;> rw [decide_eq_true_eq] at h4
  · exact ⟨by omega, Or.inl ⟨he, h4⟩⟩
  · exact ⟨by omega, Or.inr ⟨he, h4⟩⟩
def headText (h ep : Int) (r p : ByteArray) : ByteArray := if headOk h ep r p then strOfNums [h, ep] ++ r ++ p else ⟨#[]⟩

set_option maxHeartbeats 400000 in
theorem impl_HeadText (h ep : Int) (r p : ByteArray) (w : World) :
    Calls Tryz.prog 60 #[.agg #[.int .i64 h, .int .i64 ep, .string r, .string p]] w fun e w' => e = .returned (.tuple #[.string (headText h ep r p), .bool (headOk h ep r p)]) ∧ Ext w w' := by
  cases hh : headOk h ep r p
  · have H := Lib.hid hh
    clear hh
    go_enter Tryz.func60, Tryz.ntmps60
    go_wp2_with (go_at_call 25; refine (impl_HeadOk _ _ _ _ _).mono ?_; rw [H.out]; rintro e w1 ⟨rfl, x1⟩; have E_x1 := Old.of x1; (repeat (first | (replace E_x1 := Old.undrew E_x1) | (replace E_x1 := Old.undrewN E_x1))); have c_E_x1 := Old.cell E_x1; have f_E_x1 := Old.frozen E_x1; have z_E_x1 := Old.size E_x1; try simp only [World.size_alloc] at c_E_x1 f_E_x1 z_E_x1; try have l_E_x1 := Nat.lt_of_succ_le z_E_x1; try have m_E_x1 := Nat.lt_of_succ_lt l_E_x1; try have n_E_x1 := Nat.lt_of_succ_lt m_E_x1)
    go_ret2
    exact ⟨by simp [headText, H.out], (by repeat (first | (with_reducible first | exact Ext.refl _ | assumption | apply Ext.alloc | apply Ext.drew | apply Ext.drewN | refine Ext.setCell ?_ ?_ _ | refine Ext.trans ?_ (by assumption)) | (show _ ≤ _; first | omega | (dsimp only; omega) | (simp; done) | (simp; omega))))⟩
  · obtain ⟨⟨a1, a2⟩, ⟨a3, a4⟩, a5, a6, -⟩ := headOk_true hh
    have H := Lib.hid hh
    have H5 := Lib.hid a5
    have a7 : r.size ≤ 16 := by omega
    clear hh a5
    have hcv := conv_lit2
    have e1 : h % 256 = h := by omega
    have e2 : ep % 256 = ep := by omega
    have hsz : (strOfNums [h, ep]).size = 2 := strOfNums_size _
    go_enter Tryz.func60, Tryz.ntmps60
    go_wp2_with (go_at_call 25; refine (impl_HeadOk _ _ _ _ _).mono ?_; rw [H.out]; rintro e w1 ⟨rfl, x1⟩; have E_x1 := Old.of x1; (repeat (first | (replace E_x1 := Old.undrew E_x1) | (replace E_x1 := Old.undrewN E_x1))); have c_E_x1 := Old.cell E_x1; have f_E_x1 := Old.frozen E_x1; have z_E_x1 := Old.size E_x1; try simp only [World.size_alloc] at c_E_x1 f_E_x1 z_E_x1; try have l_E_x1 := Nat.lt_of_succ_le z_E_x1; try have m_E_x1 := Nat.lt_of_succ_lt l_E_x1; try have n_E_x1 := Nat.lt_of_succ_lt m_E_x1)
    go_ret2
    exact ⟨by simp [headText, H.out], (by repeat (first | (with_reducible first | exact Ext.refl _ | assumption | apply Ext.alloc | apply Ext.drew | apply Ext.drewN | refine Ext.setCell ?_ ?_ _ | refine Ext.trans ?_ (by assumption)) | (show _ ≤ _; first | omega | (dsimp only; omega) | (simp; done) | (simp; omega))))⟩
end Go.Proofs.YtkphipgfcbckcaaGreatDoor
namespace Go.Proofs.YtkphipgfcbckcaaGreatDoor
open Go.RowKit

theorem spec_HeadText (h ep : Int) (r p : ByteArray) (w : World) :
    Calls Tryz.prog 67 #[.agg #[.int .i64 h, .int .i64 ep, .string r, .string p]] w fun e w' => e = .returned (.tuple #[.string (headText h ep r p), .bool (headOk h ep r p)]) ∧ Ext w w' := by
  cases hh : headOk h ep r p
  · have H := Lib.hid hh
    clear hh
    go_enter Tryz.func67, Tryz.ntmps67
    go_wp2_with (go_at_call 28; refine (spec_HeadOk _ _ _ _ _).mono ?_; rw [H.out]; rintro e w1 ⟨rfl, x1⟩; have E_x1 := Old.of x1; (repeat (first | (replace E_x1 := Old.undrew E_x1) | (replace E_x1 := Old.undrewN E_x1))); have c_E_x1 := Old.cell E_x1; have f_E_x1 := Old.frozen E_x1; have z_E_x1 := Old.size E_x1; try simp only [World.size_alloc] at c_E_x1 f_E_x1 z_E_x1; try have l_E_x1 := Nat.lt_of_succ_le z_E_x1; try have m_E_x1 := Nat.lt_of_succ_lt l_E_x1; try have n_E_x1 := Nat.lt_of_succ_lt m_E_x1)
    go_ret2
    exact ⟨by simp [headText, H.out], (by repeat (first | (with_reducible first | exact Ext.refl _ | assumption | apply Ext.alloc | apply Ext.drew | apply Ext.drewN | refine Ext.setCell ?_ ?_ _ | refine Ext.trans ?_ (by assumption)) | (show _ ≤ _; first | omega | (dsimp only; omega) | (simp; done) | (simp; omega))))⟩
  · obtain ⟨⟨a1, a2⟩, ⟨a3, a4⟩, a5, a6, -⟩ := headOk_true hh
    have H := Lib.hid hh
    have H5 := Lib.hid a5
    have a7 : r.size ≤ 16 := by omega
    clear hh a5
    have hcv := conv_lit2
    have e1 : h % 256 = h := by omega
    have e2 : ep % 256 = ep := by omega
    have hsz : (strOfNums [h, ep]).size = 2 := strOfNums_size _
    go_enter Tryz.func67, Tryz.ntmps67
    go_wp2_with (go_at_call 28; refine (spec_HeadOk _ _ _ _ _).mono ?_; rw [H.out]; rintro e w1 ⟨rfl, x1⟩; have E_x1 := Old.of x1; (repeat (first | (replace E_x1 := Old.undrew E_x1) | (replace E_x1 := Old.undrewN E_x1))); have c_E_x1 := Old.cell E_x1; have f_E_x1 := Old.frozen E_x1; have z_E_x1 := Old.size E_x1; try simp only [World.size_alloc] at c_E_x1 f_E_x1 z_E_x1; try have l_E_x1 := Nat.lt_of_succ_le z_E_x1; try have m_E_x1 := Nat.lt_of_succ_lt l_E_x1; try have n_E_x1 := Nat.lt_of_succ_lt m_E_x1)
    go_ret2
    exact ⟨by simp [headText, H.out], (by repeat (first | (with_reducible first | exact Ext.refl _ | assumption | apply Ext.alloc | apply Ext.drew | apply Ext.drewN | refine Ext.setCell ?_ ?_ _ | refine Ext.trans ?_ (by assumption)) | (show _ ≤ _; first | omega | (dsimp only; omega) | (simp; done) | (simp; omega))))⟩

/-- the head that a text of 18 bytes or more tells -/
def rdHouse (t : ByteArray) : Int := oneOf t 0 false
def rdEpoch (t : ByteArray) : Int := oneOf t 1 false
def rdRoot (t : ByteArray) : ByteArray := t.extract 2 18
def rdPrev (t : ByteArray) : ByteArray := t.extract 18 t.size
/-- is a text the text of a head? -/
def rdHead (t : ByteArray) : Bool := decide (18 ≤ t.size) && headOk (rdHouse t) (rdEpoch t) (rdRoot t) (rdPrev t)

def hdH (t : ByteArray) : Int := if rdHead t = true then rdHouse t else 0
def hdE (t : ByteArray) : Int := if rdHead t = true then rdEpoch t else 0
def hdR (t : ByteArray) : ByteArray := if rdHead t = true then rdRoot t else ⟨#[]⟩
def hdP (t : ByteArray) : ByteArray := if rdHead t = true then rdPrev t else ⟨#[]⟩
theorem hd_false {t : ByteArray} (h : rdHead t = false) : hdH t = 0 ∧ hdE t = 0 ∧ hdR t = ⟨#[]⟩ ∧ hdP t = ⟨#[]⟩ := by simp [hdH, hdE, hdR, hdP, h]
theorem hd_true {t : ByteArray} (h : rdHead t = true) : hdH t = rdHouse t ∧ hdE t = rdEpoch t ∧ hdR t = rdRoot t ∧ hdP t = rdPrev t := by simp [hdH, hdE, hdR, hdP, h]

set_option maxHeartbeats 800000 in
theorem spec_ReadHead (t : ByteArray) (w : World) (hs : t.size ≤ 1099511627776) :
    Calls Tryz.prog 41 #[.string t] w fun e w' => e = .returned (.tuple #[.agg #[.int .i64 (hdH t), .int .i64 (hdE t), .string (hdR t), .string (hdP t)], .bool (rdHead t)]) ∧ Ext w w' := by
  by_cases hlt : t.size < 18
  · have hr : rdHead t = false := by simp [rdHead]; omega
    have HR := Lib.hid hr
    obtain ⟨f1, f2, f3, f4⟩ := hd_false hr
    rw [f1, f2, f3, f4, hr]
    clear hr f1 f2 f3 f4
    go_enter Tryz.func41, Tryz.ntmps41
    go_wp2
    refine bodyPost_ret (v := .tuple #[.agg #[.int .i64 0, .int .i64 0, .string ⟨#[]⟩, .string ⟨#[]⟩], .bool false]) (by simp [results, Tryz.results41, go_sem]) rfl ⟨rfl, (by repeat (first | (with_reducible first | exact Ext.refl _ | assumption | apply Ext.alloc | apply Ext.drew | apply Ext.drewN | refine Ext.setCell ?_ ?_ _ | refine Ext.trans ?_ (by assumption)) | (show _ ≤ _; first | omega | (dsimp only; omega) | (simp; done) | (simp; omega))))⟩
  · have h0 : 0 < t.size := by omega
    have h1 : 1 < t.size := by omega
    have e0 : (t[0].toNat : Int) = rdHouse t := by simp only [rdHouse, oneOf]; rw [dif_pos (by simpa using h0)]; simp
    have e1 : (t[1].toNat : Int) = rdEpoch t := by simp only [rdEpoch, oneOf]; rw [dif_pos (by simpa using h1)]; simp
    have w0 := wrap64_byte t[0]
    have w1' := wrap64_byte t[1]
    rw [e0] at w0
    rw [e1] at w1'
    cases hh : headOk (rdHouse t) (rdEpoch t) (t.extract 2 18) (t.extract 18 t.size)
    · have hr : rdHead t = false := by simp [rdHead, rdRoot, rdPrev, hh]
      have H := Lib.hid hh
      obtain ⟨f1, f2, f3, f4⟩ := hd_false hr
      rw [f1, f2, f3, f4, hr]
      clear hr hh f1 f2 f3 f4
      go_enter Tryz.func41, Tryz.ntmps41
      go_wp2
      go_region
      go_wp2_with (go_at_call 28; refine (spec_HeadOk _ _ _ _ _).mono ?_; rw [H.out]; rintro e w1 ⟨rfl, x1⟩; have E_x1 := Old.of x1; (repeat (first | (replace E_x1 := Old.undrew E_x1) | (replace E_x1 := Old.undrewN E_x1))); have c_E_x1 := Old.cell E_x1; have f_E_x1 := Old.frozen E_x1; have z_E_x1 := Old.size E_x1; try simp only [World.size_alloc] at c_E_x1 f_E_x1 z_E_x1; try have l_E_x1 := Nat.lt_of_succ_le z_E_x1; try have m_E_x1 := Nat.lt_of_succ_lt l_E_x1; try have n_E_x1 := Nat.lt_of_succ_lt m_E_x1)
      have q0 := c_E_x1 (w.heap.size) 0 (by omega); simp [go_sem] at q0; have q1 := c_E_x1 (w.heap.size) 1 (by omega); simp [go_sem] at q1; have q2 := c_E_x1 (w.heap.size) 2 (by omega); simp [go_sem] at q2; have q3 := c_E_x1 (w.heap.size) 3 (by omega); simp [go_sem] at q3
      refine bodyPost_ret (v := .tuple #[.agg #[.int .i64 0, .int .i64 0, .string ⟨#[]⟩, .string ⟨#[]⟩], .bool false]) (by simp [results, Tryz.results41, go_sem, q0, q1, q2, q3]) rfl ⟨rfl, (by repeat (first | (with_reducible first | exact Ext.refl _ | assumption | apply Ext.alloc | apply Ext.drew | apply Ext.drewN | refine Ext.setCell ?_ ?_ _ | refine Ext.trans ?_ (by assumption)) | (show _ ≤ _; first | omega | (dsimp only; omega) | (simp; done) | (simp; omega))))⟩
    · have hr : rdHead t = true := by simp [rdHead, rdRoot, rdPrev, hh]; omega
      have H := Lib.hid hh
      obtain ⟨f1, f2, f3, f4⟩ := hd_true hr
      rw [f1, f2, f3, f4, hr]
      clear hr hh f1 f2 f3 f4
      go_enter Tryz.func41, Tryz.ntmps41
      go_wp2
      go_region
      go_wp2_with (go_at_call 28; refine (spec_HeadOk _ _ _ _ _).mono ?_; rw [H.out]; rintro e w1 ⟨rfl, x1⟩; have E_x1 := Old.of x1; (repeat (first | (replace E_x1 := Old.undrew E_x1) | (replace E_x1 := Old.undrewN E_x1))); have c_E_x1 := Old.cell E_x1; have f_E_x1 := Old.frozen E_x1; have z_E_x1 := Old.size E_x1; try simp only [World.size_alloc] at c_E_x1 f_E_x1 z_E_x1; try have l_E_x1 := Nat.lt_of_succ_le z_E_x1; try have m_E_x1 := Nat.lt_of_succ_lt l_E_x1; try have n_E_x1 := Nat.lt_of_succ_lt m_E_x1)
      have q0 := c_E_x1 (w.heap.size) 0 (by omega); simp [go_sem] at q0; have q1 := c_E_x1 (w.heap.size) 1 (by omega); simp [go_sem] at q1; have q2 := c_E_x1 (w.heap.size) 2 (by omega); simp [go_sem] at q2; have q3 := c_E_x1 (w.heap.size) 3 (by omega); simp [go_sem] at q3
      refine bodyPost_ret (v := .tuple #[.agg #[.int .i64 (rdHouse t), .int .i64 (rdEpoch t), .string (t.extract 2 18), .string (t.extract 18 t.size)], .bool true]) (by simp [results, Tryz.results41, go_sem, q0, q1, q2, q3]) rfl ⟨rfl, (by repeat (first | (with_reducible first | exact Ext.refl _ | assumption | apply Ext.alloc | apply Ext.drew | apply Ext.drewN | refine Ext.setCell ?_ ?_ _ | refine Ext.trans ?_ (by assumption)) | (show _ ≤ _; first | omega | (dsimp only; omega) | (simp; done) | (simp; omega))))⟩

theorem head_short {t : ByteArray} (h : t.size < 18) : bytesBad t (bytesAt t (bytesAt t 0 false 1) (bytesBad t 0 false 1) 1) (bytesBad t (bytesAt t 0 false 1) (bytesBad t 0 false 1) 1) 16 = true := by
  by_cases h1 : t.size < 1
  · rw [(bytes_no (t := t) (a := 0) (n := 1) (by omega)).1, (bytes_bad ..).1]
    exact (bytes_bad ..).1
  · obtain ⟨e1, e2, -⟩ := bytes_yes (t := t) (a := 0) (n := 1) (by omega)
    rw [e1, e2]
    by_cases h2 : t.size < 2
    · rw [(bytes_no (t := t) (a := 0 + 1) (n := 1) (by omega)).1]
      exact (bytes_bad ..).1
    · obtain ⟨e1, e2, -⟩ := bytes_yes (t := t) (a := 0 + 1) (n := 1) (by omega)
      rw [e1, e2]
      exact (bytes_no (by omega)).1

set_option maxHeartbeats 1600000 in
theorem impl_ReadHead (t : ByteArray) (w : World) (hs : t.size ≤ 1099511627776) :
    Calls Tryz.prog 75 #[.string t] w fun e w' => e = .returned (.tuple #[.agg #[.int .i64 (hdH t), .int .i64 (hdE t), .string (hdR t), .string (hdP t)], .bool (rdHead t)]) ∧ Ext w w' := by
  have b0 : (0 : Int) ≤ 0 ∧ (0 : Int) ≤ t.size := by omega
  by_cases hlt : t.size < 18
  · have hr : rdHead t = false := by simp [rdHead]; omega
    have hbad := head_short hlt
    have b1 := bytesAt_bd (x := false) (n := 1) b0 (by omega)
    have b2 := bytesAt_bd (x := bytesBad t 0 false 1) (n := 1) b1 (by omega)
    obtain ⟨f1, f2, f3, f4⟩ := hd_false hr
    rw [f1, f2, f3, f4, hr]
    clear hr f1 f2 f3 f4 hlt
    generalize g1 : bytesAt t 0 false 1 = a1 at *
    generalize g2 : bytesBad t 0 false 1 = d1 at *
    generalize g3 : bytesAt t a1 d1 1 = a2 at *
    generalize g4 : bytesBad t a1 d1 1 = d2 at *
    have G1 := Lib.hid g1; have G2 := Lib.hid g2; have G3 := Lib.hid g3; have G4 := Lib.hid g4; have HB := Lib.hid hbad
    clear g1 g2 g3 g4 hbad
    go_enter Tryz.func75, Tryz.ntmps75
    go_wp2_with fail
    refine (impl_fields_one (w.heap.size + 1) t 0 false _ ⟨by simp [go_sem], by simp [go_sem], by simp [go_sem], fun o => by simp [go_sem]⟩ b0 hs).mono ?_
    rw [G1.out, G2.out]
    rintro e w1 ⟨rfl, m1, f1⟩
    go_wp2_with fail
    refine (impl_fields_one (w.heap.size + 1) t a1 d1 _ f1 b1 hs).mono ?_
    rw [G3.out, G4.out]
    rintro e w2 ⟨rfl, m2, f2⟩
    go_wp2_with fail
    refine (impl_fields_bytes (w.heap.size + 1) t a2 d2 16 _ f2 b2 (by omega) hs).mono ?_
    rw [HB.out]
    rintro e w3 ⟨rfl, m3, f3⟩
    have M := (m1.trans m2).trans m3
    have hz := M.size
    simp only [World.size_alloc] at hz
    have X3 : Ext w w3 := Ext.mut (((Ext.refl w).alloc _).alloc _) M (by omega)
    have q0 := M.cell w.heap.size 0 (by simp; omega) (by omega)
    have q1 := M.cell w.heap.size 1 (by simp; omega) (by omega)
    have q2 := M.cell w.heap.size 2 (by simp; omega) (by omega)
    have q3 := M.cell w.heap.size 3 (by simp; omega) (by omega)
    simp [go_sem] at q0 q1 q2 q3
    have z0 : ∀ o, w3.frozen? ⟨w.heap.size, o, none⟩ = false := fun o => by rw [M.frozen w.heap.size o (by simp; omega) (by omega)]; simp [go_sem]
    have k0 := f3.c2
    have l1 : w.heap.size < w3.heap.size := by omega
    have l2 : w.heap.size + 1 < w3.heap.size := by omega
    go_wp2
    refine bodyPost_ret (v := .tuple #[.agg #[.int .i64 0, .int .i64 0, .string ⟨#[]⟩, .string ⟨#[]⟩], .bool false]) (by simp [results, Tryz.results75, go_sem, q0, q1, q2, q3, l1]) rfl ⟨rfl, (by repeat (first | (with_reducible first | exact Ext.refl _ | assumption | apply Ext.alloc | apply Ext.drew | apply Ext.drewN | refine Ext.setCell ?_ ?_ _ | refine Ext.trans ?_ (by assumption)) | (show _ ≤ _; first | omega | (dsimp only; omega) | (simp; done) | (simp; omega))))⟩
  · have h0 : 0 < t.size := by omega
    have h1 : 1 < t.size := by omega
    have e0 : oneOf t 0 false = rdHouse t := rfl
    have e1 : oneOf t 1 false = rdEpoch t := rfl
    obtain ⟨u1, u2, -⟩ := bytes_yes (t := t) (a := 0) (n := 1) (by omega)
    obtain ⟨u3, u4, -⟩ := bytes_yes (t := t) (a := 1) (n := 1) (by omega)
    obtain ⟨u5, u6, u7⟩ := bytes_yes (t := t) (a := 2) (n := 16) (by omega)
    rw [show (0 : Int) + 1 = 1 from rfl] at u2
    rw [show (1 : Int) + 1 = 2 from rfl] at u4
    rw [show (2 : Int) + 16 = 18 from rfl] at u6 u7
    have u7' : bytesOf t 2 false 16 = t.extract 2 18 := u7
    have U1 := Lib.hid u1; have U2 := Lib.hid u2; have U3 := Lib.hid u3; have U4 := Lib.hid u4; have U5 := Lib.hid u5; have U6 := Lib.hid u6; have U7 := Lib.hid u7'; have E0 := Lib.hid e0; have E1 := Lib.hid e1
    clear u1 u2 u3 u4 u5 u6 u7 u7' e0 e1
    have c1 : (0 : Int) ≤ 1 ∧ (1 : Int) ≤ t.size := by omega
    have c2 : (0 : Int) ≤ 2 ∧ (2 : Int) ≤ t.size := by omega
    cases hh : headOk (rdHouse t) (rdEpoch t) (t.extract 2 18) (t.extract 18 t.size)
    · have hr : rdHead t = false := by simp [rdHead, rdRoot, rdPrev, hh]
      have H := Lib.hid hh
      obtain ⟨f1, f2, f3, f4⟩ := hd_false hr
      rw [f1, f2, f3, f4, hr]
      clear hr hh f1 f2 f3 f4
      go_enter Tryz.func75, Tryz.ntmps75
      go_wp2_with fail
      refine (impl_fields_one (w.heap.size + 1) t 0 false _ ⟨by simp [go_sem], by simp [go_sem], by simp [go_sem], fun o => by simp [go_sem]⟩ b0 hs).mono ?_
      rw [E0.out, U1.out, U2.out]
      rintro e w1 ⟨rfl, m1, f1⟩
      go_wp2_with fail
      refine (impl_fields_one (w.heap.size + 1) t 1 false _ f1 c1 hs).mono ?_
      rw [E1.out, U3.out, U4.out]
      rintro e w2 ⟨rfl, m2, f2⟩
      go_wp2_with fail
      refine (impl_fields_bytes (w.heap.size + 1) t 2 false 16 _ f2 c2 (by omega) hs).mono ?_
      rw [U5.out, U6.out, U7.out]
      rintro e w3 ⟨rfl, m3, f3⟩
      have M := (m1.trans m2).trans m3
      have hz := M.size
      simp only [World.size_alloc] at hz
      have X3 : Ext w w3 := Ext.mut (((Ext.refl w).alloc _).alloc _) M (by omega)
      have q0 := M.cell w.heap.size 0 (by simp; omega) (by omega)
      have q1 := M.cell w.heap.size 1 (by simp; omega) (by omega)
      have q2 := M.cell w.heap.size 2 (by simp; omega) (by omega)
      have q3 := M.cell w.heap.size 3 (by simp; omega) (by omega)
      simp [go_sem] at q0 q1 q2 q3
      have z0 : ∀ o, w3.frozen? ⟨w.heap.size, o, none⟩ = false := fun o => by rw [M.frozen w.heap.size o (by simp; omega) (by omega)]; simp [go_sem]
      have k0 := f3.c2
      have k1 := f3.c1
      have l1 : w.heap.size < w3.heap.size := by omega
      have l2 : w.heap.size + 1 < w3.heap.size := by omega
      go_wp2_with fail
      refine (impl_HeadOk _ _ _ _ _).mono ?_
      rw [H.out]
      rintro e w4 ⟨rfl, x4⟩
      have E_x4 := Old.of x4; (repeat (first | (replace E_x4 := Old.undrew E_x4) | (replace E_x4 := Old.undrewN E_x4))); have c_E_x4 := Old.cell E_x4; have f_E_x4 := Old.frozen E_x4; have z_E_x4 := Old.size E_x4; try simp only [World.size_alloc] at c_E_x4 f_E_x4 z_E_x4; try have l_E_x4 := Nat.lt_of_succ_le z_E_x4; try have m_E_x4 := Nat.lt_of_succ_lt l_E_x4; try have n_E_x4 := Nat.lt_of_succ_lt m_E_x4
      have p0 := c_E_x4 w.heap.size 0 (by omega)
      have p1 := c_E_x4 w.heap.size 1 (by omega)
      have p2 := c_E_x4 w.heap.size 2 (by omega)
      have p3 := c_E_x4 w.heap.size 3 (by omega)
      simp [go_sem, l1, q0, q1, q2, q3] at p0 p1 p2 p3
      have l4 : w.heap.size < w4.heap.size := by omega
      go_wp2
      refine bodyPost_ret (v := .tuple #[.agg #[.int .i64 0, .int .i64 0, .string ⟨#[]⟩, .string ⟨#[]⟩], .bool false]) (by simp [results, Tryz.results75, go_sem, p0, p1, p2, p3]) rfl ⟨rfl, (by repeat (first | (with_reducible first | exact Ext.refl _ | assumption | apply Ext.alloc | apply Ext.drew | apply Ext.drewN | refine Ext.setCell ?_ ?_ _ | refine Ext.trans ?_ (by assumption)) | (show _ ≤ _; first | omega | (dsimp only; omega) | (simp; done) | (simp; omega))))⟩
    · have hr : rdHead t = true := by simp [rdHead, rdRoot, rdPrev, hh]; omega
      have H := Lib.hid hh
      obtain ⟨f1, f2, f3, f4⟩ := hd_true hr
      rw [f1, f2, f3, f4, hr]
      clear hr hh f1 f2 f3 f4
      go_enter Tryz.func75, Tryz.ntmps75
      go_wp2_with fail
      refine (impl_fields_one (w.heap.size + 1) t 0 false _ ⟨by simp [go_sem], by simp [go_sem], by simp [go_sem], fun o => by simp [go_sem]⟩ b0 hs).mono ?_
      rw [E0.out, U1.out, U2.out]
      rintro e w1 ⟨rfl, m1, f1⟩
      go_wp2_with fail
      refine (impl_fields_one (w.heap.size + 1) t 1 false _ f1 c1 hs).mono ?_
      rw [E1.out, U3.out, U4.out]
      rintro e w2 ⟨rfl, m2, f2⟩
      go_wp2_with fail
      refine (impl_fields_bytes (w.heap.size + 1) t 2 false 16 _ f2 c2 (by omega) hs).mono ?_
      rw [U5.out, U6.out, U7.out]
      rintro e w3 ⟨rfl, m3, f3⟩
      have M := (m1.trans m2).trans m3
      have hz := M.size
      simp only [World.size_alloc] at hz
      have X3 : Ext w w3 := Ext.mut (((Ext.refl w).alloc _).alloc _) M (by omega)
      have q0 := M.cell w.heap.size 0 (by simp; omega) (by omega)
      have q1 := M.cell w.heap.size 1 (by simp; omega) (by omega)
      have q2 := M.cell w.heap.size 2 (by simp; omega) (by omega)
      have q3 := M.cell w.heap.size 3 (by simp; omega) (by omega)
      simp [go_sem] at q0 q1 q2 q3
      have z0 : ∀ o, w3.frozen? ⟨w.heap.size, o, none⟩ = false := fun o => by rw [M.frozen w.heap.size o (by simp; omega) (by omega)]; simp [go_sem]
      have k0 := f3.c2
      have k1 := f3.c1
      have l1 : w.heap.size < w3.heap.size := by omega
      have l2 : w.heap.size + 1 < w3.heap.size := by omega
      go_wp2_with fail
      refine (impl_HeadOk _ _ _ _ _).mono ?_
      rw [H.out]
      rintro e w4 ⟨rfl, x4⟩
      have E_x4 := Old.of x4; (repeat (first | (replace E_x4 := Old.undrew E_x4) | (replace E_x4 := Old.undrewN E_x4))); have c_E_x4 := Old.cell E_x4; have f_E_x4 := Old.frozen E_x4; have z_E_x4 := Old.size E_x4; try simp only [World.size_alloc] at c_E_x4 f_E_x4 z_E_x4; try have l_E_x4 := Nat.lt_of_succ_le z_E_x4; try have m_E_x4 := Nat.lt_of_succ_lt l_E_x4; try have n_E_x4 := Nat.lt_of_succ_lt m_E_x4
      have p0 := c_E_x4 w.heap.size 0 (by omega)
      have p1 := c_E_x4 w.heap.size 1 (by omega)
      have p2 := c_E_x4 w.heap.size 2 (by omega)
      have p3 := c_E_x4 w.heap.size 3 (by omega)
      simp [go_sem, l1, q0, q1, q2, q3] at p0 p1 p2 p3
      have l4 : w.heap.size < w4.heap.size := by omega
      go_wp2
      refine bodyPost_ret (v := .tuple #[.agg #[.int .i64 (rdHouse t), .int .i64 (rdEpoch t), .string (t.extract 2 18), .string (t.extract 18 t.size)], .bool true]) (by simp [results, Tryz.results75, go_sem, p0, p1, p2, p3]) rfl ⟨rfl, (by repeat (first | (with_reducible first | exact Ext.refl _ | assumption | apply Ext.alloc | apply Ext.drew | apply Ext.drewN | refine Ext.setCell ?_ ?_ _ | refine Ext.trans ?_ (by assumption)) | (show _ ≤ _; first | omega | (dsimp only; omega) | (simp; done) | (simp; omega))))⟩
end Go.Proofs.YtkphipgfcbckcaaGreatDoor
namespace Go.Proofs.YtkphipgfcbckcaaGreatDoor
open Go.RowKit

end Go.Proofs.YtkphipgfcbckcaaGreatDoor
namespace Go.Proofs.YtkphipgfcbckcaaGreatDoor
open Go.RowKit

theorem one_at (t : ByteArray) (i : Nat) (hi : i < t.size) : oneOf t i false = ((t.data.toList.getD i 0).toNat : Int) := by
  have h : (false = false ∧ (0 : Int) ≤ (i : Int) ∧ (i : Int).toNat < t.size) := ⟨rfl, by omega, by simpa using hi⟩
  have hl : i < t.data.toList.length := by rw [ba_len]; exact hi
  rw [oneOf, dif_pos h, List.getD_eq_getElem?_getD, List.getElem?_eq_getElem hl]
  rfl
theorem head_list {h ep : Int} {r p : ByteArray} (hh : headOk h ep r p = true) : (headText h ep r p).data.toList = UInt8.ofNat h.toNat :: UInt8.ofNat ep.toNat :: (r.data.toList ++ p.data.toList) := by
  rw [headText, if_pos hh, ba_append, ba_append, ba_nums]
  rfl
/-- the text of what is read of a text is the text -/
theorem text_back {t : ByteArray} (hr : rdHead t = true) : headOk (hdH t) (hdE t) (hdR t) (hdP t) = true ∧ headText (hdH t) (hdE t) (hdR t) (hdP t) = t := by
  obtain ⟨k0, k1, k2, k3⟩ := hd_true hr
  rw [k0, k1, k2, k3]
  have hr' := hr
  rw [rdHead, Bool.and_eq_true] at hr'
  obtain ⟨hs, hh⟩ := hr'
  have hs := of_decide_eq_true hs
  refine ⟨hh, ?_⟩
  apply ba_ext
  rw [head_list hh, rdRoot, rdPrev, ba_extract, ba_extract]
  have e0 : UInt8.ofNat (rdHouse t).toNat = t.data.toList.getD 0 0 := by
    have := one_at t 0 (by omega)
    rw [rdHouse, show oneOf t 0 false = _ from this]
    simp
  have e1 : UInt8.ofNat (rdEpoch t).toNat = t.data.toList.getD 1 0 := by
    have := one_at t 1 (by omega)
    rw [rdEpoch, show oneOf t 1 false = _ from this]
    simp
  rw [e0, e1]
  have hlen := ba_len t
  generalize t.data.toList = l at *
  rw [← hlen] at hs ⊢
  match l, hs with
  | a :: b :: l, hs =>
    simp only [List.getD_cons_zero, List.getD_cons_succ, List.drop_succ_cons, List.drop_zero]
    congr 2
    rw [show 18 - 2 = 16 by rfl]
    have : (List.drop 16 l).take ((a :: b :: l).length - 18) = List.drop 16 l := List.take_of_length_le (by simp)
    rw [this, List.take_append_drop]
end Go.Proofs.YtkphipgfcbckcaaGreatDoor

namespace Go.Proofs.YtkphipgfcbckcaaGreatDoor
open Go.RowKit

theorem joinT_append (xs ys : List ByteArray) : joinT (xs ++ ys) = joinT xs ++ joinT ys := by
  rw [← joinOn_all (joinT xs) ys]
  unfold joinT joinOn
  rw [List.take_length, List.take_length, List.take_length, List.foldl_append]
/-- all of a signature's strings -/
def sigL (s : SigV) : List ByteArray := s.op ++ s.sh ++ s.si
theorem sigT_join (s : SigV) : joinOn (strOfNums [s.at_]) (sigL s) (sigL s).length = sigT s := by
  rw [joinOn_all, sigL, joinT_append, joinT_append, sigT, ByteArray.append_assoc, ByteArray.append_assoc, ByteArray.append_assoc]
theorem sigL_small {s : SigV} (h1 : StrSmall s.op) (h2 : StrSmall s.sh) (h3 : StrSmall s.si) (l1 : s.op.length = 8) (l2 : s.sh.length = 8) (l3 : s.si.length = 4) : StrSmall (sigL s) := by
  refine ⟨by simp [sigL]; omega, fun x hx => ?_⟩
  rw [sigL, List.mem_append, List.mem_append] at hx
  rcases hx with (hx | hx) | hx
  · exact h1.2 x hx
  · exact h2.2 x hx
  · exact h3.2 x hx
theorem str_news {w : World} {a : Option Addr} {n c : Nat} {ys : List ByteArray} (h : Strs w (.slice a n c) ys) (hn : 0 < ys.length) : ∃ b o, a = some ⟨b, o, none⟩ ∧ ∀ (W : World), Ext w W → ∀ j u, (ys.map Value.string)[j]? = some u → W.cell? ((⟨b, o, none⟩ : Addr).add j) = some u := by
  obtain ⟨-, a1, c1, hv, -, -, g⟩ := h
  injection hv with e1 e2 e3
  subst e1
  rcases g with g | ⟨b, o, rfl, hb, g⟩
  · omega
  · refine ⟨b, o, rfl, fun W hx j u hu => ?_⟩
    have e : (⟨b, o, none⟩ : Addr).add j = ⟨b, o + j, none⟩ := by simp [Addr.add]
    rw [e, hx.cell b _ hb]
    exact g j u hu
theorem cell_dn {w : World} {b o : Nat} {v : Value} {t : TypeId} {xs : Array Value} (h : w.cell? ⟨b, o, none⟩ = some v) (hb : b < w.heap.size) : (w.drew.alloc (.cells xs t)).cell? ⟨b, o, none⟩ = some v :=
  (World.cell?_alloc_past (w := w.drew) _ b o hb).trans h
theorem strs_one (ys : List ByteArray) : ∀ u ∈ ys.map Value.string, u.oneCell' = true := by
  intro u hu
  rw [List.mem_map] at hu
  obtain ⟨t, -, rfl⟩ := hu
  rfl

set_option maxRecDepth 100000 in
set_option maxHeartbeats 3200000 in
theorem spec_SigText (v1 v2 v3 : Value) (s : SigV) (w : World) (h1 : Strs w v1 s.op) (h2 : Strs w v2 s.sh) (h3 : Strs w v3 s.si) (hs : SigFit s) :
    Calls Tryz.prog 72 #[.agg #[.int .i64 s.at_, v1, v2, v3]] w fun e w' => e = .returned (.tuple #[.string (sigTx s), .bool (sigWell s)]) ∧ Ext w w' := by
  obtain ⟨a1, c1, rfl⟩ := h1.form
  obtain ⟨a2, c2, rfl⟩ := h2.form
  obtain ⟨a3, c3, rfl⟩ := h3.form
  by_cases hw : sigWell s = true
  · obtain ⟨⟨g1, g2⟩, ⟨n1, m1⟩, ⟨n2, m2⟩, n3, m3⟩ := sigWell_true hw
    obtain ⟨i0, hi, hz0, hz1, hz2⟩ := info_parts infoString
    have R := Lib.hid (show sigTx s = sigT s by simp [sigTx, hw])
    have HW := Lib.hid hw
    obtain ⟨ba, oa, rfl, ca⟩ := str_news h1 (by omega)
    obtain ⟨bb, ob, rfl, cb⟩ := str_news h2 (by omega)
    obtain ⟨bc, oc, rfl, cc⟩ := str_news h3 (by omega)
    have CA := Lib.hid ca
    have CB := Lib.hid cb
    have CC := Lib.hid cc
    have HSM := Lib.hid (sigL_small m1 m2 m3 n1 n2 n3)
    have HN := Lib.hid (show 0 + s.op.length + s.sh.length + s.si.length = (sigL s).length by simp [sigL]; omega)
    have HN2 := Lib.hid (show s.op.length + s.sh.length + s.si.length = (sigL s).length by simp [sigL]; omega)
    have HJ := Lib.hid (sigT_join s)
    have HMA := Lib.hid (show [] ++ s.op.map Value.string ++ s.sh.map Value.string ++ s.si.map Value.string = (sigL s).map Value.string by simp [sigL])
    have k1 : s.op.length ≤ 8 := by omega
    have k2 : s.sh.length ≤ 8 := by omega
    have k3 : s.si.length ≤ 4 := by omega
    have j1 : 0 < s.op.length := by omega
    have j2 : 0 < s.sh.length := by omega
    have j3 : 0 < s.si.length := by omega
    have hcv := conv_one s.at_
    have e1 : s.at_ % 256 = s.at_ := by omega
    have ewr : IntKind.u8.wrap s.at_ = s.at_ := by simp [IntKind.wrap, IntKind.signed, IntKind.bits]; omega
    clear hw n1 n2 n3 ca cb cc m1 m2 m3
    go_enter Tryz.func72, Tryz.ntmps72
    go_wp2_with (go_at_call 83; refine (spec_l05Form _ _ _ s _ (h1.ext (by repeat (first | (with_reducible first | exact Ext.refl _ | assumption | apply Ext.alloc | apply Ext.drew | apply Ext.drewN | refine Ext.setCell ?_ ?_ _ | refine Ext.trans ?_ (by assumption)) | (show _ ≤ _; first | omega | (dsimp only; omega) | (simp; done) | (simp; omega))))) (h2.ext (by repeat (first | (with_reducible first | exact Ext.refl _ | assumption | apply Ext.alloc | apply Ext.drew | apply Ext.drewN | refine Ext.setCell ?_ ?_ _ | refine Ext.trans ?_ (by assumption)) | (show _ ≤ _; first | omega | (dsimp only; omega) | (simp; done) | (simp; omega))))) (h3.ext (by repeat (first | (with_reducible first | exact Ext.refl _ | assumption | apply Ext.alloc | apply Ext.drew | apply Ext.drewN | refine Ext.setCell ?_ ?_ _ | refine Ext.trans ?_ (by assumption)) | (show _ ≤ _; first | omega | (dsimp only; omega) | (simp; done) | (simp; omega))))) hs).mono ?_; rw [HW.out]; rintro e w1 ⟨rfl, x1⟩; have E_x1 := Old.of x1; (repeat (first | (replace E_x1 := Old.undrew E_x1) | (replace E_x1 := Old.undrewN E_x1))); have c_E_x1 := Old.cell E_x1; have f_E_x1 := Old.frozen E_x1; have z_E_x1 := Old.size E_x1; try simp only [World.size_alloc] at c_E_x1 f_E_x1 z_E_x1; try have l_E_x1 := Nat.lt_of_succ_le z_E_x1; try have m_E_x1 := Nat.lt_of_succ_lt l_E_x1; try have n_E_x1 := Nat.lt_of_succ_lt m_E_x1)
    have p0 := c_E_x1 (w.heap.size) 0 (by omega); simp [go_sem] at p0; have p1 := c_E_x1 (w.heap.size) 1 (by omega); simp [go_sem] at p1; have p2 := c_E_x1 (w.heap.size) 2 (by omega); simp [go_sem] at p2; have p3 := c_E_x1 (w.heap.size) 3 (by omega); simp [go_sem] at p3
    have lw1 := l_E_x1
    have xw1 : Ext w w1 := (by repeat (first | (with_reducible first | exact Ext.refl _ | assumption | apply Ext.alloc | apply Ext.drew | apply Ext.drewN | refine Ext.setCell ?_ ?_ _ | refine Ext.trans ?_ (by assumption)) | (show _ ≤ _; first | omega | (dsimp only; omega) | (simp; done) | (simp; omega))))
    clear c_E_x1 f_E_x1
    generalize hW : w1.alloc (Obj.cells #[.int .u8 s.at_] 5) = W0
    have y0 : Ext w1 W0 := by rw [← hW]; exact (Ext.refl w1).alloc _
    clear hW
    have lW0 : w.heap.size < W0.heap.size := Nat.lt_of_lt_of_le lw1 y0.size
    have q1 := (y0.cell _ _ lw1).trans p1
    have q2 := (y0.cell _ _ lw1).trans p2
    have q3 := (y0.cell _ _ lw1).trans p3
    have hb0 : w1.heap.size ≤ W0.drew.heap.size := y0.size
    have hb1 : w1.heap.size ≤ (W0.drew.alloc (Obj.cells #[] 9)).heap.size := by rw [World.size_alloc]; omega
    have yd : Ext w1 (W0.drew.alloc (Obj.cells #[] 9)) := (y0.drew).alloc _
    refine wp_region_held_drew (S := (fun W => W.cell? ⟨w.heap.size, 1, none⟩ = some (.slice (some ⟨ba, oa, none⟩) s.op.length c1) ∧ W.cell? ⟨w.heap.size, 2, none⟩ = some (.slice (some ⟨bb, ob, none⟩) s.sh.length c2) ∧ W.cell? ⟨w.heap.size, 3, none⟩ = some (.slice (some ⟨bc, oc, none⟩) s.si.length c3))) (by kernel_rfl) (by exact ⟨q1, q2, q3⟩) (fun hHeld => ?_)
    (refine wpAnyH_take (i := 1) (v := ?_) rfl (by kernel_rfl) (by kernel_rfl) (by kernel_rfl) (fun _ _ _ h => h) (Or.inl ⟨by rfl, ?_⟩) (by assumption) ?_; rotate_left; focus (intro w hSw; (try dsimp only at hSw); (try simp only [zk1, zk2, zk3]); go_simp; try with_reducible rfl)); (try simp only [zk1, zk2, zk3]); (try simp only [Act.put, zk4, zk5, zk6])
    (refine wpAnyH_take (i := 2) (v := ?_) rfl (by kernel_rfl) (by kernel_rfl) (by kernel_rfl) (fun _ _ _ h => h) (Or.inl ⟨by rfl, ?_⟩) (by assumption) ?_; rotate_left; focus (intro w hSw; (try dsimp only at hSw); (try simp only [zk1, zk2, zk3]); go_simp; try with_reducible rfl)); (try simp only [zk1, zk2, zk3]); (try simp only [Act.put, zk4, zk5, zk6])
    (refine wpAnyH_take (i := 4) (v := ?_) rfl (by kernel_rfl) (by kernel_rfl) (by kernel_rfl) (fun _ _ _ h => h) (Or.inl ⟨by rfl, ?_⟩) (by assumption) ?_; rotate_left; focus (intro w hSw; (try dsimp only at hSw); (try simp only [zk1, zk2, zk3]); go_simp; try with_reducible rfl)); (try simp only [zk1, zk2, zk3]); (try simp only [Act.put, zk4, zk5, zk6])
    (refine wpAnyH_take (i := 5) (v := ?_) rfl (by kernel_rfl) (by kernel_rfl) (by kernel_rfl) (fun _ _ _ h => h) (Or.inl ⟨by rfl, ?_⟩) (by assumption) ?_; rotate_left; focus (intro w hSw; (try dsimp only at hSw); (try simp only [zk1, zk2, zk3]); go_simp; try with_reducible rfl)); (try simp only [zk1, zk2, zk3]); (try simp only [Act.put, zk4, zk5, zk6])
    (refine wpAnyH_take (i := 7) (v := ?_) rfl (by kernel_rfl) (by kernel_rfl) (by kernel_rfl) (fun _ _ _ h => h) (Or.inl ⟨by rfl, ?_⟩) (by assumption) ?_; rotate_left; focus (intro w hSw; (try dsimp only at hSw); (try simp only [zk1, zk2, zk3]); go_simp; try with_reducible rfl)); (try simp only [zk1, zk2, zk3]); (try simp only [Act.put, zk4, zk5, zk6])
    (refine wpAnyH_take (i := 8) (v := ?_) rfl (by kernel_rfl) (by kernel_rfl) (by kernel_rfl) (fun _ _ _ h => h) (Or.inl ⟨by rfl, ?_⟩) (by assumption) ?_; rotate_left; focus (intro w hSw; (try dsimp only at hSw); (try simp only [zk1, zk2, zk3]); go_simp; try with_reducible rfl)); (try simp only [zk1, zk2, zk3]); (try simp only [Act.put, zk4, zk5, zk6])
    (refine wpAnyH_ready (rs := [0]) (by kernel_rfl) (by simp) ?_; refine AllReadyH.cons rfl (fun K hK => ?_) AllReadyH.nil; (try simp only [zk1, zk2]))
    go_simp
    (try dsimp only)
    refine hK.out _ _ (by exact ⟨cell_dn q1 lW0, cell_dn q2 lW0, cell_dn q3 lW0⟩) (fun hHeld => ?_)
    clear hK K
    (refine wpAnyH_ready (rs := [3]) (by kernel_rfl) (by simp) ?_; refine AllReadyH.cons rfl (fun K hK => ?_) AllReadyH.nil)
    refine step_append_lies _ rfl (.tmp 15) (.tmp 17) 24 (by rfl) w1.heap.size 9 i0 (.string ⟨#[]⟩) 1 16 Tryz.underlying24 hi hz0 hz1 hz2 rfl (by decide) _ _ _ (by rfl) (World.ownsRow_lit (base := w1.heap.size) (e := 9) (size := 1) W0.drew #[] 0 hb0 (Nat.zero_le _) rfl) ⟨ba, oa, none⟩ s.op.length c1 (s.op.map Value.string) (by rfl) (by simp) (CA.out _ (xw1.trans yd)) (strs_one _) j1 (by unfold maxLen; omega) (by omega) (by exact hb1) _ rfl ?_
    intro gx1 cap1 w2 ownw2 groww2 _ _
    have xw2 : Ext w1 w2 := own_ext_of (yd) (World.ownsRow_lit (base := w1.heap.size) (e := 9) (size := 1) W0.drew #[] 0 hb0 (Nat.zero_le _) rfl) groww2 (Nat.le_refl _)
    (try dsimp only)
    refine hK.out _ _ (by exact ⟨(xw2.cell _ _ lw1).trans p1, (xw2.cell _ _ lw1).trans p2, (xw2.cell _ _ lw1).trans p3⟩) (fun hHeld => ?_)
    clear hK K
    (refine wpAnyH_ready (rs := [6]) (by kernel_rfl) (by simp) ?_; refine AllReadyH.cons rfl (fun K hK => ?_) AllReadyH.nil)
    refine step_append_lies _ rfl (.tmp 18) (.tmp 20) 24 (by rfl) w1.heap.size 9 i0 (.string ⟨#[]⟩) 1 16 Tryz.underlying24 hi hz0 hz1 hz2 rfl (by decide) _ _ _ (by rfl) ownw2 ⟨bb, ob, none⟩ s.sh.length c2 (s.sh.map Value.string) (by rfl) (by simp) (CB.out _ (xw1.trans xw2)) (strs_one _) j2 (by unfold maxLen; omega) (by omega) (by exact xw2.size) _ rfl ?_
    intro gx2 cap2 w3 ownw3 groww3 _ _
    have xw3 : Ext w1 w3 := own_ext_of (xw2) ownw2 groww3 (Nat.le_refl _)
    (try dsimp only)
    refine hK.out _ _ (by exact ⟨(xw3.cell _ _ lw1).trans p1, (xw3.cell _ _ lw1).trans p2, (xw3.cell _ _ lw1).trans p3⟩) (fun hHeld => ?_)
    clear hK K
    (refine wpAnyH_ready (rs := [9]) (by kernel_rfl) (by simp) ?_; refine AllReadyH.cons rfl (fun K hK => ?_) AllReadyH.nil)
    refine step_append_lies _ rfl (.tmp 21) (.tmp 23) 24 (by rfl) w1.heap.size 9 i0 (.string ⟨#[]⟩) 1 16 Tryz.underlying24 hi hz0 hz1 hz2 rfl (by decide) _ _ _ (by rfl) ownw3 ⟨bc, oc, none⟩ s.si.length c3 (s.si.map Value.string) (by rfl) (by simp) (CC.out _ (xw1.trans xw3)) (strs_one _) j3 (by unfold maxLen; omega) (by omega) (by exact xw3.size) _ rfl ?_
    intro gx3 cap3 w4 ownw4 groww4 _ _
    have xw4 : Ext w1 w4 := own_ext_of (xw3) ownw3 groww4 (Nat.le_refl _)
    (try dsimp only)
    refine hK.out _ _ (by exact ⟨(xw4.cell _ _ lw1).trans p1, (xw4.cell _ _ lw1).trans p2, (xw4.cell _ _ lw1).trans p3⟩) (fun hHeld => ?_)
    clear hK K
    (refine wpAnyH_take (i := 10) (v := ?_) rfl (by kernel_rfl) (by kernel_rfl) (by kernel_rfl) (fun _ _ _ h => h) (Or.inl ⟨by rfl, ?_⟩) (by assumption) ?_; rotate_left; focus (intro w hSw; (try dsimp only at hSw); (try simp only [zk1, zk2, zk3]); go_simp; try with_reducible rfl)); (try simp only [zk1, zk2, zk3]); (try simp only [Act.put, zk4, zk5, zk6])
    refine wpAnyH_done (by kernel_rfl) ?_ _
    rw [HN.out, HMA.out] at ownw4
    (try rw [HN.out])
    (try rw [HN2.out])
    have hL20 : (sigL s).length ≤ 20 := by have := HN.out; omega
    have xw4' : Ext w w4 := xw1.trans xw4
    have HOw := Lib.hid ownw4
    clear ownw2 ownw3 ownw4
    go_wp2
    go_loopw [4, 6] (fun t i wr => ∃ k : Nat, k ≤ (sigL s).length ∧ i = .int .i64 k ∧ t = .string (joinOn (strOfNums [s.at_]) (sigL s) k) ∧ Ext w4 wr) (fun _ i _ => (sigL s).length - (intOf i).toNat)
    case atStart => exact ⟨0, Nat.zero_le _, rfl, by rw [joinOn_zero], Ext.refl _⟩
    case round =>
      obtain ⟨k, hk, rfl, rfl, hx⟩ := hrel
      by_cases hlt : k < (sigL s).length
      · have lg : gx3 < w4.heap.size := (World.ownsRow.lt HOw.out gx3 rfl).2
        have f1 : wr.cell? ⟨gx3, k, none⟩ = some (.string (sigL s)[k]) := by
          rw [hx.cell _ _ lg, World.ownsRow.cellAt (g := gx3) HOw.out k (by omega)]
          simp [hlt]
        have hsk := HSM.out.2 (sigL s)[k] (List.getElem_mem hlt)
        have hz := joinOn_size (strOfNums [s.at_]) HSM.out k hk
        have hz' : (joinOn (strOfNums [s.at_]) (sigL s) k).size ≤ 1 + 200 * k := by rw [strOfNums_size] at hz; exact hz
        have HU := Lib.hid (joinOn_succ (strOfNums [s.at_]) (sigL s) k hlt)
        have hi0 : (0 : Int) ≤ (k : Int) := by omega
        have hi1 : (k : Int) < ((sigL s).length : Int) := by omega
        have hno : ¬ (9223372036854775807 < (joinOn (strOfNums [s.at_]) (sigL s) k).size + (sigL s)[k].size) := by omega
        clear hz
        generalize (sigL s)[k] = y at *
        go_wp2
        go_roundw
        case rel => exact ⟨k + 1, by omega, by go_num, by rw [HU.out], (by repeat (first | (with_reducible first | exact Ext.refl _ | assumption | apply Ext.alloc | apply Ext.drew | apply Ext.drewN | refine Ext.setCell ?_ ?_ _ | refine Ext.trans ?_ (by assumption)) | (show _ ≤ _; first | omega | (dsimp only; omega) | (simp; done) | (simp; omega))))⟩
        case measure => simp [intOf]; omega
      · have hkn : k = (sigL s).length := by omega
        subst hkn
        go_wp2
        go_ret2
        exact ⟨ret_sb (by rw [R.out]; exact HJ.out) HW.out.symm, (by repeat (first | (with_reducible first | exact Ext.refl _ | assumption | apply Ext.alloc | apply Ext.drew | apply Ext.drewN | refine Ext.setCell ?_ ?_ _ | refine Ext.trans ?_ (by assumption)) | (show _ ≤ _; first | omega | (dsimp only; omega) | (simp; done) | (simp; omega))))⟩
  · have hw' : sigWell s = false := by simpa using hw
    have R := Lib.hid (show sigTx s = ⟨#[]⟩ by simp [sigTx, hw'])
    have HW := Lib.hid hw'
    clear hw hw'
    go_enter Tryz.func72, Tryz.ntmps72
    go_wp2_with (go_at_call 83; refine (spec_l05Form _ _ _ s _ (h1.ext (by repeat (first | (with_reducible first | exact Ext.refl _ | assumption | apply Ext.alloc | apply Ext.drew | apply Ext.drewN | refine Ext.setCell ?_ ?_ _ | refine Ext.trans ?_ (by assumption)) | (show _ ≤ _; first | omega | (dsimp only; omega) | (simp; done) | (simp; omega))))) (h2.ext (by repeat (first | (with_reducible first | exact Ext.refl _ | assumption | apply Ext.alloc | apply Ext.drew | apply Ext.drewN | refine Ext.setCell ?_ ?_ _ | refine Ext.trans ?_ (by assumption)) | (show _ ≤ _; first | omega | (dsimp only; omega) | (simp; done) | (simp; omega))))) (h3.ext (by repeat (first | (with_reducible first | exact Ext.refl _ | assumption | apply Ext.alloc | apply Ext.drew | apply Ext.drewN | refine Ext.setCell ?_ ?_ _ | refine Ext.trans ?_ (by assumption)) | (show _ ≤ _; first | omega | (dsimp only; omega) | (simp; done) | (simp; omega))))) hs).mono ?_; rw [HW.out]; rintro e w1 ⟨rfl, x1⟩)
    go_ret2
    exact ⟨ret_sb R.out.symm HW.out.symm, (by repeat (first | (with_reducible first | exact Ext.refl _ | assumption | apply Ext.alloc | apply Ext.drew | apply Ext.drewN | refine Ext.setCell ?_ ?_ _ | refine Ext.trans ?_ (by assumption)) | (show _ ≤ _; first | omega | (dsimp only; omega) | (simp; done) | (simp; omega))))⟩
end Go.Proofs.YtkphipgfcbckcaaGreatDoor
namespace Go.Proofs.YtkphipgfcbckcaaGreatDoor
open Go.RowKit

end Go.Proofs.YtkphipgfcbckcaaGreatDoor

namespace Go.Proofs.YtkphipgfcbckcaaGreatDoor
open Go.RowKit

/-- the bits that are signed -/
def sgIdx (text : ByteArray) : Int := ((tagH 7 [text] 16).data.getD 0 0).toNat
def lkT (o : ByteArray) : ByteArray := tagTx 6 [o]
def lkH (o : ByteArray) : ByteArray := tagH 6 [o] 16
def lkPair (idx : Int) (s : SigV) (j : Nat) : List ByteArray := if bitT idx j = 0 then [lkH (s.op.getD j ⟨#[]⟩), s.sh.getD j ⟨#[]⟩] else [s.sh.getD j ⟨#[]⟩, lkH (s.op.getD j ⟨#[]⟩)]
def lkL (idx : Int) (s : SigV) (n : Nat) : List ByteArray := (List.range n).flatMap (lkPair idx s)
theorem lkPair_len (idx : Int) (s : SigV) (j : Nat) : (lkPair idx s j).length = 2 := by unfold lkPair; split <;> rfl
theorem lkL_succ (idx : Int) (s : SigV) (n : Nat) : lkL idx s (n + 1) = lkL idx s n ++ lkPair idx s n := by simp [lkL, List.range_succ]
theorem lkL_len (idx : Int) (s : SigV) : ∀ n, (lkL idx s n).length = n * 2
  | 0 => rfl
  | n + 1 => by rw [lkL_succ, List.length_append, lkL_len idx s n, lkPair_len]; omega
theorem getD_le {ss : List ByteArray} {m : Nat} (h : ∀ s ∈ ss, s.size ≤ m) (k : Nat) : (ss.getD k ⟨#[]⟩).size ≤ m := by
  rw [List.getD_eq_getElem?_getD]
  cases e : ss[k]? with
  | none => exact Nat.zero_le _
  | some s => exact h s (List.mem_of_getElem? e)
theorem lkL_fit (idx : Int) (s : SigV) (hs : ∀ x ∈ s.sh, x.size ≤ 32) (n : Nat) : ∀ x ∈ lkL idx s n, x.size ≤ 32 := by
  intro x hx
  rw [lkL, List.mem_flatMap] at hx
  obtain ⟨j, -, hx⟩ := hx
  have h1 : (lkH (s.op.getD j ⟨#[]⟩)).size ≤ 32 := tagH_le _ _ _
  have h2 := getD_le hs j
  unfold lkPair at hx
  split at hx <;> simp only [List.mem_cons, List.not_mem_nil, or_false] at hx <;> rcases hx with rfl | rfl <;> assumption
/-- the pair of a step, by a bit -/
def sgPair (b : Nat) (h s : ByteArray) : List ByteArray := if b = 0 then [h, s] else [s, h]
def sgSt (h : ByteArray) (a : Nat) (ss : List ByteArray) : Nat → ByteArray
  | 0 => h
  | k + 1 => tagH 3 (sgPair (a / 2 ^ k % 2) (sgSt h a ss k) (ss.getD k ⟨#[]⟩)) 16
theorem sgSt_le (h : ByteArray) (a : Nat) (ss : List ByteArray) (hh : h.size ≤ 32) : ∀ k, (sgSt h a ss k).size ≤ 32
  | 0 => hh
  | _ + 1 => tagH_le _ _ _
theorem sg_bits : ∀ a : Fin 16, ∀ k : Fin 4, bits .and .i64 ((a.val : Nat) / 2 ^ k.val : Nat) 1 = ((a.val / 2 ^ k.val % 2 : Nat) : Int) := by decide +kernel
/-- the root to which a signature leads -/
def sgRoot (text : ByteArray) (s : SigV) : ByteArray := sgSt (tagH 6 (lkL (sgIdx text) s 8) 16) s.at_.toNat s.si s.si.length
def sigOkB (root text : ByteArray) (s : SigV) : Bool := sigWell s && (decide (text.size ≤ 200) && decide (sgRoot text s = root))
theorem sgPair_well {b : Nat} {h s : ByteArray} (hh : h.size ≤ 32) (hs : s.size ≤ 32) : tagWell 3 (sgPair b h s) = true := by
  refine tag_yes (by decide) ?_ ?_
  · unfold sgPair; split <;> simp
  · intro p hp
    unfold sgPair at hp
    split at hp <;> simp only [List.mem_cons, List.not_mem_nil, or_false] at hp <;> rcases hp with rfl | rfl <;> omega
theorem one_well {o : ByteArray} (h : o.size ≤ 32) : tagWell 6 [o] = true := tag_yes (by decide) (by simp) (fun p hp => by simp at hp; rw [hp]; omega)
theorem lk_well (idx : Int) (s : SigV) (hs : ∀ x ∈ s.sh, x.size ≤ 32) : tagWell 6 (lkL idx s 8) = true :=
  tag_yes (by decide) (by rw [lkL_len]; decide) (fun p hp => by have := lkL_fit idx s hs 8 p hp; omega)
theorem tagH_cut {k : Int} {ps : List ByteArray} (h : tagWell k ps = true) (wd : Int) : cutT (tagTx k ps) wd = tagH k ps wd := by rw [tagH, if_pos h]
/-- the texts -/
def sgTx (text : ByteArray) (s : SigV) (k : Nat) : ByteArray := tagTx 3 (sgPair (s.at_.toNat / 2 ^ k % 2) (sgSt (tagH 6 (lkL (sgIdx text) s 8) 16) s.at_.toNat s.si k) (s.si.getD k ⟨#[]⟩))
def sgLow (s : SigV) (n : Nat) : List ByteArray := (List.range n).map fun j => lkT (s.op.getD j ⟨#[]⟩)
def sgMid (text : ByteArray) (s : SigV) : List ByteArray := sgLow s 8 ++ [tagTx 6 (lkL (sgIdx text) s 8)]
def sgUp (text : ByteArray) (s : SigV) (n : Nat) : List ByteArray := sgMid text s ++ (List.range n).map (sgTx text s)
theorem sgLow_succ (s : SigV) (n : Nat) : sgLow s (n + 1) = sgLow s n ++ [lkT (s.op.getD n ⟨#[]⟩)] := by simp [sgLow, List.range_succ]
theorem sgLow_len (s : SigV) (n : Nat) : (sgLow s n).length = n := by simp [sgLow]
theorem sgUp_succ (text : ByteArray) (s : SigV) (n : Nat) : sgUp text s (n + 1) = sgUp text s n ++ [sgTx text s n] := by simp [sgUp, List.range_succ]
theorem sgUp_len (text : ByteArray) (s : SigV) (n : Nat) : (sgUp text s n).length = 9 + n := by simp [sgUp, sgMid, sgLow]; omega
theorem sgUp_last (text : ByteArray) (s : SigV) (hs : ∀ x ∈ s.sh, x.size ≤ 32) (hi : ∀ x ∈ s.si, x.size ≤ 32) (n : Nat) : cutT ((sgUp text s n).getD (8 + n) ⟨#[]⟩) 16 = sgSt (tagH 6 (lkL (sgIdx text) s 8) 16) s.at_.toNat s.si n := by
  cases n with
  | zero =>
    have e : (sgUp text s 0).getD (8 + 0) ⟨#[]⟩ = tagTx 6 (lkL (sgIdx text) s 8) := by simp [sgUp, sgMid, sgLow]
    rw [e]
    exact tagH_cut (lk_well _ s hs) 16
  | succ n =>
    have e : (sgUp text s (n + 1)).getD (8 + (n + 1)) ⟨#[]⟩ = sgTx text s n := by
      rw [sgUp_succ, List.getD_eq_getElem?_getD, List.getElem?_append_right (by rw [sgUp_len]; omega), sgUp_len]
      simp [show 8 + (n + 1) - (9 + n) = 0 by omega]
    rw [e]
    exact tagH_cut (sgPair_well (sgSt_le _ _ _ (tagH_le _ _ _) n) (getD_le hi n)) 16
end Go.Proofs.YtkphipgfcbckcaaGreatDoor
namespace Go.Proofs.YtkphipgfcbckcaaGreatDoor
open Go.RowKit

theorem bitT_two (i l : Int) : bitT i l = 0 ∨ bitT i l = 1 := by
  unfold bitT
  split
  · show IntKind.i64.wrap ((BitVec.ofInt 64 _ &&& BitVec.ofInt 64 1).toNat : Int) = 0 ∨ IntKind.i64.wrap ((BitVec.ofInt 64 _ &&& BitVec.ofInt 64 1).toNat : Int) = 1
    have h : (BitVec.ofInt 64 (i / 2 ^ (7 - l).toNat) &&& BitVec.ofInt 64 1).toNat ≤ 1 := by
      rw [BitVec.toNat_and]
      exact Nat.le_trans Nat.and_le_right (by decide)
    generalize (BitVec.ofInt 64 (i / 2 ^ (7 - l).toNat) &&& BitVec.ofInt 64 1).toNat = m at h ⊢
    have : m = 0 ∨ m = 1 := by omega
    rcases this with rfl | rfl
    · left; decide
    · right; decide
  · exact Or.inl rfl
theorem wide16_32 {xs : List ByteArray} (h : wide xs 16 = true) : ∀ x ∈ xs, x.size ≤ 32 := by
  intro x hx
  rw [wide, List.all_eq_true] at h
  have := of_decide_eq_true (h x hx)
  omega
theorem sigWell_wide {s : SigV} (h : sigWell s = true) : wide s.op 16 = true ∧ wide s.sh 16 = true ∧ wide s.si 16 = true := by
  simp only [sigWell, Bool.and_eq_true] at h
  exact ⟨h.2.1.1, h.2.2.1.1, h.2.2.2.1⟩
theorem sg_size {text : ByteArray} (h : text.size ≤ 200) : (tagH 7 [text] 16).size = 16 := by
  have hw : tagWell 7 [text] = true := tag_yes (by decide) (by simp) (fun p hp => by simp at hp; rw [hp]; exact h)
  have := cutT_size (tagTx 7 [text]) 16 (by decide)
  rw [tagH, if_pos hw]
  omega
theorem sg_at (text : ByteArray) (h : 0 < (tagH 7 [text] 16).size) : ((((tagH 7 [text] 16)[0]'h).toNat : Nat) : Int) = sgIdx text := by
  rw [sgIdx, byte_getD _ _ h]

set_option maxHeartbeats 400000 in
theorem impl_SignBitsOf (text : ByteArray) (w : World) (ht : text.size ≤ 200) (hT : Tabs w) :
    Calls Tryz.prog 55 #[.string text] w fun e w' => e = .returned (.int .i64 (sgIdx text)) ∧ Ext w w' := by
  have HT := Lib.hid hT
  have h16 := sg_size ht
  have hz : 0 < (tagH 7 [text] 16).size := by omega
  have hz1 : (0 : Int) < (tagH 7 [text] 16).size := by omega
  have R := Lib.hid (sg_at text hz)
  have hb := ((tagH 7 [text] 16)[0]'hz).toNat_lt
  have ff := fit1 (a := text) (by unfold maxLen; omega)
  have H16 := Lib.hid h16
  clear hT h16
  go_enter Tryz.func55, Tryz.ntmps55
  go_wp2_with (go_at_call 61; refine (impl_hashOf 7 _ [text] 16 _ (by exact strs_lit1 _ _ _) ff (by exact HT.out.ext (by repeat (first | (with_reducible first | exact Ext.refl _ | assumption | apply Ext.alloc | apply Ext.drew | apply Ext.drewN | refine Ext.setCell ?_ ?_ _ | refine Ext.trans ?_ (by assumption)) | (show _ ≤ _; first | omega | (dsimp only; omega) | (simp; done) | (simp; omega)))))).mono ?_; rintro e w1 ⟨rfl, x1⟩)
  go_ret
  exact ⟨ret_int R.out, (by repeat (first | (with_reducible first | exact Ext.refl _ | assumption | apply Ext.alloc | apply Ext.drew | apply Ext.drewN | refine Ext.setCell ?_ ?_ _ | refine Ext.trans ?_ (by assumption)) | (show _ ≤ _; first | omega | (dsimp only; omega) | (simp; done) | (simp; omega))))⟩
set_option maxHeartbeats 400000 in
theorem spec_SignBitsOf (text : ByteArray) (w : World) (ht : text.size ≤ 200) :
    Calls Tryz.prog 62 #[.string text] w fun e w' => e = .returned (.int .i64 (sgIdx text)) ∧ Ext w w' := by
  have h16 := sg_size ht
  have hz : 0 < (tagH 7 [text] 16).size := by omega
  have hz1 : (0 : Int) < (tagH 7 [text] 16).size := by omega
  have R := Lib.hid (sg_at text hz)
  have hb := ((tagH 7 [text] 16)[0]'hz).toNat_lt
  have ff := fit1 (a := text) (by unfold maxLen; omega)
  have hne0 : ¬ tagH 7 [text] 16 = ⟨#[]⟩ := fun e => by rw [e] at hz; exact absurd hz (by decide)
  have hE : (tagH 7 [text] 16).toList.isEmpty = false := by
    cases h : (tagH 7 [text] 16).toList with
    | nil => exact absurd (toList_inj.1 (h.trans (show [] = (⟨#[]⟩ : ByteArray).toList by first | rfl | decide | simp))) hne0
    | cons => rfl
  have H16 := Lib.hid h16
  clear h16
  go_enter Tryz.func62, Tryz.ntmps62
  go_wp2_with (go_at_call 68; refine (spec_TagHash 7 _ [text] 16 _ (by exact strs_lit1 _ _ _) ff).mono ?_; rintro e w1 ⟨rfl, x1⟩)
  go_ret
  exact ⟨ret_int R.out, (by repeat (first | (with_reducible first | exact Ext.refl _ | assumption | apply Ext.alloc | apply Ext.drew | apply Ext.drewN | refine Ext.setCell ?_ ?_ _ | refine Ext.trans ?_ (by assumption)) | (show _ ≤ _; first | omega | (dsimp only; omega) | (simp; done) | (simp; omega))))⟩
theorem spec_LockOf (o : ByteArray) (w : World) (ho : o.size ≤ maxLen) :
    Calls Tryz.prog 65 #[.string o] w fun e w' => e = .returned (.string (lkH o)) ∧ Ext w w' := by
  have ff := fit1 ho
  go_enter Tryz.func65, Tryz.ntmps65
  go_wp2_with (go_at_call 68; refine (spec_TagHash 6 _ [o] 16 _ (by exact strs_lit1 _ _ _) ff).mono ?_; rintro e w1 ⟨rfl, x1⟩)
  go_ret
  exact ⟨rfl, (by repeat (first | (with_reducible first | exact Ext.refl _ | assumption | apply Ext.alloc | apply Ext.drew | apply Ext.drewN | refine Ext.setCell ?_ ?_ _ | refine Ext.trans ?_ (by assumption)) | (show _ ≤ _; first | omega | (dsimp only; omega) | (simp; done) | (simp; omega))))⟩
theorem half_all : ∀ b : Fin 16, ((b.val : Nat) : Int).tmod 2 = ((b.val % 2 : Nat) : Int) ∧ ((b.val : Nat) : Int).tdiv 2 = ((b.val / 2 : Nat) : Int) := by decide
theorem sigOk_no1 {root text : ByteArray} {s : SigV} (h : sigWell s = false) : sigOkB root text s = false := by rw [sigOkB, h]; rfl
theorem sigOk_no2 {root text : ByteArray} {s : SigV} (h : ¬ text.size ≤ 200) : sigOkB root text s = false := by rw [sigOkB, decide_eq_false h]; simp
theorem sigOk_yes {root text : ByteArray} {s : SigV} (h : sigWell s = true) (k : text.size ≤ 200) : sigOkB root text s = decide (sgRoot text s = root) := by rw [sigOkB, h, decide_eq_true k]; rfl
theorem str_cell {w : World} {a : Option Addr} {n c : Nat} {ys : List ByteArray} (h : Strs w (.slice a n c) ys) (hn : 0 < ys.length) : ∃ b o, a = some ⟨b, o, none⟩ ∧ b < w.heap.size ∧ ∀ t, t < ys.length → w.cell? ⟨b, o + t, none⟩ = some (.string (ys.getD t ⟨#[]⟩)) := by
  obtain ⟨-, a1, c1, hv, -, -, g⟩ := h
  injection hv with e1 e2 e3
  subst e1
  rcases g with g | ⟨b, o, rfl, hb, g⟩
  · omega
  · refine ⟨b, o, rfl, hb, fun t ht => g t _ ?_⟩
    rw [List.getElem?_map, List.getD_eq_getElem?_getD, List.getElem?_eq_getElem ht]
    rfl
theorem lkPair_0 {idx : Int} {s : SigV} {j : Nat} (h : bitT idx j = 0) : lkPair idx s j = [lkH (s.op.getD j ⟨#[]⟩), s.sh.getD j ⟨#[]⟩] := by rw [lkPair, if_pos h]
theorem lkPair_1 {idx : Int} {s : SigV} {j : Nat} (h : bitT idx j = 1) : lkPair idx s j = [s.sh.getD j ⟨#[]⟩, lkH (s.op.getD j ⟨#[]⟩)] := by rw [lkPair, if_neg (by rw [h]; decide)]
end Go.Proofs.YtkphipgfcbckcaaGreatDoor
