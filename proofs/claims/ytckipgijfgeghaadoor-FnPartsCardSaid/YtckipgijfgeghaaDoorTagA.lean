/- Tag, TagInj in one text. -/
import Derived.Test.YtckipgijfgeghaaDoorStrA
import Derived.Test.YtckipgijfgeghaaDoorCore
import Derived.Lib.AppendStr
import Derived.Deep.RegionHeld3
namespace Go.Proofs.YtckipgijfgeghaaDoor
open Go.RowKit

theorem conv_str {w : World} {base g cap n : Nat} {t : ByteArray} (h : w.ownsRow base 5 1 (.slice (some ⟨g, 0, none⟩) n cap) n (Lib.strCells t)) :
    (convert 22 9 (.slice (some ⟨g, 0, none⟩) n cap)).run Tryd.prog w = .ok (.string t) w := by
  rw [strCells_nums8] at h
  have := conv_own h
  rwa [strOfNums_nums8] at this

/-- a kind, and parts behind it -/
def tagUpto (kind : Int) (ps : List ByteArray) (k : Nat) : ByteArray := (ps.take k).foldl (fun a p => a ++ (varT p.size ++ p)) (strOfNums [kind])
def tagWell (kind : Int) (ps : List ByteArray) : Bool := inB kind 1 8 && (decide (ps.length ≤ 60) && ps.all fun p => decide (p.size ≤ 200))
def tagTx (kind : Int) (ps : List ByteArray) : ByteArray := if tagWell kind ps = true then tagUpto kind ps ps.length else ⟨#[]⟩
theorem tagUpto_succ (kind : Int) (ps : List ByteArray) (k : Nat) (h : k < ps.length) : tagUpto kind ps (k + 1) = tagUpto kind ps k ++ (varT ps[k].size ++ ps[k]) := by
  unfold tagUpto
  rw [List.take_succ_eq_append_getElem h, List.foldl_append]
  rfl
theorem short_succ {ps : List ByteArray} {k : Nat} (h : k < ps.length) (ha : ∀ p ∈ ps.take k, p.size ≤ 200) (e : ps[k].size ≤ 200) : ∀ p ∈ ps.take (k + 1), p.size ≤ 200 := by
  intro p hp
  rw [List.take_succ_eq_append_getElem h, List.mem_append] at hp
  rcases hp with hp | hp
  · exact ha p hp
  · simp at hp; rw [hp]; exact e
theorem tagUpto_size (kind : Int) (ps : List ByteArray) : ∀ k, k ≤ ps.length → (∀ p ∈ ps.take k, p.size ≤ 200) → (tagUpto kind ps k).size ≤ 1 + 401 * k
  | 0, _, _ => by simp [tagUpto, strOfNums_size]
  | k + 1, h, ha => by
    have hm : ∀ p ∈ ps.take k, p.size ≤ 200 := fun p hp => ha p (by rw [List.take_succ_eq_append_getElem (by omega)]; exact List.mem_append_left _ hp)
    have h1 := tagUpto_size kind ps k (by omega) hm
    have h2 := ha ps[k] (by rw [List.take_succ_eq_append_getElem (by omega)]; exact List.mem_append_right _ (List.mem_singleton.2 rfl))
    have h3 := varT_size ps[k].size
    rw [tagUpto_succ kind ps k (by omega)]
    simp only [ByteArray.size_append]
    omega
theorem tagUpto_pos (kind : Int) (ps : List ByteArray) : ∀ k, k ≤ ps.length → 0 < (tagUpto kind ps k).size
  | 0, _ => by simp [tagUpto, strOfNums_size]
  | k + 1, h => by
    have h1 := tagUpto_pos kind ps k (by omega)
    rw [tagUpto_succ kind ps k (by omega), ByteArray.size_append]
    omega
theorem tag_no (kind : Int) (ps : List ByteArray) (h : tagWell kind ps = false) : tagTx kind ps = ⟨#[]⟩ := by simp [tagTx, h]
theorem tag_yes {kind : Int} {ps : List ByteArray} (hi : inB kind 1 8 = true) (hl : ps.length ≤ 60) (ha : ∀ p ∈ ps, p.size ≤ 200) : tagWell kind ps = true := by
  rw [tagWell, hi, decide_eq_true hl, Bool.true_and, Bool.true_and, List.all_eq_true]
  exact fun p hp => decide_eq_true (ha p hp)
theorem tag_long {kind : Int} {ps : List ByteArray} {k : Nat} (h : k < ps.length) (e : ¬ ps[k].size ≤ 200) : tagWell kind ps = false := by
  have : ps.all (fun p => decide (p.size ≤ 200)) = false := by
    rw [List.all_eq_false]
    exact ⟨ps[k], List.getElem_mem h, by simpa using e⟩
  rw [tagWell, this]
  simp

set_option maxRecDepth 100000 in
set_option maxHeartbeats 800000 in
theorem impl_TagText (kind : Int) (v : Value) (ps : List ByteArray) (w : World) (h : Strs w v ps) (hs : ∀ s ∈ ps, s.size ≤ maxLen) :
    Calls Tryd.prog 75 #[.int .i64 kind, v] w fun e w' => e = .returned (.tuple #[.string (tagTx kind ps), .bool (tagWell kind ps)]) ∧ Ext w w' := by
  obtain ⟨i0, hi, hz0, hz1, hz2⟩ := info_parts infoByte
  obtain ⟨-, a1, c1, rfl, hc1, hm1, g1⟩ := h
  unfold maxLen at hm1 hs
  by_cases hin : inB kind 1 8 = true
  · by_cases hlen : ps.length ≤ 60
    · have hb := inB_true.1 hin
      have hli : ¬ ((60 : Int) < ps.length) := by omega
      have HI := Lib.hid hin
      clear hin
      go_enter Tryd.func75, Tryd.ntmps75
      go_wp2_with (go_at_call 30; refine (impl_in _ _ _ _).mono ?_; rw [HI.out]; rintro e w' ⟨rfl, rfl⟩)
      go_loopw [6, 8, 22] (fun v _ i wr => ∃ k : Nat, k ≤ ps.length ∧ i = .int .i64 k ∧ (∀ p ∈ ps.take k, p.size ≤ 200) ∧ wr.ownsRow w.heap.size 5 1 v (tagUpto kind ps k).size (Lib.strCells (tagUpto kind ps k)) ∧ Ext w wr) (fun _ _ i _ => ps.length - (intOf i).toNat)
      case atStart =>
        refine ⟨0, Nat.zero_le _, rfl, by simp, ?_, (by repeat (first | (with_reducible first | exact Ext.refl _ | assumption | apply Ext.alloc | apply Ext.drew | apply Ext.drewN | refine Ext.setCell ?_ ?_ _ | refine Ext.trans ?_ (by assumption)) | (show _ ≤ _; first | omega | (dsimp only; omega) | (simp; done) | (simp; omega))))⟩
        rw [show tagUpto kind ps 0 = strOfNums [kind] by simp [tagUpto], strCells_one kind (by omega), strOfNums_size]
        exact World.ownsRow_lit w #[.int .u8 kind] 1 (Nat.le_refl _) (by unfold maxLen; omega) rfl
      case round =>
        obtain ⟨k, hk, rfl, hall, hown, hx⟩ := hrel
        have HA := Lib.hid hall
        obtain ⟨g, cap, rfl⟩ := own_form hown (tagUpto_pos kind ps k hk)
        have hsz := hx.size
        have z0 := tagUpto_size kind ps k hk hall
        clear hall
        by_cases hlt : k < ps.length
        · rcases g1 with g1 | ⟨b1, o1, rfl, hb1, g1⟩
          · omega
          have e1 : wr.cell? ⟨b1, o1 + k, none⟩ = some (.string ps[k]) := (hx.cell b1 _ hb1).trans (g1 k _ (by simp [hlt]))
          have hsk := hs ps[k] (List.getElem_mem hlt)
          clear g1 hs
          by_cases hq : ps[k].size ≤ 200
          · have hqi : ¬ ((200 : Int) < ps[k].size) := by omega
            have z1 := varT_size ps[k].size
            have HO := Lib.hid hown
            have HU := Lib.hid (tagUpto_succ kind ps k hlt)
            have hm := (short_succ hlt HA.out hq)
            have HM := Lib.hid hm
            clear hown hm
            go_wp2_with fail
            refine (impl_shortText ps[k] _ (by omega)).mono ?_
            rintro e w1 ⟨rfl, x1⟩
            have hown := own_ext HO.out x1
            have hz1 := x1.size
            have hz2 : (varT ps[k].size ++ ps[k]).size ≤ 401 := by rw [ByteArray.size_append]; omega
            generalize hS : varT ps[k].size ++ ps[k] = S at *
            have HS := Lib.hid hS
            clear hS
            go_wp2_with (at_builtin; refine Lib.wpList_append_own_string _ rfl (.tmp 29) (.tmp 31) 22 9 rfl w.heap.size 5 i0 Tryd.underlying22 Tryd.underlying9 hi hz0 (by assumption) (by assumption) _ _ _ rfl hown S rfl ?c3 ?c4 ?c5 ?_)
            case c3 => unfold maxLen; omega
            case c4 => omega
            case c5 => omega
            intro v' w2 hown' hgrow _
            have hx2 : Ext w w2 := own_ext_of (hx.trans x1) hown hgrow (Nat.le_refl _)
            obtain ⟨a', c', rfl⟩ := own_any hown'
            have HO2 := Lib.hid hown'
            clear hown' hgrow hown
            go_wp2
            go_roundw
            case rel =>
              refine ⟨k + 1, by omega, by go_num, HM.out, ?_, hx2⟩
              rw [HU.out, strCells_append, ByteArray.size_append]
              exact HO2.out
            case measure => simp [intOf]; omega
          · have hqi : (200 : Int) < ps[k].size := by omega
            have hf := tag_long (kind := kind) hlt hq
            have HF := Lib.hid hf
            have HT := Lib.hid (tag_no kind ps hf)
            clear hf hq
            go_wp2
            go_ret2
            exact ⟨ret_sb HT.out.symm HF.out.symm, (by repeat (first | (with_reducible first | exact Ext.refl _ | assumption | apply Ext.alloc | apply Ext.drew | apply Ext.drewN | refine Ext.setCell ?_ ?_ _ | refine Ext.trans ?_ (by assumption)) | (show _ ≤ _; first | omega | (dsimp only; omega) | (simp; done) | (simp; omega))))⟩
        · have hkn : k = ps.length := by omega
          subst hkn
          have hall := HA.out
          rw [List.take_length] at hall
          have hf := tag_yes HI.out hlen hall
          have HF := Lib.hid hf
          have HT := Lib.hid (show tagTx kind ps = tagUpto kind ps ps.length by simp [tagTx, hf])
          have hcv := conv_str hown
          clear g1 hs hall hf hown
          go_wp2
          go_ret2
          exact ⟨ret_sb HT.out.symm HF.out.symm, hx⟩
    · have hli : (60 : Int) < ps.length := by omega
      have hf : tagWell kind ps = false := by simp [tagWell, hlen]
      have HF := Lib.hid hf
      have HT := Lib.hid (tag_no kind ps hf)
      have HI := Lib.hid hin
      clear hf hin
      go_enter Tryd.func75, Tryd.ntmps75
      go_wp2_with (go_at_call 30; refine (impl_in _ _ _ _).mono ?_; rw [HI.out]; rintro e w' ⟨rfl, rfl⟩)
      go_ret2
      exact ⟨ret_sb HT.out.symm HF.out.symm, (by repeat (first | (with_reducible first | exact Ext.refl _ | assumption | apply Ext.alloc | apply Ext.drew | apply Ext.drewN | refine Ext.setCell ?_ ?_ _ | refine Ext.trans ?_ (by assumption)) | (show _ ≤ _; first | omega | (dsimp only; omega) | (simp; done) | (simp; omega))))⟩
  · have hin' : inB kind 1 8 = false := by simpa using hin
    have hf : tagWell kind ps = false := by simp [tagWell, hin']
    have HF := Lib.hid hf
    have HT := Lib.hid (tag_no kind ps hf)
    have HI := Lib.hid hin'
    clear hf hin hin'
    go_enter Tryd.func75, Tryd.ntmps75
    go_wp2_with (go_at_call 30; refine (impl_in _ _ _ _).mono ?_; rw [HI.out]; rintro e w' ⟨rfl, rfl⟩)
    go_ret2
    exact ⟨ret_sb HT.out.symm HF.out.symm, (by repeat (first | (with_reducible first | exact Ext.refl _ | assumption | apply Ext.alloc | apply Ext.drew | apply Ext.drewN | refine Ext.setCell ?_ ?_ _ | refine Ext.trans ?_ (by assumption)) | (show _ ≤ _; first | omega | (dsimp only; omega) | (simp; done) | (simp; omega))))⟩

set_option maxRecDepth 100000 in
set_option maxHeartbeats 800000 in
theorem spec_TagText (kind : Int) (v : Value) (ps : List ByteArray) (w : World) (h : Strs w v ps) (hs : ∀ s ∈ ps, s.size ≤ maxLen) :
    Calls Tryd.prog 79 #[.int .i64 kind, v] w fun e w' => e = .returned (.tuple #[.string (tagTx kind ps), .bool (tagWell kind ps)]) ∧ Ext w w' := by
  obtain ⟨-, a1, c1, rfl, hc1, hm1, g1⟩ := h
  unfold maxLen at hm1 hs
  by_cases hin : inB kind 1 8 = true
  · by_cases hlen : ps.length ≤ 60
    · have hb := inB_true.1 hin
      have hli : ¬ ((60 : Int) < ps.length) := by omega
      have HI := Lib.hid hin
      have hcv := conv_lit1
      have e1 : kind % 256 = kind := by omega
      clear hin
      go_enter Tryd.func79, Tryd.ntmps79
      go_wp2_with (go_at_call 44; refine (spec_l01In _ _ _ _).mono ?_; rw [HI.out]; rintro e w' ⟨rfl, rfl⟩)
      clear hcv
      go_loopw [6, 7] (fun s i wr => ∃ k : Nat, k ≤ ps.length ∧ i = .int .i64 k ∧ (∀ p ∈ ps.take k, p.size ≤ 200) ∧ s = .string (tagUpto kind ps k) ∧ Ext w wr) (fun _ i _ => ps.length - (intOf i).toNat)
      case atStart => exact ⟨0, Nat.zero_le _, rfl, by simp, by simp [tagUpto], (by repeat (first | (with_reducible first | exact Ext.refl _ | assumption | apply Ext.alloc | apply Ext.drew | apply Ext.drewN | refine Ext.setCell ?_ ?_ _ | refine Ext.trans ?_ (by assumption)) | (show _ ≤ _; first | omega | (dsimp only; omega) | (simp; done) | (simp; omega))))⟩
      case round =>
        obtain ⟨k, hk, rfl, hall, rfl, hx⟩ := hrel
        have HA := Lib.hid hall
        have hsz := hx.size
        have z0 := tagUpto_size kind ps k hk hall
        clear hall
        by_cases hlt : k < ps.length
        · rcases g1 with g1 | ⟨b1, o1, rfl, hb1, g1⟩
          · omega
          have e1 : wr.cell? ⟨b1, o1 + k, none⟩ = some (.string ps[k]) := (hx.cell b1 _ hb1).trans (g1 k _ (by simp [hlt]))
          have l1 : b1 < wr.heap.size := Nat.lt_of_lt_of_le hb1 hx.size
          have hsk := hs ps[k] (List.getElem_mem hlt)
          clear g1 hs
          by_cases hq : ps[k].size ≤ 200
          · have hqi : ¬ ((200 : Int) < ps[k].size) := by omega
            have z1 := varT_size ps[k].size
            have HU := Lib.hid (tagUpto_succ kind ps k hlt)
            have HM := Lib.hid (short_succ hlt HA.out hq)
            have a1 : ¬ (9223372036854775807 < (tagUpto kind ps k).size + (varT ps[k].size).size) := by omega
            have a2 : ¬ (9223372036854775807 < (tagUpto kind ps k).size + (varT ps[k].size).size + ps[k].size) := by omega
            clear z0 z1
            go_wp2_with fail
            go_region_held3 (fun W => W.cell? ⟨b1, o1 + k, none⟩ = some (.string ps[k])) (first | exact e1 | exact (ya.cell _ _ l1).trans e1) ((go_at_call 83; refine (spec_l01Var ps[k].size _ (by omega)).mono ?_; rintro e wa ⟨rfl, xa⟩; have ya : Ext wr wa := (by repeat (first | (with_reducible first | exact Ext.refl _ | assumption | apply Ext.alloc | apply Ext.drew | apply Ext.drewN | refine Ext.setCell ?_ ?_ _ | refine Ext.trans ?_ (by assumption)) | (show _ ≤ _; first | omega | (dsimp only; omega) | (simp; done) | (simp; omega))))))
            all_goals
              go_wp2
              go_roundw
              case rel => exact ⟨k + 1, by omega, by go_num, HM.out, by rw [HU.out, ByteArray.append_assoc], (by repeat (first | (with_reducible first | exact Ext.refl _ | assumption | apply Ext.alloc | apply Ext.drew | apply Ext.drewN | refine Ext.setCell ?_ ?_ _ | refine Ext.trans ?_ (by assumption)) | (show _ ≤ _; first | omega | (dsimp only; omega) | (simp; done) | (simp; omega))))⟩
              case measure => simp [intOf]; omega
          · have hqi : (200 : Int) < ps[k].size := by omega
            have hf := tag_long (kind := kind) hlt hq
            have HF := Lib.hid hf
            have HT := Lib.hid (tag_no kind ps hf)
            clear hf hq
            go_wp2
            go_ret2
            exact ⟨ret_sb HT.out.symm HF.out.symm, (by repeat (first | (with_reducible first | exact Ext.refl _ | assumption | apply Ext.alloc | apply Ext.drew | apply Ext.drewN | refine Ext.setCell ?_ ?_ _ | refine Ext.trans ?_ (by assumption)) | (show _ ≤ _; first | omega | (dsimp only; omega) | (simp; done) | (simp; omega))))⟩
        · have hkn : k = ps.length := by omega
          subst hkn
          have hall := HA.out
          rw [List.take_length] at hall
          have hf := tag_yes HI.out hlen hall
          have HF := Lib.hid hf
          have HT := Lib.hid (show tagTx kind ps = tagUpto kind ps ps.length by simp [tagTx, hf])
          clear g1 hs hall hf
          go_wp2
          go_ret2
          exact ⟨ret_sb HT.out.symm HF.out.symm, hx⟩
    · have hli : (60 : Int) < ps.length := by omega
      have hf : tagWell kind ps = false := by simp [tagWell, hlen]
      have HF := Lib.hid hf
      have HT := Lib.hid (tag_no kind ps hf)
      have HI := Lib.hid hin
      clear hf hin
      go_enter Tryd.func79, Tryd.ntmps79
      go_wp2_with (go_at_call 44; refine (spec_l01In _ _ _ _).mono ?_; rw [HI.out]; rintro e w' ⟨rfl, rfl⟩)
      go_ret2
      exact ⟨ret_sb HT.out.symm HF.out.symm, (by repeat (first | (with_reducible first | exact Ext.refl _ | assumption | apply Ext.alloc | apply Ext.drew | apply Ext.drewN | refine Ext.setCell ?_ ?_ _ | refine Ext.trans ?_ (by assumption)) | (show _ ≤ _; first | omega | (dsimp only; omega) | (simp; done) | (simp; omega))))⟩
  · have hin' : inB kind 1 8 = false := by simpa using hin
    have hf : tagWell kind ps = false := by simp [tagWell, hin']
    have HF := Lib.hid hf
    have HT := Lib.hid (tag_no kind ps hf)
    have HI := Lib.hid hin'
    clear hf hin hin'
    go_enter Tryd.func79, Tryd.ntmps79
    go_wp2_with (go_at_call 44; refine (spec_l01In _ _ _ _).mono ?_; rw [HI.out]; rintro e w' ⟨rfl, rfl⟩)
    go_ret2
    exact ⟨ret_sb HT.out.symm HF.out.symm, (by repeat (first | (with_reducible first | exact Ext.refl _ | assumption | apply Ext.alloc | apply Ext.drew | apply Ext.drewN | refine Ext.setCell ?_ ?_ _ | refine Ext.trans ?_ (by assumption)) | (show _ ≤ _; first | omega | (dsimp only; omega) | (simp; done) | (simp; omega))))⟩
end Go.Proofs.YtckipgijfgeghaaDoor
namespace Go.Proofs.YtckipgijfgeghaaDoor
open Go.RowKit

/-- a number's bytes -/
def varB (n : Nat) : List UInt8 := (varT n).data.toList
theorem varB_more {n : Nat} (h : 127 < n) : varB n = UInt8.ofNat (128 + n % 128) :: varB (n / 128) := by
  rw [varB, varT, ba_nums, varL_more h, List.map_cons, varB, varT, ba_nums]
  congr 2
theorem varB_last {n : Nat} (h : ¬ 127 < n) : varB n = [UInt8.ofNat n] := by
  rw [varB, varT, ba_nums, varL_last h]
  simp
theorem ofNat_inj {a b : Nat} (ha : a < 256) (hb : b < 256) (h : UInt8.ofNat a = UInt8.ofNat b) : a = b := by
  have := congrArg UInt8.toNat h
  simp at this
  omega
/-- a number ends where it ends -/
theorem var_inj (n : Nat) : ∀ (m : Nat) (x y : List UInt8), varB n ++ x = varB m ++ y → n = m ∧ x = y := by
  induction n using Nat.strongRecOn with
  | ind n ih =>
    intro m x y h
    by_cases hn : 127 < n
    · by_cases hm : 127 < m
      · rw [varB_more hn, varB_more hm, List.cons_append, List.cons_append, List.cons.injEq] at h
        have h1 := ofNat_inj (by omega) (by omega) h.1
        obtain ⟨h2, h3⟩ := ih (n / 128) (by omega) (m / 128) x y h.2
        exact ⟨by omega, h3⟩
      · rw [varB_more hn, varB_last hm, List.cons_append, List.cons_append, List.cons.injEq] at h
        have h1 := ofNat_inj (by omega) (by omega) h.1
        omega
    · by_cases hm : 127 < m
      · rw [varB_last hn, varB_more hm, List.cons_append, List.cons_append, List.cons.injEq] at h
        have h1 := ofNat_inj (by omega) (by omega) h.1
        omega
      · rw [varB_last hn, varB_last hm, List.cons_append, List.cons_append, List.cons.injEq] at h
        have h1 := ofNat_inj (by omega) (by omega) h.1
        exact ⟨h1, by simpa using h.2⟩
theorem varB_pos (n : Nat) : varB n ≠ [] := by
  by_cases hn : 127 < n
  · rw [varB_more hn]; simp
  · rw [varB_last hn]; simp
/-- a part's bytes -/
def shortB (p : ByteArray) : List UInt8 := varB p.size ++ p.data.toList
theorem short_inj {p q : ByteArray} {x y : List UInt8} (h : shortB p ++ x = shortB q ++ y) : p = q ∧ x = y := by
  unfold shortB at h
  rw [List.append_assoc, List.append_assoc] at h
  obtain ⟨h1, h2⟩ := var_inj _ _ _ _ h
  obtain ⟨h3, h4⟩ := List.append_inj h2 (by rw [ba_len, ba_len]; exact h1)
  exact ⟨ba_ext h3, h4⟩
theorem shorts_inj : ∀ (ps qs : List ByteArray), ps.flatMap shortB = qs.flatMap shortB → ps = qs
  | [], [], _ => rfl
  | [], q :: qs, h => by
    rw [List.flatMap_nil, List.flatMap_cons] at h
    have := (List.append_eq_nil_iff.1 (List.append_eq_nil_iff.1 h.symm).1).1
    exact absurd this (varB_pos _)
  | p :: ps, [], h => by
    rw [List.flatMap_nil, List.flatMap_cons] at h
    have := (List.append_eq_nil_iff.1 (List.append_eq_nil_iff.1 h).1).1
    exact absurd this (varB_pos _)
  | p :: ps, q :: qs, h => by
    rw [List.flatMap_cons, List.flatMap_cons] at h
    obtain ⟨h1, h2⟩ := short_inj h
    rw [h1, shorts_inj ps qs h2]
theorem tag_foldl (ps : List ByteArray) : ∀ a : ByteArray, (ps.foldl (fun a p => a ++ (varT p.size ++ p)) a).data.toList = a.data.toList ++ ps.flatMap shortB := by
  induction ps with
  | nil => intro a; simp
  | cons p ps ih =>
    intro a
    rw [List.foldl_cons, ih, ba_append, ba_append, List.flatMap_cons]
    simp [shortB, varB]
theorem tag_list {kind : Int} {ps : List ByteArray} (h : tagWell kind ps = true) : (tagTx kind ps).data.toList = UInt8.ofNat kind.toNat :: ps.flatMap shortB := by
  rw [tagTx, if_pos h, tagUpto, List.take_length, tag_foldl, ba_nums]
  rfl
theorem tagWell_kind {kind : Int} {ps : List ByteArray} (h : tagWell kind ps = true) : 1 ≤ kind ∧ kind ≤ 8 := by
  rw [tagWell, Bool.and_eq_true, inB_true] at h
  exact h.1
/-- texts alike are of parts alike -/
theorem tag_inj {k k' : Int} {ps qs : List ByteArray} (h : tagWell k ps = true) (h' : tagWell k' qs = true) (e : tagTx k ps = tagTx k' qs) : k = k' ∧ ps = qs := by
  have e2 := congrArg (fun t : ByteArray => t.data.toList) e
  rw [tag_list h, tag_list h', List.cons.injEq] at e2
  have a := tagWell_kind h
  have b := tagWell_kind h'
  have h1 := ofNat_inj (by omega) (by omega) e2.1
  exact ⟨by omega, shorts_inj _ _ e2.2⟩
end Go.Proofs.YtckipgijfgeghaaDoor
