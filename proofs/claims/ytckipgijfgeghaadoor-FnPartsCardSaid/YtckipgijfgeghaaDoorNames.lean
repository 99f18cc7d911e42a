/- Names and values: the program's test and the reference's answer 'nameOk', 'valueOk'. -/
import Derived.Test.YtckipgijfgeghaaDoorCore
namespace Go.Proofs.YtckipgijfgeghaaDoor
open Go.RowKit

def nameByte (c : Int) : Bool := (decide (97 ≤ c) && decide (c ≤ 122)) || ((decide (48 ≤ c) && decide (c ≤ 57)) || (decide (c = 64) || decide (c = 46)))
def valueByte (c : Int) : Bool := decide (33 ≤ c) && decide (c ≤ 126)
theorem nameByte_eq {c : Int} : nameByte c = decide ((97 ≤ c ∧ c ≤ 122) ∨ (48 ≤ c ∧ c ≤ 57) ∨ c = 64 ∨ c = 46) := by simp [nameByte]
theorem valueByte_eq {c : Int} : valueByte c = decide (33 ≤ c ∧ c ≤ 126) := by simp [valueByte]
def bytesAll (p : Int → Bool) (s : ByteArray) : Bool := s.data.toList.all fun b => p b.toNat
def nameOk (s : ByteArray) : Bool := bytesAll nameByte s && inB s.size 1 12
def valueOk (s : ByteArray) : Bool := bytesAll valueByte s && inB s.size 1 12

theorem bytesAll_iff {p : Int → Bool} {s : ByteArray} : bytesAll p s = true ↔ ∀ i (h : i < s.size), p s[i].toNat = true := by
  rw [bytesAll, List.all_eq_true]
  constructor
  · intro h i hi
    exact h _ (by rw [ByteArray.getElem_eq_getElem_data]; exact Array.getElem_mem_toList ..)
  · intro h b hb
    obtain ⟨i, hi, rfl⟩ := List.getElem_of_mem hb
    have := h i (by simpa using hi)
    simpa [ByteArray.getElem_eq_getElem_data] using this
theorem bytesAll_false {p : Int → Bool} {s : ByteArray} {i : Nat} (h : i < s.size) (hp : p s[i].toNat = false) : bytesAll p s = false := by
  cases hb : bytesAll p s
  · rfl
  · rw [bytesAll_iff.1 hb i h] at hp; cases hp
theorem bytesAll_true {p : Int → Bool} {s : ByteArray} {k : Nat} (hk : s.size ≤ k) (h : ∀ i (h : i < s.size), i < k → p s[i].toNat = true) : bytesAll p s = true :=
  bytesAll_iff.2 fun i hi => h i hi (by omega)
theorem upto_succ {p : Int → Bool} {s : ByteArray} {k : Nat} (hk : k < s.size) (h : ∀ i (h : i < s.size), i < k → p s[i].toNat = true) (e : p s[k].toNat = true) : ∀ i (h : i < s.size), i < k + 1 → p s[i].toNat = true := by
  intro i hi hik
  rcases Nat.lt_or_eq_of_le (Nat.le_of_lt_succ hik) with h1 | rfl
  · exact h i hi h1
  · exact e

set_option maxHeartbeats 800000 in
theorem impl_NameOk (s : ByteArray) (w : World) (hs : s.size ≤ maxLen) :
    Calls Tryd.prog 39 #[.string s] w fun e w' => e = .returned (.bool (nameOk s)) ∧ w = w' := by
  unfold maxLen at hs
  go_enter Tryd.func39, Tryd.ntmps39
  go_wp2
  go_loop [3] (fun i => ∃ k : Nat, k ≤ s.size ∧ k ≤ 13 ∧ i = .int .i64 k ∧ ∀ i (h : i < s.size), i < k → nameByte s[i].toNat = true) (fun i => 20 - (intOf i).toNat)
  case atStart => exact ⟨0, Nat.zero_le _, by omega, rfl, by omega⟩
  case round =>
    obtain ⟨k, hk, hk2, rfl, hall⟩ := hrel
    have HA := Lib.hid hall
    clear hall
    by_cases hlt : k < s.size ∧ k ≤ 12
    · obtain ⟨h1, h2⟩ := hlt
      have hb := s[k].toNat_lt
      rcases (show (s[k].toNat : Int) < 46 ∨ (46 ≤ (s[k].toNat : Int) ∧ (s[k].toNat : Int) ≤ 46) ∨ (47 ≤ (s[k].toNat : Int) ∧ (s[k].toNat : Int) ≤ 47) ∨ (48 ≤ (s[k].toNat : Int) ∧ (s[k].toNat : Int) ≤ 57) ∨ (58 ≤ (s[k].toNat : Int) ∧ (s[k].toNat : Int) ≤ 63) ∨ (64 ≤ (s[k].toNat : Int) ∧ (s[k].toNat : Int) ≤ 64) ∨ (65 ≤ (s[k].toNat : Int) ∧ (s[k].toNat : Int) ≤ 96) ∨ (97 ≤ (s[k].toNat : Int) ∧ (s[k].toNat : Int) ≤ 122) ∨ 123 ≤ (s[k].toNat : Int) from by omega) with hc | ⟨hc, hd⟩ | ⟨hc, hd⟩ | ⟨hc, hd⟩ | ⟨hc, hd⟩ | ⟨hc, hd⟩ | ⟨hc, hd⟩ | ⟨hc, hd⟩ | hc
      all_goals
       first | (have e64 : ((s[k].toNat : Int) != 64) = true := by rw [bne_iff_ne]; omega) | (have e64 : ((s[k].toNat : Int) != 64) = false := by rw [bne_eq_false_iff_eq]; omega)
       first | (have e46 : ((s[k].toNat : Int) != 46) = true := by rw [bne_iff_ne]; omega) | (have e46 : ((s[k].toNat : Int) != 46) = false := by rw [bne_eq_false_iff_eq]; omega)
       go_wp2
       first
        | (go_ret; exact ⟨ret_bool (by rw [nameOk, bytesAll_false (p := nameByte) h1 (by rw [nameByte_eq]; exact decide_eq_false (by omega))]; rfl), rfl⟩)
        | (go_round
           case rel => exact ⟨k + 1, by omega, by omega, by go_num, upto_succ h1 HA.out (by rw [nameByte_eq]; exact decide_eq_true (by omega))⟩
           case measure => simp [intOf]; omega)
    · by_cases h13 : s.size ≤ 12
      · have he : bytesAll nameByte s = true := bytesAll_true (k := k) (by omega) HA.out
        have HE := Lib.hid he
        clear he
        go_wp2_with (go_at_call 30; refine (impl_in _ _ _ _).mono ?_; rintro e w' ⟨rfl, rfl⟩)
        go_ret
        exact ⟨ret_bool (by rw [nameOk, HE.out, Bool.true_and]), rfl⟩
      · have he : inB s.size 1 12 = false := inB_false.2 (by omega)
        have HE := Lib.hid he
        clear he
        go_wp2_with (go_at_call 30; refine (impl_in _ _ _ _).mono ?_; rintro e w' ⟨rfl, rfl⟩)
        all_goals go_ret
        all_goals exact ⟨ret_bool (by rw [nameOk, HE.out, Bool.and_false]), rfl⟩

set_option maxHeartbeats 800000 in
theorem spec_NameOk (s : ByteArray) (w : World) (hs : s.size ≤ maxLen) :
    Calls Tryd.prog 68 #[.string s] w fun e w' => e = .returned (.bool (nameOk s)) ∧ w = w' := by
  unfold maxLen at hs
  go_enter Tryd.func68, Tryd.ntmps68
  go_wp2
  go_loop [3] (fun i => ∃ k : Nat, k ≤ s.size ∧ i = .int .i64 k ∧ ∀ i (h : i < s.size), i < k → nameByte s[i].toNat = true) (fun i => s.size - (intOf i).toNat)
  case atStart => exact ⟨0, Nat.zero_le _, rfl, by omega⟩
  case round =>
    obtain ⟨k, hk, rfl, hall⟩ := hrel
    have HA := Lib.hid hall
    clear hall
    by_cases h1 : k < s.size
    · have hb := s[k].toNat_lt
      rcases (show (s[k].toNat : Int) < 46 ∨ (46 ≤ (s[k].toNat : Int) ∧ (s[k].toNat : Int) ≤ 46) ∨ (47 ≤ (s[k].toNat : Int) ∧ (s[k].toNat : Int) ≤ 47) ∨ (48 ≤ (s[k].toNat : Int) ∧ (s[k].toNat : Int) ≤ 57) ∨ (58 ≤ (s[k].toNat : Int) ∧ (s[k].toNat : Int) ≤ 63) ∨ (64 ≤ (s[k].toNat : Int) ∧ (s[k].toNat : Int) ≤ 64) ∨ (65 ≤ (s[k].toNat : Int) ∧ (s[k].toNat : Int) ≤ 96) ∨ (97 ≤ (s[k].toNat : Int) ∧ (s[k].toNat : Int) ≤ 122) ∨ 123 ≤ (s[k].toNat : Int) from by omega) with hc | ⟨hc, hd⟩ | ⟨hc, hd⟩ | ⟨hc, hd⟩ | ⟨hc, hd⟩ | ⟨hc, hd⟩ | ⟨hc, hd⟩ | ⟨hc, hd⟩ | hc
      all_goals
       first | (have e64 : ((s[k].toNat : Int) != 64) = true := by rw [bne_iff_ne]; omega) | (have e64 : ((s[k].toNat : Int) != 64) = false := by rw [bne_eq_false_iff_eq]; omega)
       first | (have e46 : ((s[k].toNat : Int) != 46) = true := by rw [bne_iff_ne]; omega) | (have e46 : ((s[k].toNat : Int) != 46) = false := by rw [bne_eq_false_iff_eq]; omega)
       go_wp2
       first
        | (go_ret; exact ⟨ret_bool (by rw [nameOk, bytesAll_false (p := nameByte) h1 (by rw [nameByte_eq]; exact decide_eq_false (by omega))]; rfl), rfl⟩)
        | (go_round
           case rel => exact ⟨k + 1, by omega, by go_num, upto_succ h1 HA.out (by rw [nameByte_eq]; exact decide_eq_true (by omega))⟩
           case measure => simp [intOf]; omega)
    · have he : bytesAll nameByte s = true := bytesAll_true (k := k) (by omega) HA.out
      have HE := Lib.hid he
      clear he
      go_wp2_with (go_at_call 44; refine (spec_l01In _ _ _ _).mono ?_; rintro e w' ⟨rfl, rfl⟩)
      go_ret
      exact ⟨ret_bool (by rw [nameOk, HE.out, Bool.true_and]), rfl⟩
set_option maxHeartbeats 800000 in
theorem impl_ValueOk (s : ByteArray) (w : World) (hs : s.size ≤ maxLen) :
    Calls Tryd.prog 40 #[.string s] w fun e w' => e = .returned (.bool (valueOk s)) ∧ w = w' := by
  unfold maxLen at hs
  go_enter Tryd.func40, Tryd.ntmps40
  go_wp2
  go_loop [3] (fun i => ∃ k : Nat, k ≤ s.size ∧ k ≤ 13 ∧ i = .int .i64 k ∧ ∀ i (h : i < s.size), i < k → valueByte s[i].toNat = true) (fun i => 20 - (intOf i).toNat)
  case atStart => exact ⟨0, Nat.zero_le _, by omega, rfl, by omega⟩
  case round =>
    obtain ⟨k, hk, hk2, rfl, hall⟩ := hrel
    have HA := Lib.hid hall
    clear hall
    by_cases hlt : k < s.size ∧ k ≤ 12
    · obtain ⟨h1, h2⟩ := hlt
      have hb := s[k].toNat_lt
      have hw := wrap64_byte s[k]
      cases hv : inB s[k].toNat 33 126
      · have hf := inB_false.1 hv
        go_wp2_with (go_at_call 30; refine (impl_in _ _ _ _).mono ?_; rintro e w' ⟨rfl, rfl⟩)
        go_ret
        exact ⟨ret_bool (by rw [valueOk, bytesAll_false (p := valueByte) h1 (by rw [valueByte_eq]; exact decide_eq_false (by omega))]; rfl), rfl⟩
      · have hf := inB_true.1 hv
        go_wp2_with (go_at_call 30; refine (impl_in _ _ _ _).mono ?_; rintro e w' ⟨rfl, rfl⟩)
        go_round
        case rel => exact ⟨k + 1, by omega, by omega, by go_num, upto_succ h1 HA.out (by rw [valueByte_eq]; exact decide_eq_true (by omega))⟩
        case measure => simp [intOf]; omega
    · by_cases h13 : s.size ≤ 12
      · have he : bytesAll valueByte s = true := bytesAll_true (k := k) (by omega) HA.out
        have HE := Lib.hid he
        clear he
        go_wp2_with (go_at_call 30; refine (impl_in _ _ _ _).mono ?_; rintro e w' ⟨rfl, rfl⟩)
        go_ret
        exact ⟨ret_bool (by rw [valueOk, HE.out, Bool.true_and]), rfl⟩
      · have he : inB s.size 1 12 = false := inB_false.2 (by omega)
        have HE := Lib.hid he
        clear he
        go_wp2_with (go_at_call 30; refine (impl_in _ _ _ _).mono ?_; rintro e w' ⟨rfl, rfl⟩)
        all_goals go_ret
        all_goals exact ⟨ret_bool (by rw [valueOk, HE.out, Bool.and_false]), rfl⟩
set_option maxHeartbeats 800000 in
theorem spec_ValueOk (s : ByteArray) (w : World) (hs : s.size ≤ maxLen) :
    Calls Tryd.prog 69 #[.string s] w fun e w' => e = .returned (.bool (valueOk s)) ∧ w = w' := by
  unfold maxLen at hs
  go_enter Tryd.func69, Tryd.ntmps69
  go_wp2
  go_loop [3] (fun i => ∃ k : Nat, k ≤ s.size ∧ i = .int .i64 k ∧ ∀ i (h : i < s.size), i < k → valueByte s[i].toNat = true) (fun i => s.size - (intOf i).toNat)
  case atStart => exact ⟨0, Nat.zero_le _, rfl, by omega⟩
  case round =>
    obtain ⟨k, hk, rfl, hall⟩ := hrel
    have HA := Lib.hid hall
    clear hall
    by_cases h1 : k < s.size
    · have hb := s[k].toNat_lt
      go_wp2
      all_goals first
        | (go_ret; exact ⟨ret_bool (by rw [valueOk, bytesAll_false (p := valueByte) h1 (by rw [valueByte_eq]; exact decide_eq_false (by omega))]; rfl), rfl⟩)
        | (go_round
           case rel => exact ⟨k + 1, by omega, by go_num, upto_succ h1 HA.out (by rw [valueByte_eq]; exact decide_eq_true (by omega))⟩
           case measure => simp [intOf]; omega)
    · have he : bytesAll valueByte s = true := bytesAll_true (k := k) (by omega) HA.out
      have HE := Lib.hid he
      clear he
      go_wp2_with (go_at_call 44; refine (spec_l01In _ _ _ _).mono ?_; rintro e w' ⟨rfl, rfl⟩)
      go_ret
      exact ⟨ret_bool (by rw [valueOk, HE.out, Bool.true_and]), rfl⟩
end Go.Proofs.YtckipgijfgeghaaDoor
