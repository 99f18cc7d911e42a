/- Numbers, parts read: the program. -/
import Derived.Test.YtliebkhfddmhjaaRvP
import Derived.Test.YtliebkhfddmhjaaCore
import Derived.Test.YtliebkhfddmhjaaFields
import Derived.OwnWalk
namespace Go.Proofs.Ytliebkhfddmhjaa
open Go.RowKit

theorem ret_rv {t : ByteArray} {a : Int} {v e : Int} {o : Bool} (h : rvOk t a = o ∧ (rvV t a : Int) = v ∧ (rvE t a : Int) = e) : Ending.returned (.tuple #[.int .i64 v, .int .i64 e, .bool o]) = .returned (.tuple #[.int .i64 (rvV t a), .int .i64 (rvE t a), .bool (rvOk t a)]) := by rw [h.1, h.2.1, h.2.2]
theorem ret_no {t : ByteArray} {a : Int} (h : rvOk t a = false ∧ rvV t a = 0 ∧ rvE t a = 0) : Ending.returned (.tuple #[.int .i64 0, .int .i64 0, .bool false]) = .returned (.tuple #[.int .i64 (rvV t a), .int .i64 (rvE t a), .bool (rvOk t a)]) := ret_rv ⟨h.1, by rw [h.2.1]; rfl, by rw [h.2.2]; rfl⟩
set_option maxRecDepth 100000 in
set_option maxHeartbeats 6400000 in
theorem impl_ReadVar (t : ByteArray) (a : Int) (w : World) (hs : t.size ≤ 1099511627776) :
    Calls Try.prog 42 #[.string t, .int .i64 a] w fun e w' => e = .returned (.tuple #[.int .i64 (rvV t a), .int .i64 (rvE t a), .bool (rvOk t a)]) ∧ w = w' := by
  by_cases hin : 0 ≤ a ∧ a ≤ t.size
  · have HI := Lib.hid (inB_true.2 hin)
    obtain ⟨h0, h1⟩ := hin
    obtain ⟨a, rfl⟩ := Int.eq_ofNat_of_zero_le h0
    go_enter Try.func42, Try.ntmps42
    go_wp2_with (go_at_call 38; refine (impl_in _ _ _ _).mono ?_; rw [HI.out]; rintro e w' ⟨rfl, rfl⟩)
    go_loop [7, 8, 9] (fun n k _ => ∃ k' acc : Nat, k' ≤ 5 ∧ k = .int .i64 k' ∧ n = .int .i64 acc ∧ VarIn t a k' acc) (fun _ k _ => 5 - (intOf k).toNat)
    case atStart => exact ⟨0, 0, by omega, rfl, rfl, VarIn.zero t a⟩
    case round =>
      obtain ⟨k, acc, hk, rfl, rfl, hv⟩ := hrel
      have hacc := hv.lt
      have HV := Lib.hid hv
      clear hv
      by_cases hlt : k < 5
      · by_cases hi : a + k < t.size
        · have hb := (t[a + k]).toNat_lt
          rcases (show k = 0 ∨ k = 1 ∨ k = 2 ∨ k = 3 ∨ k = 4 by omega) with rfl | rfl | rfl | rfl | rfl
          · have HM : Hid (128 ≤ (t[a]).toNat → VarIn t a 1 (acc + (t[a]).toNat % 128 * 128 ^ 0)) := Lib.hid (fun h => HV.out.more hi h)
            have HL : Hid ((t[a]).toNat < 128 → (0 = 0 ∨ (t[a]).toNat ≠ 0) → acc + (t[a]).toNat * 1 ≤ 1000000000 → rvOk t a = true ∧ rvV t a = acc + (t[a]).toNat * 1 ∧ rvE t a = a + 0 + 1) := Lib.hid (fun h1 h2 h3 => HV.out.last hi h1 h2 h3)
            have HZ : Hid ((t[a]).toNat < 128 → (0 < 0 ∧ (t[a]).toNat = 0 ∨ 1000000000 < acc + (t[a]).toNat * 1) → rvOk t a = false ∧ rvV t a = 0 ∧ rvE t a = 0) := Lib.hid (fun h1 h2 => HV.out.zlast hi h1 h2)
            clear HV
            have hA : acc < 1 := by simpa using hacc
            have hi' : (a : Int) < t.size := by omega
            have hyb : (t[a]).toNat < 256 := hb
            have hw1 := wrap64_byte (t[a])
            have hn0 : (0 : Int) ≤ (t[a]).toNat := by omega
            clear hacc hb HI
            by_cases hx : (t[a]).toNat < 128
            · by_cases hz : (0 < 0 ∧ (t[a]).toNat = 0) ∨ 1000000000 < acc + (t[a]).toNat * 1
              · have HN := Lib.hid (HZ.out hx hz)
                have hz0 := hz
                have HZ0 := Lib.hid hz
                clear hz HM HL HZ
                exfalso; have := HZ0.out; omega
              · have HN := Lib.hid (HL.out hx (by omega) (by omega))
                have HZ0 := Lib.hid hz
                clear hz HM HL HZ
                go_wp2
                all_goals have hz := HZ0.out
                all_goals first | (exfalso; omega) | skip
                all_goals go_ret3
                all_goals exact ⟨ret_rv ⟨HN.out.1, by rw [HN.out.2.1]; first | (simp; done) | (simp; omega), by rw [HN.out.2.2]; first | (simp; done) | (simp; omega)⟩, rfl⟩
            · have HN := Lib.hid (HM.out (by omega))
              clear HM HL HZ
              go_wp2
              all_goals first | (exfalso; omega) | skip
              go_round
              case rel => exact ⟨1, acc + (t[a]).toNat % 128 * 128 ^ 0, by omega, by go_num, by go_num, HN.out⟩
              case measure => simp [intOf]
          · have HM : Hid (128 ≤ (t[a + 1]).toNat → VarIn t a 2 (acc + (t[a + 1]).toNat % 128 * 128 ^ 1)) := Lib.hid (fun h => HV.out.more hi h)
            have HL : Hid ((t[a + 1]).toNat < 128 → (1 = 0 ∨ (t[a + 1]).toNat ≠ 0) → acc + (t[a + 1]).toNat * 128 ≤ 1000000000 → rvOk t a = true ∧ rvV t a = acc + (t[a + 1]).toNat * 128 ∧ rvE t a = a + 1 + 1) := Lib.hid (fun h1 h2 h3 => HV.out.last hi h1 h2 h3)
            have HZ : Hid ((t[a + 1]).toNat < 128 → (0 < 1 ∧ (t[a + 1]).toNat = 0 ∨ 1000000000 < acc + (t[a + 1]).toNat * 128) → rvOk t a = false ∧ rvV t a = 0 ∧ rvE t a = 0) := Lib.hid (fun h1 h2 => HV.out.zlast hi h1 h2)
            clear HV
            have hA : acc < 128 := by simpa using hacc
            have hi' : (a : Int) + 1 < t.size := by omega
            have hyb : (t[a + 1]).toNat < 256 := hb
            have hw1 := wrap64_byte (t[a + 1])
            have hn0 : (0 : Int) ≤ (t[a + 1]).toNat := by omega
            clear hacc hb HI
            by_cases hx : (t[a + 1]).toNat < 128
            · by_cases hz : (0 < 1 ∧ (t[a + 1]).toNat = 0) ∨ 1000000000 < acc + (t[a + 1]).toNat * 128
              · have HN := Lib.hid (HZ.out hx hz)
                have hz0 := hz
                have HZ0 := Lib.hid hz
                clear hz HM HL HZ
                rcases (show (t[a + 1]).toNat = 0 ∨ ((t[a + 1]).toNat ≠ 0 ∧ 1000000000 < acc + (t[a + 1]).toNat * 128) by omega) with hz1 | ⟨hz1, hz2⟩
                all_goals clear hz0
                · have hz3 : ((t[a + 1]).toNat : Int) = 0 := by omega
                  clear hz1
                  go_wp2
                  go_ret3
                  exact ⟨ret_no HN.out, rfl⟩
                · have HZ2 := Lib.hid hz2
                  clear hz2
                  go_wp2
                  all_goals have hz2 := HZ2.out
                  all_goals first | (exfalso; omega) | skip
                  all_goals go_ret3
                  all_goals exact ⟨ret_no HN.out, rfl⟩
              · have HN := Lib.hid (HL.out hx (by omega) (by omega))
                have HZ0 := Lib.hid hz
                clear hz HM HL HZ
                go_wp2
                all_goals have hz := HZ0.out
                all_goals first | (exfalso; omega) | skip
                all_goals go_ret3
                all_goals exact ⟨ret_rv ⟨HN.out.1, by rw [HN.out.2.1]; first | (simp; done) | (simp; omega), by rw [HN.out.2.2]; first | (simp; done) | (simp; omega)⟩, rfl⟩
            · have HN := Lib.hid (HM.out (by omega))
              clear HM HL HZ
              go_wp2
              all_goals first | (exfalso; omega) | skip
              go_round
              case rel => exact ⟨2, acc + (t[a + 1]).toNat % 128 * 128 ^ 1, by omega, by go_num, by go_num, HN.out⟩
              case measure => simp [intOf]
          · have HM : Hid (128 ≤ (t[a + 2]).toNat → VarIn t a 3 (acc + (t[a + 2]).toNat % 128 * 128 ^ 2)) := Lib.hid (fun h => HV.out.more hi h)
            have HL : Hid ((t[a + 2]).toNat < 128 → (2 = 0 ∨ (t[a + 2]).toNat ≠ 0) → acc + (t[a + 2]).toNat * 16384 ≤ 1000000000 → rvOk t a = true ∧ rvV t a = acc + (t[a + 2]).toNat * 16384 ∧ rvE t a = a + 2 + 1) := Lib.hid (fun h1 h2 h3 => HV.out.last hi h1 h2 h3)
            have HZ : Hid ((t[a + 2]).toNat < 128 → (0 < 2 ∧ (t[a + 2]).toNat = 0 ∨ 1000000000 < acc + (t[a + 2]).toNat * 16384) → rvOk t a = false ∧ rvV t a = 0 ∧ rvE t a = 0) := Lib.hid (fun h1 h2 => HV.out.zlast hi h1 h2)
            clear HV
            have hA : acc < 16384 := by simpa using hacc
            have hi' : (a : Int) + 2 < t.size := by omega
            have hyb : (t[a + 2]).toNat < 256 := hb
            have hw1 := wrap64_byte (t[a + 2])
            have hn0 : (0 : Int) ≤ (t[a + 2]).toNat := by omega
            clear hacc hb HI
            by_cases hx : (t[a + 2]).toNat < 128
            · by_cases hz : (0 < 2 ∧ (t[a + 2]).toNat = 0) ∨ 1000000000 < acc + (t[a + 2]).toNat * 16384
              · have HN := Lib.hid (HZ.out hx hz)
                have hz0 := hz
                have HZ0 := Lib.hid hz
                clear hz HM HL HZ
                rcases (show (t[a + 2]).toNat = 0 ∨ ((t[a + 2]).toNat ≠ 0 ∧ 1000000000 < acc + (t[a + 2]).toNat * 16384) by omega) with hz1 | ⟨hz1, hz2⟩
                all_goals clear hz0
                · have hz3 : ((t[a + 2]).toNat : Int) = 0 := by omega
                  clear hz1
                  go_wp2
                  go_ret3
                  exact ⟨ret_no HN.out, rfl⟩
                · have HZ2 := Lib.hid hz2
                  clear hz2
                  go_wp2
                  all_goals have hz2 := HZ2.out
                  all_goals first | (exfalso; omega) | skip
                  all_goals go_ret3
                  all_goals exact ⟨ret_no HN.out, rfl⟩
              · have HN := Lib.hid (HL.out hx (by omega) (by omega))
                have HZ0 := Lib.hid hz
                clear hz HM HL HZ
                go_wp2
                all_goals have hz := HZ0.out
                all_goals first | (exfalso; omega) | skip
                all_goals go_ret3
                all_goals exact ⟨ret_rv ⟨HN.out.1, by rw [HN.out.2.1]; first | (simp; done) | (simp; omega), by rw [HN.out.2.2]; first | (simp; done) | (simp; omega)⟩, rfl⟩
            · have HN := Lib.hid (HM.out (by omega))
              clear HM HL HZ
              go_wp2
              all_goals first | (exfalso; omega) | skip
              go_round
              case rel => exact ⟨3, acc + (t[a + 2]).toNat % 128 * 128 ^ 2, by omega, by go_num, by go_num, HN.out⟩
              case measure => simp [intOf]
          · have HM : Hid (128 ≤ (t[a + 3]).toNat → VarIn t a 4 (acc + (t[a + 3]).toNat % 128 * 128 ^ 3)) := Lib.hid (fun h => HV.out.more hi h)
            have HL : Hid ((t[a + 3]).toNat < 128 → (3 = 0 ∨ (t[a + 3]).toNat ≠ 0) → acc + (t[a + 3]).toNat * 2097152 ≤ 1000000000 → rvOk t a = true ∧ rvV t a = acc + (t[a + 3]).toNat * 2097152 ∧ rvE t a = a + 3 + 1) := Lib.hid (fun h1 h2 h3 => HV.out.last hi h1 h2 h3)
            have HZ : Hid ((t[a + 3]).toNat < 128 → (0 < 3 ∧ (t[a + 3]).toNat = 0 ∨ 1000000000 < acc + (t[a + 3]).toNat * 2097152) → rvOk t a = false ∧ rvV t a = 0 ∧ rvE t a = 0) := Lib.hid (fun h1 h2 => HV.out.zlast hi h1 h2)
            clear HV
            have hA : acc < 2097152 := by simpa using hacc
            have hi' : (a : Int) + 3 < t.size := by omega
            have hyb : (t[a + 3]).toNat < 256 := hb
            have hw1 := wrap64_byte (t[a + 3])
            have hn0 : (0 : Int) ≤ (t[a + 3]).toNat := by omega
            clear hacc hb HI
            by_cases hx : (t[a + 3]).toNat < 128
            · by_cases hz : (0 < 3 ∧ (t[a + 3]).toNat = 0) ∨ 1000000000 < acc + (t[a + 3]).toNat * 2097152
              · have HN := Lib.hid (HZ.out hx hz)
                have hz0 := hz
                have HZ0 := Lib.hid hz
                clear hz HM HL HZ
                rcases (show (t[a + 3]).toNat = 0 ∨ ((t[a + 3]).toNat ≠ 0 ∧ 1000000000 < acc + (t[a + 3]).toNat * 2097152) by omega) with hz1 | ⟨hz1, hz2⟩
                all_goals clear hz0
                · have hz3 : ((t[a + 3]).toNat : Int) = 0 := by omega
                  clear hz1
                  go_wp2
                  go_ret3
                  exact ⟨ret_no HN.out, rfl⟩
                · have HZ2 := Lib.hid hz2
                  clear hz2
                  go_wp2
                  all_goals have hz2 := HZ2.out
                  all_goals first | (exfalso; omega) | skip
                  all_goals go_ret3
                  all_goals exact ⟨ret_no HN.out, rfl⟩
              · have HN := Lib.hid (HL.out hx (by omega) (by omega))
                have HZ0 := Lib.hid hz
                clear hz HM HL HZ
                go_wp2
                all_goals have hz := HZ0.out
                all_goals first | (exfalso; omega) | skip
                all_goals go_ret3
                all_goals exact ⟨ret_rv ⟨HN.out.1, by rw [HN.out.2.1]; first | (simp; done) | (simp; omega), by rw [HN.out.2.2]; first | (simp; done) | (simp; omega)⟩, rfl⟩
            · have HN := Lib.hid (HM.out (by omega))
              clear HM HL HZ
              go_wp2
              all_goals first | (exfalso; omega) | skip
              go_round
              case rel => exact ⟨4, acc + (t[a + 3]).toNat % 128 * 128 ^ 3, by omega, by go_num, by go_num, HN.out⟩
              case measure => simp [intOf]
          · have HM : Hid (128 ≤ (t[a + 4]).toNat → VarIn t a 5 (acc + (t[a + 4]).toNat % 128 * 128 ^ 4)) := Lib.hid (fun h => HV.out.more hi h)
            have HL : Hid ((t[a + 4]).toNat < 128 → (4 = 0 ∨ (t[a + 4]).toNat ≠ 0) → acc + (t[a + 4]).toNat * 268435456 ≤ 1000000000 → rvOk t a = true ∧ rvV t a = acc + (t[a + 4]).toNat * 268435456 ∧ rvE t a = a + 4 + 1) := Lib.hid (fun h1 h2 h3 => HV.out.last hi h1 h2 h3)
            have HZ : Hid ((t[a + 4]).toNat < 128 → (0 < 4 ∧ (t[a + 4]).toNat = 0 ∨ 1000000000 < acc + (t[a + 4]).toNat * 268435456) → rvOk t a = false ∧ rvV t a = 0 ∧ rvE t a = 0) := Lib.hid (fun h1 h2 => HV.out.zlast hi h1 h2)
            clear HV
            have hA : acc < 268435456 := by simpa using hacc
            have hi' : (a : Int) + 4 < t.size := by omega
            have hyb : (t[a + 4]).toNat < 256 := hb
            have hw1 := wrap64_byte (t[a + 4])
            have hn0 : (0 : Int) ≤ (t[a + 4]).toNat := by omega
            clear hacc hb HI
            by_cases hx : (t[a + 4]).toNat < 128
            · by_cases hz : (0 < 4 ∧ (t[a + 4]).toNat = 0) ∨ 1000000000 < acc + (t[a + 4]).toNat * 268435456
              · have HN := Lib.hid (HZ.out hx hz)
                have hz0 := hz
                have HZ0 := Lib.hid hz
                clear hz HM HL HZ
                rcases (show (t[a + 4]).toNat = 0 ∨ ((t[a + 4]).toNat ≠ 0 ∧ 1000000000 < acc + (t[a + 4]).toNat * 268435456) by omega) with hz1 | ⟨hz1, hz2⟩
                all_goals clear hz0
                · have hz3 : ((t[a + 4]).toNat : Int) = 0 := by omega
                  clear hz1
                  go_wp2
                  go_ret3
                  exact ⟨ret_no HN.out, rfl⟩
                · have HZ2 := Lib.hid hz2
                  clear hz2
                  go_wp2
                  all_goals have hz2 := HZ2.out
                  all_goals first | (exfalso; omega) | skip
                  all_goals go_ret3
                  all_goals exact ⟨ret_no HN.out, rfl⟩
              · have HN := Lib.hid (HL.out hx (by omega) (by omega))
                have HZ0 := Lib.hid hz
                clear hz HM HL HZ
                go_wp2
                all_goals have hz := HZ0.out
                all_goals first | (exfalso; omega) | skip
                all_goals go_ret3
                all_goals exact ⟨ret_rv ⟨HN.out.1, by rw [HN.out.2.1]; first | (simp; done) | (simp; omega), by rw [HN.out.2.2]; first | (simp; done) | (simp; omega)⟩, rfl⟩
            · have HN := Lib.hid (HM.out (by omega))
              clear HM HL HZ
              go_wp2
              all_goals first | (exfalso; omega) | skip
              go_round
              case rel => exact ⟨5, acc + (t[a + 4]).toNat % 128 * 128 ^ 4, by omega, by go_num, by go_num, HN.out⟩
              case measure => simp [intOf]
        · have HN := Lib.hid (HV.out.short (by omega))
          have hi' : ¬ (a : Int) + k < t.size := by omega
          have hk5 : (k : Int) < 5 := by omega
          have hd : decide ((a : Int) + k < t.size) = false := by simpa using hi'
          go_wp2
          all_goals first | (exfalso; omega) | skip
          go_ret3
          exact ⟨ret_no HN.out, rfl⟩
      · obtain rfl : k = 5 := by omega
        have HN := Lib.hid HV.out.long
        go_wp2
        go_ret3
        exact ⟨ret_no HN.out, rfl⟩
  · have hno := rv_off (t := t) (a := a) (by omega)
    have HI := Lib.hid (show inB a 0 t.size = false from inB_false.2 (by omega))
    have HN := Lib.hid hno
    clear hno hin
    go_enter Try.func42, Try.ntmps42
    go_wp2_with (go_at_call 38; refine (impl_in _ _ _ _).mono ?_; rw [HI.out]; rintro e w' ⟨rfl, rfl⟩)
    go_ret3
    exact ⟨ret_no HN.out, rfl⟩
theorem ret_rs {t : ByteArray} {a : Int} {s : ByteArray} {e : Int} {o : Bool} (h1 : rsT t a = s) (h2 : (rsE t a : Int) = e) : Ending.returned (.tuple #[.string s, .int .i64 e, .bool o]) = .returned (.tuple #[.string (rsT t a), .int .i64 (rsE t a), .bool o]) := by rw [h1, h2]
set_option maxHeartbeats 1600000 in
theorem impl_ReadShort (t : ByteArray) (a : Int) (w : World) (hs : t.size ≤ 1099511627776) :
    Calls Try.prog 97 #[.string t, .int .i64 a] w fun e w' => e = .returned (.tuple #[.string (rsT t a), .int .i64 (rsE t a), .bool (rsOk t a)]) ∧ w = w' := by
  have hv := rvV_bd t a
  have he := rvE_bd t a
  cases h : rsOk t a
  · obtain ⟨r1, r2⟩ := rs_no h
    have hc : rvOk t a = false ∨ 20000 < rvV t a ∨ t.size < rvV t a + rvE t a := by
      simp only [rsOk, Bool.and_eq_false_iff, decide_eq_false_iff_not] at h
      rcases h with h | h | h
      · exact Or.inl h
      · exact Or.inr (Or.inl (by omega))
      · exact Or.inr (Or.inr (by omega))
    have HR := Lib.hid (show rsOk t a = false ∧ rsT t a = ⟨#[]⟩ ∧ (rsE t a : Int) = 0 from ⟨h, r1, by rw [r2]; rfl⟩)
    clear h r1 r2
    cases hk : rvOk t a
    · have HK := Lib.hid hk
      clear hk hc
      go_enter Try.func97, Try.ntmps97
      go_wp2_with fail
      refine (impl_ReadVar t a _ hs).mono ?_
      rw [HK.out]
      rintro e w' ⟨rfl, rfl⟩
      go_wp2
      go_ret3
      exact ⟨ret_rs HR.out.2.1 HR.out.2.2, rfl⟩
    · have HK := Lib.hid hk
      rw [hk] at hc
      have hc' : 20000 < rvV t a ∨ t.size < rvV t a + rvE t a := by rcases hc with hc | hc; cases hc; exact hc
      clear hk hc
      go_enter Try.func97, Try.ntmps97
      go_wp2_with fail
      refine (impl_ReadVar t a _ hs).mono ?_
      rw [HK.out]
      rintro e w' ⟨rfl, rfl⟩
      generalize rvV t a = v at *
      generalize rvE t a = n at *
      rcases (show 20000 < v ∨ (v ≤ 20000 ∧ t.size < v + n) by omega) with h1 | ⟨h1, h2⟩
      · have h1' : (20000 : Int) < v := by omega
        go_wp2
        go_ret3
        exact ⟨ret_rs HR.out.2.1 HR.out.2.2, rfl⟩
      · have h1' : ¬ (20000 : Int) < v := by omega
        have h2' : (t.size : Int) - n < v := by omega
        go_wp2
        all_goals first | (exfalso; omega) | skip
        go_ret3
        exact ⟨ret_rs HR.out.2.1 HR.out.2.2, rfl⟩
  · obtain ⟨r1, r2⟩ := rs_yes h
    have h' := h
    simp only [rsOk, Bool.and_eq_true, decide_eq_true_eq] at h'
    obtain ⟨k1, k2, k3⟩ := h'
    have HR := Lib.hid r1
    have HE := Lib.hid r2
    have HK := Lib.hid k1
    clear h r1 r2 k1
    go_enter Try.func97, Try.ntmps97
    go_wp2_with fail
    refine (impl_ReadVar t a _ hs).mono ?_
    rw [HK.out]
    rintro e w' ⟨rfl, rfl⟩
    generalize rvV t a = v at *
    generalize rvE t a = n at *
    have q1 : ¬ (20000 : Int) < v := by omega
    have q2 : ¬ (t.size : Int) - n < v := by omega
    go_wp2
    all_goals first | (exfalso; omega) | skip
    go_ret3
    exact ⟨ret_rs (by rw [HR.out]; first | done | (congr 1; omega)) (by rw [HE.out]; first | rfl | omega), rfl⟩
/-- what 'short()' leaves -/
noncomputable def shAt (t : ByteArray) (a : Int) : Int := if rsOk t a = true then rsE t a else a
theorem shAt_bd {t : ByteArray} {a : Int} (ha : 0 ≤ a ∧ a ≤ t.size) : 0 ≤ shAt t a ∧ shAt t a ≤ t.size := by
  unfold shAt
  split
  · exact rsE_bd t a
  · exact ha
set_option maxHeartbeats 800000 in
theorem impl_fields_short (b : Nat) (t : ByteArray) (at_ : Int) (bad : Bool) (w : World) (h : Fld w b t at_ bad) (hs : t.size ≤ 1099511627776) :
    Calls Try.prog 71 #[.pointer (some ⟨b, 0, none⟩)] w fun e w' => e = .returned (.string (rsT t at_)) ∧ Mut b w w' ∧ Fld w' b t (shAt t at_) (bad || !rsOk t at_) := by
  have HF := Lib.hid h
  obtain ⟨h0, h1, h2, hf⟩ := h
  cases hk : rsOk t at_
  · obtain ⟨r1, r2⟩ := rs_no hk
    have hc := fun w => impl_ReadShort t at_ w hs
    simp only [hk, r1] at hc
    have HC := Lib.hid hc
    have HR := Lib.hid r1
    have HA := Lib.hid (show shAt t at_ = at_ by rw [shAt, if_neg (by rw [hk]; decide)])
    have HB := Lib.hid (show (bad || !false) = true by simp)
    rw [HB.out, HA.out, HR.out]
    clear hk r1 r2 hc
    go_enter Try.func71, Try.ntmps71
    generalize rsE t at_ = n at *
    go_wp2
    go_quiet ((go_at_call 97; exact quiet_left (HC.out _)))
    go_wp2
    go_ret
    exact ⟨rfl, ((Mut.refl b w).drewN _).setCell _ _, (HF.out.drewN _).bad true⟩
  · have hc := fun w => impl_ReadShort t at_ w hs
    simp only [hk] at hc
    have HC := Lib.hid hc
    have HA := Lib.hid (show shAt t at_ = rsE t at_ by rw [shAt, if_pos hk])
    have HB := Lib.hid (show (bad || !true) = bad by simp)
    rw [HB.out, HA.out]
    clear hk hc
    go_enter Try.func71, Try.ntmps71
    generalize rsE t at_ = n at *
    go_wp2
    go_quiet ((go_at_call 97; exact quiet_left (HC.out _)))
    go_wp2
    go_ret
    exact ⟨rfl, ((Mut.refl b w).drewN _).setCell _ _, (HF.out.drewN _).at _⟩
end Go.Proofs.Ytliebkhfddmhjaa
