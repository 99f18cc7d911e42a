/- Records in frames: the reference. -/
import Derived.Test.YtckipgijfgeghaaFr
import Derived.Test.YtckipgijfgeghaaFilB
import Derived.Test.YtckipgijfgeghaaDskP
namespace Go.Proofs.Ytckipgijfgeghaa
open Go.RowKit

set_option maxRecDepth 100000 in
set_option maxHeartbeats 3200000 in
theorem spec_SumMore (s0 : Int) (t : ByteArray) (w : World) (h0 : 0 ≤ s0 ∧ s0 < 4294967296) (hs : t.size ≤ 1099511627776) :
    Calls Try.prog 109 #[.int .u32 s0, .string t] w fun e w' => e = .returned (.int .u32 (crcF s0 t)) ∧ w = w' := by
  have H0 := Lib.hid h0
  clear h0
  go_enter Try.func109, Try.ntmps109
  go_wp2
  go_loop [0, 5, 6, 7] (fun s i _ _ => ∃ k : Nat, k ≤ t.size ∧ i = .int .i64 k ∧ s = .int .u32 ((t.data.toList.take k).foldl crcStep s0)) (fun _ i _ _ => t.size - (intOf i).toNat)
  case atStart => exact ⟨0, Nat.zero_le _, rfl, rfl⟩
  case round =>
    obtain ⟨k, hk, rfl, rfl⟩ := hrel
    by_cases hlt : k < t.size
    · have HN := Lib.hid (crc_next t s0 hlt)
      have hb := (t[k]).toNat_lt
      have hw : IntKind.u32.wrap ((t[k]).toNat : Int) = (t[k]).toNat := by rw [IntKind.wrap_u32]; omega
      generalize hS : (t.data.toList.take k).foldl crcStep s0 = S at HN
      clear hS
      generalize hX : bits .xor .u32 S (t[k]).toNat = X at HN
      have HX := Lib.hid (show 0 ≤ X ∧ X < 4294967296 by rw [← hX]; exact xor32_bd _ _)
      go_wp2
      clear hX
      go_loop [0, 6, 7] (fun s j _ => ∃ m : Nat, m ≤ 8 ∧ j = .int .i64 m ∧ s = .int .u32 (crcBits m X)) (fun _ j _ => 8 - (intOf j).toNat)
      case atStart => exact ⟨0, Nat.zero_le _, rfl, rfl⟩
      case round =>
        obtain ⟨m, hm, rfl, rfl⟩ := hrel
        by_cases hm8 : m < 8
        · have hbd := crcBits_bd HX.out m
          have HC := Lib.hid (show crcBits (m + 1) X = crcBit (crcBits m X) from rfl)
          generalize crcBits m X = Y at *
          have hA : Int.tmod Y 2 = Y % 2 := Int.tmod_eq_emod_of_nonneg hbd.1
          have hB : Int.tdiv Y 2 = Y / 2 := Int.tdiv_eq_ediv_of_nonneg hbd.1
          have hW1 : IntKind.u32.wrap (Y % 2) = Y % 2 := by rw [IntKind.wrap_u32]; omega
          have hW2 : IntKind.u32.wrap (Y / 2) = Y / 2 := by rw [IntKind.wrap_u32]; omega
          by_cases hod : Y % 2 = 1
          · have HQ := Lib.hid (show crcBit Y = bits .xor .u32 (Y / 2) 3558460437 by rw [crcBit, if_pos hod])
            go_wp2
            go_round
            case rel => exact ⟨m + 1, by omega, by go_num, by rw [HC.out, HQ.out]⟩
            case measure => simp [intOf]; omega
          · have hod0 : Y % 2 = 0 := by omega
            have HQ := Lib.hid (show crcBit Y = Y / 2 by rw [crcBit, if_neg hod])
            clear hod
            go_wp2
            go_round
            case rel => exact ⟨m + 1, by omega, by go_num, by rw [HC.out, HQ.out]⟩
            case measure => simp [intOf]; omega
        · obtain rfl : m = 8 := by omega
          go_wp2
          go_round
          case rel => exact ⟨k + 1, by omega, by go_num, by rw [HN.out]⟩
          case measure => simp [intOf]; omega
    · have HE := Lib.hid (show (t.data.toList.take k).foldl crcStep s0 = crcF s0 t by rw [List.take_of_length_le (by rw [ba_len]; omega)]; rfl)
      go_wp2
      go_ret
      exact ⟨ret_word HE.out, rfl⟩
theorem spec_SumOf (t : ByteArray) (w : World) (hs : t.size ≤ 1099511627776) :
    Calls Try.prog 88 #[.string t] w fun e w' => e = .returned (.int .u32 (crcT t)) ∧ w = w' := by
  go_enter Try.func88, Try.ntmps88
  go_wp2_with (go_at_call 109; refine (spec_SumMore _ _ _ (by decide) hs).mono ?_; rintro e w' ⟨rfl, rfl⟩)
  go_ret
  exact ⟨rfl, rfl⟩
theorem spec_l02Four (s : Int) (w : World) :
    Calls Try.prog 87 #[.int .u32 s] w fun e w' => e = .returned (.string (strOfNums (fourN s))) ∧ Ext w w' := by
  have hc := conv_lit4
  have w1 : IntKind.u8.wrap (s / 16777216) = s / 16777216 % 256 := by simp [IntKind.wrap, IntKind.signed, IntKind.bits]
  have w2 : IntKind.u8.wrap (s / 65536) = s / 65536 % 256 := by simp [IntKind.wrap, IntKind.signed, IntKind.bits]
  have w3 : IntKind.u8.wrap (s / 256) = s / 256 % 256 := by simp [IntKind.wrap, IntKind.signed, IntKind.bits]
  have w4 : IntKind.u8.wrap s = s % 256 := by simp [IntKind.wrap, IntKind.signed, IntKind.bits]
  go_enter Try.func87, Try.ntmps87
  go_wp2
  go_ret
  exact ⟨rfl, (by repeat (first | (with_reducible first | exact Ext.refl _ | assumption | apply Ext.alloc | apply Ext.drew | apply Ext.drewN | refine Ext.setCell ?_ ?_ _ | refine Ext.trans ?_ (by assumption)) | (show _ ≤ _; first | omega | (dsimp only; omega) | (simp; done) | (simp; omega))))⟩
set_option maxHeartbeats 800000 in
theorem spec_Frame (t : ByteArray) (w : World) (hs : t.size ≤ 1099511627776) :
    Calls Try.prog 59 #[.string t] w fun e w' => e = .returned (.tuple #[.string (if recOk t = true then frT t else ⟨#[]⟩), .bool (recOk t)]) ∧ Ext w w' := by
  have HK := Lib.hid (show inB (t.size : Int) 1 9000 = recOk t from rfl)
  cases hk : recOk t
  · have HKK := Lib.hid hk
    clear hk
    go_enter Try.func59, Try.ntmps59
    go_wp2_with (go_at_call 82; refine (spec_l01In _ _ _ _).mono ?_; rw [HK.out, HKK.out]; rintro e w' ⟨rfl, rfl⟩)
    go_ret2
    exact ⟨rfl, Ext.refl _⟩
  · have HKK := Lib.hid hk
    have hb := recOk_true.1 hk
    have hf := four_4 t
    have hv := varT_size t.size
    have HT := Lib.hid (show varT t.size ++ four t ++ t = frT t from rfl)
    clear hk
    go_enter Try.func59, Try.ntmps59
    go_wp2_with fail
    refine (spec_l01In _ _ _ _).mono ?_
    rw [HK.out, HKK.out]
    rintro e w' ⟨rfl, rfl⟩
    go_wp2_with fail
    refine (spec_l01Var t.size _ (by omega)).mono ?_
    rintro e w1 ⟨rfl, x1⟩
    go_wp2_with fail
    refine (spec_SumOf t _ hs).mono ?_
    rintro e w' ⟨rfl, rfl⟩
    go_wp2_with fail
    refine (spec_l02Four _ _).mono ?_
    rw [show strOfNums (fourN (crcT t)) = four t from rfl]
    rintro e w2 ⟨rfl, x2⟩
    generalize four t = F at *
    generalize varT t.size = V at *
    go_wp2
    go_ret2
    exact ⟨by rw [HT.out]; rfl, x1.trans x2⟩
theorem spec_l08Name (w : World) :
    Calls Try.prog 58 #[.string logT] w fun e w' => e = .returned (.bool true) ∧ w = w' := by
  unfold logT
  go_enter Try.func58, Try.ntmps58
  go_wp2_with (go_at_call 82; refine (spec_l01In _ _ _ _).mono ?_; (first | rw [show inB ((⟨#[108, 111, 103]⟩ : ByteArray).size : Int) 1 8 = true by decide] | rw [show inB 3 1 8 = true by decide]); rintro e w' ⟨rfl, rfl⟩)
  go_ret
  exact ⟨rfl, rfl⟩
set_option maxHeartbeats 800000 in
theorem spec_LogActs (t : ByteArray) (w : World) (ht : recOk t = true) :
    Calls Try.prog 70 #[.string logT, .string t] w fun e w' => ∃ b, e = .returned (.tuple #[.slice (some ⟨b, 0, none⟩) 2 2, .bool true]) ∧ Acs w' (.slice (some ⟨b, 0, none⟩) 2 2) (logQ t) ∧ Ext w w' := by
  have HT := Lib.hid ht
  have hsz := (recOk_true.1 ht).2
  clear ht
  go_enter Try.func70, Try.ntmps70
  go_wp2_with fail
  refine (spec_Frame t _ (by omega)).mono ?_
  rw [HT.out, if_pos rfl]
  rintro e w1 ⟨rfl, x1⟩
  go_wp2_with fail
  refine (spec_l08Name _).mono ?_
  rintro e w2 ⟨rfl, rfl⟩
  have X : Ext w (w1.alloc (Obj.cells #[.int .i64 1, .string logT, .string (frT t), .string ⟨#[]⟩, .int .i64 2, .string logT, .string ⟨#[]⟩, .string ⟨#[]⟩] 75)) := x1.alloc _
  have Q := Bx.new w1 #[.int .i64 1, .string logT, .string (frT t), .string ⟨#[]⟩, .int .i64 2, .string logT, .string ⟨#[]⟩, .string ⟨#[]⟩] 75
  have HA := Lib.hid (acs_of (qs := logQ t) (n := 2) (c := 2) Q rfl rfl (by omega) (by decide))
  clear Q x1
  go_wp2
  go_ret2
  exact ⟨_, rfl, HA.out, X⟩
end Go.Proofs.Ytckipgijfgeghaa
