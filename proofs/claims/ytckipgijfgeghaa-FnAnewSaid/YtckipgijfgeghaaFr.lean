/- Records in frames: the program. -/
import Derived.Test.YtckipgijfgeghaaFrP
import Derived.Test.YtckipgijfgeghaaRdA
import Derived.Test.YtckipgijfgeghaaCore
import Derived.Test.YtckipgijfgeghaaStrA
namespace Go.Proofs.Ytckipgijfgeghaa
open Go.RowKit

theorem and_one32 {s : Int} (h : 0 ≤ s ∧ s < 4294967296) : bits .and .u32 s 1 = s % 2 := by
  obtain ⟨n, rfl⟩ := Int.eq_ofNat_of_zero_le h.1
  show IntKind.u32.wrap ((BitVec.ofInt 32 n &&& BitVec.ofInt 32 1).toNat : Int) = _
  have e : (BitVec.ofInt 32 n &&& BitVec.ofInt 32 1).toNat = n % 2 := by
    rw [BitVec.toNat_and, show (BitVec.ofInt 32 1).toNat = 1 by decide, Nat.and_one_is_mod, BitVec.toNat_ofInt]
    omega
  rw [e, IntKind.wrap_u32]
  omega
theorem crc_next (t : ByteArray) (s0 : Int) {k : Nat} (hk : k < t.size) : (t.data.toList.take (k + 1)).foldl crcStep s0 = crcBits 8 (bits .xor .u32 ((t.data.toList.take k).foldl crcStep s0) (t[k]).toNat) := by
  have hk' : k < t.data.toList.length := by rw [ba_len]; exact hk
  rw [List.take_succ_eq_append_getElem hk', List.foldl_append]
  rfl
def crcF (s : Int) (t : ByteArray) : Int := t.data.toList.foldl crcStep s
theorem ret_word {a b : Int} (h : a = b) : Ending.returned (Value.int .u32 a) = .returned (.int .u32 b) := by rw [h]
set_option maxRecDepth 100000 in
set_option maxHeartbeats 3200000 in
theorem impl_SumMore (s0 : Int) (t : ByteArray) (w : World) (h0 : 0 ≤ s0 ∧ s0 < 4294967296) (hs : t.size ≤ 1099511627776) :
    Calls Try.prog 102 #[.int .u32 s0, .string t] w fun e w' => e = .returned (.int .u32 (crcF s0 t)) ∧ w = w' := by
  have H0 := Lib.hid h0
  clear h0
  go_enter Try.func102, Try.ntmps102
  go_wp2
  go_loop [0, 5, 6] (fun s i _ => ∃ k : Nat, k ≤ t.size ∧ i = .int .i64 k ∧ s = .int .u32 ((t.data.toList.take k).foldl crcStep s0)) (fun _ i _ => t.size - (intOf i).toNat)
  case atStart => exact ⟨0, Nat.zero_le _, rfl, rfl⟩
  case round =>
    obtain ⟨k, hk, rfl, rfl⟩ := hrel
    by_cases hlt : k < t.size
    · have HN := Lib.hid (crc_next t s0 hlt)
      have hb := (t[k]).toNat_lt
      have hw : IntKind.u32.wrap ((t[k]).toNat : Int) = (t[k]).toNat := by rw [IntKind.wrap_u32]; omega
      generalize hS : (t.data.toList.take k).foldl crcStep s0 = S at HN
      clear hS
      generalize hX : bits .xor .u32 S (t[k]).toNat = X at HN
      have HX := Lib.hid (show 0 ≤ X ∧ X < 4294967296 by rw [← hX]; exact xor32_bd _ _)
      go_wp2
      clear hX
      go_loop [0, 6, 19] (fun s _ j => ∃ m : Nat, m ≤ 8 ∧ j = .int .i64 m ∧ s = .int .u32 (crcBits m X)) (fun _ _ j => 8 - (intOf j).toNat)
      case atStart => exact ⟨0, Nat.zero_le _, rfl, rfl⟩
      case round =>
        obtain ⟨m, hm, rfl, rfl⟩ := hrel
        by_cases hm8 : m < 8
        · have hbd := crcBits_bd HX.out m
          have HC := Lib.hid (show crcBits (m + 1) X = crcBit (crcBits m X) from rfl)
          generalize crcBits m X = Y at *
          have hA := and_one32 hbd
          by_cases hod : Y % 2 = 1
          · have HQ := Lib.hid (show crcBit Y = bits .xor .u32 (Y / 2) 3558460437 by rw [crcBit, if_pos hod])
            go_wp2
            go_round
            case rel => exact ⟨m + 1, by omega, by go_num, by rw [HC.out, HQ.out]⟩
            case measure => simp [intOf]; omega
          · have hod0 : Y % 2 = 0 := by omega
            have HQ := Lib.hid (show crcBit Y = Y / 2 by rw [crcBit, if_neg hod])
            clear hod
            go_wp2
            go_round
            case rel => exact ⟨m + 1, by omega, by go_num, by rw [HC.out, HQ.out]⟩
            case measure => simp [intOf]; omega
        · obtain rfl : m = 8 := by omega
          go_wp2
          go_round
          case rel => exact ⟨k + 1, by omega, by go_num, by rw [HN.out]⟩
          case measure => simp [intOf]; omega
    · have HE := Lib.hid (show (t.data.toList.take k).foldl crcStep s0 = crcF s0 t by rw [List.take_of_length_le (by rw [ba_len]; omega)]; rfl)
      go_wp2
      go_ret
      exact ⟨ret_word HE.out, rfl⟩
theorem impl_SumOf (t : ByteArray) (w : World) (hs : t.size ≤ 1099511627776) :
    Calls Try.prog 76 #[.string t] w fun e w' => e = .returned (.int .u32 (crcT t)) ∧ w = w' := by
  go_enter Try.func76, Try.ntmps76
  go_wp2_with (go_at_call 102; refine (impl_SumMore _ _ _ (by decide) hs).mono ?_; rintro e w' ⟨rfl, rfl⟩)
  go_ret
  exact ⟨rfl, rfl⟩
theorem impl_fourBytes2 (s : Int) (w : World) :
    Calls Try.prog 75 #[.int .u32 s] w fun e w' => e = .returned (.string (strOfNums (fourN s))) ∧ Ext w w' := by
  have hc := conv_lit4
  have w1 : IntKind.u8.wrap (s / 16777216) = s / 16777216 % 256 := by simp [IntKind.wrap, IntKind.signed, IntKind.bits]
  have w2 : IntKind.u8.wrap (s / 65536) = s / 65536 % 256 := by simp [IntKind.wrap, IntKind.signed, IntKind.bits]
  have w3 : IntKind.u8.wrap (s / 256) = s / 256 % 256 := by simp [IntKind.wrap, IntKind.signed, IntKind.bits]
  have w4 : IntKind.u8.wrap s = s % 256 := by simp [IntKind.wrap, IntKind.signed, IntKind.bits]
  go_enter Try.func75, Try.ntmps75
  go_wp2
  go_ret
  exact ⟨rfl, (by repeat (first | (with_reducible first | exact Ext.refl _ | assumption | apply Ext.alloc | apply Ext.drew | apply Ext.drewN | refine Ext.setCell ?_ ?_ _ | refine Ext.trans ?_ (by assumption)) | (show _ ≤ _; first | omega | (dsimp only; omega) | (simp; done) | (simp; omega))))⟩
set_option maxHeartbeats 800000 in
theorem impl_Frame (t : ByteArray) (w : World) (hs : t.size ≤ 1099511627776) :
    Calls Try.prog 40 #[.string t] w fun e w' => e = .returned (.tuple #[.string (if recOk t = true then frT t else ⟨#[]⟩), .bool (recOk t)]) ∧ Ext w w' := by
  have HK := Lib.hid (show inB (t.size : Int) 1 9000 = recOk t from rfl)
  cases hk : recOk t
  · have HKK := Lib.hid hk
    clear hk
    go_enter Try.func40, Try.ntmps40
    go_wp2_with (go_at_call 47; refine (impl_in _ _ _ _).mono ?_; rw [HK.out, HKK.out]; rintro e w' ⟨rfl, rfl⟩)
    go_ret2
    exact ⟨rfl, Ext.refl _⟩
  · have HKK := Lib.hid hk
    have hb := recOk_true.1 hk
    have hf := four_4 t
    have hv := varT_size t.size
    have HT := Lib.hid (show varT t.size ++ four t ++ t = frT t from rfl)
    clear hk
    go_enter Try.func40, Try.ntmps40
    go_wp2_with fail
    refine (impl_in _ _ _ _).mono ?_
    rw [HK.out, HKK.out]
    rintro e w' ⟨rfl, rfl⟩
    go_wp2_with fail
    refine (impl_varText t.size _ (by omega)).mono ?_
    rintro e w1 ⟨rfl, x1⟩
    go_wp2_with fail
    refine (impl_SumOf t _ hs).mono ?_
    rintro e w' ⟨rfl, rfl⟩
    go_wp2_with fail
    refine (impl_fourBytes2 _ _).mono ?_
    rw [show strOfNums (fourN (crcT t)) = four t from rfl]
    rintro e w2 ⟨rfl, x2⟩
    generalize four t = F at *
    generalize varT t.size = V at *
    go_wp2
    go_ret2
    exact ⟨by rw [HT.out]; rfl, x1.trans x2⟩

theorem fr_at {t s : ByteArray} {a : Nat} (h : FrAt t.data.toList a s) : rvOk t a = true ∧ rvV t a = s.size ∧ rvE t a = a + (varB s.size).length ∧ inB s.size 1 9000 = true ∧ rvE t a + 4 + s.size ≤ t.size ∧ t.extract (rvE t a + 4) (rvE t a + 4 + s.size) = s ∧ t.extract (rvE t a) (rvE t a + 4) = four s := by
  obtain ⟨hr, q, e⟩ := h
  obtain ⟨r1, r2⟩ := recOk_true.1 hr
  have e' : t.data.toList.drop a = varB s.size ++ ((four s).data.toList ++ (s.data.toList ++ q)) := by rw [e, frB]; simp
  obtain ⟨h1, h2, h3⟩ := rv_yes (t := t) (a := a) (n := s.size) ⟨by omega, _, e'⟩
  have hl := congrArg List.length e'
  rw [List.length_drop, List.length_append, List.length_append, List.length_append, ba_len, ba_len, ba_len, four_4] at hl
  have hp := varB_ne0 s.size
  have d1 : t.data.toList.drop (rvE t a) = (four s).data.toList ++ (s.data.toList ++ q) := by rw [h3, ← List.drop_drop, e', List.drop_left']; rfl
  have d2 : t.data.toList.drop (rvE t a + 4) = s.data.toList ++ q := by rw [← List.drop_drop, d1, List.drop_left']; rw [ba_len, four_4]
  refine ⟨h1, h2, h3, hr, by omega, ?_, ?_⟩
  · apply ba_ext
    rw [ba_extract, Nat.add_sub_cancel_left, d2, List.take_left']
    exact ba_len s
  · apply ba_ext
    rw [ba_extract, Nat.add_sub_cancel_left, d1, List.take_left']
    rw [ba_len, four_4]
theorem at_fr {t : ByteArray} {a : Nat} (h1 : rvOk t a = true) (h2 : inB (rvV t a) 1 9000 = true) (h3 : rvE t a + 4 + rvV t a ≤ t.size)
    (h4 : t.extract (rvE t a) (rvE t a + 4) = four (t.extract (rvE t a + 4) (rvE t a + 4 + rvV t a))) :
    FrAt t.data.toList a (t.extract (rvE t a + 4) (rvE t a + 4 + rvV t a)) ∧ a + (frB (t.extract (rvE t a + 4) (rvE t a + 4 + rvV t a))).length = rvE t a + 4 + rvV t a := by
  rcases rv_cases t a with ⟨n, h0, hv, -, k2, k3⟩ | ⟨k1, -, -⟩
  case inr => rw [k1] at h1; cases h1
  rw [Int.toNat_natCast] at hv k3
  generalize hs : t.extract (rvE t a + 4) (rvE t a + 4 + rvV t a) = s at *
  have hn : s.size = rvV t a := by rw [← hs, ByteArray.size_extract]; omega
  obtain ⟨-, q, e⟩ := hv
  have d1 : t.data.toList.drop (rvE t a) = q := by rw [k3, ← List.drop_drop, e, List.drop_left']; rfl
  have e4 := congrArg (fun x : ByteArray => x.data.toList) h4
  have e5 := congrArg (fun x : ByteArray => x.data.toList) hs
  simp only [ba_extract, Nat.add_sub_cancel_left, d1, ← List.drop_drop] at e4 e5
  refine ⟨⟨by rw [recOk, hn]; exact h2, (q.drop 4).drop (rvV t a), ?_⟩, ?_⟩
  · rw [e, frB, hn, k2, ← e4, ← e5, List.append_assoc, List.append_assoc, k2, List.take_append_drop, List.take_append_drop]
  · rw [frB_len, hn, k2, k3]; omega
set_option maxRecDepth 100000 in
set_option maxHeartbeats 3200000 in
theorem impl_Unframe (t : ByteArray) (w : World) (hs : t.size ≤ 20000) :
    Calls Try.prog 44 #[.string t] w fun e w' => ∃ (ss : List ByteArray) (n : Nat) (oa : Option Addr) (oc : Nat), e = .returned (.tuple #[.slice oa ss.length oc, .int .i64 n]) ∧ OwnStrs w' w.heap.size (.slice oa ss.length oc) ss ∧ Unfr t.data.toList ss n ∧ Ext w w' := by
  obtain ⟨i0, hi, hz0, hz1, hz2⟩ := info_parts infoString
  go_enter Try.func44, Try.ntmps44
  go_wp2
  go_loopw [4, 5, 6, 7, 8, 9] (fun v i _ _ _ _ wr => ∃ (ss : List ByteArray) (a : Nat), i = .int .i64 a ∧ a ≤ t.size ∧ ss.length ≤ a ∧ Frs t.data.toList 0 ss a ∧ wr.ownsRow w.heap.size 9 1 v ss.length (ss.map Value.string) ∧ Ext w wr) (fun _ i _ _ _ _ _ => t.size + 1 - (intOf i).toNat)
  case atStart => exact ⟨[], 0, rfl, Nat.zero_le _, Nat.le_refl _, rfl, World.ownsRow_nil _ _ _ _, (by repeat (first | (with_reducible first | exact Ext.refl _ | assumption | apply Ext.alloc | apply Ext.drew | apply Ext.drewN | refine Ext.setCell ?_ ?_ _ | refine Ext.trans ?_ (by assumption)) | (show _ ≤ _; first | omega | (dsimp only; omega) | (simp; done) | (simp; omega))))⟩
  case round =>
    obtain ⟨ss, a, rfl, ha, hss, hfr, hown, hx⟩ := hrel
    obtain ⟨oa, oc, rfl⟩ := own_any hown
    have HF := Lib.hid hfr
    have HO := Lib.hid hown
    clear hfr hown
    have hsz := hx.size
    have FIN := Lib.hid (fun (hn : ¬ ∃ s, FrAt t.data.toList a s) (w' : World) (xw : Ext wr w') => show ∃ (ss' : List ByteArray) (n : Nat) (oa' : Option Addr) (oc' : Nat), Ending.returned (.tuple #[.slice oa ss.length oc, .int .i64 a]) = .returned (.tuple #[.slice oa' ss'.length oc', .int .i64 n]) ∧ OwnStrs w' w.heap.size (.slice oa' ss'.length oc') ss' ∧ Unfr t.data.toList ss' n ∧ Ext w w' from ⟨ss, a, oa, oc, rfl, own_ext HO.out xw, ⟨HF.out, hn⟩, hx.trans xw⟩)
    have RV := Lib.hid (fun s (h : FrAt t.data.toList a s) => fr_at h)
    have AT := Lib.hid (@at_fr t a)
    have hE := rvE_bd t a
    generalize hok : rvOk t a = ok at *
    generalize hvv : rvV t a = n at *
    generalize hee : rvE t a = x at *
    have HOK := Lib.hid hok
    have HVV := Lib.hid hvv
    have HEE := Lib.hid hee
    clear hok hvv hee
    cases ok
    · have HN := Lib.hid (FIN.out (fun ⟨s, h⟩ => by have := (RV.out s h).1; cases this))
      go_wp2_with fail
      refine (impl_ReadVar t a _ (by omega)).mono ?_
      rw [HOK.out, HVV.out, HEE.out]
      rintro e w' ⟨rfl, rfl⟩
      go_wp2
      go_ret2
      exact HN.out _ (Ext.refl _)
    cases hr : inB n 1 9000
    · have HN := Lib.hid (FIN.out (fun ⟨s, h⟩ => by have := (RV.out s h).2; rw [← this.1, hr] at this; cases this.2.2.1))
      have HR := Lib.hid hr
      clear hr
      go_wp2_with fail
      refine (impl_ReadVar t a _ (by omega)).mono ?_
      rw [HOK.out, HVV.out, HEE.out]
      rintro e w' ⟨rfl, rfl⟩
      go_wp2_with fail
      refine (impl_in _ _ _ _).mono ?_
      rw [HR.out]
      rintro e w' ⟨rfl, rfl⟩
      go_wp2
      go_ret2
      exact HN.out _ (Ext.refl _)
    have hn9 := inB_true.1 hr
    have HR := Lib.hid hr
    clear hr
    by_cases hlt : x + 4 + n ≤ t.size
    case neg =>
      have HN := Lib.hid (FIN.out (fun ⟨s, h⟩ => by have := (RV.out s h).2; omega))
      have hg : (t.size : Int) - x < n + 4 := by omega
      clear hlt
      go_wp2_with fail
      refine (impl_ReadVar t a _ (by omega)).mono ?_
      rw [HOK.out, HVV.out, HEE.out]
      rintro e w' ⟨rfl, rfl⟩
      go_wp2_with fail
      refine (impl_in _ _ _ _).mono ?_
      rw [HR.out]
      rintro e w' ⟨rfl, rfl⟩
      go_wp2
      go_ret2
      exact HN.out _ (Ext.refl _)
    have hg : ¬ (t.size : Int) - x < n + 4 := by omega
    have b1 : (0 : Int) ≤ x + 4 := by omega
    have b2 : (x : Int) + 4 ≤ x + 4 + n := by omega
    have b3 : (x : Int) + 4 + n ≤ t.size := by omega
    have b4 : (x : Int) ≤ x + 4 := by omega
    have b5 : (x : Int) + 4 ≤ t.size := by omega
    have n1 : ((x : Int) + 4).toNat = x + 4 := by omega
    have n2 : ((x : Int) + 4 + n).toNat = x + 4 + n := by omega
    have hts : (t.extract (x + 4) (x + 4 + n)).size ≤ 1099511627776 := by rw [ByteArray.size_extract]; omega
    have AT2 := Lib.hid (AT.out rfl HR.out hlt)
    clear AT
    have w5 : IntKind.i64.wrap ((x : Int) + 4) = x + 4 := IntWalk.i64_in _ (by omega)
    generalize hT : t.extract (x + 4) (x + 4 + n) = T at *
    generalize hV : t.extract x (x + 4) = V at *
    by_cases hq : V = four T
    · have HQ := Lib.hid hq
      have hq1 : (V.toList == (four T).toList) = true := by rw [toList_beq]; exact decide_eq_true hq
      have hq2 : (V.toList != (four T).toList) = false := by simp only [bne, hq1]; rfl
      obtain ⟨f1, f2⟩ := AT2.out hq
      have HB := Lib.hid (show x + 4 + n ≤ t.size ∧ a < x + 4 + n by have := frB_len T; omega)
      have F1 := Lib.hid f1
      have F2 := Lib.hid f2
      clear hq f1 f2 AT2
      go_wp2_with fail
      refine (impl_ReadVar t a _ (by omega)).mono ?_
      rw [HOK.out, HVV.out, HEE.out]
      rintro e w' ⟨rfl, rfl⟩
      go_wp2_with fail
      refine (impl_in _ _ _ _).mono ?_
      rw [HR.out]
      rintro e w' ⟨rfl, rfl⟩
      go_wp2_with fail
      have XX := Ext.refl wr
      refine wp_region_held_drew (S := fun _ => True) (by kernel_rfl) (by trivial) (fun hHeld => ?_)
      have xd : Ext wr wr.drew := (Ext.refl wr).drew
      replace XX := XX.trans xd
      generalize wr.drew = w2 at *
      (refine wpAnyH_take (i := 0) (v := ?_) rfl (by kernel_rfl) (by kernel_rfl) (by kernel_rfl) (fun _ _ _ h => h) (Or.inl ⟨by rfl, ?_⟩) (by assumption) ?_; rotate_left; focus (intro w hSw; (try dsimp only at hSw); (try simp only [zk1, zk2]); go_simp; try with_reducible rfl)); (try simp only [zk1, zk2]); (try simp only [Act.put, zk4, zk5, zk6])
      (refine wpAnyH_take (i := 1) (v := ?_) rfl (by kernel_rfl) (by kernel_rfl) (by kernel_rfl) (fun _ _ _ h => h) (Or.inl ⟨by rfl, ?_⟩) (by assumption) ?_; rotate_left; focus (intro w hSw; (try dsimp only at hSw); (try simp only [zk1, zk2, zk3]); go_simp; try with_reducible rfl)); (try simp only [zk1, zk2, zk3]); (try simp only [Act.put, zk4, zk5, zk6])
      (refine wpAnyH_take (i := 2) (v := ?_) rfl (by kernel_rfl) (by kernel_rfl) (by kernel_rfl) (fun _ _ _ h => h) (Or.inl ⟨by rfl, ?_⟩) (by assumption) ?_; rotate_left; focus (intro w hSw; (try dsimp only at hSw); (try simp only [zk1, zk2, zk3]); go_simp; try with_reducible rfl)); (try simp only [zk1, zk2, zk3]); (try simp only [Act.put, zk4, zk5, zk6])
      (refine wpAnyH_take (i := 3) (v := ?_) rfl (by kernel_rfl) (by kernel_rfl) (by kernel_rfl) (fun _ _ _ h => h) (Or.inl ⟨by rfl, ?_⟩) (by assumption) ?_; rotate_left; focus (intro w hSw; (try dsimp only at hSw); (try simp only [zk1, zk2, zk3]); go_simp; try with_reducible rfl)); (try simp only [zk1, zk2, zk3]); (try simp only [Act.put, zk4, zk5, zk6])
      (refine wpAnyH_take (i := 4) (v := .string V) rfl (by kernel_rfl) (by kernel_rfl) (by kernel_rfl) (fun _ _ _ h => h) (Or.inl ⟨by rfl, ?_⟩) (by assumption) ?_; focus (intro w hSw; (try dsimp only at hSw); (try simp only [zk1, zk2, zk3]); go_simp; done)); (try simp only [zk1, zk2, zk3]); (try simp only [Act.put, zk4, zk5, zk6])
      (refine wpAnyH_take (i := 5) (v := ?_) rfl (by kernel_rfl) (by kernel_rfl) (by kernel_rfl) (fun _ _ _ h => h) (Or.inl ⟨by rfl, ?_⟩) (by assumption) ?_; rotate_left; focus (intro w hSw; (try dsimp only at hSw); (try simp only [zk1, zk2, zk3]); go_simp; try with_reducible rfl)); (try simp only [zk1, zk2, zk3]); (try simp only [Act.put, zk4, zk5, zk6])
      (refine wpAnyH_ready (rs := [6]) (by kernel_rfl) (by simp) ?_; refine AllReadyH.cons rfl (fun K hK => ?_) AllReadyH.nil; (try simp only [zk1, zk2, zk3]))
      go_simp
      go_at_call 76
      refine (impl_SumOf T _ hts).mono ?_
      rintro e w' ⟨rfl, rfl⟩
      (try dsimp only)
      refine hK.out _ _ (by trivial) (fun hHeld => ?_)
      clear hK K
      (refine wpAnyH_ready (rs := [7]) (by kernel_rfl) (by simp) ?_; refine AllReadyH.cons rfl (fun K hK => ?_) AllReadyH.nil; (try simp only [zk1, zk2, zk3]))
      go_simp
      go_at_call 75
      refine (impl_fourBytes2 _ _).mono ?_
      rw [show strOfNums (fourN (crcT T)) = four T from rfl]
      generalize four T = F at *
      rintro e w3 ⟨rfl, x3⟩
      replace XX := XX.trans x3
      (try dsimp only)
      refine hK.out _ _ (by trivial) (fun hHeld => ?_)
      clear hK K
      (refine wpAnyH_take (i := 8) (v := ?_) rfl (by kernel_rfl) (by kernel_rfl) (by kernel_rfl) (fun _ _ _ h => h) (Or.inl ⟨by rfl, ?_⟩) (by assumption) ?_; rotate_left; focus (intro w hSw; (try dsimp only at hSw); (try simp only [zk1, zk2, zk3]); go_simp; try with_reducible rfl)); (try simp only [zk1, zk2, zk3]); (try simp only [Act.put, zk4, zk5, zk6])
      refine wpAnyH_done (by kernel_rfl) ?_ _
      have OW := own_ext HO.out XX
      have OX := hx.trans XX
      have hs3 := OX.size
      go_wp2_with (at_builtin; refine wpList_append_own _ rfl (.tmp 57) (.tmp 59) 44 rfl w.heap.size 9 i0 (.string ⟨#[]⟩) 1 16 Try.underlying44 hi hz0 hz1 hz2 rfl (by decide) _ _ _ rfl (own_alloc OW _) ⟨w3.heap.size, 0, none⟩ 1 1 [.string T] rfl rfl ?c1 ?c2 ?c3 ?c4 ?c5 ?_)
      case c1 => exact World.news_of_block (heap_alloc_new w3 (Obj.cells #[Value.string T] 9))
      case c2 => intro u hu; simp at hu; subst hu; rfl
      case c3 => unfold maxLen; omega
      case c4 => omega
      case c5 => simp; omega
      intro v' w4 own4 hgrow _
      have hx4 : Ext w w4 := own_ext_of (OX.alloc _) (own_alloc OW _) hgrow (Nat.le_refl _)
      obtain ⟨oa4, oc4, rfl⟩ := own_any own4
      have O4 := Lib.hid own4
      clear own4 hgrow OW
      go_wp2
      go_roundw
      case rel => have hB := HB.out; clear b1 b2 b3 b4 b5; exact ⟨ss ++ [T], x + 4 + n, by go_num, by omega, by simp; omega, by have := HF.out.snoc F1.out; rw [F2.out] at this; exact this, by rw [List.map_append, List.length_append]; exact O4.out, hx4⟩
      case measure => have hB := HB.out; clear b1 b2 b3 b4 b5; simp [intOf]; omega
    · have HN := Lib.hid (FIN.out (fun ⟨s, h⟩ => by have h6 := (RV.out s h).2; rw [← h6.1, hT] at h6; exact hq (by rw [h6.2.2.2.2.1]; exact h6.2.2.2.2.2)))
      have hq1 : (V.toList == (four T).toList) = false := by rw [toList_beq]; exact decide_eq_false hq
      have hq2 : (V.toList != (four T).toList) = true := by simp only [bne, hq1]; rfl
      clear hq AT2
      go_wp2_with fail
      refine (impl_ReadVar t a _ (by omega)).mono ?_
      rw [HOK.out, HVV.out, HEE.out]
      rintro e w' ⟨rfl, rfl⟩
      go_wp2_with fail
      refine (impl_in _ _ _ _).mono ?_
      rw [HR.out]
      rintro e w' ⟨rfl, rfl⟩
      go_wp2_with fail
      have XX := Ext.refl wr
      refine wp_region_held_drew (S := fun _ => True) (by kernel_rfl) (by trivial) (fun hHeld => ?_)
      have xd : Ext wr wr.drew := (Ext.refl wr).drew
      replace XX := XX.trans xd
      generalize wr.drew = w2 at *
      (refine wpAnyH_take (i := 0) (v := ?_) rfl (by kernel_rfl) (by kernel_rfl) (by kernel_rfl) (fun _ _ _ h => h) (Or.inl ⟨by rfl, ?_⟩) (by assumption) ?_; rotate_left; focus (intro w hSw; (try dsimp only at hSw); (try simp only [zk1, zk2]); go_simp; try with_reducible rfl)); (try simp only [zk1, zk2]); (try simp only [Act.put, zk4, zk5, zk6])
      (refine wpAnyH_take (i := 1) (v := ?_) rfl (by kernel_rfl) (by kernel_rfl) (by kernel_rfl) (fun _ _ _ h => h) (Or.inl ⟨by rfl, ?_⟩) (by assumption) ?_; rotate_left; focus (intro w hSw; (try dsimp only at hSw); (try simp only [zk1, zk2, zk3]); go_simp; try with_reducible rfl)); (try simp only [zk1, zk2, zk3]); (try simp only [Act.put, zk4, zk5, zk6])
      (refine wpAnyH_take (i := 2) (v := ?_) rfl (by kernel_rfl) (by kernel_rfl) (by kernel_rfl) (fun _ _ _ h => h) (Or.inl ⟨by rfl, ?_⟩) (by assumption) ?_; rotate_left; focus (intro w hSw; (try dsimp only at hSw); (try simp only [zk1, zk2, zk3]); go_simp; try with_reducible rfl)); (try simp only [zk1, zk2, zk3]); (try simp only [Act.put, zk4, zk5, zk6])
      (refine wpAnyH_take (i := 3) (v := ?_) rfl (by kernel_rfl) (by kernel_rfl) (by kernel_rfl) (fun _ _ _ h => h) (Or.inl ⟨by rfl, ?_⟩) (by assumption) ?_; rotate_left; focus (intro w hSw; (try dsimp only at hSw); (try simp only [zk1, zk2, zk3]); go_simp; try with_reducible rfl)); (try simp only [zk1, zk2, zk3]); (try simp only [Act.put, zk4, zk5, zk6])
      (refine wpAnyH_take (i := 4) (v := .string V) rfl (by kernel_rfl) (by kernel_rfl) (by kernel_rfl) (fun _ _ _ h => h) (Or.inl ⟨by rfl, ?_⟩) (by assumption) ?_; focus (intro w hSw; (try dsimp only at hSw); (try simp only [zk1, zk2, zk3]); go_simp; done)); (try simp only [zk1, zk2, zk3]); (try simp only [Act.put, zk4, zk5, zk6])
      (refine wpAnyH_take (i := 5) (v := ?_) rfl (by kernel_rfl) (by kernel_rfl) (by kernel_rfl) (fun _ _ _ h => h) (Or.inl ⟨by rfl, ?_⟩) (by assumption) ?_; rotate_left; focus (intro w hSw; (try dsimp only at hSw); (try simp only [zk1, zk2, zk3]); go_simp; try with_reducible rfl)); (try simp only [zk1, zk2, zk3]); (try simp only [Act.put, zk4, zk5, zk6])
      (refine wpAnyH_ready (rs := [6]) (by kernel_rfl) (by simp) ?_; refine AllReadyH.cons rfl (fun K hK => ?_) AllReadyH.nil; (try simp only [zk1, zk2, zk3]))
      go_simp
      go_at_call 76
      refine (impl_SumOf T _ hts).mono ?_
      rintro e w' ⟨rfl, rfl⟩
      (try dsimp only)
      refine hK.out _ _ (by trivial) (fun hHeld => ?_)
      clear hK K
      (refine wpAnyH_ready (rs := [7]) (by kernel_rfl) (by simp) ?_; refine AllReadyH.cons rfl (fun K hK => ?_) AllReadyH.nil; (try simp only [zk1, zk2, zk3]))
      go_simp
      go_at_call 75
      refine (impl_fourBytes2 _ _).mono ?_
      rw [show strOfNums (fourN (crcT T)) = four T from rfl]
      generalize four T = F at *
      rintro e w3 ⟨rfl, x3⟩
      replace XX := XX.trans x3
      (try dsimp only)
      refine hK.out _ _ (by trivial) (fun hHeld => ?_)
      clear hK K
      (refine wpAnyH_take (i := 8) (v := ?_) rfl (by kernel_rfl) (by kernel_rfl) (by kernel_rfl) (fun _ _ _ h => h) (Or.inl ⟨by rfl, ?_⟩) (by assumption) ?_; rotate_left; focus (intro w hSw; (try dsimp only at hSw); (try simp only [zk1, zk2, zk3]); go_simp; try with_reducible rfl)); (try simp only [zk1, zk2, zk3]); (try simp only [Act.put, zk4, zk5, zk6])
      refine wpAnyH_done (by kernel_rfl) ?_ _
      go_wp2
      go_ret2
      exact HN.out _ XX
end Go.Proofs.Ytckipgijfgeghaa
