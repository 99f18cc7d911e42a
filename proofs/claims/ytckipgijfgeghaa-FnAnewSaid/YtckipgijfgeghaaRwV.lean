/- A number read: the reference (its own text: Rw has it too). -/
import Derived.Test.YtckipgijfgeghaaRdA
import Derived.Test.YtckipgijfgeghaaStrA
import Derived.Deep.RegionHeld3
import Derived.IntWalk
namespace Go.Proofs.Ytckipgijfgeghaa
open Go.RowKit

theorem VarIn.text {t : ByteArray} {a k acc : Nat} (h : VarIn t a k acc) (hi : a + k < t.size) (hx : (t[a + k]).toNat < 128) (hn : acc + (t[a + k]).toNat * 128 ^ k ≤ 1000000000) :
    ((k = 0 ∨ (t[a + k]).toNat ≠ 0) → varT (acc + (t[a + k]).toNat * 128 ^ k) = t.extract a (a + k + 1)) ∧ (0 < k ∧ (t[a + k]).toNat = 0 → varT (acc + (t[a + k]).toNat * 128 ^ k) ≠ t.extract a (a + k + 1)) := by
  refine ⟨fun hz => ?_, fun hz e => ?_⟩
  · obtain ⟨r1, r2, r3⟩ := h.last hi hx hz hn
    rcases rv_cases t a with ⟨n, h0, hv, -, e2, e3⟩ | ⟨e1, -, -⟩
    · rw [Int.toNat_natCast] at hv e3
      have hnn : n = acc + (t[a + k]).toNat * 128 ^ k := e2.symm.trans r2
      have := var_text hv
      rw [← e3, r3, hnn] at this
      exact this.symm
    · rw [r1] at e1; cases e1
  · obtain ⟨r1, -, -⟩ := h.zlast hi hx (Or.inl hz)
    have hl : (varB (acc + (t[a + k]).toNat * 128 ^ k)).length = k + 1 := by
      have := congrArg ByteArray.size e
      rw [ByteArray.size_extract] at this
      rw [varB, ba_len]
      omega
    have := (rv_yes (var_at (t := t) (a := a) hn (by rw [hl]; exact e.symm))).1
    rw [r1] at this
    cases this
set_option maxRecDepth 100000 in
set_option maxHeartbeats 6400000 in
theorem spec_ReadVar (t : ByteArray) (a : Int) (w : World) (hs : t.size ≤ 1099511627776) :
    Calls Try.prog 84 #[.string t, .int .i64 a] w fun e w' => e = .returned (.tuple #[.int .i64 (rvV t a), .int .i64 (rvE t a), .bool (rvOk t a)]) ∧ Ext w w' := by
  by_cases hin : 0 ≤ a ∧ a ≤ t.size
  · have HI := Lib.hid (inB_true.2 hin)
    obtain ⟨h0, h1⟩ := hin
    obtain ⟨a, rfl⟩ := Int.eq_ofNat_of_zero_le h0
    go_enter Try.func84, Try.ntmps84
    go_wp2_with (go_at_call 82; refine (spec_l01In _ _ _ _).mono ?_; rw [HI.out]; rintro e w' ⟨rfl, rfl⟩)
    go_loop [7, 8, 9] (fun n s i => ∃ k acc : Nat, k ≤ 5 ∧ i = .int .i64 ((a : Int) + k) ∧ s = .int .i64 ((128 ^ k : Nat) : Int) ∧ n = .int .i64 acc ∧ VarIn t a k acc) (fun _ _ i => ((a : Int) + 5 - intOf i).toNat)
    case atStart => exact ⟨0, 0, by omega, by simp, by simp, rfl, VarIn.zero t a⟩
    case round =>
      obtain ⟨k, acc, hk, rfl, rfl, rfl, hv⟩ := hrel
      have hacc := hv.lt
      have HV := Lib.hid hv
      clear hv
      by_cases hi : a + k < t.size
      · by_cases hlt : k < 5
        · have hb := (t[a + k]).toNat_lt
          rcases (show k = 0 ∨ k = 1 ∨ k = 2 ∨ k = 3 ∨ k = 4 by omega) with rfl | rfl | rfl | rfl | rfl
          · have HM : Hid (128 ≤ (t[a]).toNat → VarIn t a 1 (acc + (t[a]).toNat % 128 * 128 ^ 0)) := Lib.hid (fun h => HV.out.more hi h)
            have HL : Hid ((t[a]).toNat < 128 → (0 = 0 ∨ (t[a]).toNat ≠ 0) → acc + (t[a]).toNat * 1 ≤ 1000000000 → rvOk t a = true ∧ rvV t a = acc + (t[a]).toNat * 1 ∧ rvE t a = a + 0 + 1) := Lib.hid (fun h1 h2 h3 => HV.out.last hi h1 h2 h3)
            have HZ : Hid ((t[a]).toNat < 128 → (0 < 0 ∧ (t[a]).toNat = 0 ∨ 1000000000 < acc + (t[a]).toNat * 1) → rvOk t a = false ∧ rvV t a = 0 ∧ rvE t a = 0) := Lib.hid (fun h1 h2 => HV.out.zlast hi h1 h2)
            have HX : Hid ((t[a]).toNat < 128 → acc + (t[a]).toNat * 1 ≤ 1000000000 → ((0 = 0 ∨ (t[a]).toNat ≠ 0) → varT (acc + (t[a]).toNat * 1) = t.extract a (a + 1)) ∧ (0 < 0 ∧ (t[a]).toNat = 0 → varT (acc + (t[a]).toNat * 1) ≠ t.extract a (a + 1))) := Lib.hid (fun h1 h2 => HV.out.text hi h1 h2)
            clear HV
            have hA : acc < 1 := by simpa using hacc
            have hi' : (a : Int) < t.size := by omega
            have hyb : (t[a]).toNat < 256 := hb
            have hw1 := wrap64_byte (t[a])
            have hn0 : (0 : Int) ≤ (t[a]).toNat := by omega
            have hpw : ((128 ^ 0 : Nat) : Int) = 1 := by decide
            clear hacc hb HI hk hlt
            by_cases hx : (t[a]).toNat < 128
            · have hxi : ((t[a]).toNat : Int) < 128 := by omega
              by_cases hz : 1000000000 < acc + (t[a]).toNat * 1
              · have HN := Lib.hid (HZ.out hx (Or.inr hz))
                have HZ0 := Lib.hid hz
                clear hz HM HL HZ HX
                exfalso
                have := HZ0.out
                omega
              · have HX2 := Lib.hid (HX.out hx (by omega))
                have HL2 := Lib.hid (fun h2 => HL.out hx h2 (by omega))
                have HZ2 := Lib.hid (fun h2 => HZ.out hx (Or.inl h2))
                have HZ0 := Lib.hid hz
                clear hz HM HL HZ HX
                have hval : (((acc + (t[a]).toNat * 1) : Nat) : Int) = (acc : Int) + (((t[a]).toNat : Nat) : Int) % 128 := by have := HZ0.out; omega
                have hc : ∀ W, Calls Try.prog 86 #[.int .i64 ((acc : Int) + (((t[a]).toNat : Nat) : Int) % 128)] W fun e w' => e = .returned (.string (varT (acc + (t[a]).toNat * 1))) ∧ Ext W w' := fun W => by have h := spec_l01Var (acc + (t[a]).toNat * 1) W (by have := HZ0.out; omega); rw [hval] at h; exact h
                have HC := Lib.hid hc
                have HVL := Lib.hid hval
                clear hc hval
                have n1 : ((a : Int) + 1).toNat = a + 1 := by omega
                have g1 : IntKind.i64.wrap ((a : Int) + 1) = (a : Int) + 1 := IntWalk.i64_in _ (by omega)
                have g2 : (0 : Int) ≤ (a : Int) + 1 := by omega
                have g3 : (a : Int) + 1 ≤ t.size := by omega
                have g4 : (a : Int) ≤ (a : Int) + 1 := by omega
                go_wp2_with fail
                refine wp_region_held_drew (S := fun _ => True) (by kernel_rfl) (by exact True.intro) (fun hHeld => ?_)
                have xd : Ext w w.drew := (Ext.refl w).drew
                generalize w.drew = w2 at *
                (refine wpAnyH_take (i := 0) (v := ?_) rfl (by kernel_rfl) (by kernel_rfl) (by kernel_rfl) (fun _ _ _ h => h) (Or.inl ⟨by rfl, ?_⟩) (by assumption) ?_; rotate_left; focus (intro w hSw; (try dsimp only at hSw); (try simp only [zk1, zk2]); go_simp; try with_reducible rfl)); (try simp only [zk1, zk2]); (try simp only [Act.put, zk4, zk5, zk6])
                (refine wpAnyH_take (i := 1) (v := .bool false) rfl (by kernel_rfl) (by kernel_rfl) (by kernel_rfl) (fun _ _ _ h => h) (Or.inl ⟨by rfl, ?_⟩) (by assumption) ?_; focus (intro w hSw; (try dsimp only at hSw); (try simp only [zk1, zk2, zk3]); go_simp; (have := HZ0.out; simp; omega))); (try simp only [zk1, zk2, zk3]); (try simp only [Act.put, zk4, zk5, zk6])
                (refine wpAnyH_take (i := 2) (v := ?_) rfl (by kernel_rfl) (by kernel_rfl) (by kernel_rfl) (fun _ _ _ h => h) (Or.inl ⟨by rfl, ?_⟩) (by assumption) ?_; rotate_left; focus (intro w hSw; (try dsimp only at hSw); (try simp only [zk1, zk2, zk3]); go_simp; try with_reducible rfl)); (try simp only [zk1, zk2, zk3]); (try simp only [Act.put, zk4, zk5, zk6])
                (refine wpAnyH_take (i := 3) (v := ?_) rfl (by kernel_rfl) (by kernel_rfl) (by kernel_rfl) (fun _ _ _ h => h) (Or.inl ⟨by rfl, ?_⟩) (by assumption) ?_; rotate_left; focus (intro w hSw; (try dsimp only at hSw); (try simp only [zk1, zk2, zk3]); go_simp; try with_reducible rfl)); (try simp only [zk1, zk2, zk3]); (try simp only [Act.put, zk4, zk5, zk6])
                (refine wpAnyH_take (i := 5) (v := ?_) rfl (by kernel_rfl) (by kernel_rfl) (by kernel_rfl) (fun _ _ _ h => h) (Or.inl ⟨by rfl, ?_⟩) (by assumption) ?_; rotate_left; focus (intro w hSw; (try dsimp only at hSw); (try simp only [zk1, zk2, zk3]); go_simp; try with_reducible rfl)); (try simp only [zk1, zk2, zk3]); (try simp only [Act.put, zk4, zk5, zk6])
                (refine wpAnyH_take (i := 6) (v := ?_) rfl (by kernel_rfl) (by kernel_rfl) (by kernel_rfl) (fun _ _ _ h => h) (Or.inl ⟨by rfl, ?_⟩) (by assumption) ?_; rotate_left; focus (intro w hSw; (try dsimp only at hSw); (try simp only [zk1, zk2, zk3]); go_simp; try with_reducible rfl)); (try simp only [zk1, zk2, zk3]); (try simp only [Act.put, zk4, zk5, zk6])
                (refine wpAnyH_take (i := 7) (v := ?_) rfl (by kernel_rfl) (by kernel_rfl) (by kernel_rfl) (fun _ _ _ h => h) (Or.inl ⟨by rfl, ?_⟩) (by assumption) ?_; rotate_left; focus (intro w hSw; (try dsimp only at hSw); (try simp only [zk1, zk2, zk3]); go_simp; try with_reducible rfl)); (try simp only [zk1, zk2, zk3]); (try simp only [Act.put, zk4, zk5, zk6])
                (refine wpAnyH_take (i := 8) (v := ?_) rfl (by kernel_rfl) (by kernel_rfl) (by kernel_rfl) (fun _ _ _ h => h) (Or.inl ⟨by rfl, ?_⟩) (by assumption) ?_; rotate_left; focus (intro w hSw; (try dsimp only at hSw); (try simp only [zk1, zk2, zk3]); go_simp; try with_reducible rfl)); (try simp only [zk1, zk2, zk3]); (try simp only [Act.put, zk4, zk5, zk6])
                (refine wpAnyH_take (i := 9) (v := .string (t.extract a (a + 1))) rfl (by kernel_rfl) (by kernel_rfl) (by kernel_rfl) (fun _ _ _ h => h) (Or.inl ⟨by rfl, ?_⟩) (by assumption) ?_; focus (intro w hSw; (try dsimp only at hSw); (try simp only [zk1, zk2, zk3]); go_simp; (try with_reducible rfl))); (try simp only [zk1, zk2, zk3]); (try simp only [Act.put, zk4, zk5, zk6])
                (refine wpAnyH_ready (rs := [4]) (by kernel_rfl) (by simp) ?_; refine AllReadyH.cons rfl (fun K hK => ?_) AllReadyH.nil; (try simp only [zk1, zk2, zk3]))
                go_simp
                go_at_call 86
                refine (HC.out _).mono ?_
                rintro e w3 ⟨rfl, x3⟩
                (try dsimp only)
                refine hK.out _ _ (by exact ⟨⟩) (fun hHeld => ?_)
                clear hK K
                by_cases hzz : 0 = 0 ∨ (t[a]).toNat ≠ 0
                · have he := HX2.out.1 (by first | exact hzz | exact trivial | (left; trivial))
                  have HE := Lib.hid he
                  have HN := Lib.hid (HL2.out (by first | exact hzz | exact trivial | (left; trivial)))
                  clear he hzz HX2 HL2 HZ2
                  (refine wpAnyH_take (i := 10) (v := .bool false) rfl (by kernel_rfl) (by kernel_rfl) (by kernel_rfl) (fun _ _ _ h => h) (Or.inl ⟨by rfl, ?_⟩) (by assumption) ?_; focus (intro w hSw; (try dsimp only at hSw); (try simp only [zk1, zk2, zk3]); go_simp; (have h := HE.out; (try rw [Nat.mul_one] at h); rw [h]))); (try simp only [zk1, zk2, zk3]); (try simp only [Act.put, zk4, zk5, zk6])
                  (refine wpAnyH_take (i := 11) (v := ?_) rfl (by kernel_rfl) (by kernel_rfl) (by kernel_rfl) (fun _ _ _ h => h) (Or.inl ⟨by rfl, ?_⟩) (by assumption) ?_; rotate_left; focus (intro w hSw; (try dsimp only at hSw); (try simp only [zk1, zk2, zk3]); go_simp; try with_reducible rfl)); (try simp only [zk1, zk2, zk3]); (try simp only [Act.put, zk4, zk5, zk6])
                  refine wpAnyH_done (by kernel_rfl) ?_ _
                  go_wp2
                  go_ret3
                  exact ⟨ret_rv ⟨HN.out.1, by rw [HN.out.2.1]; have := HVL.out; omega, by rw [HN.out.2.2]; omega⟩, xd.trans x3⟩
                · exfalso
                  exact hzz (Or.inl rfl)
            · have HN := Lib.hid (HM.out (by omega))
              clear HM HL HZ HX
              go_wp2
              all_goals first | (exfalso; omega) | skip
              go_round
              case rel => exact ⟨1, acc + (t[a]).toNat % 128 * 128 ^ 0, by omega, by go_num, by first | rfl | go_num, by go_num, HN.out⟩
              case measure => simp [intOf]; omega
          · have HM : Hid (128 ≤ (t[a + 1]).toNat → VarIn t a 2 (acc + (t[a + 1]).toNat % 128 * 128 ^ 1)) := Lib.hid (fun h => HV.out.more hi h)
            have HL : Hid ((t[a + 1]).toNat < 128 → (1 = 0 ∨ (t[a + 1]).toNat ≠ 0) → acc + (t[a + 1]).toNat * 128 ≤ 1000000000 → rvOk t a = true ∧ rvV t a = acc + (t[a + 1]).toNat * 128 ∧ rvE t a = a + 1 + 1) := Lib.hid (fun h1 h2 h3 => HV.out.last hi h1 h2 h3)
            have HZ : Hid ((t[a + 1]).toNat < 128 → (0 < 1 ∧ (t[a + 1]).toNat = 0 ∨ 1000000000 < acc + (t[a + 1]).toNat * 128) → rvOk t a = false ∧ rvV t a = 0 ∧ rvE t a = 0) := Lib.hid (fun h1 h2 => HV.out.zlast hi h1 h2)
            have HX : Hid ((t[a + 1]).toNat < 128 → acc + (t[a + 1]).toNat * 128 ≤ 1000000000 → ((1 = 0 ∨ (t[a + 1]).toNat ≠ 0) → varT (acc + (t[a + 1]).toNat * 128) = t.extract a (a + 2)) ∧ (0 < 1 ∧ (t[a + 1]).toNat = 0 → varT (acc + (t[a + 1]).toNat * 128) ≠ t.extract a (a + 2))) := Lib.hid (fun h1 h2 => HV.out.text hi h1 h2)
            clear HV
            have hA : acc < 128 := by simpa using hacc
            have hi' : (a : Int) + 1 < t.size := by omega
            have hyb : (t[a + 1]).toNat < 256 := hb
            have hw1 := wrap64_byte (t[a + 1])
            have hn0 : (0 : Int) ≤ (t[a + 1]).toNat := by omega
            have hpw : ((128 ^ 1 : Nat) : Int) = 128 := by decide
            clear hacc hb HI hk hlt
            by_cases hx : (t[a + 1]).toNat < 128
            · have hxi : ((t[a + 1]).toNat : Int) < 128 := by omega
              by_cases hz : 1000000000 < acc + (t[a + 1]).toNat * 128
              · have HN := Lib.hid (HZ.out hx (Or.inr hz))
                have HZ0 := Lib.hid hz
                clear hz HM HL HZ HX
                exfalso
                have := HZ0.out
                omega
              · have HX2 := Lib.hid (HX.out hx (by omega))
                have HL2 := Lib.hid (fun h2 => HL.out hx h2 (by omega))
                have HZ2 := Lib.hid (fun h2 => HZ.out hx (Or.inl h2))
                have HZ0 := Lib.hid hz
                clear hz HM HL HZ HX
                have hval : (((acc + (t[a + 1]).toNat * 128) : Nat) : Int) = (acc : Int) + (((t[a + 1]).toNat : Nat) : Int) % 128 * 128 := by have := HZ0.out; omega
                have hc : ∀ W, Calls Try.prog 86 #[.int .i64 ((acc : Int) + (((t[a + 1]).toNat : Nat) : Int) % 128 * 128)] W fun e w' => e = .returned (.string (varT (acc + (t[a + 1]).toNat * 128))) ∧ Ext W w' := fun W => by have h := spec_l01Var (acc + (t[a + 1]).toNat * 128) W (by have := HZ0.out; omega); rw [hval] at h; exact h
                have HC := Lib.hid hc
                have HVL := Lib.hid hval
                clear hc hval
                have n1 : ((a : Int) + 2).toNat = a + 2 := by omega
                have g1 : IntKind.i64.wrap ((a : Int) + 2) = (a : Int) + 2 := IntWalk.i64_in _ (by omega)
                have g2 : (0 : Int) ≤ (a : Int) + 2 := by omega
                have g3 : (a : Int) + 2 ≤ t.size := by omega
                have g4 : (a : Int) ≤ (a : Int) + 2 := by omega
                have g5 : IntKind.i64.wrap ((a : Int) + 1 + 1) = (a : Int) + 2 := by rw [IntWalk.i64_in _ (by omega)]; omega
                go_wp2_with fail
                refine wp_region_held_drew (S := fun _ => True) (by kernel_rfl) (by exact True.intro) (fun hHeld => ?_)
                have xd : Ext w w.drew := (Ext.refl w).drew
                generalize w.drew = w2 at *
                (refine wpAnyH_take (i := 0) (v := ?_) rfl (by kernel_rfl) (by kernel_rfl) (by kernel_rfl) (fun _ _ _ h => h) (Or.inl ⟨by rfl, ?_⟩) (by assumption) ?_; rotate_left; focus (intro w hSw; (try dsimp only at hSw); (try simp only [zk1, zk2]); go_simp; try with_reducible rfl)); (try simp only [zk1, zk2]); (try simp only [Act.put, zk4, zk5, zk6])
                (refine wpAnyH_take (i := 1) (v := .bool false) rfl (by kernel_rfl) (by kernel_rfl) (by kernel_rfl) (fun _ _ _ h => h) (Or.inl ⟨by rfl, ?_⟩) (by assumption) ?_; focus (intro w hSw; (try dsimp only at hSw); (try simp only [zk1, zk2, zk3]); go_simp; (have := HZ0.out; simp; omega))); (try simp only [zk1, zk2, zk3]); (try simp only [Act.put, zk4, zk5, zk6])
                (refine wpAnyH_take (i := 2) (v := ?_) rfl (by kernel_rfl) (by kernel_rfl) (by kernel_rfl) (fun _ _ _ h => h) (Or.inl ⟨by rfl, ?_⟩) (by assumption) ?_; rotate_left; focus (intro w hSw; (try dsimp only at hSw); (try simp only [zk1, zk2, zk3]); go_simp; try with_reducible rfl)); (try simp only [zk1, zk2, zk3]); (try simp only [Act.put, zk4, zk5, zk6])
                (refine wpAnyH_take (i := 3) (v := ?_) rfl (by kernel_rfl) (by kernel_rfl) (by kernel_rfl) (fun _ _ _ h => h) (Or.inl ⟨by rfl, ?_⟩) (by assumption) ?_; rotate_left; focus (intro w hSw; (try dsimp only at hSw); (try simp only [zk1, zk2, zk3]); go_simp; try with_reducible rfl)); (try simp only [zk1, zk2, zk3]); (try simp only [Act.put, zk4, zk5, zk6])
                (refine wpAnyH_take (i := 5) (v := ?_) rfl (by kernel_rfl) (by kernel_rfl) (by kernel_rfl) (fun _ _ _ h => h) (Or.inl ⟨by rfl, ?_⟩) (by assumption) ?_; rotate_left; focus (intro w hSw; (try dsimp only at hSw); (try simp only [zk1, zk2, zk3]); go_simp; try with_reducible rfl)); (try simp only [zk1, zk2, zk3]); (try simp only [Act.put, zk4, zk5, zk6])
                (refine wpAnyH_take (i := 6) (v := ?_) rfl (by kernel_rfl) (by kernel_rfl) (by kernel_rfl) (fun _ _ _ h => h) (Or.inl ⟨by rfl, ?_⟩) (by assumption) ?_; rotate_left; focus (intro w hSw; (try dsimp only at hSw); (try simp only [zk1, zk2, zk3]); go_simp; try with_reducible rfl)); (try simp only [zk1, zk2, zk3]); (try simp only [Act.put, zk4, zk5, zk6])
                (refine wpAnyH_take (i := 7) (v := ?_) rfl (by kernel_rfl) (by kernel_rfl) (by kernel_rfl) (fun _ _ _ h => h) (Or.inl ⟨by rfl, ?_⟩) (by assumption) ?_; rotate_left; focus (intro w hSw; (try dsimp only at hSw); (try simp only [zk1, zk2, zk3]); go_simp; try with_reducible rfl)); (try simp only [zk1, zk2, zk3]); (try simp only [Act.put, zk4, zk5, zk6])
                (refine wpAnyH_take (i := 8) (v := ?_) rfl (by kernel_rfl) (by kernel_rfl) (by kernel_rfl) (fun _ _ _ h => h) (Or.inl ⟨by rfl, ?_⟩) (by assumption) ?_; rotate_left; focus (intro w hSw; (try dsimp only at hSw); (try simp only [zk1, zk2, zk3]); go_simp; try with_reducible rfl)); (try simp only [zk1, zk2, zk3]); (try simp only [Act.put, zk4, zk5, zk6])
                (refine wpAnyH_take (i := 9) (v := .string (t.extract a (a + 2))) rfl (by kernel_rfl) (by kernel_rfl) (by kernel_rfl) (fun _ _ _ h => h) (Or.inl ⟨by rfl, ?_⟩) (by assumption) ?_; focus (intro w hSw; (try dsimp only at hSw); (try simp only [zk1, zk2, zk3]); go_simp; (try with_reducible rfl))); (try simp only [zk1, zk2, zk3]); (try simp only [Act.put, zk4, zk5, zk6])
                (refine wpAnyH_ready (rs := [4]) (by kernel_rfl) (by simp) ?_; refine AllReadyH.cons rfl (fun K hK => ?_) AllReadyH.nil; (try simp only [zk1, zk2, zk3]))
                go_simp
                go_at_call 86
                refine (HC.out _).mono ?_
                rintro e w3 ⟨rfl, x3⟩
                (try dsimp only)
                refine hK.out _ _ (by exact ⟨⟩) (fun hHeld => ?_)
                clear hK K
                by_cases hzz : 1 = 0 ∨ (t[a + 1]).toNat ≠ 0
                · have he := HX2.out.1 (by first | exact hzz | exact trivial | (left; trivial))
                  have HE := Lib.hid he
                  have HN := Lib.hid (HL2.out (by first | exact hzz | exact trivial | (left; trivial)))
                  clear he hzz HX2 HL2 HZ2
                  (refine wpAnyH_take (i := 10) (v := .bool false) rfl (by kernel_rfl) (by kernel_rfl) (by kernel_rfl) (fun _ _ _ h => h) (Or.inl ⟨by rfl, ?_⟩) (by assumption) ?_; focus (intro w hSw; (try dsimp only at hSw); (try simp only [zk1, zk2, zk3]); go_simp; (have h := HE.out; (try rw [Nat.mul_one] at h); rw [h]))); (try simp only [zk1, zk2, zk3]); (try simp only [Act.put, zk4, zk5, zk6])
                  (refine wpAnyH_take (i := 11) (v := ?_) rfl (by kernel_rfl) (by kernel_rfl) (by kernel_rfl) (fun _ _ _ h => h) (Or.inl ⟨by rfl, ?_⟩) (by assumption) ?_; rotate_left; focus (intro w hSw; (try dsimp only at hSw); (try simp only [zk1, zk2, zk3]); go_simp; try with_reducible rfl)); (try simp only [zk1, zk2, zk3]); (try simp only [Act.put, zk4, zk5, zk6])
                  refine wpAnyH_done (by kernel_rfl) ?_ _
                  go_wp2
                  go_ret3
                  exact ⟨ret_rv ⟨HN.out.1, by rw [HN.out.2.1]; have := HVL.out; omega, by rw [HN.out.2.2]; omega⟩, xd.trans x3⟩
                · have hz0 : 0 < 1 ∧ (t[a + 1]).toNat = 0 := by omega
                  have he := HX2.out.2 hz0
                  have HE := Lib.hid he
                  have HN := Lib.hid (HZ2.out hz0)
                  clear he hzz hz0 HX2 HL2 HZ2
                  (refine wpAnyH_take (i := 10) (v := .bool true) rfl (by kernel_rfl) (by kernel_rfl) (by kernel_rfl) (fun _ _ _ h => h) (Or.inl ⟨by rfl, ?_⟩) (by assumption) ?_; focus (intro w hSw; (try dsimp only at hSw); (try simp only [zk1, zk2, zk3]); go_simp; (have h := HE.out; simp [toList_inj, h]))); (try simp only [zk1, zk2, zk3]); (try simp only [Act.put, zk4, zk5, zk6])
                  (refine wpAnyH_take (i := 11) (v := ?_) rfl (by kernel_rfl) (by kernel_rfl) (by kernel_rfl) (fun _ _ _ h => h) (Or.inl ⟨by rfl, ?_⟩) (by assumption) ?_; rotate_left; focus (intro w hSw; (try dsimp only at hSw); (try simp only [zk1, zk2, zk3]); go_simp; try with_reducible rfl)); (try simp only [zk1, zk2, zk3]); (try simp only [Act.put, zk4, zk5, zk6])
                  refine wpAnyH_done (by kernel_rfl) ?_ _
                  go_wp2
                  go_ret3
                  exact ⟨ret_no HN.out, xd.trans x3⟩
            · have HN := Lib.hid (HM.out (by omega))
              clear HM HL HZ HX
              go_wp2
              all_goals first | (exfalso; omega) | skip
              go_round
              case rel => exact ⟨2, acc + (t[a + 1]).toNat % 128 * 128 ^ 1, by omega, by go_num, by first | rfl | go_num, by go_num, HN.out⟩
              case measure => simp [intOf]; omega
          · have HM : Hid (128 ≤ (t[a + 2]).toNat → VarIn t a 3 (acc + (t[a + 2]).toNat % 128 * 128 ^ 2)) := Lib.hid (fun h => HV.out.more hi h)
            have HL : Hid ((t[a + 2]).toNat < 128 → (2 = 0 ∨ (t[a + 2]).toNat ≠ 0) → acc + (t[a + 2]).toNat * 16384 ≤ 1000000000 → rvOk t a = true ∧ rvV t a = acc + (t[a + 2]).toNat * 16384 ∧ rvE t a = a + 2 + 1) := Lib.hid (fun h1 h2 h3 => HV.out.last hi h1 h2 h3)
            have HZ : Hid ((t[a + 2]).toNat < 128 → (0 < 2 ∧ (t[a + 2]).toNat = 0 ∨ 1000000000 < acc + (t[a + 2]).toNat * 16384) → rvOk t a = false ∧ rvV t a = 0 ∧ rvE t a = 0) := Lib.hid (fun h1 h2 => HV.out.zlast hi h1 h2)
            have HX : Hid ((t[a + 2]).toNat < 128 → acc + (t[a + 2]).toNat * 16384 ≤ 1000000000 → ((2 = 0 ∨ (t[a + 2]).toNat ≠ 0) → varT (acc + (t[a + 2]).toNat * 16384) = t.extract a (a + 3)) ∧ (0 < 2 ∧ (t[a + 2]).toNat = 0 → varT (acc + (t[a + 2]).toNat * 16384) ≠ t.extract a (a + 3))) := Lib.hid (fun h1 h2 => HV.out.text hi h1 h2)
            clear HV
            have hA : acc < 16384 := by simpa using hacc
            have hi' : (a : Int) + 2 < t.size := by omega
            have hyb : (t[a + 2]).toNat < 256 := hb
            have hw1 := wrap64_byte (t[a + 2])
            have hn0 : (0 : Int) ≤ (t[a + 2]).toNat := by omega
            have hpw : ((128 ^ 2 : Nat) : Int) = 16384 := by decide
            clear hacc hb HI hk hlt
            by_cases hx : (t[a + 2]).toNat < 128
            · have hxi : ((t[a + 2]).toNat : Int) < 128 := by omega
              by_cases hz : 1000000000 < acc + (t[a + 2]).toNat * 16384
              · have HN := Lib.hid (HZ.out hx (Or.inr hz))
                have HZ0 := Lib.hid hz
                clear hz HM HL HZ HX
                exfalso
                have := HZ0.out
                omega
              · have HX2 := Lib.hid (HX.out hx (by omega))
                have HL2 := Lib.hid (fun h2 => HL.out hx h2 (by omega))
                have HZ2 := Lib.hid (fun h2 => HZ.out hx (Or.inl h2))
                have HZ0 := Lib.hid hz
                clear hz HM HL HZ HX
                have hval : (((acc + (t[a + 2]).toNat * 16384) : Nat) : Int) = (acc : Int) + (((t[a + 2]).toNat : Nat) : Int) % 128 * 16384 := by have := HZ0.out; omega
                have hc : ∀ W, Calls Try.prog 86 #[.int .i64 ((acc : Int) + (((t[a + 2]).toNat : Nat) : Int) % 128 * 16384)] W fun e w' => e = .returned (.string (varT (acc + (t[a + 2]).toNat * 16384))) ∧ Ext W w' := fun W => by have h := spec_l01Var (acc + (t[a + 2]).toNat * 16384) W (by have := HZ0.out; omega); rw [hval] at h; exact h
                have HC := Lib.hid hc
                have HVL := Lib.hid hval
                clear hc hval
                have n1 : ((a : Int) + 3).toNat = a + 3 := by omega
                have g1 : IntKind.i64.wrap ((a : Int) + 3) = (a : Int) + 3 := IntWalk.i64_in _ (by omega)
                have g2 : (0 : Int) ≤ (a : Int) + 3 := by omega
                have g3 : (a : Int) + 3 ≤ t.size := by omega
                have g4 : (a : Int) ≤ (a : Int) + 3 := by omega
                have g5 : IntKind.i64.wrap ((a : Int) + 2 + 1) = (a : Int) + 3 := by rw [IntWalk.i64_in _ (by omega)]; omega
                go_wp2_with fail
                refine wp_region_held_drew (S := fun _ => True) (by kernel_rfl) (by exact True.intro) (fun hHeld => ?_)
                have xd : Ext w w.drew := (Ext.refl w).drew
                generalize w.drew = w2 at *
                (refine wpAnyH_take (i := 0) (v := ?_) rfl (by kernel_rfl) (by kernel_rfl) (by kernel_rfl) (fun _ _ _ h => h) (Or.inl ⟨by rfl, ?_⟩) (by assumption) ?_; rotate_left; focus (intro w hSw; (try dsimp only at hSw); (try simp only [zk1, zk2]); go_simp; try with_reducible rfl)); (try simp only [zk1, zk2]); (try simp only [Act.put, zk4, zk5, zk6])
                (refine wpAnyH_take (i := 1) (v := .bool false) rfl (by kernel_rfl) (by kernel_rfl) (by kernel_rfl) (fun _ _ _ h => h) (Or.inl ⟨by rfl, ?_⟩) (by assumption) ?_; focus (intro w hSw; (try dsimp only at hSw); (try simp only [zk1, zk2, zk3]); go_simp; (have := HZ0.out; simp; omega))); (try simp only [zk1, zk2, zk3]); (try simp only [Act.put, zk4, zk5, zk6])
                (refine wpAnyH_take (i := 2) (v := ?_) rfl (by kernel_rfl) (by kernel_rfl) (by kernel_rfl) (fun _ _ _ h => h) (Or.inl ⟨by rfl, ?_⟩) (by assumption) ?_; rotate_left; focus (intro w hSw; (try dsimp only at hSw); (try simp only [zk1, zk2, zk3]); go_simp; try with_reducible rfl)); (try simp only [zk1, zk2, zk3]); (try simp only [Act.put, zk4, zk5, zk6])
                (refine wpAnyH_take (i := 3) (v := ?_) rfl (by kernel_rfl) (by kernel_rfl) (by kernel_rfl) (fun _ _ _ h => h) (Or.inl ⟨by rfl, ?_⟩) (by assumption) ?_; rotate_left; focus (intro w hSw; (try dsimp only at hSw); (try simp only [zk1, zk2, zk3]); go_simp; try with_reducible rfl)); (try simp only [zk1, zk2, zk3]); (try simp only [Act.put, zk4, zk5, zk6])
                (refine wpAnyH_take (i := 5) (v := ?_) rfl (by kernel_rfl) (by kernel_rfl) (by kernel_rfl) (fun _ _ _ h => h) (Or.inl ⟨by rfl, ?_⟩) (by assumption) ?_; rotate_left; focus (intro w hSw; (try dsimp only at hSw); (try simp only [zk1, zk2, zk3]); go_simp; try with_reducible rfl)); (try simp only [zk1, zk2, zk3]); (try simp only [Act.put, zk4, zk5, zk6])
                (refine wpAnyH_take (i := 6) (v := ?_) rfl (by kernel_rfl) (by kernel_rfl) (by kernel_rfl) (fun _ _ _ h => h) (Or.inl ⟨by rfl, ?_⟩) (by assumption) ?_; rotate_left; focus (intro w hSw; (try dsimp only at hSw); (try simp only [zk1, zk2, zk3]); go_simp; try with_reducible rfl)); (try simp only [zk1, zk2, zk3]); (try simp only [Act.put, zk4, zk5, zk6])
                (refine wpAnyH_take (i := 7) (v := ?_) rfl (by kernel_rfl) (by kernel_rfl) (by kernel_rfl) (fun _ _ _ h => h) (Or.inl ⟨by rfl, ?_⟩) (by assumption) ?_; rotate_left; focus (intro w hSw; (try dsimp only at hSw); (try simp only [zk1, zk2, zk3]); go_simp; try with_reducible rfl)); (try simp only [zk1, zk2, zk3]); (try simp only [Act.put, zk4, zk5, zk6])
                (refine wpAnyH_take (i := 8) (v := ?_) rfl (by kernel_rfl) (by kernel_rfl) (by kernel_rfl) (fun _ _ _ h => h) (Or.inl ⟨by rfl, ?_⟩) (by assumption) ?_; rotate_left; focus (intro w hSw; (try dsimp only at hSw); (try simp only [zk1, zk2, zk3]); go_simp; try with_reducible rfl)); (try simp only [zk1, zk2, zk3]); (try simp only [Act.put, zk4, zk5, zk6])
                (refine wpAnyH_take (i := 9) (v := .string (t.extract a (a + 3))) rfl (by kernel_rfl) (by kernel_rfl) (by kernel_rfl) (fun _ _ _ h => h) (Or.inl ⟨by rfl, ?_⟩) (by assumption) ?_; focus (intro w hSw; (try dsimp only at hSw); (try simp only [zk1, zk2, zk3]); go_simp; (try with_reducible rfl))); (try simp only [zk1, zk2, zk3]); (try simp only [Act.put, zk4, zk5, zk6])
                (refine wpAnyH_ready (rs := [4]) (by kernel_rfl) (by simp) ?_; refine AllReadyH.cons rfl (fun K hK => ?_) AllReadyH.nil; (try simp only [zk1, zk2, zk3]))
                go_simp
                go_at_call 86
                refine (HC.out _).mono ?_
                rintro e w3 ⟨rfl, x3⟩
                (try dsimp only)
                refine hK.out _ _ (by exact ⟨⟩) (fun hHeld => ?_)
                clear hK K
                by_cases hzz : 2 = 0 ∨ (t[a + 2]).toNat ≠ 0
                · have he := HX2.out.1 (by first | exact hzz | exact trivial | (left; trivial))
                  have HE := Lib.hid he
                  have HN := Lib.hid (HL2.out (by first | exact hzz | exact trivial | (left; trivial)))
                  clear he hzz HX2 HL2 HZ2
                  (refine wpAnyH_take (i := 10) (v := .bool false) rfl (by kernel_rfl) (by kernel_rfl) (by kernel_rfl) (fun _ _ _ h => h) (Or.inl ⟨by rfl, ?_⟩) (by assumption) ?_; focus (intro w hSw; (try dsimp only at hSw); (try simp only [zk1, zk2, zk3]); go_simp; (have h := HE.out; (try rw [Nat.mul_one] at h); rw [h]))); (try simp only [zk1, zk2, zk3]); (try simp only [Act.put, zk4, zk5, zk6])
                  (refine wpAnyH_take (i := 11) (v := ?_) rfl (by kernel_rfl) (by kernel_rfl) (by kernel_rfl) (fun _ _ _ h => h) (Or.inl ⟨by rfl, ?_⟩) (by assumption) ?_; rotate_left; focus (intro w hSw; (try dsimp only at hSw); (try simp only [zk1, zk2, zk3]); go_simp; try with_reducible rfl)); (try simp only [zk1, zk2, zk3]); (try simp only [Act.put, zk4, zk5, zk6])
                  refine wpAnyH_done (by kernel_rfl) ?_ _
                  go_wp2
                  go_ret3
                  exact ⟨ret_rv ⟨HN.out.1, by rw [HN.out.2.1]; have := HVL.out; omega, by rw [HN.out.2.2]; omega⟩, xd.trans x3⟩
                · have hz0 : 0 < 2 ∧ (t[a + 2]).toNat = 0 := by omega
                  have he := HX2.out.2 hz0
                  have HE := Lib.hid he
                  have HN := Lib.hid (HZ2.out hz0)
                  clear he hzz hz0 HX2 HL2 HZ2
                  (refine wpAnyH_take (i := 10) (v := .bool true) rfl (by kernel_rfl) (by kernel_rfl) (by kernel_rfl) (fun _ _ _ h => h) (Or.inl ⟨by rfl, ?_⟩) (by assumption) ?_; focus (intro w hSw; (try dsimp only at hSw); (try simp only [zk1, zk2, zk3]); go_simp; (have h := HE.out; simp [toList_inj, h]))); (try simp only [zk1, zk2, zk3]); (try simp only [Act.put, zk4, zk5, zk6])
                  (refine wpAnyH_take (i := 11) (v := ?_) rfl (by kernel_rfl) (by kernel_rfl) (by kernel_rfl) (fun _ _ _ h => h) (Or.inl ⟨by rfl, ?_⟩) (by assumption) ?_; rotate_left; focus (intro w hSw; (try dsimp only at hSw); (try simp only [zk1, zk2, zk3]); go_simp; try with_reducible rfl)); (try simp only [zk1, zk2, zk3]); (try simp only [Act.put, zk4, zk5, zk6])
                  refine wpAnyH_done (by kernel_rfl) ?_ _
                  go_wp2
                  go_ret3
                  exact ⟨ret_no HN.out, xd.trans x3⟩
            · have HN := Lib.hid (HM.out (by omega))
              clear HM HL HZ HX
              go_wp2
              all_goals first | (exfalso; omega) | skip
              go_round
              case rel => exact ⟨3, acc + (t[a + 2]).toNat % 128 * 128 ^ 2, by omega, by go_num, by first | rfl | go_num, by go_num, HN.out⟩
              case measure => simp [intOf]; omega
          · have HM : Hid (128 ≤ (t[a + 3]).toNat → VarIn t a 4 (acc + (t[a + 3]).toNat % 128 * 128 ^ 3)) := Lib.hid (fun h => HV.out.more hi h)
            have HL : Hid ((t[a + 3]).toNat < 128 → (3 = 0 ∨ (t[a + 3]).toNat ≠ 0) → acc + (t[a + 3]).toNat * 2097152 ≤ 1000000000 → rvOk t a = true ∧ rvV t a = acc + (t[a + 3]).toNat * 2097152 ∧ rvE t a = a + 3 + 1) := Lib.hid (fun h1 h2 h3 => HV.out.last hi h1 h2 h3)
            have HZ : Hid ((t[a + 3]).toNat < 128 → (0 < 3 ∧ (t[a + 3]).toNat = 0 ∨ 1000000000 < acc + (t[a + 3]).toNat * 2097152) → rvOk t a = false ∧ rvV t a = 0 ∧ rvE t a = 0) := Lib.hid (fun h1 h2 => HV.out.zlast hi h1 h2)
            have HX : Hid ((t[a + 3]).toNat < 128 → acc + (t[a + 3]).toNat * 2097152 ≤ 1000000000 → ((3 = 0 ∨ (t[a + 3]).toNat ≠ 0) → varT (acc + (t[a + 3]).toNat * 2097152) = t.extract a (a + 4)) ∧ (0 < 3 ∧ (t[a + 3]).toNat = 0 → varT (acc + (t[a + 3]).toNat * 2097152) ≠ t.extract a (a + 4))) := Lib.hid (fun h1 h2 => HV.out.text hi h1 h2)
            clear HV
            have hA : acc < 2097152 := by simpa using hacc
            have hi' : (a : Int) + 3 < t.size := by omega
            have hyb : (t[a + 3]).toNat < 256 := hb
            have hw1 := wrap64_byte (t[a + 3])
            have hn0 : (0 : Int) ≤ (t[a + 3]).toNat := by omega
            have hpw : ((128 ^ 3 : Nat) : Int) = 2097152 := by decide
            clear hacc hb HI hk hlt
            by_cases hx : (t[a + 3]).toNat < 128
            · have hxi : ((t[a + 3]).toNat : Int) < 128 := by omega
              by_cases hz : 1000000000 < acc + (t[a + 3]).toNat * 2097152
              · have HN := Lib.hid (HZ.out hx (Or.inr hz))
                have HZ0 := Lib.hid hz
                clear hz HM HL HZ HX
                exfalso
                have := HZ0.out
                omega
              · have HX2 := Lib.hid (HX.out hx (by omega))
                have HL2 := Lib.hid (fun h2 => HL.out hx h2 (by omega))
                have HZ2 := Lib.hid (fun h2 => HZ.out hx (Or.inl h2))
                have HZ0 := Lib.hid hz
                clear hz HM HL HZ HX
                have hval : (((acc + (t[a + 3]).toNat * 2097152) : Nat) : Int) = (acc : Int) + (((t[a + 3]).toNat : Nat) : Int) % 128 * 2097152 := by have := HZ0.out; omega
                have hc : ∀ W, Calls Try.prog 86 #[.int .i64 ((acc : Int) + (((t[a + 3]).toNat : Nat) : Int) % 128 * 2097152)] W fun e w' => e = .returned (.string (varT (acc + (t[a + 3]).toNat * 2097152))) ∧ Ext W w' := fun W => by have h := spec_l01Var (acc + (t[a + 3]).toNat * 2097152) W (by have := HZ0.out; omega); rw [hval] at h; exact h
                have HC := Lib.hid hc
                have HVL := Lib.hid hval
                clear hc hval
                have n1 : ((a : Int) + 4).toNat = a + 4 := by omega
                have g1 : IntKind.i64.wrap ((a : Int) + 4) = (a : Int) + 4 := IntWalk.i64_in _ (by omega)
                have g2 : (0 : Int) ≤ (a : Int) + 4 := by omega
                have g3 : (a : Int) + 4 ≤ t.size := by omega
                have g4 : (a : Int) ≤ (a : Int) + 4 := by omega
                have g5 : IntKind.i64.wrap ((a : Int) + 3 + 1) = (a : Int) + 4 := by rw [IntWalk.i64_in _ (by omega)]; omega
                go_wp2_with fail
                refine wp_region_held_drew (S := fun _ => True) (by kernel_rfl) (by exact True.intro) (fun hHeld => ?_)
                have xd : Ext w w.drew := (Ext.refl w).drew
                generalize w.drew = w2 at *
                (refine wpAnyH_take (i := 0) (v := ?_) rfl (by kernel_rfl) (by kernel_rfl) (by kernel_rfl) (fun _ _ _ h => h) (Or.inl ⟨by rfl, ?_⟩) (by assumption) ?_; rotate_left; focus (intro w hSw; (try dsimp only at hSw); (try simp only [zk1, zk2]); go_simp; try with_reducible rfl)); (try simp only [zk1, zk2]); (try simp only [Act.put, zk4, zk5, zk6])
                (refine wpAnyH_take (i := 1) (v := .bool false) rfl (by kernel_rfl) (by kernel_rfl) (by kernel_rfl) (fun _ _ _ h => h) (Or.inl ⟨by rfl, ?_⟩) (by assumption) ?_; focus (intro w hSw; (try dsimp only at hSw); (try simp only [zk1, zk2, zk3]); go_simp; (have := HZ0.out; simp; omega))); (try simp only [zk1, zk2, zk3]); (try simp only [Act.put, zk4, zk5, zk6])
                (refine wpAnyH_take (i := 2) (v := ?_) rfl (by kernel_rfl) (by kernel_rfl) (by kernel_rfl) (fun _ _ _ h => h) (Or.inl ⟨by rfl, ?_⟩) (by assumption) ?_; rotate_left; focus (intro w hSw; (try dsimp only at hSw); (try simp only [zk1, zk2, zk3]); go_simp; try with_reducible rfl)); (try simp only [zk1, zk2, zk3]); (try simp only [Act.put, zk4, zk5, zk6])
                (refine wpAnyH_take (i := 3) (v := ?_) rfl (by kernel_rfl) (by kernel_rfl) (by kernel_rfl) (fun _ _ _ h => h) (Or.inl ⟨by rfl, ?_⟩) (by assumption) ?_; rotate_left; focus (intro w hSw; (try dsimp only at hSw); (try simp only [zk1, zk2, zk3]); go_simp; try with_reducible rfl)); (try simp only [zk1, zk2, zk3]); (try simp only [Act.put, zk4, zk5, zk6])
                (refine wpAnyH_take (i := 5) (v := ?_) rfl (by kernel_rfl) (by kernel_rfl) (by kernel_rfl) (fun _ _ _ h => h) (Or.inl ⟨by rfl, ?_⟩) (by assumption) ?_; rotate_left; focus (intro w hSw; (try dsimp only at hSw); (try simp only [zk1, zk2, zk3]); go_simp; try with_reducible rfl)); (try simp only [zk1, zk2, zk3]); (try simp only [Act.put, zk4, zk5, zk6])
                (refine wpAnyH_take (i := 6) (v := ?_) rfl (by kernel_rfl) (by kernel_rfl) (by kernel_rfl) (fun _ _ _ h => h) (Or.inl ⟨by rfl, ?_⟩) (by assumption) ?_; rotate_left; focus (intro w hSw; (try dsimp only at hSw); (try simp only [zk1, zk2, zk3]); go_simp; try with_reducible rfl)); (try simp only [zk1, zk2, zk3]); (try simp only [Act.put, zk4, zk5, zk6])
                (refine wpAnyH_take (i := 7) (v := ?_) rfl (by kernel_rfl) (by kernel_rfl) (by kernel_rfl) (fun _ _ _ h => h) (Or.inl ⟨by rfl, ?_⟩) (by assumption) ?_; rotate_left; focus (intro w hSw; (try dsimp only at hSw); (try simp only [zk1, zk2, zk3]); go_simp; try with_reducible rfl)); (try simp only [zk1, zk2, zk3]); (try simp only [Act.put, zk4, zk5, zk6])
                (refine wpAnyH_take (i := 8) (v := ?_) rfl (by kernel_rfl) (by kernel_rfl) (by kernel_rfl) (fun _ _ _ h => h) (Or.inl ⟨by rfl, ?_⟩) (by assumption) ?_; rotate_left; focus (intro w hSw; (try dsimp only at hSw); (try simp only [zk1, zk2, zk3]); go_simp; try with_reducible rfl)); (try simp only [zk1, zk2, zk3]); (try simp only [Act.put, zk4, zk5, zk6])
                (refine wpAnyH_take (i := 9) (v := .string (t.extract a (a + 4))) rfl (by kernel_rfl) (by kernel_rfl) (by kernel_rfl) (fun _ _ _ h => h) (Or.inl ⟨by rfl, ?_⟩) (by assumption) ?_; focus (intro w hSw; (try dsimp only at hSw); (try simp only [zk1, zk2, zk3]); go_simp; (try with_reducible rfl))); (try simp only [zk1, zk2, zk3]); (try simp only [Act.put, zk4, zk5, zk6])
                (refine wpAnyH_ready (rs := [4]) (by kernel_rfl) (by simp) ?_; refine AllReadyH.cons rfl (fun K hK => ?_) AllReadyH.nil; (try simp only [zk1, zk2, zk3]))
                go_simp
                go_at_call 86
                refine (HC.out _).mono ?_
                rintro e w3 ⟨rfl, x3⟩
                (try dsimp only)
                refine hK.out _ _ (by exact ⟨⟩) (fun hHeld => ?_)
                clear hK K
                by_cases hzz : 3 = 0 ∨ (t[a + 3]).toNat ≠ 0
                · have he := HX2.out.1 (by first | exact hzz | exact trivial | (left; trivial))
                  have HE := Lib.hid he
                  have HN := Lib.hid (HL2.out (by first | exact hzz | exact trivial | (left; trivial)))
                  clear he hzz HX2 HL2 HZ2
                  (refine wpAnyH_take (i := 10) (v := .bool false) rfl (by kernel_rfl) (by kernel_rfl) (by kernel_rfl) (fun _ _ _ h => h) (Or.inl ⟨by rfl, ?_⟩) (by assumption) ?_; focus (intro w hSw; (try dsimp only at hSw); (try simp only [zk1, zk2, zk3]); go_simp; (have h := HE.out; (try rw [Nat.mul_one] at h); rw [h]))); (try simp only [zk1, zk2, zk3]); (try simp only [Act.put, zk4, zk5, zk6])
                  (refine wpAnyH_take (i := 11) (v := ?_) rfl (by kernel_rfl) (by kernel_rfl) (by kernel_rfl) (fun _ _ _ h => h) (Or.inl ⟨by rfl, ?_⟩) (by assumption) ?_; rotate_left; focus (intro w hSw; (try dsimp only at hSw); (try simp only [zk1, zk2, zk3]); go_simp; try with_reducible rfl)); (try simp only [zk1, zk2, zk3]); (try simp only [Act.put, zk4, zk5, zk6])
                  refine wpAnyH_done (by kernel_rfl) ?_ _
                  go_wp2
                  go_ret3
                  exact ⟨ret_rv ⟨HN.out.1, by rw [HN.out.2.1]; have := HVL.out; omega, by rw [HN.out.2.2]; omega⟩, xd.trans x3⟩
                · have hz0 : 0 < 3 ∧ (t[a + 3]).toNat = 0 := by omega
                  have he := HX2.out.2 hz0
                  have HE := Lib.hid he
                  have HN := Lib.hid (HZ2.out hz0)
                  clear he hzz hz0 HX2 HL2 HZ2
                  (refine wpAnyH_take (i := 10) (v := .bool true) rfl (by kernel_rfl) (by kernel_rfl) (by kernel_rfl) (fun _ _ _ h => h) (Or.inl ⟨by rfl, ?_⟩) (by assumption) ?_; focus (intro w hSw; (try dsimp only at hSw); (try simp only [zk1, zk2, zk3]); go_simp; (have h := HE.out; simp [toList_inj, h]))); (try simp only [zk1, zk2, zk3]); (try simp only [Act.put, zk4, zk5, zk6])
                  (refine wpAnyH_take (i := 11) (v := ?_) rfl (by kernel_rfl) (by kernel_rfl) (by kernel_rfl) (fun _ _ _ h => h) (Or.inl ⟨by rfl, ?_⟩) (by assumption) ?_; rotate_left; focus (intro w hSw; (try dsimp only at hSw); (try simp only [zk1, zk2, zk3]); go_simp; try with_reducible rfl)); (try simp only [zk1, zk2, zk3]); (try simp only [Act.put, zk4, zk5, zk6])
                  refine wpAnyH_done (by kernel_rfl) ?_ _
                  go_wp2
                  go_ret3
                  exact ⟨ret_no HN.out, xd.trans x3⟩
            · have HN := Lib.hid (HM.out (by omega))
              clear HM HL HZ HX
              go_wp2
              all_goals first | (exfalso; omega) | skip
              go_round
              case rel => exact ⟨4, acc + (t[a + 3]).toNat % 128 * 128 ^ 3, by omega, by go_num, by first | rfl | go_num, by go_num, HN.out⟩
              case measure => simp [intOf]; omega
          · have HM : Hid (128 ≤ (t[a + 4]).toNat → VarIn t a 5 (acc + (t[a + 4]).toNat % 128 * 128 ^ 4)) := Lib.hid (fun h => HV.out.more hi h)
            have HL : Hid ((t[a + 4]).toNat < 128 → (4 = 0 ∨ (t[a + 4]).toNat ≠ 0) → acc + (t[a + 4]).toNat * 268435456 ≤ 1000000000 → rvOk t a = true ∧ rvV t a = acc + (t[a + 4]).toNat * 268435456 ∧ rvE t a = a + 4 + 1) := Lib.hid (fun h1 h2 h3 => HV.out.last hi h1 h2 h3)
            have HZ : Hid ((t[a + 4]).toNat < 128 → (0 < 4 ∧ (t[a + 4]).toNat = 0 ∨ 1000000000 < acc + (t[a + 4]).toNat * 268435456) → rvOk t a = false ∧ rvV t a = 0 ∧ rvE t a = 0) := Lib.hid (fun h1 h2 => HV.out.zlast hi h1 h2)
            have HX : Hid ((t[a + 4]).toNat < 128 → acc + (t[a + 4]).toNat * 268435456 ≤ 1000000000 → ((4 = 0 ∨ (t[a + 4]).toNat ≠ 0) → varT (acc + (t[a + 4]).toNat * 268435456) = t.extract a (a + 5)) ∧ (0 < 4 ∧ (t[a + 4]).toNat = 0 → varT (acc + (t[a + 4]).toNat * 268435456) ≠ t.extract a (a + 5))) := Lib.hid (fun h1 h2 => HV.out.text hi h1 h2)
            clear HV
            have hA : acc < 268435456 := by simpa using hacc
            have hi' : (a : Int) + 4 < t.size := by omega
            have hyb : (t[a + 4]).toNat < 256 := hb
            have hw1 := wrap64_byte (t[a + 4])
            have hn0 : (0 : Int) ≤ (t[a + 4]).toNat := by omega
            have hpw : ((128 ^ 4 : Nat) : Int) = 268435456 := by decide
            clear hacc hb HI hk hlt
            by_cases hx : (t[a + 4]).toNat < 128
            · have hxi : ((t[a + 4]).toNat : Int) < 128 := by omega
              by_cases hz : 1000000000 < acc + (t[a + 4]).toNat * 268435456
              · have HN := Lib.hid (HZ.out hx (Or.inr hz))
                have HZ0 := Lib.hid hz
                clear hz HM HL HZ HX
                go_wp2_with fail
                refine wp_region_held_drew (S := fun _ => True) (by kernel_rfl) (by exact True.intro) (fun hHeld => ?_)
                have xd : Ext w w.drew := (Ext.refl w).drew
                generalize w.drew = w2 at *
                (refine wpAnyH_take (i := 0) (v := ?_) rfl (by kernel_rfl) (by kernel_rfl) (by kernel_rfl) (fun _ _ _ h => h) (Or.inl ⟨by rfl, ?_⟩) (by assumption) ?_; rotate_left; focus (intro w hSw; (try dsimp only at hSw); (try simp only [zk1, zk2]); go_simp; try with_reducible rfl)); (try simp only [zk1, zk2]); (try simp only [Act.put, zk4, zk5, zk6])
                (refine wpAnyH_take (i := 1) (v := .bool true) rfl (by kernel_rfl) (by kernel_rfl) (by kernel_rfl) (fun _ _ _ h => h) (Or.inl ⟨by rfl, ?_⟩) (by assumption) ?_; focus (intro w hSw; (try dsimp only at hSw); (try simp only [zk1, zk2, zk3]); go_simp; (have := HZ0.out; simp; omega))); (try simp only [zk1, zk2, zk3]); (try simp only [Act.put, zk4, zk5, zk6])
                (refine wpAnyH_take (i := 2) (v := ?_) rfl (by kernel_rfl) (by kernel_rfl) (by kernel_rfl) (fun _ _ _ h => h) (Or.inl ⟨by rfl, ?_⟩) (by assumption) ?_; rotate_left; focus (intro w hSw; (try dsimp only at hSw); (try simp only [zk1, zk2, zk3]); go_simp; try with_reducible rfl)); (try simp only [zk1, zk2, zk3]); (try simp only [Act.put, zk4, zk5, zk6])
                (refine wpAnyH_take (i := 3) rfl (by kernel_rfl) (by kernel_rfl) (by kernel_rfl) (fun _ _ _ h => h) (Or.inr ⟨by rfl, rfl⟩) (by assumption) ?_); (try simp only [zk1, zk2, zk3]); (try simp only [Act.put, zk4, zk5, zk6])
                (refine wpAnyH_take (i := 4) rfl (by kernel_rfl) (by kernel_rfl) (by kernel_rfl) (fun _ _ _ h => h) (Or.inr ⟨by rfl, rfl⟩) (by assumption) ?_); (try simp only [zk1, zk2, zk3]); (try simp only [Act.put, zk4, zk5, zk6])
                (refine wpAnyH_take (i := 5) rfl (by kernel_rfl) (by kernel_rfl) (by kernel_rfl) (fun _ _ _ h => h) (Or.inr ⟨by rfl, rfl⟩) (by assumption) ?_); (try simp only [zk1, zk2, zk3]); (try simp only [Act.put, zk4, zk5, zk6])
                (refine wpAnyH_take (i := 6) rfl (by kernel_rfl) (by kernel_rfl) (by kernel_rfl) (fun _ _ _ h => h) (Or.inr ⟨by rfl, rfl⟩) (by assumption) ?_); (try simp only [zk1, zk2, zk3]); (try simp only [Act.put, zk4, zk5, zk6])
                (refine wpAnyH_take (i := 7) rfl (by kernel_rfl) (by kernel_rfl) (by kernel_rfl) (fun _ _ _ h => h) (Or.inr ⟨by rfl, rfl⟩) (by assumption) ?_); (try simp only [zk1, zk2, zk3]); (try simp only [Act.put, zk4, zk5, zk6])
                (refine wpAnyH_take (i := 8) rfl (by kernel_rfl) (by kernel_rfl) (by kernel_rfl) (fun _ _ _ h => h) (Or.inr ⟨by rfl, rfl⟩) (by assumption) ?_); (try simp only [zk1, zk2, zk3]); (try simp only [Act.put, zk4, zk5, zk6])
                (refine wpAnyH_take (i := 9) rfl (by kernel_rfl) (by kernel_rfl) (by kernel_rfl) (fun _ _ _ h => h) (Or.inr ⟨by rfl, rfl⟩) (by assumption) ?_); (try simp only [zk1, zk2, zk3]); (try simp only [Act.put, zk4, zk5, zk6])
                (refine wpAnyH_take (i := 10) rfl (by kernel_rfl) (by kernel_rfl) (by kernel_rfl) (fun _ _ _ h => h) (Or.inr ⟨by rfl, rfl⟩) (by assumption) ?_); (try simp only [zk1, zk2, zk3]); (try simp only [Act.put, zk4, zk5, zk6])
                (refine wpAnyH_take (i := 11) (v := ?_) rfl (by kernel_rfl) (by kernel_rfl) (by kernel_rfl) (fun _ _ _ h => h) (Or.inl ⟨by rfl, ?_⟩) (by assumption) ?_; rotate_left; focus (intro w hSw; (try dsimp only at hSw); (try simp only [zk1, zk2, zk3]); go_simp; try with_reducible rfl)); (try simp only [zk1, zk2, zk3]); (try simp only [Act.put, zk4, zk5, zk6])
                refine wpAnyH_done (by kernel_rfl) ?_ _
                go_wp2
                go_ret3
                exact ⟨ret_no HN.out, xd⟩
              · have HX2 := Lib.hid (HX.out hx (by omega))
                have HL2 := Lib.hid (fun h2 => HL.out hx h2 (by omega))
                have HZ2 := Lib.hid (fun h2 => HZ.out hx (Or.inl h2))
                have HZ0 := Lib.hid hz
                clear hz HM HL HZ HX
                have hval : (((acc + (t[a + 4]).toNat * 268435456) : Nat) : Int) = (acc : Int) + (((t[a + 4]).toNat : Nat) : Int) % 128 * 268435456 := by have := HZ0.out; omega
                have hc : ∀ W, Calls Try.prog 86 #[.int .i64 ((acc : Int) + (((t[a + 4]).toNat : Nat) : Int) % 128 * 268435456)] W fun e w' => e = .returned (.string (varT (acc + (t[a + 4]).toNat * 268435456))) ∧ Ext W w' := fun W => by have h := spec_l01Var (acc + (t[a + 4]).toNat * 268435456) W (by have := HZ0.out; omega); rw [hval] at h; exact h
                have HC := Lib.hid hc
                have HVL := Lib.hid hval
                clear hc hval
                have n1 : ((a : Int) + 5).toNat = a + 5 := by omega
                have g1 : IntKind.i64.wrap ((a : Int) + 5) = (a : Int) + 5 := IntWalk.i64_in _ (by omega)
                have g2 : (0 : Int) ≤ (a : Int) + 5 := by omega
                have g3 : (a : Int) + 5 ≤ t.size := by omega
                have g4 : (a : Int) ≤ (a : Int) + 5 := by omega
                have g5 : IntKind.i64.wrap ((a : Int) + 4 + 1) = (a : Int) + 5 := by rw [IntWalk.i64_in _ (by omega)]; omega
                go_wp2_with fail
                refine wp_region_held_drew (S := fun _ => True) (by kernel_rfl) (by exact True.intro) (fun hHeld => ?_)
                have xd : Ext w w.drew := (Ext.refl w).drew
                generalize w.drew = w2 at *
                (refine wpAnyH_take (i := 0) (v := ?_) rfl (by kernel_rfl) (by kernel_rfl) (by kernel_rfl) (fun _ _ _ h => h) (Or.inl ⟨by rfl, ?_⟩) (by assumption) ?_; rotate_left; focus (intro w hSw; (try dsimp only at hSw); (try simp only [zk1, zk2]); go_simp; try with_reducible rfl)); (try simp only [zk1, zk2]); (try simp only [Act.put, zk4, zk5, zk6])
                (refine wpAnyH_take (i := 1) (v := .bool false) rfl (by kernel_rfl) (by kernel_rfl) (by kernel_rfl) (fun _ _ _ h => h) (Or.inl ⟨by rfl, ?_⟩) (by assumption) ?_; focus (intro w hSw; (try dsimp only at hSw); (try simp only [zk1, zk2, zk3]); go_simp; (have := HZ0.out; simp; omega))); (try simp only [zk1, zk2, zk3]); (try simp only [Act.put, zk4, zk5, zk6])
                (refine wpAnyH_take (i := 2) (v := ?_) rfl (by kernel_rfl) (by kernel_rfl) (by kernel_rfl) (fun _ _ _ h => h) (Or.inl ⟨by rfl, ?_⟩) (by assumption) ?_; rotate_left; focus (intro w hSw; (try dsimp only at hSw); (try simp only [zk1, zk2, zk3]); go_simp; try with_reducible rfl)); (try simp only [zk1, zk2, zk3]); (try simp only [Act.put, zk4, zk5, zk6])
                (refine wpAnyH_take (i := 3) (v := ?_) rfl (by kernel_rfl) (by kernel_rfl) (by kernel_rfl) (fun _ _ _ h => h) (Or.inl ⟨by rfl, ?_⟩) (by assumption) ?_; rotate_left; focus (intro w hSw; (try dsimp only at hSw); (try simp only [zk1, zk2, zk3]); go_simp; try with_reducible rfl)); (try simp only [zk1, zk2, zk3]); (try simp only [Act.put, zk4, zk5, zk6])
                (refine wpAnyH_take (i := 5) (v := ?_) rfl (by kernel_rfl) (by kernel_rfl) (by kernel_rfl) (fun _ _ _ h => h) (Or.inl ⟨by rfl, ?_⟩) (by assumption) ?_; rotate_left; focus (intro w hSw; (try dsimp only at hSw); (try simp only [zk1, zk2, zk3]); go_simp; try with_reducible rfl)); (try simp only [zk1, zk2, zk3]); (try simp only [Act.put, zk4, zk5, zk6])
                (refine wpAnyH_take (i := 6) (v := ?_) rfl (by kernel_rfl) (by kernel_rfl) (by kernel_rfl) (fun _ _ _ h => h) (Or.inl ⟨by rfl, ?_⟩) (by assumption) ?_; rotate_left; focus (intro w hSw; (try dsimp only at hSw); (try simp only [zk1, zk2, zk3]); go_simp; try with_reducible rfl)); (try simp only [zk1, zk2, zk3]); (try simp only [Act.put, zk4, zk5, zk6])
                (refine wpAnyH_take (i := 7) (v := ?_) rfl (by kernel_rfl) (by kernel_rfl) (by kernel_rfl) (fun _ _ _ h => h) (Or.inl ⟨by rfl, ?_⟩) (by assumption) ?_; rotate_left; focus (intro w hSw; (try dsimp only at hSw); (try simp only [zk1, zk2, zk3]); go_simp; try with_reducible rfl)); (try simp only [zk1, zk2, zk3]); (try simp only [Act.put, zk4, zk5, zk6])
                (refine wpAnyH_take (i := 8) (v := ?_) rfl (by kernel_rfl) (by kernel_rfl) (by kernel_rfl) (fun _ _ _ h => h) (Or.inl ⟨by rfl, ?_⟩) (by assumption) ?_; rotate_left; focus (intro w hSw; (try dsimp only at hSw); (try simp only [zk1, zk2, zk3]); go_simp; try with_reducible rfl)); (try simp only [zk1, zk2, zk3]); (try simp only [Act.put, zk4, zk5, zk6])
                (refine wpAnyH_take (i := 9) (v := .string (t.extract a (a + 5))) rfl (by kernel_rfl) (by kernel_rfl) (by kernel_rfl) (fun _ _ _ h => h) (Or.inl ⟨by rfl, ?_⟩) (by assumption) ?_; focus (intro w hSw; (try dsimp only at hSw); (try simp only [zk1, zk2, zk3]); go_simp; (try with_reducible rfl))); (try simp only [zk1, zk2, zk3]); (try simp only [Act.put, zk4, zk5, zk6])
                (refine wpAnyH_ready (rs := [4]) (by kernel_rfl) (by simp) ?_; refine AllReadyH.cons rfl (fun K hK => ?_) AllReadyH.nil; (try simp only [zk1, zk2, zk3]))
                go_simp
                go_at_call 86
                refine (HC.out _).mono ?_
                rintro e w3 ⟨rfl, x3⟩
                (try dsimp only)
                refine hK.out _ _ (by exact ⟨⟩) (fun hHeld => ?_)
                clear hK K
                by_cases hzz : 4 = 0 ∨ (t[a + 4]).toNat ≠ 0
                · have he := HX2.out.1 (by first | exact hzz | exact trivial | (left; trivial))
                  have HE := Lib.hid he
                  have HN := Lib.hid (HL2.out (by first | exact hzz | exact trivial | (left; trivial)))
                  clear he hzz HX2 HL2 HZ2
                  (refine wpAnyH_take (i := 10) (v := .bool false) rfl (by kernel_rfl) (by kernel_rfl) (by kernel_rfl) (fun _ _ _ h => h) (Or.inl ⟨by rfl, ?_⟩) (by assumption) ?_; focus (intro w hSw; (try dsimp only at hSw); (try simp only [zk1, zk2, zk3]); go_simp; (have h := HE.out; (try rw [Nat.mul_one] at h); rw [h]))); (try simp only [zk1, zk2, zk3]); (try simp only [Act.put, zk4, zk5, zk6])
                  (refine wpAnyH_take (i := 11) (v := ?_) rfl (by kernel_rfl) (by kernel_rfl) (by kernel_rfl) (fun _ _ _ h => h) (Or.inl ⟨by rfl, ?_⟩) (by assumption) ?_; rotate_left; focus (intro w hSw; (try dsimp only at hSw); (try simp only [zk1, zk2, zk3]); go_simp; try with_reducible rfl)); (try simp only [zk1, zk2, zk3]); (try simp only [Act.put, zk4, zk5, zk6])
                  refine wpAnyH_done (by kernel_rfl) ?_ _
                  go_wp2
                  go_ret3
                  exact ⟨ret_rv ⟨HN.out.1, by rw [HN.out.2.1]; have := HVL.out; omega, by rw [HN.out.2.2]; omega⟩, xd.trans x3⟩
                · have hz0 : 0 < 4 ∧ (t[a + 4]).toNat = 0 := by omega
                  have he := HX2.out.2 hz0
                  have HE := Lib.hid he
                  have HN := Lib.hid (HZ2.out hz0)
                  clear he hzz hz0 HX2 HL2 HZ2
                  (refine wpAnyH_take (i := 10) (v := .bool true) rfl (by kernel_rfl) (by kernel_rfl) (by kernel_rfl) (fun _ _ _ h => h) (Or.inl ⟨by rfl, ?_⟩) (by assumption) ?_; focus (intro w hSw; (try dsimp only at hSw); (try simp only [zk1, zk2, zk3]); go_simp; (have h := HE.out; simp [toList_inj, h]))); (try simp only [zk1, zk2, zk3]); (try simp only [Act.put, zk4, zk5, zk6])
                  (refine wpAnyH_take (i := 11) (v := ?_) rfl (by kernel_rfl) (by kernel_rfl) (by kernel_rfl) (fun _ _ _ h => h) (Or.inl ⟨by rfl, ?_⟩) (by assumption) ?_; rotate_left; focus (intro w hSw; (try dsimp only at hSw); (try simp only [zk1, zk2, zk3]); go_simp; try with_reducible rfl)); (try simp only [zk1, zk2, zk3]); (try simp only [Act.put, zk4, zk5, zk6])
                  refine wpAnyH_done (by kernel_rfl) ?_ _
                  go_wp2
                  go_ret3
                  exact ⟨ret_no HN.out, xd.trans x3⟩
            · have HN := Lib.hid (HM.out (by omega))
              clear HM HL HZ HX
              go_wp2
              all_goals first | (exfalso; omega) | skip
              go_round
              case rel => exact ⟨5, acc + (t[a + 4]).toNat % 128 * 128 ^ 4, by omega, by go_num, by first | rfl | go_num, by go_num, HN.out⟩
              case measure => simp [intOf]; omega
        · obtain rfl : k = 5 := by omega
          have HN := Lib.hid HV.out.long
          have hi' : (a : Int) + 5 < t.size := by omega
          go_wp2
          all_goals first | (exfalso; omega) | skip
          go_ret3
          exact ⟨ret_no HN.out, Ext.refl _⟩
      · have HN := Lib.hid (HV.out.short (by omega))
        have hi' : ¬ (a : Int) + k < t.size := by omega
        go_wp2
        all_goals first | (exfalso; omega) | skip
        go_ret3
        exact ⟨ret_no HN.out, Ext.refl _⟩
  · have hno := rv_off (t := t) (a := a) (by omega)
    have HI := Lib.hid (show inB a 0 t.size = false from inB_false.2 (by omega))
    have HN := Lib.hid hno
    clear hno hin
    go_enter Try.func84, Try.ntmps84
    go_wp2_with (go_at_call 82; refine (spec_l01In _ _ _ _).mono ?_; rw [HI.out]; rintro e w' ⟨rfl, rfl⟩)
    go_ret3
    exact ⟨ret_no HN.out, Ext.refl _⟩
end Go.Proofs.Ytckipgijfgeghaa
