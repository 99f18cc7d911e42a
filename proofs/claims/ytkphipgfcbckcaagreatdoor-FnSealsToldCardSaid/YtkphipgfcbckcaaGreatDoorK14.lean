/- ReA. -/
import Derived.Test.YtkphipgfcbckcaaGreatDoorK13
import Derived.Deep.RegionHeld3
import Derived.IntWalk
import Derived.Deep.DeepCutAuto
namespace Go.Proofs.YtkphipgfcbckcaaGreatDoor
open Go.RowKit

theorem VarIn.text {t : ByteArray} {a k acc : Nat} (h : VarIn t a k acc) (hi : a + k < t.size) (hx : (t[a + k]).toNat < 128) (hn : acc + (t[a + k]).toNat * 128 ^ k ≤ 1000000000) :
    ((k = 0 ∨ (t[a + k]).toNat ≠ 0) → varT (acc + (t[a + k]).toNat * 128 ^ k) = t.extract a (a + k + 1)) ∧ (0 < k ∧ (t[a + k]).toNat = 0 → varT (acc + (t[a + k]).toNat * 128 ^ k) ≠ t.extract a (a + k + 1)) := by
  refine ⟨fun hz => ?_, fun hz e => ?_⟩
  · obtain ⟨r1, r2, r3⟩ := h.last hi hx hz hn
    rcases rv_cases t a with ⟨n, h0, hv, -, e2, e3⟩ | ⟨e1, -, -⟩
    · rw [Int.toNat_natCast] at hv e3
      have hnn : n = acc + (t[a + k]).toNat * 128 ^ k := e2.symm.trans r2
      have := var_text hv
      rw [← e3, r3, hnn] at this
      exact this.symm
    · rw [r1] at e1; cases e1
  · obtain ⟨r1, -, -⟩ := h.zlast hi hx (Or.inl hz)
    have hl : (varB (acc + (t[a + k]).toNat * 128 ^ k)).length = k + 1 := by
      have := congrArg ByteArray.size e
      rw [ByteArray.size_extract] at this
      rw [varB, ba_len]
      omega
    have := (rv_yes (var_at (t := t) (a := a) hn (by rw [hl]; exact e.symm))).1
    rw [r1] at this
    cases this
set_option maxRecDepth 100000 in
set_option maxHeartbeats 6400000 in
theorem spec_ReadVar (t : ByteArray) (a : Int) (w : World) (hs : t.size ≤ 1099511627776) :
    Calls Tryz.prog 95 #[.string t, .int .i64 a] w fun e w' => e = .returned (.tuple #[.int .i64 (rvV t a), .int .i64 (rvE t a), .bool (rvOk t a)]) ∧ Ext w w' := by
  by_cases hin : 0 ≤ a ∧ a ≤ t.size
  · have HI := Lib.hid (inB_true.2 hin)
    obtain ⟨h0, h1⟩ := hin
    obtain ⟨a, rfl⟩ := Int.eq_ofNat_of_zero_le h0
    go_enter Tryz.func95, Tryz.ntmps95
    go_wp2_with (go_at_call 22; refine (spec_l01In _ _ _ _).mono ?_; rw [HI.out]; rintro e w' ⟨rfl, rfl⟩)
    go_loop [7, 8, 9] (fun n s i => ∃ k acc : Nat, k ≤ 5 ∧ i = .int .i64 ((a : Int) + k) ∧ s = .int .i64 ((128 ^ k : Nat) : Int) ∧ n = .int .i64 acc ∧ VarIn t a k acc) (fun _ _ i => ((a : Int) + 5 - intOf i).toNat)
    case atStart => exact ⟨0, 0, by omega, by simp, by simp, rfl, VarIn.zero t a⟩
    case round =>
      obtain ⟨k, acc, hk, rfl, rfl, rfl, hv⟩ := hrel
      have hacc := hv.lt
      have HV := Lib.hid hv
      clear hv
      by_cases hi : a + k < t.size
      · by_cases hlt : k < 5
        · have hb := (t[a + k]).toNat_lt
          rcases (show k = 0 ∨ k = 1 ∨ k = 2 ∨ k = 3 ∨ k = 4 by omega) with rfl | rfl | rfl | rfl | rfl
          · have HM : Hid (128 ≤ (t[a]).toNat → VarIn t a 1 (acc + (t[a]).toNat % 128 * 128 ^ 0)) := Lib.hid (fun h => HV.out.more hi h)
            have HL : Hid ((t[a]).toNat < 128 → (0 = 0 ∨ (t[a]).toNat ≠ 0) → acc + (t[a]).toNat * 1 ≤ 1000000000 → rvOk t a = true ∧ rvV t a = acc + (t[a]).toNat * 1 ∧ rvE t a = a + 0 + 1) := Lib.hid (fun h1 h2 h3 => HV.out.last hi h1 h2 h3)
            have HZ : Hid ((t[a]).toNat < 128 → (0 < 0 ∧ (t[a]).toNat = 0 ∨ 1000000000 < acc + (t[a]).toNat * 1) → rvOk t a = false ∧ rvV t a = 0 ∧ rvE t a = 0) := Lib.hid (fun h1 h2 => HV.out.zlast hi h1 h2)
            have HX : Hid ((t[a]).toNat < 128 → acc + (t[a]).toNat * 1 ≤ 1000000000 → ((0 = 0 ∨ (t[a]).toNat ≠ 0) → varT (acc + (t[a]).toNat * 1) = t.extract a (a + 1)) ∧ (0 < 0 ∧ (t[a]).toNat = 0 → varT (acc + (t[a]).toNat * 1) ≠ t.extract a (a + 1))) := Lib.hid (fun h1 h2 => HV.out.text hi h1 h2)
            clear HV
            have hA : acc < 1 := by simpa using hacc
            have hi' : (a : Int) < t.size := by omega
            have hyb : (t[a]).toNat < 256 := hb
            have hw1 := wrap64_byte (t[a])
            have hn0 : (0 : Int) ≤ (t[a]).toNat := by omega
            have hpw : ((128 ^ 0 : Nat) : Int) = 1 := by decide
            clear hacc hb HI hk hlt
            by_cases hx : (t[a]).toNat < 128
            · have hxi : ((t[a]).toNat : Int) < 128 := by omega
              by_cases hz : 1000000000 < acc + (t[a]).toNat * 1
              · have HN := Lib.hid (HZ.out hx (Or.inr hz))
                have HZ0 := Lib.hid hz
                clear hz HM HL HZ HX
                exfalso
                have := HZ0.out
                omega
              · have HX2 := Lib.hid (HX.out hx (by omega))
                have HL2 := Lib.hid (fun h2 => HL.out hx h2 (by omega))
                have HZ2 := Lib.hid (fun h2 => HZ.out hx (Or.inl h2))
                have HZ0 := Lib.hid hz
                clear hz HM HL HZ HX
                have hval : (((acc + (t[a]).toNat * 1) : Nat) : Int) = (acc : Int) + (((t[a]).toNat : Nat) : Int) % 128 := by have := HZ0.out; omega
                have hc : ∀ W, Calls Tryz.prog 73 #[.int .i64 ((acc : Int) + (((t[a]).toNat : Nat) : Int) % 128)] W fun e w' => e = .returned (.string (varT (acc + (t[a]).toNat * 1))) ∧ Ext W w' := fun W => by have h := spec_l01Var (acc + (t[a]).toNat * 1) W (by have := HZ0.out; omega); rw [hval] at h; exact h
                have HC := Lib.hid hc
                have HVL := Lib.hid hval
                clear hc hval
                have n1 : ((a : Int) + 1).toNat = a + 1 := by omega
                have g1 : IntKind.i64.wrap ((a : Int) + 1) = (a : Int) + 1 := IntWalk.i64_in _ (by omega)
                have g2 : (0 : Int) ≤ (a : Int) + 1 := by omega
                have g3 : (a : Int) + 1 ≤ t.size := by omega
                have g4 : (a : Int) ≤ (a : Int) + 1 := by omega
                go_wp2_with fail
                refine wp_region_held_drew (S := fun _ => True) (by kernel_rfl) (by exact True.intro) (fun hHeld => ?_)
                have xd : Ext w w.drew := (Ext.refl w).drew
                generalize w.drew = w2 at *
                (refine wpAnyH_take (i := 0) (v := ?_) rfl (by kernel_rfl) (by kernel_rfl) (by kernel_rfl) (fun _ _ _ h => h) (Or.inl ⟨by rfl, ?_⟩) (by assumption) ?_; rotate_left; focus (intro w hSw; (try dsimp only at hSw); (try simp only [zk1, zk2]); go_simp; try with_reducible rfl)); (try simp only [zk1, zk2]); (try simp only [Act.put, zk4, zk5, zk6])
                (refine wpAnyH_take (i := 1) (v := .bool false) rfl (by kernel_rfl) (by kernel_rfl) (by kernel_rfl) (fun _ _ _ h => h) (Or.inl ⟨by rfl, ?_⟩) (by assumption) ?_; focus (intro w hSw; (try dsimp only at hSw); (try simp only [zk1, zk2, zk3]); go_simp; (have := HZ0.out; simp; omega))); (try simp only [zk1, zk2, zk3]); (try simp only [Act.put, zk4, zk5, zk6])
                (refine wpAnyH_take (i := 2) (v := ?_) rfl (by kernel_rfl) (by kernel_rfl) (by kernel_rfl) (fun _ _ _ h => h) (Or.inl ⟨by rfl, ?_⟩) (by assumption) ?_; rotate_left; focus (intro w hSw; (try dsimp only at hSw); (try simp only [zk1, zk2, zk3]); go_simp; try with_reducible rfl)); (try simp only [zk1, zk2, zk3]); (try simp only [Act.put, zk4, zk5, zk6])
                (refine wpAnyH_take (i := 3) (v := ?_) rfl (by kernel_rfl) (by kernel_rfl) (by kernel_rfl) (fun _ _ _ h => h) (Or.inl ⟨by rfl, ?_⟩) (by assumption) ?_; rotate_left; focus (intro w hSw; (try dsimp only at hSw); (try simp only [zk1, zk2, zk3]); go_simp; try with_reducible rfl)); (try simp only [zk1, zk2, zk3]); (try simp only [Act.put, zk4, zk5, zk6])
                (refine wpAnyH_take (i := 5) (v := ?_) rfl (by kernel_rfl) (by kernel_rfl) (by kernel_rfl) (fun _ _ _ h => h) (Or.inl ⟨by rfl, ?_⟩) (by assumption) ?_; rotate_left; focus (intro w hSw; (try dsimp only at hSw); (try simp only [zk1, zk2, zk3]); go_simp; try with_reducible rfl)); (try simp only [zk1, zk2, zk3]); (try simp only [Act.put, zk4, zk5, zk6])
                (refine wpAnyH_take (i := 6) (v := ?_) rfl (by kernel_rfl) (by kernel_rfl) (by kernel_rfl) (fun _ _ _ h => h) (Or.inl ⟨by rfl, ?_⟩) (by assumption) ?_; rotate_left; focus (intro w hSw; (try dsimp only at hSw); (try simp only [zk1, zk2, zk3]); go_simp; try with_reducible rfl)); (try simp only [zk1, zk2, zk3]); (try simp only [Act.put, zk4, zk5, zk6])
                (refine wpAnyH_take (i := 7) (v := ?_) rfl (by kernel_rfl) (by kernel_rfl) (by kernel_rfl) (fun _ _ _ h => h) (Or.inl ⟨by rfl, ?_⟩) (by assumption) ?_; rotate_left; focus (intro w hSw; (try dsimp only at hSw); (try simp only [zk1, zk2, zk3]); go_simp; try with_reducible rfl)); (try simp only [zk1, zk2, zk3]); (try simp only [Act.put, zk4, zk5, zk6])
                (refine wpAnyH_take (i := 8) (v := ?_) rfl (by kernel_rfl) (by kernel_rfl) (by kernel_rfl) (fun _ _ _ h => h) (Or.inl ⟨by rfl, ?_⟩) (by assumption) ?_; rotate_left; focus (intro w hSw; (try dsimp only at hSw); (try simp only [zk1, zk2, zk3]); go_simp; try with_reducible rfl)); (try simp only [zk1, zk2, zk3]); (try simp only [Act.put, zk4, zk5, zk6])
                (refine wpAnyH_take (i := 9) (v := .string (t.extract a (a + 1))) rfl (by kernel_rfl) (by kernel_rfl) (by kernel_rfl) (fun _ _ _ h => h) (Or.inl ⟨by rfl, ?_⟩) (by assumption) ?_; focus (intro w hSw; (try dsimp only at hSw); (try simp only [zk1, zk2, zk3]); go_simp; (try with_reducible rfl))); (try simp only [zk1, zk2, zk3]); (try simp only [Act.put, zk4, zk5, zk6])
                (refine wpAnyH_ready (rs := [4]) (by kernel_rfl) (by simp) ?_; refine AllReadyH.cons rfl (fun K hK => ?_) AllReadyH.nil; (try simp only [zk1, zk2, zk3]))
                go_simp
                go_at_call 73
                refine (HC.out _).mono ?_
                rintro e w3 ⟨rfl, x3⟩
                (try dsimp only)
                refine hK.out _ _ (by exact ⟨⟩) (fun hHeld => ?_)
                clear hK K
                by_cases hzz : 0 = 0 ∨ (t[a]).toNat ≠ 0
                · have he := HX2.out.1 (by first | exact hzz | exact trivial | (left; trivial))
                  have HE := Lib.hid he
                  have HN := Lib.hid (HL2.out (by first | exact hzz | exact trivial | (left; trivial)))
                  clear he hzz HX2 HL2 HZ2
                  (refine wpAnyH_take (i := 10) (v := .bool false) rfl (by kernel_rfl) (by kernel_rfl) (by kernel_rfl) (fun _ _ _ h => h) (Or.inl ⟨by rfl, ?_⟩) (by assumption) ?_; focus (intro w hSw; (try dsimp only at hSw); (try simp only [zk1, zk2, zk3]); go_simp; (have h := HE.out; (try rw [Nat.mul_one] at h); rw [h]))); (try simp only [zk1, zk2, zk3]); (try simp only [Act.put, zk4, zk5, zk6])
                  (refine wpAnyH_take (i := 11) (v := ?_) rfl (by kernel_rfl) (by kernel_rfl) (by kernel_rfl) (fun _ _ _ h => h) (Or.inl ⟨by rfl, ?_⟩) (by assumption) ?_; rotate_left; focus (intro w hSw; (try dsimp only at hSw); (try simp only [zk1, zk2, zk3]); go_simp; try with_reducible rfl)); (try simp only [zk1, zk2, zk3]); (try simp only [Act.put, zk4, zk5, zk6])
                  refine wpAnyH_done (by kernel_rfl) ?_ _
                  go_wp2
                  go_ret3
                  exact ⟨ret_rv ⟨HN.out.1, by rw [HN.out.2.1]; have := HVL.out; omega, by rw [HN.out.2.2]; omega⟩, xd.trans x3⟩
                · exfalso
                  exact hzz (Or.inl rfl)
            · have HN := Lib.hid (HM.out (by omega))
              clear HM HL HZ HX
              go_wp2
              all_goals first | (exfalso; omega) | skip
              go_round
              case rel => exact ⟨1, acc + (t[a]).toNat % 128 * 128 ^ 0, by omega, by go_num, by first | rfl | go_num, by go_num, HN.out⟩
              case measure => simp [intOf]; omega
          · have HM : Hid (128 ≤ (t[a + 1]).toNat → VarIn t a 2 (acc + (t[a + 1]).toNat % 128 * 128 ^ 1)) := Lib.hid (fun h => HV.out.more hi h)
            have HL : Hid ((t[a + 1]).toNat < 128 → (1 = 0 ∨ (t[a + 1]).toNat ≠ 0) → acc + (t[a + 1]).toNat * 128 ≤ 1000000000 → rvOk t a = true ∧ rvV t a = acc + (t[a + 1]).toNat * 128 ∧ rvE t a = a + 1 + 1) := Lib.hid (fun h1 h2 h3 => HV.out.last hi h1 h2 h3)
            have HZ : Hid ((t[a + 1]).toNat < 128 → (0 < 1 ∧ (t[a + 1]).toNat = 0 ∨ 1000000000 < acc + (t[a + 1]).toNat * 128) → rvOk t a = false ∧ rvV t a = 0 ∧ rvE t a = 0) := Lib.hid (fun h1 h2 => HV.out.zlast hi h1 h2)
            have HX : Hid ((t[a + 1]).toNat < 128 → acc + (t[a + 1]).toNat * 128 ≤ 1000000000 → ((1 = 0 ∨ (t[a + 1]).toNat ≠ 0) → varT (acc + (t[a + 1]).toNat * 128) = t.extract a (a + 2)) ∧ (0 < 1 ∧ (t[a + 1]).toNat = 0 → varT (acc + (t[a + 1]).toNat * 128) ≠ t.extract a (a + 2))) := Lib.hid (fun h1 h2 => HV.out.text hi h1 h2)
            clear HV
            have hA : acc < 128 := by simpa using hacc
            have hi' : (a : Int) + 1 < t.size := by omega
            have hyb : (t[a + 1]).toNat < 256 := hb
            have hw1 := wrap64_byte (t[a + 1])
            have hn0 : (0 : Int) ≤ (t[a + 1]).toNat := by omega
            have hpw : ((128 ^ 1 : Nat) : Int) = 128 := by decide
            clear hacc hb HI hk hlt
            by_cases hx : (t[a + 1]).toNat < 128
            · have hxi : ((t[a + 1]).toNat : Int) < 128 := by omega
              by_cases hz : 1000000000 < acc + (t[a + 1]).toNat * 128
              · have HN := Lib.hid (HZ.out hx (Or.inr hz))
                have HZ0 := Lib.hid hz
                clear hz HM HL HZ HX
                exfalso
                have := HZ0.out
                omega
              · have HX2 := Lib.hid (HX.out hx (by omega))
                have HL2 := Lib.hid (fun h2 => HL.out hx h2 (by omega))
                have HZ2 := Lib.hid (fun h2 => HZ.out hx (Or.inl h2))
                have HZ0 := Lib.hid hz
                clear hz HM HL HZ HX
                have hval : (((acc + (t[a + 1]).toNat * 128) : Nat) : Int) = (acc : Int) + (((t[a + 1]).toNat : Nat) : Int) % 128 * 128 := by have := HZ0.out; omega
                have hc : ∀ W, Calls Tryz.prog 73 #[.int .i64 ((acc : Int) + (((t[a + 1]).toNat : Nat) : Int) % 128 * 128)] W fun e w' => e = .returned (.string (varT (acc + (t[a + 1]).toNat * 128))) ∧ Ext W w' := fun W => by have h := spec_l01Var (acc + (t[a + 1]).toNat * 128) W (by have := HZ0.out; omega); rw [hval] at h; exact h
                have HC := Lib.hid hc
                have HVL := Lib.hid hval
                clear hc hval
                have n1 : ((a : Int) + 2).toNat = a + 2 := by omega
                have g1 : IntKind.i64.wrap ((a : Int) + 2) = (a : Int) + 2 := IntWalk.i64_in _ (by omega)
                have g2 : (0 : Int) ≤ (a : Int) + 2 := by omega
                have g3 : (a : Int) + 2 ≤ t.size := by omega
                have g4 : (a : Int) ≤ (a : Int) + 2 := by omega
                have g5 : IntKind.i64.wrap ((a : Int) + 1 + 1) = (a : Int) + 2 := by rw [IntWalk.i64_in _ (by omega)]; omega
                go_wp2_with fail
                refine wp_region_held_drew (S := fun _ => True) (by kernel_rfl) (by exact True.intro) (fun hHeld => ?_)
                have xd : Ext w w.drew := (Ext.refl w).drew
                generalize w.drew = w2 at *
                (refine wpAnyH_take (i := 0) (v := ?_) rfl (by kernel_rfl) (by kernel_rfl) (by kernel_rfl) (fun _ _ _ h => h) (Or.inl ⟨by rfl, ?_⟩) (by assumption) ?_; rotate_left; focus (intro w hSw; (try dsimp only at hSw); (try simp only [zk1, zk2]); go_simp; try with_reducible rfl)); (try simp only [zk1, zk2]); (try simp only [Act.put, zk4, zk5, zk6])
                (refine wpAnyH_take (i := 1) (v := .bool false) rfl (by kernel_rfl) (by kernel_rfl) (by kernel_rfl) (fun _ _ _ h => h) (Or.inl ⟨by rfl, ?_⟩) (by assumption) ?_; focus (intro w hSw; (try dsimp only at hSw); (try simp only [zk1, zk2, zk3]); go_simp; (have := HZ0.out; simp; omega))); (try simp only [zk1, zk2, zk3]); (try simp only [Act.put, zk4, zk5, zk6])
                (refine wpAnyH_take (i := 2) (v := ?_) rfl (by kernel_rfl) (by kernel_rfl) (by kernel_rfl) (fun _ _ _ h => h) (Or.inl ⟨by rfl, ?_⟩) (by assumption) ?_; rotate_left; focus (intro w hSw; (try dsimp only at hSw); (try simp only [zk1, zk2, zk3]); go_simp; try with_reducible rfl)); (try simp only [zk1, zk2, zk3]); (try simp only [Act.put, zk4, zk5, zk6])
                (refine wpAnyH_take (i := 3) (v := ?_) rfl (by kernel_rfl) (by kernel_rfl) (by kernel_rfl) (fun _ _ _ h => h) (Or.inl ⟨by rfl, ?_⟩) (by assumption) ?_; rotate_left; focus (intro w hSw; (try dsimp only at hSw); (try simp only [zk1, zk2, zk3]); go_simp; try with_reducible rfl)); (try simp only [zk1, zk2, zk3]); (try simp only [Act.put, zk4, zk5, zk6])
                (refine wpAnyH_take (i := 5) (v := ?_) rfl (by kernel_rfl) (by kernel_rfl) (by kernel_rfl) (fun _ _ _ h => h) (Or.inl ⟨by rfl, ?_⟩) (by assumption) ?_; rotate_left; focus (intro w hSw; (try dsimp only at hSw); (try simp only [zk1, zk2, zk3]); go_simp; try with_reducible rfl)); (try simp only [zk1, zk2, zk3]); (try simp only [Act.put, zk4, zk5, zk6])
                (refine wpAnyH_take (i := 6) (v := ?_) rfl (by kernel_rfl) (by kernel_rfl) (by kernel_rfl) (fun _ _ _ h => h) (Or.inl ⟨by rfl, ?_⟩) (by assumption) ?_; rotate_left; focus (intro w hSw; (try dsimp only at hSw); (try simp only [zk1, zk2, zk3]); go_simp; try with_reducible rfl)); (try simp only [zk1, zk2, zk3]); (try simp only [Act.put, zk4, zk5, zk6])
                (refine wpAnyH_take (i := 7) (v := ?_) rfl (by kernel_rfl) (by kernel_rfl) (by kernel_rfl) (fun _ _ _ h => h) (Or.inl ⟨by rfl, ?_⟩) (by assumption) ?_; rotate_left; focus (intro w hSw; (try dsimp only at hSw); (try simp only [zk1, zk2, zk3]); go_simp; try with_reducible rfl)); (try simp only [zk1, zk2, zk3]); (try simp only [Act.put, zk4, zk5, zk6])
                (refine wpAnyH_take (i := 8) (v := ?_) rfl (by kernel_rfl) (by kernel_rfl) (by kernel_rfl) (fun _ _ _ h => h) (Or.inl ⟨by rfl, ?_⟩) (by assumption) ?_; rotate_left; focus (intro w hSw; (try dsimp only at hSw); (try simp only [zk1, zk2, zk3]); go_simp; try with_reducible rfl)); (try simp only [zk1, zk2, zk3]); (try simp only [Act.put, zk4, zk5, zk6])
                (refine wpAnyH_take (i := 9) (v := .string (t.extract a (a + 2))) rfl (by kernel_rfl) (by kernel_rfl) (by kernel_rfl) (fun _ _ _ h => h) (Or.inl ⟨by rfl, ?_⟩) (by assumption) ?_; focus (intro w hSw; (try dsimp only at hSw); (try simp only [zk1, zk2, zk3]); go_simp; (try with_reducible rfl))); (try simp only [zk1, zk2, zk3]); (try simp only [Act.put, zk4, zk5, zk6])
                (refine wpAnyH_ready (rs := [4]) (by kernel_rfl) (by simp) ?_; refine AllReadyH.cons rfl (fun K hK => ?_) AllReadyH.nil; (try simp only [zk1, zk2, zk3]))
                go_simp
                go_at_call 73
                refine (HC.out _).mono ?_
                rintro e w3 ⟨rfl, x3⟩
                (try dsimp only)
                refine hK.out _ _ (by exact ⟨⟩) (fun hHeld => ?_)
                clear hK K
                by_cases hzz : 1 = 0 ∨ (t[a + 1]).toNat ≠ 0
                · have he := HX2.out.1 (by first | exact hzz | exact trivial | (left; trivial))
                  have HE := Lib.hid he
                  have HN := Lib.hid (HL2.out (by first | exact hzz | exact trivial | (left; trivial)))
                  clear he hzz HX2 HL2 HZ2
                  (refine wpAnyH_take (i := 10) (v := .bool false) rfl (by kernel_rfl) (by kernel_rfl) (by kernel_rfl) (fun _ _ _ h => h) (Or.inl ⟨by rfl, ?_⟩) (by assumption) ?_; focus (intro w hSw; (try dsimp only at hSw); (try simp only [zk1, zk2, zk3]); go_simp; (have h := HE.out; (try rw [Nat.mul_one] at h); rw [h]))); (try simp only [zk1, zk2, zk3]); (try simp only [Act.put, zk4, zk5, zk6])
                  (refine wpAnyH_take (i := 11) (v := ?_) rfl (by kernel_rfl) (by kernel_rfl) (by kernel_rfl) (fun _ _ _ h => h) (Or.inl ⟨by rfl, ?_⟩) (by assumption) ?_; rotate_left; focus (intro w hSw; (try dsimp only at hSw); (try simp only [zk1, zk2, zk3]); go_simp; try with_reducible rfl)); (try simp only [zk1, zk2, zk3]); (try simp only [Act.put, zk4, zk5, zk6])
                  refine wpAnyH_done (by kernel_rfl) ?_ _
                  go_wp2
                  go_ret3
                  exact ⟨ret_rv ⟨HN.out.1, by rw [HN.out.2.1]; have := HVL.out; omega, by rw [HN.out.2.2]; omega⟩, xd.trans x3⟩
                · have hz0 : 0 < 1 ∧ (t[a + 1]).toNat = 0 := by omega
                  have he := HX2.out.2 hz0
                  have HE := Lib.hid he
                  have HN := Lib.hid (HZ2.out hz0)
                  clear he hzz hz0 HX2 HL2 HZ2
                  (refine wpAnyH_take (i := 10) (v := .bool true) rfl (by kernel_rfl) (by kernel_rfl) (by kernel_rfl) (fun _ _ _ h => h) (Or.inl ⟨by rfl, ?_⟩) (by assumption) ?_; focus (intro w hSw; (try dsimp only at hSw); (try simp only [zk1, zk2, zk3]); go_simp; (have h := HE.out; simp [toList_inj, h]))); (try simp only [zk1, zk2, zk3]); (try simp only [Act.put, zk4, zk5, zk6])
                  (refine wpAnyH_take (i := 11) (v := ?_) rfl (by kernel_rfl) (by kernel_rfl) (by kernel_rfl) (fun _ _ _ h => h) (Or.inl ⟨by rfl, ?_⟩) (by assumption) ?_; rotate_left; focus (intro w hSw; (try dsimp only at hSw); (try simp only [zk1, zk2, zk3]); go_simp; try with_reducible rfl)); (try simp only [zk1, zk2, zk3]); (try simp only [Act.put, zk4, zk5, zk6])
                  refine wpAnyH_done (by kernel_rfl) ?_ _
                  go_wp2
                  go_ret3
                  exact ⟨ret_no HN.out, xd.trans x3⟩
            · have HN := Lib.hid (HM.out (by omega))
              clear HM HL HZ HX
              go_wp2
              all_goals first | (exfalso; omega) | skip
              go_round
              case rel => exact ⟨2, acc + (t[a + 1]).toNat % 128 * 128 ^ 1, by omega, by go_num, by first | rfl | go_num, by go_num, HN.out⟩
              case measure => simp [intOf]; omega
          · have HM : Hid (128 ≤ (t[a + 2]).toNat → VarIn t a 3 (acc + (t[a + 2]).toNat % 128 * 128 ^ 2)) := Lib.hid (fun h => HV.out.more hi h)
            have HL : Hid ((t[a + 2]).toNat < 128 → (2 = 0 ∨ (t[a + 2]).toNat ≠ 0) → acc + (t[a + 2]).toNat * 16384 ≤ 1000000000 → rvOk t a = true ∧ rvV t a = acc + (t[a + 2]).toNat * 16384 ∧ rvE t a = a + 2 + 1) := Lib.hid (fun h1 h2 h3 => HV.out.last hi h1 h2 h3)
            have HZ : Hid ((t[a + 2]).toNat < 128 → (0 < 2 ∧ (t[a + 2]).toNat = 0 ∨ 1000000000 < acc + (t[a + 2]).toNat * 16384) → rvOk t a = false ∧ rvV t a = 0 ∧ rvE t a = 0) := Lib.hid (fun h1 h2 => HV.out.zlast hi h1 h2)
            have HX : Hid ((t[a + 2]).toNat < 128 → acc + (t[a + 2]).toNat * 16384 ≤ 1000000000 → ((2 = 0 ∨ (t[a + 2]).toNat ≠ 0) → varT (acc + (t[a + 2]).toNat * 16384) = t.extract a (a + 3)) ∧ (0 < 2 ∧ (t[a + 2]).toNat = 0 → varT (acc + (t[a + 2]).toNat * 16384) ≠ t.extract a (a + 3))) := Lib.hid (fun h1 h2 => HV.out.text hi h1 h2)
            clear HV
            have hA : acc < 16384 := by simpa using hacc
            have hi' : (a : Int) + 2 < t.size := by omega
            have hyb : (t[a + 2]).toNat < 256 := hb
            have hw1 := wrap64_byte (t[a + 2])
            have hn0 : (0 : Int) ≤ (t[a + 2]).toNat := by omega
            have hpw : ((128 ^ 2 : Nat) : Int) = 16384 := by decide
            clear hacc hb HI hk hlt
            by_cases hx : (t[a + 2]).toNat < 128
            · have hxi : ((t[a + 2]).toNat : Int) < 128 := by omega
              by_cases hz : 1000000000 < acc + (t[a + 2]).toNat * 16384
              · have HN := Lib.hid (HZ.out hx (Or.inr hz))
                have HZ0 := Lib.hid hz
                clear hz HM HL HZ HX
                exfalso
                have := HZ0.out
                omega
              · have HX2 := Lib.hid (HX.out hx (by omega))
                have HL2 := Lib.hid (fun h2 => HL.out hx h2 (by omega))
                have HZ2 := Lib.hid (fun h2 => HZ.out hx (Or.inl h2))
                have HZ0 := Lib.hid hz
                clear hz HM HL HZ HX
                have hval : (((acc + (t[a + 2]).toNat * 16384) : Nat) : Int) = (acc : Int) + (((t[a + 2]).toNat : Nat) : Int) % 128 * 16384 := by have := HZ0.out; omega
                have hc : ∀ W, Calls Tryz.prog 73 #[.int .i64 ((acc : Int) + (((t[a + 2]).toNat : Nat) : Int) % 128 * 16384)] W fun e w' => e = .returned (.string (varT (acc + (t[a + 2]).toNat * 16384))) ∧ Ext W w' := fun W => by have h := spec_l01Var (acc + (t[a + 2]).toNat * 16384) W (by have := HZ0.out; omega); rw [hval] at h; exact h
                have HC := Lib.hid hc
                have HVL := Lib.hid hval
                clear hc hval
                have n1 : ((a : Int) + 3).toNat = a + 3 := by omega
                have g1 : IntKind.i64.wrap ((a : Int) + 3) = (a : Int) + 3 := IntWalk.i64_in _ (by omega)
                have g2 : (0 : Int) ≤ (a : Int) + 3 := by omega
                have g3 : (a : Int) + 3 ≤ t.size := by omega
                have g4 : (a : Int) ≤ (a : Int) + 3 := by omega
                have g5 : IntKind.i64.wrap ((a : Int) + 2 + 1) = (a : Int) + 3 := by rw [IntWalk.i64_in _ (by omega)]; omega
                go_wp2_with fail
                refine wp_region_held_drew (S := fun _ => True) (by kernel_rfl) (by exact True.intro) (fun hHeld => ?_)
                have xd : Ext w w.drew := (Ext.refl w).drew
                generalize w.drew = w2 at *
                (refine wpAnyH_take (i := 0) (v := ?_) rfl (by kernel_rfl) (by kernel_rfl) (by kernel_rfl) (fun _ _ _ h => h) (Or.inl ⟨by rfl, ?_⟩) (by assumption) ?_; rotate_left; focus (intro w hSw; (try dsimp only at hSw); (try simp only [zk1, zk2]); go_simp; try with_reducible rfl)); (try simp only [zk1, zk2]); (try simp only [Act.put, zk4, zk5, zk6])
                (refine wpAnyH_take (i := 1) (v := .bool false) rfl (by kernel_rfl) (by kernel_rfl) (by kernel_rfl) (fun _ _ _ h => h) (Or.inl ⟨by rfl, ?_⟩) (by assumption) ?_; focus (intro w hSw; (try dsimp only at hSw); (try simp only [zk1, zk2, zk3]); go_simp; (have := HZ0.out; simp; omega))); (try simp only [zk1, zk2, zk3]); (try simp only [Act.put, zk4, zk5, zk6])
                (refine wpAnyH_take (i := 2) (v := ?_) rfl (by kernel_rfl) (by kernel_rfl) (by kernel_rfl) (fun _ _ _ h => h) (Or.inl ⟨by rfl, ?_⟩) (by assumption) ?_; rotate_left; focus (intro w hSw; (try dsimp only at hSw); (try simp only [zk1, zk2, zk3]); go_simp; try with_reducible rfl)); (try simp only [zk1, zk2, zk3]); (try simp only [Act.put, zk4, zk5, zk6])
                (refine wpAnyH_take (i := 3) (v := ?_) rfl (by kernel_rfl) (by kernel_rfl) (by kernel_rfl) (fun _ _ _ h => h) (Or.inl ⟨by rfl, ?_⟩) (by assumption) ?_; rotate_left; focus (intro w hSw; (try dsimp only at hSw); (try simp only [zk1, zk2, zk3]); go_simp; try with_reducible rfl)); (try simp only [zk1, zk2, zk3]); (try simp only [Act.put, zk4, zk5, zk6])
                (refine wpAnyH_take (i := 5) (v := ?_) rfl (by kernel_rfl) (by kernel_rfl) (by kernel_rfl) (fun _ _ _ h => h) (Or.inl ⟨by rfl, ?_⟩) (by assumption) ?_; rotate_left; focus (intro w hSw; (try dsimp only at hSw); (try simp only [zk1, zk2, zk3]); go_simp; try with_reducible rfl)); (try simp only [zk1, zk2, zk3]); (try simp only [Act.put, zk4, zk5, zk6])
                (refine wpAnyH_take (i := 6) (v := ?_) rfl (by kernel_rfl) (by kernel_rfl) (by kernel_rfl) (fun _ _ _ h => h) (Or.inl ⟨by rfl, ?_⟩) (by assumption) ?_; rotate_left; focus (intro w hSw; (try dsimp only at hSw); (try simp only [zk1, zk2, zk3]); go_simp; try with_reducible rfl)); (try simp only [zk1, zk2, zk3]); (try simp only [Act.put, zk4, zk5, zk6])
                (refine wpAnyH_take (i := 7) (v := ?_) rfl (by kernel_rfl) (by kernel_rfl) (by kernel_rfl) (fun _ _ _ h => h) (Or.inl ⟨by rfl, ?_⟩) (by assumption) ?_; rotate_left; focus (intro w hSw; (try dsimp only at hSw); (try simp only [zk1, zk2, zk3]); go_simp; try with_reducible rfl)); (try simp only [zk1, zk2, zk3]); (try simp only [Act.put, zk4, zk5, zk6])
                (refine wpAnyH_take (i := 8) (v := ?_) rfl (by kernel_rfl) (by kernel_rfl) (by kernel_rfl) (fun _ _ _ h => h) (Or.inl ⟨by rfl, ?_⟩) (by assumption) ?_; rotate_left; focus (intro w hSw; (try dsimp only at hSw); (try simp only [zk1, zk2, zk3]); go_simp; try with_reducible rfl)); (try simp only [zk1, zk2, zk3]); (try simp only [Act.put, zk4, zk5, zk6])
                (refine wpAnyH_take (i := 9) (v := .string (t.extract a (a + 3))) rfl (by kernel_rfl) (by kernel_rfl) (by kernel_rfl) (fun _ _ _ h => h) (Or.inl ⟨by rfl, ?_⟩) (by assumption) ?_; focus (intro w hSw; (try dsimp only at hSw); (try simp only [zk1, zk2, zk3]); go_simp; (try with_reducible rfl))); (try simp only [zk1, zk2, zk3]); (try simp only [Act.put, zk4, zk5, zk6])
                (refine wpAnyH_ready (rs := [4]) (by kernel_rfl) (by simp) ?_; refine AllReadyH.cons rfl (fun K hK => ?_) AllReadyH.nil; (try simp only [zk1, zk2, zk3]))
                go_simp
                go_at_call 73
                refine (HC.out _).mono ?_
                rintro e w3 ⟨rfl, x3⟩
                (try dsimp only)
                refine hK.out _ _ (by exact ⟨⟩) (fun hHeld => ?_)
                clear hK K
                by_cases hzz : 2 = 0 ∨ (t[a + 2]).toNat ≠ 0
                · have he := HX2.out.1 (by first | exact hzz | exact trivial | (left; trivial))
                  have HE := Lib.hid he
                  have HN := Lib.hid (HL2.out (by first | exact hzz | exact trivial | (left; trivial)))
                  clear he hzz HX2 HL2 HZ2
                  (refine wpAnyH_take (i := 10) (v := .bool false) rfl (by kernel_rfl) (by kernel_rfl) (by kernel_rfl) (fun _ _ _ h => h) (Or.inl ⟨by rfl, ?_⟩) (by assumption) ?_; focus (intro w hSw; (try dsimp only at hSw); (try simp only [zk1, zk2, zk3]); go_simp; (have h := HE.out; (try rw [Nat.mul_one] at h); rw [h]))); (try simp only [zk1, zk2, zk3]); (try simp only [Act.put, zk4, zk5, zk6])
                  (refine wpAnyH_take (i := 11) (v := ?_) rfl (by kernel_rfl) (by kernel_rfl) (by kernel_rfl) (fun _ _ _ h => h) (Or.inl ⟨by rfl, ?_⟩) (by assumption) ?_; rotate_left; focus (intro w hSw; (try dsimp only at hSw); (try simp only [zk1, zk2, zk3]); go_simp; try with_reducible rfl)); (try simp only [zk1, zk2, zk3]); (try simp only [Act.put, zk4, zk5, zk6])
                  refine wpAnyH_done (by kernel_rfl) ?_ _
                  go_wp2
                  go_ret3
                  exact ⟨ret_rv ⟨HN.out.1, by rw [HN.out.2.1]; have := HVL.out; omega, by rw [HN.out.2.2]; omega⟩, xd.trans x3⟩
                · have hz0 : 0 < 2 ∧ (t[a + 2]).toNat = 0 := by omega
                  have he := HX2.out.2 hz0
                  have HE := Lib.hid he
                  have HN := Lib.hid (HZ2.out hz0)
                  clear he hzz hz0 HX2 HL2 HZ2
                  (refine wpAnyH_take (i := 10) (v := .bool true) rfl (by kernel_rfl) (by kernel_rfl) (by kernel_rfl) (fun _ _ _ h => h) (Or.inl ⟨by rfl, ?_⟩) (by assumption) ?_; focus (intro w hSw; (try dsimp only at hSw); (try simp only [zk1, zk2, zk3]); go_simp; (have h := HE.out; simp [toList_inj, h]))); (try simp only [zk1, zk2, zk3]); (try simp only [Act.put, zk4, zk5, zk6])
                  (refine wpAnyH_take (i := 11) (v := ?_) rfl (by kernel_rfl) (by kernel_rfl) (by kernel_rfl) (fun _ _ _ h => h) (Or.inl ⟨by rfl, ?_⟩) (by assumption) ?_; rotate_left; focus (intro w hSw; (try dsimp only at hSw); (try simp only [zk1, zk2, zk3]); go_simp; try with_reducible rfl)); (try simp only [zk1, zk2, zk3]); (try simp only [Act.put, zk4, zk5, zk6])
                  refine wpAnyH_done (by kernel_rfl) ?_ _
                  go_wp2
                  go_ret3
                  exact ⟨ret_no HN.out, xd.trans x3⟩
            · have HN := Lib.hid (HM.out (by omega))
              clear HM HL HZ HX
              go_wp2
              all_goals first | (exfalso; omega) | skip
              go_round
              case rel => exact ⟨3, acc + (t[a + 2]).toNat % 128 * 128 ^ 2, by omega, by go_num, by first | rfl | go_num, by go_num, HN.out⟩
              case measure => simp [intOf]; omega
          · have HM : Hid (128 ≤ (t[a + 3]).toNat → VarIn t a 4 (acc + (t[a + 3]).toNat % 128 * 128 ^ 3)) := Lib.hid (fun h => HV.out.more hi h)
            have HL : Hid ((t[a + 3]).toNat < 128 → (3 = 0 ∨ (t[a + 3]).toNat ≠ 0) → acc + (t[a + 3]).toNat * 2097152 ≤ 1000000000 → rvOk t a = true ∧ rvV t a = acc + (t[a + 3]).toNat * 2097152 ∧ rvE t a = a + 3 + 1) := Lib.hid (fun h1 h2 h3 => HV.out.last hi h1 h2 h3)
            have HZ : Hid ((t[a + 3]).toNat < 128 → (0 < 3 ∧ (t[a + 3]).toNat = 0 ∨ 1000000000 < acc + (t[a + 3]).toNat * 2097152) → rvOk t a = false ∧ rvV t a = 0 ∧ rvE t a = 0) := Lib.hid (fun h1 h2 => HV.out.zlast hi h1 h2)
            have HX : Hid ((t[a + 3]).toNat < 128 → acc + (t[a + 3]).toNat * 2097152 ≤ 1000000000 → ((3 = 0 ∨ (t[a + 3]).toNat ≠ 0) → varT (acc + (t[a + 3]).toNat * 2097152) = t.extract a (a + 4)) ∧ (0 < 3 ∧ (t[a + 3]).toNat = 0 → varT (acc + (t[a + 3]).toNat * 2097152) ≠ t.extract a (a + 4))) := Lib.hid (fun h1 h2 => HV.out.text hi h1 h2)
            clear HV
            have hA : acc < 2097152 := by simpa using hacc
            have hi' : (a : Int) + 3 < t.size := by omega
            have hyb : (t[a + 3]).toNat < 256 := hb
            have hw1 := wrap64_byte (t[a + 3])
            have hn0 : (0 : Int) ≤ (t[a + 3]).toNat := by omega
            have hpw : ((128 ^ 3 : Nat) : Int) = 2097152 := by decide
            clear hacc hb HI hk hlt
            by_cases hx : (t[a + 3]).toNat < 128
            · have hxi : ((t[a + 3]).toNat : Int) < 128 := by omega
              by_cases hz : 1000000000 < acc + (t[a + 3]).toNat * 2097152
              · have HN := Lib.hid (HZ.out hx (Or.inr hz))
                have HZ0 := Lib.hid hz
                clear hz HM HL HZ HX
                exfalso
                have := HZ0.out
                omega
              · have HX2 := Lib.hid (HX.out hx (by omega))
                have HL2 := Lib.hid (fun h2 => HL.out hx h2 (by omega))
                have HZ2 := Lib.hid (fun h2 => HZ.out hx (Or.inl h2))
                have HZ0 := Lib.hid hz
                clear hz HM HL HZ HX
                have hval : (((acc + (t[a + 3]).toNat * 2097152) : Nat) : Int) = (acc : Int) + (((t[a + 3]).toNat : Nat) : Int) % 128 * 2097152 := by have := HZ0.out; omega
                have hc : ∀ W, Calls Tryz.prog 73 #[.int .i64 ((acc : Int) + (((t[a + 3]).toNat : Nat) : Int) % 128 * 2097152)] W fun e w' => e = .returned (.string (varT (acc + (t[a + 3]).toNat * 2097152))) ∧ Ext W w' := fun W => by have h := spec_l01Var (acc + (t[a + 3]).toNat * 2097152) W (by have := HZ0.out; omega); rw [hval] at h; exact h
                have HC := Lib.hid hc
                have HVL := Lib.hid hval
                clear hc hval
                have n1 : ((a : Int) + 4).toNat = a + 4 := by omega
                have g1 : IntKind.i64.wrap ((a : Int) + 4) = (a : Int) + 4 := IntWalk.i64_in _ (by omega)
                have g2 : (0 : Int) ≤ (a : Int) + 4 := by omega
                have g3 : (a : Int) + 4 ≤ t.size := by omega
                have g4 : (a : Int) ≤ (a : Int) + 4 := by omega
                have g5 : IntKind.i64.wrap ((a : Int) + 3 + 1) = (a : Int) + 4 := by rw [IntWalk.i64_in _ (by omega)]; omega
                go_wp2_with fail
                refine wp_region_held_drew (S := fun _ => True) (by kernel_rfl) (by exact True.intro) (fun hHeld => ?_)
                have xd : Ext w w.drew := (Ext.refl w).drew
                generalize w.drew = w2 at *
                (refine wpAnyH_take (i := 0) (v := ?_) rfl (by kernel_rfl) (by kernel_rfl) (by kernel_rfl) (fun _ _ _ h => h) (Or.inl ⟨by rfl, ?_⟩) (by assumption) ?_; rotate_left; focus (intro w hSw; (try dsimp only at hSw); (try simp only [zk1, zk2]); go_simp; try with_reducible rfl)); (try simp only [zk1, zk2]); (try simp only [Act.put, zk4, zk5, zk6])
                (refine wpAnyH_take (i := 1) (v := .bool false) rfl (by kernel_rfl) (by kernel_rfl) (by kernel_rfl) (fun _ _ _ h => h) (Or.inl ⟨by rfl, ?_⟩) (by assumption) ?_; focus (intro w hSw; (try dsimp only at hSw); (try simp only [zk1, zk2, zk3]); go_simp; (have := HZ0.out; simp; omega))); (try simp only [zk1, zk2, zk3]); (try simp only [Act.put, zk4, zk5, zk6])
                (refine wpAnyH_take (i := 2) (v := ?_) rfl (by kernel_rfl) (by kernel_rfl) (by kernel_rfl) (fun _ _ _ h => h) (Or.inl ⟨by rfl, ?_⟩) (by assumption) ?_; rotate_left; focus (intro w hSw; (try dsimp only at hSw); (try simp only [zk1, zk2, zk3]); go_simp; try with_reducible rfl)); (try simp only [zk1, zk2, zk3]); (try simp only [Act.put, zk4, zk5, zk6])
                (refine wpAnyH_take (i := 3) (v := ?_) rfl (by kernel_rfl) (by kernel_rfl) (by kernel_rfl) (fun _ _ _ h => h) (Or.inl ⟨by rfl, ?_⟩) (by assumption) ?_; rotate_left; focus (intro w hSw; (try dsimp only at hSw); (try simp only [zk1, zk2, zk3]); go_simp; try with_reducible rfl)); (try simp only [zk1, zk2, zk3]); (try simp only [Act.put, zk4, zk5, zk6])
                (refine wpAnyH_take (i := 5) (v := ?_) rfl (by kernel_rfl) (by kernel_rfl) (by kernel_rfl) (fun _ _ _ h => h) (Or.inl ⟨by rfl, ?_⟩) (by assumption) ?_; rotate_left; focus (intro w hSw; (try dsimp only at hSw); (try simp only [zk1, zk2, zk3]); go_simp; try with_reducible rfl)); (try simp only [zk1, zk2, zk3]); (try simp only [Act.put, zk4, zk5, zk6])
                (refine wpAnyH_take (i := 6) (v := ?_) rfl (by kernel_rfl) (by kernel_rfl) (by kernel_rfl) (fun _ _ _ h => h) (Or.inl ⟨by rfl, ?_⟩) (by assumption) ?_; rotate_left; focus (intro w hSw; (try dsimp only at hSw); (try simp only [zk1, zk2, zk3]); go_simp; try with_reducible rfl)); (try simp only [zk1, zk2, zk3]); (try simp only [Act.put, zk4, zk5, zk6])
                (refine wpAnyH_take (i := 7) (v := ?_) rfl (by kernel_rfl) (by kernel_rfl) (by kernel_rfl) (fun _ _ _ h => h) (Or.inl ⟨by rfl, ?_⟩) (by assumption) ?_; rotate_left; focus (intro w hSw; (try dsimp only at hSw); (try simp only [zk1, zk2, zk3]); go_simp; try with_reducible rfl)); (try simp only [zk1, zk2, zk3]); (try simp only [Act.put, zk4, zk5, zk6])
                (refine wpAnyH_take (i := 8) (v := ?_) rfl (by kernel_rfl) (by kernel_rfl) (by kernel_rfl) (fun _ _ _ h => h) (Or.inl ⟨by rfl, ?_⟩) (by assumption) ?_; rotate_left; focus (intro w hSw; (try dsimp only at hSw); (try simp only [zk1, zk2, zk3]); go_simp; try with_reducible rfl)); (try simp only [zk1, zk2, zk3]); (try simp only [Act.put, zk4, zk5, zk6])
                (refine wpAnyH_take (i := 9) (v := .string (t.extract a (a + 4))) rfl (by kernel_rfl) (by kernel_rfl) (by kernel_rfl) (fun _ _ _ h => h) (Or.inl ⟨by rfl, ?_⟩) (by assumption) ?_; focus (intro w hSw; (try dsimp only at hSw); (try simp only [zk1, zk2, zk3]); go_simp; (try with_reducible rfl))); (try simp only [zk1, zk2, zk3]); (try simp only [Act.put, zk4, zk5, zk6])
                (refine wpAnyH_ready (rs := [4]) (by kernel_rfl) (by simp) ?_; refine AllReadyH.cons rfl (fun K hK => ?_) AllReadyH.nil; (try simp only [zk1, zk2, zk3]))
                go_simp
                go_at_call 73
                refine (HC.out _).mono ?_
                rintro e w3 ⟨rfl, x3⟩
                (try dsimp only)
                refine hK.out _ _ (by exact ⟨⟩) (fun hHeld => ?_)
                clear hK K
                by_cases hzz : 3 = 0 ∨ (t[a + 3]).toNat ≠ 0
                · have he := HX2.out.1 (by first | exact hzz | exact trivial | (left; trivial))
                  have HE := Lib.hid he
                  have HN := Lib.hid (HL2.out (by first | exact hzz | exact trivial | (left; trivial)))
                  clear he hzz HX2 HL2 HZ2
                  (refine wpAnyH_take (i := 10) (v := .bool false) rfl (by kernel_rfl) (by kernel_rfl) (by kernel_rfl) (fun _ _ _ h => h) (Or.inl ⟨by rfl, ?_⟩) (by assumption) ?_; focus (intro w hSw; (try dsimp only at hSw); (try simp only [zk1, zk2, zk3]); go_simp; (have h := HE.out; (try rw [Nat.mul_one] at h); rw [h]))); (try simp only [zk1, zk2, zk3]); (try simp only [Act.put, zk4, zk5, zk6])
                  (refine wpAnyH_take (i := 11) (v := ?_) rfl (by kernel_rfl) (by kernel_rfl) (by kernel_rfl) (fun _ _ _ h => h) (Or.inl ⟨by rfl, ?_⟩) (by assumption) ?_; rotate_left; focus (intro w hSw; (try dsimp only at hSw); (try simp only [zk1, zk2, zk3]); go_simp; try with_reducible rfl)); (try simp only [zk1, zk2, zk3]); (try simp only [Act.put, zk4, zk5, zk6])
                  refine wpAnyH_done (by kernel_rfl) ?_ _
                  go_wp2
                  go_ret3
                  exact ⟨ret_rv ⟨HN.out.1, by rw [HN.out.2.1]; have := HVL.out; omega, by rw [HN.out.2.2]; omega⟩, xd.trans x3⟩
                · have hz0 : 0 < 3 ∧ (t[a + 3]).toNat = 0 := by omega
                  have he := HX2.out.2 hz0
                  have HE := Lib.hid he
                  have HN := Lib.hid (HZ2.out hz0)
                  clear he hzz hz0 HX2 HL2 HZ2
                  (refine wpAnyH_take (i := 10) (v := .bool true) rfl (by kernel_rfl) (by kernel_rfl) (by kernel_rfl) (fun _ _ _ h => h) (Or.inl ⟨by rfl, ?_⟩) (by assumption) ?_; focus (intro w hSw; (try dsimp only at hSw); (try simp only [zk1, zk2, zk3]); go_simp; (have h := HE.out; simp [toList_inj, h]))); (try simp only [zk1, zk2, zk3]); (try simp only [Act.put, zk4, zk5, zk6])
                  (refine wpAnyH_take (i := 11) (v := ?_) rfl (by kernel_rfl) (by kernel_rfl) (by kernel_rfl) (fun _ _ _ h => h) (Or.inl ⟨by rfl, ?_⟩) (by assumption) ?_; rotate_left; focus (intro w hSw; (try dsimp only at hSw); (try simp only [zk1, zk2, zk3]); go_simp; try with_reducible rfl)); (try simp only [zk1, zk2, zk3]); (try simp only [Act.put, zk4, zk5, zk6])
                  refine wpAnyH_done (by kernel_rfl) ?_ _
                  go_wp2
                  go_ret3
                  exact ⟨ret_no HN.out, xd.trans x3⟩
            · have HN := Lib.hid (HM.out (by omega))
              clear HM HL HZ HX
              go_wp2
              all_goals first | (exfalso; omega) | skip
              go_round
              case rel => exact ⟨4, acc + (t[a + 3]).toNat % 128 * 128 ^ 3, by omega, by go_num, by first | rfl | go_num, by go_num, HN.out⟩
              case measure => simp [intOf]; omega
          · have HM : Hid (128 ≤ (t[a + 4]).toNat → VarIn t a 5 (acc + (t[a + 4]).toNat % 128 * 128 ^ 4)) := Lib.hid (fun h => HV.out.more hi h)
            have HL : Hid ((t[a + 4]).toNat < 128 → (4 = 0 ∨ (t[a + 4]).toNat ≠ 0) → acc + (t[a + 4]).toNat * 268435456 ≤ 1000000000 → rvOk t a = true ∧ rvV t a = acc + (t[a + 4]).toNat * 268435456 ∧ rvE t a = a + 4 + 1) := Lib.hid (fun h1 h2 h3 => HV.out.last hi h1 h2 h3)
            have HZ : Hid ((t[a + 4]).toNat < 128 → (0 < 4 ∧ (t[a + 4]).toNat = 0 ∨ 1000000000 < acc + (t[a + 4]).toNat * 268435456) → rvOk t a = false ∧ rvV t a = 0 ∧ rvE t a = 0) := Lib.hid (fun h1 h2 => HV.out.zlast hi h1 h2)
            have HX : Hid ((t[a + 4]).toNat < 128 → acc + (t[a + 4]).toNat * 268435456 ≤ 1000000000 → ((4 = 0 ∨ (t[a + 4]).toNat ≠ 0) → varT (acc + (t[a + 4]).toNat * 268435456) = t.extract a (a + 5)) ∧ (0 < 4 ∧ (t[a + 4]).toNat = 0 → varT (acc + (t[a + 4]).toNat * 268435456) ≠ t.extract a (a + 5))) := Lib.hid (fun h1 h2 => HV.out.text hi h1 h2)
            clear HV
            have hA : acc < 268435456 := by simpa using hacc
            have hi' : (a : Int) + 4 < t.size := by omega
            have hyb : (t[a + 4]).toNat < 256 := hb
            have hw1 := wrap64_byte (t[a + 4])
            have hn0 : (0 : Int) ≤ (t[a + 4]).toNat := by omega
            have hpw : ((128 ^ 4 : Nat) : Int) = 268435456 := by decide
            clear hacc hb HI hk hlt
            by_cases hx : (t[a + 4]).toNat < 128
            · have hxi : ((t[a + 4]).toNat : Int) < 128 := by omega
              by_cases hz : 1000000000 < acc + (t[a + 4]).toNat * 268435456
              · have HN := Lib.hid (HZ.out hx (Or.inr hz))
                have HZ0 := Lib.hid hz
                clear hz HM HL HZ HX
                go_wp2_with fail
                refine wp_region_held_drew (S := fun _ => True) (by kernel_rfl) (by exact True.intro) (fun hHeld => ?_)
                have xd : Ext w w.drew := (Ext.refl w).drew
                generalize w.drew = w2 at *
                (refine wpAnyH_take (i := 0) (v := ?_) rfl (by kernel_rfl) (by kernel_rfl) (by kernel_rfl) (fun _ _ _ h => h) (Or.inl ⟨by rfl, ?_⟩) (by assumption) ?_; rotate_left; focus (intro w hSw; (try dsimp only at hSw); (try simp only [zk1, zk2]); go_simp; try with_reducible rfl)); (try simp only [zk1, zk2]); (try simp only [Act.put, zk4, zk5, zk6])
                (refine wpAnyH_take (i := 1) (v := .bool true) rfl (by kernel_rfl) (by kernel_rfl) (by kernel_rfl) (fun _ _ _ h => h) (Or.inl ⟨by rfl, ?_⟩) (by assumption) ?_; focus (intro w hSw; (try dsimp only at hSw); (try simp only [zk1, zk2, zk3]); go_simp; (have := HZ0.out; simp; omega))); (try simp only [zk1, zk2, zk3]); (try simp only [Act.put, zk4, zk5, zk6])
                (refine wpAnyH_take (i := 2) (v := ?_) rfl (by kernel_rfl) (by kernel_rfl) (by kernel_rfl) (fun _ _ _ h => h) (Or.inl ⟨by rfl, ?_⟩) (by assumption) ?_; rotate_left; focus (intro w hSw; (try dsimp only at hSw); (try simp only [zk1, zk2, zk3]); go_simp; try with_reducible rfl)); (try simp only [zk1, zk2, zk3]); (try simp only [Act.put, zk4, zk5, zk6])
                (refine wpAnyH_take (i := 3) rfl (by kernel_rfl) (by kernel_rfl) (by kernel_rfl) (fun _ _ _ h => h) (Or.inr ⟨by rfl, rfl⟩) (by assumption) ?_); (try simp only [zk1, zk2, zk3]); (try simp only [Act.put, zk4, zk5, zk6])
                (refine wpAnyH_take (i := 4) rfl (by kernel_rfl) (by kernel_rfl) (by kernel_rfl) (fun _ _ _ h => h) (Or.inr ⟨by rfl, rfl⟩) (by assumption) ?_); (try simp only [zk1, zk2, zk3]); (try simp only [Act.put, zk4, zk5, zk6])
                (refine wpAnyH_take (i := 5) rfl (by kernel_rfl) (by kernel_rfl) (by kernel_rfl) (fun _ _ _ h => h) (Or.inr ⟨by rfl, rfl⟩) (by assumption) ?_); (try simp only [zk1, zk2, zk3]); (try simp only [Act.put, zk4, zk5, zk6])
                (refine wpAnyH_take (i := 6) rfl (by kernel_rfl) (by kernel_rfl) (by kernel_rfl) (fun _ _ _ h => h) (Or.inr ⟨by rfl, rfl⟩) (by assumption) ?_); (try simp only [zk1, zk2, zk3]); (try simp only [Act.put, zk4, zk5, zk6])
                (refine wpAnyH_take (i := 7) rfl (by kernel_rfl) (by kernel_rfl) (by kernel_rfl) (fun _ _ _ h => h) (Or.inr ⟨by rfl, rfl⟩) (by assumption) ?_); (try simp only [zk1, zk2, zk3]); (try simp only [Act.put, zk4, zk5, zk6])
                (refine wpAnyH_take (i := 8) rfl (by kernel_rfl) (by kernel_rfl) (by kernel_rfl) (fun _ _ _ h => h) (Or.inr ⟨by rfl, rfl⟩) (by assumption) ?_); (try simp only [zk1, zk2, zk3]); (try simp only [Act.put, zk4, zk5, zk6])
                (refine wpAnyH_take (i := 9) rfl (by kernel_rfl) (by kernel_rfl) (by kernel_rfl) (fun _ _ _ h => h) (Or.inr ⟨by rfl, rfl⟩) (by assumption) ?_); (try simp only [zk1, zk2, zk3]); (try simp only [Act.put, zk4, zk5, zk6])
                (refine wpAnyH_take (i := 10) rfl (by kernel_rfl) (by kernel_rfl) (by kernel_rfl) (fun _ _ _ h => h) (Or.inr ⟨by rfl, rfl⟩) (by assumption) ?_); (try simp only [zk1, zk2, zk3]); (try simp only [Act.put, zk4, zk5, zk6])
                (refine wpAnyH_take (i := 11) (v := ?_) rfl (by kernel_rfl) (by kernel_rfl) (by kernel_rfl) (fun _ _ _ h => h) (Or.inl ⟨by rfl, ?_⟩) (by assumption) ?_; rotate_left; focus (intro w hSw; (try dsimp only at hSw); (try simp only [zk1, zk2, zk3]); go_simp; try with_reducible rfl)); (try simp only [zk1, zk2, zk3]); (try simp only [Act.put, zk4, zk5, zk6])
                refine wpAnyH_done (by kernel_rfl) ?_ _
                go_wp2
                go_ret3
                exact ⟨ret_no HN.out, xd⟩
              · have HX2 := Lib.hid (HX.out hx (by omega))
                have HL2 := Lib.hid (fun h2 => HL.out hx h2 (by omega))
                have HZ2 := Lib.hid (fun h2 => HZ.out hx (Or.inl h2))
                have HZ0 := Lib.hid hz
                clear hz HM HL HZ HX
                have hval : (((acc + (t[a + 4]).toNat * 268435456) : Nat) : Int) = (acc : Int) + (((t[a + 4]).toNat : Nat) : Int) % 128 * 268435456 := by have := HZ0.out; omega
                have hc : ∀ W, Calls Tryz.prog 73 #[.int .i64 ((acc : Int) + (((t[a + 4]).toNat : Nat) : Int) % 128 * 268435456)] W fun e w' => e = .returned (.string (varT (acc + (t[a + 4]).toNat * 268435456))) ∧ Ext W w' := fun W => by have h := spec_l01Var (acc + (t[a + 4]).toNat * 268435456) W (by have := HZ0.out; omega); rw [hval] at h; exact h
                have HC := Lib.hid hc
                have HVL := Lib.hid hval
                clear hc hval
                have n1 : ((a : Int) + 5).toNat = a + 5 := by omega
                have g1 : IntKind.i64.wrap ((a : Int) + 5) = (a : Int) + 5 := IntWalk.i64_in _ (by omega)
                have g2 : (0 : Int) ≤ (a : Int) + 5 := by omega
                have g3 : (a : Int) + 5 ≤ t.size := by omega
                have g4 : (a : Int) ≤ (a : Int) + 5 := by omega
                have g5 : IntKind.i64.wrap ((a : Int) + 4 + 1) = (a : Int) + 5 := by rw [IntWalk.i64_in _ (by omega)]; omega
                go_wp2_with fail
                refine wp_region_held_drew (S := fun _ => True) (by kernel_rfl) (by exact True.intro) (fun hHeld => ?_)
                have xd : Ext w w.drew := (Ext.refl w).drew
                generalize w.drew = w2 at *
                (refine wpAnyH_take (i := 0) (v := ?_) rfl (by kernel_rfl) (by kernel_rfl) (by kernel_rfl) (fun _ _ _ h => h) (Or.inl ⟨by rfl, ?_⟩) (by assumption) ?_; rotate_left; focus (intro w hSw; (try dsimp only at hSw); (try simp only [zk1, zk2]); go_simp; try with_reducible rfl)); (try simp only [zk1, zk2]); (try simp only [Act.put, zk4, zk5, zk6])
                (refine wpAnyH_take (i := 1) (v := .bool false) rfl (by kernel_rfl) (by kernel_rfl) (by kernel_rfl) (fun _ _ _ h => h) (Or.inl ⟨by rfl, ?_⟩) (by assumption) ?_; focus (intro w hSw; (try dsimp only at hSw); (try simp only [zk1, zk2, zk3]); go_simp; (have := HZ0.out; simp; omega))); (try simp only [zk1, zk2, zk3]); (try simp only [Act.put, zk4, zk5, zk6])
                (refine wpAnyH_take (i := 2) (v := ?_) rfl (by kernel_rfl) (by kernel_rfl) (by kernel_rfl) (fun _ _ _ h => h) (Or.inl ⟨by rfl, ?_⟩) (by assumption) ?_; rotate_left; focus (intro w hSw; (try dsimp only at hSw); (try simp only [zk1, zk2, zk3]); go_simp; try with_reducible rfl)); (try simp only [zk1, zk2, zk3]); (try simp only [Act.put, zk4, zk5, zk6])
                (refine wpAnyH_take (i := 3) (v := ?_) rfl (by kernel_rfl) (by kernel_rfl) (by kernel_rfl) (fun _ _ _ h => h) (Or.inl ⟨by rfl, ?_⟩) (by assumption) ?_; rotate_left; focus (intro w hSw; (try dsimp only at hSw); (try simp only [zk1, zk2, zk3]); go_simp; try with_reducible rfl)); (try simp only [zk1, zk2, zk3]); (try simp only [Act.put, zk4, zk5, zk6])
                (refine wpAnyH_take (i := 5) (v := ?_) rfl (by kernel_rfl) (by kernel_rfl) (by kernel_rfl) (fun _ _ _ h => h) (Or.inl ⟨by rfl, ?_⟩) (by assumption) ?_; rotate_left; focus (intro w hSw; (try dsimp only at hSw); (try simp only [zk1, zk2, zk3]); go_simp; try with_reducible rfl)); (try simp only [zk1, zk2, zk3]); (try simp only [Act.put, zk4, zk5, zk6])
                (refine wpAnyH_take (i := 6) (v := ?_) rfl (by kernel_rfl) (by kernel_rfl) (by kernel_rfl) (fun _ _ _ h => h) (Or.inl ⟨by rfl, ?_⟩) (by assumption) ?_; rotate_left; focus (intro w hSw; (try dsimp only at hSw); (try simp only [zk1, zk2, zk3]); go_simp; try with_reducible rfl)); (try simp only [zk1, zk2, zk3]); (try simp only [Act.put, zk4, zk5, zk6])
                (refine wpAnyH_take (i := 7) (v := ?_) rfl (by kernel_rfl) (by kernel_rfl) (by kernel_rfl) (fun _ _ _ h => h) (Or.inl ⟨by rfl, ?_⟩) (by assumption) ?_; rotate_left; focus (intro w hSw; (try dsimp only at hSw); (try simp only [zk1, zk2, zk3]); go_simp; try with_reducible rfl)); (try simp only [zk1, zk2, zk3]); (try simp only [Act.put, zk4, zk5, zk6])
                (refine wpAnyH_take (i := 8) (v := ?_) rfl (by kernel_rfl) (by kernel_rfl) (by kernel_rfl) (fun _ _ _ h => h) (Or.inl ⟨by rfl, ?_⟩) (by assumption) ?_; rotate_left; focus (intro w hSw; (try dsimp only at hSw); (try simp only [zk1, zk2, zk3]); go_simp; try with_reducible rfl)); (try simp only [zk1, zk2, zk3]); (try simp only [Act.put, zk4, zk5, zk6])
                (refine wpAnyH_take (i := 9) (v := .string (t.extract a (a + 5))) rfl (by kernel_rfl) (by kernel_rfl) (by kernel_rfl) (fun _ _ _ h => h) (Or.inl ⟨by rfl, ?_⟩) (by assumption) ?_; focus (intro w hSw; (try dsimp only at hSw); (try simp only [zk1, zk2, zk3]); go_simp; (try with_reducible rfl))); (try simp only [zk1, zk2, zk3]); (try simp only [Act.put, zk4, zk5, zk6])
                (refine wpAnyH_ready (rs := [4]) (by kernel_rfl) (by simp) ?_; refine AllReadyH.cons rfl (fun K hK => ?_) AllReadyH.nil; (try simp only [zk1, zk2, zk3]))
                go_simp
                go_at_call 73
                refine (HC.out _).mono ?_
                rintro e w3 ⟨rfl, x3⟩
                (try dsimp only)
                refine hK.out _ _ (by exact ⟨⟩) (fun hHeld => ?_)
                clear hK K
                by_cases hzz : 4 = 0 ∨ (t[a + 4]).toNat ≠ 0
                · have he := HX2.out.1 (by first | exact hzz | exact trivial | (left; trivial))
                  have HE := Lib.hid he
                  have HN := Lib.hid (HL2.out (by first | exact hzz | exact trivial | (left; trivial)))
                  clear he hzz HX2 HL2 HZ2
                  (refine wpAnyH_take (i := 10) (v := .bool false) rfl (by kernel_rfl) (by kernel_rfl) (by kernel_rfl) (fun _ _ _ h => h) (Or.inl ⟨by rfl, ?_⟩) (by assumption) ?_; focus (intro w hSw; (try dsimp only at hSw); (try simp only [zk1, zk2, zk3]); go_simp; (have h := HE.out; (try rw [Nat.mul_one] at h); rw [h]))); (try simp only [zk1, zk2, zk3]); (try simp only [Act.put, zk4, zk5, zk6])
                  (refine wpAnyH_take (i := 11) (v := ?_) rfl (by kernel_rfl) (by kernel_rfl) (by kernel_rfl) (fun _ _ _ h => h) (Or.inl ⟨by rfl, ?_⟩) (by assumption) ?_; rotate_left; focus (intro w hSw; (try dsimp only at hSw); (try simp only [zk1, zk2, zk3]); go_simp; try with_reducible rfl)); (try simp only [zk1, zk2, zk3]); (try simp only [Act.put, zk4, zk5, zk6])
                  refine wpAnyH_done (by kernel_rfl) ?_ _
                  go_wp2
                  go_ret3
                  exact ⟨ret_rv ⟨HN.out.1, by rw [HN.out.2.1]; have := HVL.out; omega, by rw [HN.out.2.2]; omega⟩, xd.trans x3⟩
                · have hz0 : 0 < 4 ∧ (t[a + 4]).toNat = 0 := by omega
                  have he := HX2.out.2 hz0
                  have HE := Lib.hid he
                  have HN := Lib.hid (HZ2.out hz0)
                  clear he hzz hz0 HX2 HL2 HZ2
                  (refine wpAnyH_take (i := 10) (v := .bool true) rfl (by kernel_rfl) (by kernel_rfl) (by kernel_rfl) (fun _ _ _ h => h) (Or.inl ⟨by rfl, ?_⟩) (by assumption) ?_; focus (intro w hSw; (try dsimp only at hSw); (try simp only [zk1, zk2, zk3]); go_simp; (have h := HE.out; simp [toList_inj, h]))); (try simp only [zk1, zk2, zk3]); (try simp only [Act.put, zk4, zk5, zk6])
                  (refine wpAnyH_take (i := 11) (v := ?_) rfl (by kernel_rfl) (by kernel_rfl) (by kernel_rfl) (fun _ _ _ h => h) (Or.inl ⟨by rfl, ?_⟩) (by assumption) ?_; rotate_left; focus (intro w hSw; (try dsimp only at hSw); (try simp only [zk1, zk2, zk3]); go_simp; try with_reducible rfl)); (try simp only [zk1, zk2, zk3]); (try simp only [Act.put, zk4, zk5, zk6])
                  refine wpAnyH_done (by kernel_rfl) ?_ _
                  go_wp2
                  go_ret3
                  exact ⟨ret_no HN.out, xd.trans x3⟩
            · have HN := Lib.hid (HM.out (by omega))
              clear HM HL HZ HX
              go_wp2
              all_goals first | (exfalso; omega) | skip
              go_round
              case rel => exact ⟨5, acc + (t[a + 4]).toNat % 128 * 128 ^ 4, by omega, by go_num, by first | rfl | go_num, by go_num, HN.out⟩
              case measure => simp [intOf]; omega
        · obtain rfl : k = 5 := by omega
          have HN := Lib.hid HV.out.long
          have hi' : (a : Int) + 5 < t.size := by omega
          go_wp2
          all_goals first | (exfalso; omega) | skip
          go_ret3
          exact ⟨ret_no HN.out, Ext.refl _⟩
      · have HN := Lib.hid (HV.out.short (by omega))
        have hi' : ¬ (a : Int) + k < t.size := by omega
        go_wp2
        all_goals first | (exfalso; omega) | skip
        go_ret3
        exact ⟨ret_no HN.out, Ext.refl _⟩
  · have hno := rv_off (t := t) (a := a) (by omega)
    have HI := Lib.hid (show inB a 0 t.size = false from inB_false.2 (by omega))
    have HN := Lib.hid hno
    clear hno hin
    go_enter Tryz.func95, Tryz.ntmps95
    go_wp2_with (go_at_call 22; refine (spec_l01In _ _ _ _).mono ?_; rw [HI.out]; rintro e w' ⟨rfl, rfl⟩)
    go_ret3
    exact ⟨ret_no HN.out, Ext.refl _⟩
set_option maxHeartbeats 1600000 in
theorem spec_ReadShort (t : ByteArray) (a : Int) (w : World) (hs : t.size ≤ 1099511627776) :
    Calls Tryz.prog 79 #[.string t, .int .i64 a] w fun e w' => e = .returned (.tuple #[.string (rsT t a), .int .i64 (rsE t a), .bool (rsOk t a)]) ∧ Ext w w' := by
  have hv := rvV_bd t a
  have he := rvE_bd t a
  cases h : rsOk t a
  · obtain ⟨r1, r2⟩ := rs_no h
    have hc : rvOk t a = false ∨ 20000 < rvV t a ∨ t.size < rvV t a + rvE t a := by
      simp only [rsOk, Bool.and_eq_false_iff, decide_eq_false_iff_not] at h
      rcases h with h | h | h
      · exact Or.inl h
      · exact Or.inr (Or.inl (by omega))
      · exact Or.inr (Or.inr (by omega))
    have HR := Lib.hid (show rsOk t a = false ∧ rsT t a = ⟨#[]⟩ ∧ (rsE t a : Int) = 0 from ⟨h, r1, by rw [r2]; rfl⟩)
    clear h r1 r2
    cases hk : rvOk t a
    · have HK := Lib.hid hk
      clear hk hc
      go_enter Tryz.func79, Tryz.ntmps79
      go_wp2_with fail
      refine (spec_ReadVar t a _ hs).mono ?_
      rw [HK.out]
      rintro e w' ⟨rfl, x1⟩
      go_wp2
      go_ret3
      exact ⟨ret_rs HR.out.2.1 HR.out.2.2, x1⟩
    · have HK := Lib.hid hk
      rw [hk] at hc
      have hc' : 20000 < rvV t a ∨ t.size < rvV t a + rvE t a := by rcases hc with hc | hc; cases hc; exact hc
      clear hk hc
      go_enter Tryz.func79, Tryz.ntmps79
      go_wp2_with fail
      refine (spec_ReadVar t a _ hs).mono ?_
      rw [HK.out]
      rintro e w' ⟨rfl, x1⟩
      generalize rvV t a = v at *
      generalize rvE t a = n at *
      rcases (show 20000 < v ∨ (v ≤ 20000 ∧ t.size < v + n) by omega) with h1 | ⟨h1, h2⟩
      · have h1' : (20000 : Int) < v := by omega
        go_wp2
        go_ret3
        exact ⟨ret_rs HR.out.2.1 HR.out.2.2, x1⟩
      · have h1' : ¬ (20000 : Int) < v := by omega
        have h2' : (t.size : Int) - n < v := by omega
        go_wp2
        all_goals first | (exfalso; omega) | skip
        go_ret3
        exact ⟨ret_rs HR.out.2.1 HR.out.2.2, x1⟩
  · obtain ⟨r1, r2⟩ := rs_yes h
    have h' := h
    simp only [rsOk, Bool.and_eq_true, decide_eq_true_eq] at h'
    obtain ⟨k1, k2, k3⟩ := h'
    have HR := Lib.hid r1
    have HE := Lib.hid r2
    have HK := Lib.hid k1
    clear h r1 r2 k1
    go_enter Tryz.func79, Tryz.ntmps79
    go_wp2_with fail
    refine (spec_ReadVar t a _ hs).mono ?_
    rw [HK.out]
    rintro e w' ⟨rfl, x1⟩
    generalize rvV t a = v at *
    generalize rvE t a = n at *
    have q1 : ¬ (20000 : Int) < v := by omega
    have q2 : ¬ (t.size : Int) - n < v := by omega
    go_wp2
    all_goals first | (exfalso; omega) | skip
    go_ret3
    exact ⟨ret_rs (by rw [HR.out]; first | done | (congr 1; omega)) (by rw [HE.out]; first | rfl | omega), x1⟩
end Go.Proofs.YtkphipgfcbckcaaGreatDoor
namespace Go.Proofs.YtkphipgfcbckcaaGreatDoor
open Go.RowKit

/-- is a text a signed head's? -/
noncomputable def seOk (t : ByteArray) : Bool := rsOk t 0 && (rdHead (rsT t 0) && rdSig (t.extract (rsE t 0) t.size))
noncomputable def seI (t : ByteArray) : Int := if seOk t = true then hdH (rsT t 0) else 0
noncomputable def seE (t : ByteArray) : Int := if seOk t = true then hdE (rsT t 0) else 0
noncomputable def seR (t : ByteArray) : ByteArray := if seOk t = true then hdR (rsT t 0) else ⟨#[]⟩
noncomputable def seP (t : ByteArray) : ByteArray := if seOk t = true then hdP (rsT t 0) else ⟨#[]⟩
noncomputable def seV (t : ByteArray) : SigV := if seOk t = true then rdSigV (t.extract (rsE t 0) t.size) else ⟨0, [], [], []⟩
theorem se_no {t : ByteArray} (h : seOk t = false) : seI t = 0 ∧ seE t = 0 ∧ seR t = ⟨#[]⟩ ∧ seP t = ⟨#[]⟩ ∧ seV t = ⟨0, [], [], []⟩ := by
  have : ¬ seOk t = true := by rw [h]; decide
  rw [seI, seE, seR, seP, seV, if_neg this, if_neg this, if_neg this, if_neg this, if_neg this]
  exact ⟨rfl, rfl, rfl, rfl, rfl⟩
theorem se_yes {t : ByteArray} (h : seOk t = true) : seI t = hdH (rsT t 0) ∧ seE t = hdE (rsT t 0) ∧ seR t = hdR (rsT t 0) ∧ seP t = hdP (rsT t 0) ∧ seV t = rdSigV (t.extract (rsE t 0) t.size) := by
  rw [seI, seE, seR, seP, seV, if_pos h, if_pos h, if_pos h, if_pos h, if_pos h]
  exact ⟨rfl, rfl, rfl, rfl, rfl⟩
set_option maxHeartbeats 1600000 in
theorem spec_l09Short (b : Nat) (t : ByteArray) (at_ : Int) (bad : Bool) (w : World) (h : Fld w b t at_ bad) (hb : b < w.heap.size) (hbad : bad = false) (hs : t.size ≤ 1099511627776) :
    Calls Tryz.prog 42 #[.pointer (some ⟨b, 0, none⟩)] w fun e w' => e = .returned (.string (rsT t at_)) ∧ Mut b w w' ∧ Fld w' b t (shAt t at_) (!rsOk t at_) := by
  subst hbad
  have HF := Lib.hid h
  obtain ⟨h0, h1, h2, hf⟩ := id h
  cases hk : rsOk t at_
  · obtain ⟨r1, r2⟩ := rs_no hk
    have HR := Lib.hid r1
    have HA := Lib.hid (show shAt t at_ = at_ by rw [shAt, if_neg (by rw [hk]; decide)])
    have HK := Lib.hid hk
    rw [HA.out]
    clear hk r1 r2
    clear h h0 h1 h2 hf
    go_enter Tryz.func42, Tryz.ntmps42
    go_wp2_with fail
    have c0 := HF.out.c0
    have c1 := HF.out.c1
    have F := HF.out
    have Fw := HF.out
    have X := Ext.refl w
    refine wp_region_held_drew (S := (fun W => W.cell? ⟨b, 0, none⟩ = some (.string t) ∧ W.cell? ⟨b, 1, none⟩ = some (.int .i64 at_))) (by kernel_rfl) (by exact ⟨F.c0, F.c1⟩) (fun hHeld => ?_)
    have xd : Ext w w.drew := (Ext.refl w).drew
    replace F := F.ext hb xd
    replace hb := Nat.lt_of_lt_of_le hb (Ext.size xd)
    replace X := X.trans xd
    generalize w.drew = w1 at *
    replace c0 := F.c0
    replace c1 := F.c1
    (refine wpAnyH_take (i := 0) (v := ?_) rfl (by kernel_rfl) (by kernel_rfl) (by kernel_rfl) (fun _ _ _ h => h) (Or.inl ⟨by rfl, ?_⟩) (by assumption) ?_; rotate_left; focus (intro w hSw; (try dsimp only at hSw); (try simp only [zk1, zk2]); go_simp; try with_reducible rfl)); (try simp only [zk1, zk2]); (try simp only [Act.put, zk4, zk5, zk6])
    (refine wpAnyH_take (i := 1) (v := ?_) rfl (by kernel_rfl) (by kernel_rfl) (by kernel_rfl) (fun _ _ _ h => h) (Or.inl ⟨by rfl, ?_⟩) (by assumption) ?_; rotate_left; focus (intro w hSw; (try dsimp only at hSw); (try simp only [zk1, zk2, zk3]); go_simp; try with_reducible rfl)); (try simp only [zk1, zk2, zk3]); (try simp only [Act.put, zk4, zk5, zk6])
    (refine wpAnyH_take (i := 2) (v := ?_) rfl (by kernel_rfl) (by kernel_rfl) (by kernel_rfl) (fun _ _ _ h => h) (Or.inl ⟨by rfl, ?_⟩) (by assumption) ?_; rotate_left; focus (intro w hSw; (try dsimp only at hSw); (try simp only [zk1, zk2, zk3]); go_simp; try with_reducible rfl)); (try simp only [zk1, zk2, zk3]); (try simp only [Act.put, zk4, zk5, zk6])
    (refine wpAnyH_take (i := 3) (v := ?_) rfl (by kernel_rfl) (by kernel_rfl) (by kernel_rfl) (fun _ _ _ h => h) (Or.inl ⟨by rfl, ?_⟩) (by assumption) ?_; rotate_left; focus (intro w hSw; (try dsimp only at hSw); (try simp only [zk1, zk2, zk3]); go_simp; try with_reducible rfl)); (try simp only [zk1, zk2, zk3]); (try simp only [Act.put, zk4, zk5, zk6])
    (refine wpAnyH_take (i := 4) (v := ?_) rfl (by kernel_rfl) (by kernel_rfl) (by kernel_rfl) (fun _ _ _ h => h) (Or.inl ⟨by rfl, ?_⟩) (by assumption) ?_; rotate_left; focus (intro w hSw; (try dsimp only at hSw); (try simp only [zk1, zk2, zk3]); go_simp; try with_reducible rfl)); (try simp only [zk1, zk2, zk3]); (try simp only [Act.put, zk4, zk5, zk6])
    (refine wpAnyH_take (i := 5) (v := ?_) rfl (by kernel_rfl) (by kernel_rfl) (by kernel_rfl) (fun _ _ _ h => h) (Or.inl ⟨by rfl, ?_⟩) (by assumption) ?_; rotate_left; focus (intro w hSw; (try dsimp only at hSw); (try simp only [zk1, zk2, zk3]); go_simp; try with_reducible rfl)); (try simp only [zk1, zk2, zk3]); (try simp only [Act.put, zk4, zk5, zk6])
    (refine wpAnyH_take (i := 6) (v := ?_) rfl (by kernel_rfl) (by kernel_rfl) (by kernel_rfl) (fun _ _ _ h => h) (Or.inl ⟨by rfl, ?_⟩) (by assumption) ?_; rotate_left; focus (intro w hSw; (try dsimp only at hSw); (try simp only [zk1, zk2, zk3]); go_simp; try with_reducible rfl)); (try simp only [zk1, zk2, zk3]); (try simp only [Act.put, zk4, zk5, zk6])
    (refine wpAnyH_take (i := 7) (v := ?_) rfl (by kernel_rfl) (by kernel_rfl) (by kernel_rfl) (fun _ _ _ h => h) (Or.inl ⟨by rfl, ?_⟩) (by assumption) ?_; rotate_left; focus (intro w hSw; (try dsimp only at hSw); (try simp only [zk1, zk2, zk3]); go_simp; try with_reducible rfl)); (try simp only [zk1, zk2, zk3]); (try simp only [Act.put, zk4, zk5, zk6])
    (refine wpAnyH_ready (rs := [8]) (by kernel_rfl) (by simp) ?_; refine AllReadyH.cons rfl (fun K hK => ?_) AllReadyH.nil; (try simp only [zk1, zk2, zk3]))
    go_simp
    go_at_call 79
    refine (spec_ReadShort t at_ _ hs).mono ?_
    rw [HK.out, HR.out]
    rintro e w2 ⟨rfl, x2⟩
    clear c0 c1
    replace F := F.ext hb x2
    replace hb := Nat.lt_of_lt_of_le hb (Ext.size x2)
    replace X := X.trans x2
    (try dsimp only)
    refine hK.out _ _ (by exact ⟨F.c0, F.c1⟩) (fun hHeld => ?_)
    clear hK K
    (refine wpAnyH_take (i := 9) (v := ?_) rfl (by kernel_rfl) (by kernel_rfl) (by kernel_rfl) (fun _ _ _ h => h) (Or.inl ⟨by rfl, ?_⟩) (by assumption) ?_; rotate_left; focus (intro w hSw; (try dsimp only at hSw); (try simp only [zk1, zk2, zk3]); go_simp; try with_reducible rfl)); (try simp only [zk1, zk2, zk3]); (try simp only [Act.put, zk4, zk5, zk6])
    (refine wpAnyH_take (i := 10) (v := ?_) rfl (by kernel_rfl) (by kernel_rfl) (by kernel_rfl) (fun _ _ _ h => h) (Or.inl ⟨by rfl, ?_⟩) (by assumption) ?_; rotate_left; focus (intro w hSw; (try dsimp only at hSw); (try simp only [zk1, zk2, zk3]); go_simp; try with_reducible rfl)); (try simp only [zk1, zk2, zk3]); (try simp only [Act.put, zk4, zk5, zk6])
    (refine wpAnyH_take (i := 11) (v := ?_) rfl (by kernel_rfl) (by kernel_rfl) (by kernel_rfl) (fun _ _ _ h => h) (Or.inl ⟨by rfl, ?_⟩) (by assumption) ?_; rotate_left; focus (intro w hSw; (try dsimp only at hSw); (try simp only [zk1, zk2, zk3]); go_simp; try with_reducible rfl)); (try simp only [zk1, zk2, zk3]); (try simp only [Act.put, zk4, zk5, zk6])
    (refine wpAnyH_take (i := 12) (v := ?_) rfl (by kernel_rfl) (by kernel_rfl) (by kernel_rfl) (fun _ _ _ h => h) (Or.inl ⟨by rfl, ?_⟩) (by assumption) ?_; rotate_left; focus (intro w hSw; (try dsimp only at hSw); (try simp only [zk1, zk2, zk3]); go_simp; try with_reducible rfl)); (try simp only [zk1, zk2, zk3]); (try simp only [Act.put, zk4, zk5, zk6])
    (refine wpAnyH_take (i := 13) (v := ?_) rfl (by kernel_rfl) (by kernel_rfl) (by kernel_rfl) (fun _ _ _ h => h) (Or.inl ⟨by rfl, ?_⟩) (by assumption) ?_; rotate_left; focus (intro w hSw; (try dsimp only at hSw); (try simp only [zk1, zk2, zk3]); go_simp; try with_reducible rfl)); (try simp only [zk1, zk2, zk3]); (try simp only [Act.put, zk4, zk5, zk6])
    (refine wpAnyH_take (i := 14) (v := ?_) rfl (by kernel_rfl) (by kernel_rfl) (by kernel_rfl) (fun _ _ _ h => h) (Or.inl ⟨by rfl, ?_⟩) (by assumption) ?_; rotate_left; focus (intro w hSw; (try dsimp only at hSw); (try simp only [zk1, zk2, zk3]); go_simp; try with_reducible rfl)); (try simp only [zk1, zk2, zk3]); (try simp only [Act.put, zk4, zk5, zk6])
    (refine wpAnyH_take (i := 15) (v := ?_) rfl (by kernel_rfl) (by kernel_rfl) (by kernel_rfl) (fun _ _ _ h => h) (Or.inl ⟨by rfl, ?_⟩) (by assumption) ?_; rotate_left; focus (intro w hSw; (try dsimp only at hSw); (try simp only [zk1, zk2, zk3]); go_simp; try with_reducible rfl)); (try simp only [zk1, zk2, zk3]); (try simp only [Act.put, zk4, zk5, zk6])
    refine wpAnyH_done (by kernel_rfl) ?_ _
    have c0 := F.c0
    have c1 := F.c1
    have c2 := F.c2
    have fz := F.fz
    go_wp2
    go_ret
    exact ⟨by rw [HR.out]; rfl, (Mut.of_ext X).setCell _ _, F.bad true⟩
  · have HA := Lib.hid (show shAt t at_ = rsE t at_ by rw [shAt, if_pos hk])
    have HK := Lib.hid hk
    rw [HA.out]
    clear hk
    clear h h0 h1 h2 hf
    go_enter Tryz.func42, Tryz.ntmps42
    go_wp2_with fail
    have c0 := HF.out.c0
    have c1 := HF.out.c1
    have F := HF.out
    have Fw := HF.out
    have X := Ext.refl w
    refine wp_region_held_drew (S := (fun W => W.cell? ⟨b, 0, none⟩ = some (.string t) ∧ W.cell? ⟨b, 1, none⟩ = some (.int .i64 at_))) (by kernel_rfl) (by exact ⟨F.c0, F.c1⟩) (fun hHeld => ?_)
    have xd : Ext w w.drew := (Ext.refl w).drew
    replace F := F.ext hb xd
    replace hb := Nat.lt_of_lt_of_le hb (Ext.size xd)
    replace X := X.trans xd
    generalize w.drew = w1 at *
    replace c0 := F.c0
    replace c1 := F.c1
    (refine wpAnyH_take (i := 0) (v := ?_) rfl (by kernel_rfl) (by kernel_rfl) (by kernel_rfl) (fun _ _ _ h => h) (Or.inl ⟨by rfl, ?_⟩) (by assumption) ?_; rotate_left; focus (intro w hSw; (try dsimp only at hSw); (try simp only [zk1, zk2]); go_simp; try with_reducible rfl)); (try simp only [zk1, zk2]); (try simp only [Act.put, zk4, zk5, zk6])
    (refine wpAnyH_take (i := 1) (v := ?_) rfl (by kernel_rfl) (by kernel_rfl) (by kernel_rfl) (fun _ _ _ h => h) (Or.inl ⟨by rfl, ?_⟩) (by assumption) ?_; rotate_left; focus (intro w hSw; (try dsimp only at hSw); (try simp only [zk1, zk2, zk3]); go_simp; try with_reducible rfl)); (try simp only [zk1, zk2, zk3]); (try simp only [Act.put, zk4, zk5, zk6])
    (refine wpAnyH_take (i := 2) (v := ?_) rfl (by kernel_rfl) (by kernel_rfl) (by kernel_rfl) (fun _ _ _ h => h) (Or.inl ⟨by rfl, ?_⟩) (by assumption) ?_; rotate_left; focus (intro w hSw; (try dsimp only at hSw); (try simp only [zk1, zk2, zk3]); go_simp; try with_reducible rfl)); (try simp only [zk1, zk2, zk3]); (try simp only [Act.put, zk4, zk5, zk6])
    (refine wpAnyH_take (i := 3) (v := ?_) rfl (by kernel_rfl) (by kernel_rfl) (by kernel_rfl) (fun _ _ _ h => h) (Or.inl ⟨by rfl, ?_⟩) (by assumption) ?_; rotate_left; focus (intro w hSw; (try dsimp only at hSw); (try simp only [zk1, zk2, zk3]); go_simp; try with_reducible rfl)); (try simp only [zk1, zk2, zk3]); (try simp only [Act.put, zk4, zk5, zk6])
    (refine wpAnyH_take (i := 4) (v := ?_) rfl (by kernel_rfl) (by kernel_rfl) (by kernel_rfl) (fun _ _ _ h => h) (Or.inl ⟨by rfl, ?_⟩) (by assumption) ?_; rotate_left; focus (intro w hSw; (try dsimp only at hSw); (try simp only [zk1, zk2, zk3]); go_simp; try with_reducible rfl)); (try simp only [zk1, zk2, zk3]); (try simp only [Act.put, zk4, zk5, zk6])
    (refine wpAnyH_take (i := 5) (v := ?_) rfl (by kernel_rfl) (by kernel_rfl) (by kernel_rfl) (fun _ _ _ h => h) (Or.inl ⟨by rfl, ?_⟩) (by assumption) ?_; rotate_left; focus (intro w hSw; (try dsimp only at hSw); (try simp only [zk1, zk2, zk3]); go_simp; try with_reducible rfl)); (try simp only [zk1, zk2, zk3]); (try simp only [Act.put, zk4, zk5, zk6])
    (refine wpAnyH_take (i := 6) (v := ?_) rfl (by kernel_rfl) (by kernel_rfl) (by kernel_rfl) (fun _ _ _ h => h) (Or.inl ⟨by rfl, ?_⟩) (by assumption) ?_; rotate_left; focus (intro w hSw; (try dsimp only at hSw); (try simp only [zk1, zk2, zk3]); go_simp; try with_reducible rfl)); (try simp only [zk1, zk2, zk3]); (try simp only [Act.put, zk4, zk5, zk6])
    (refine wpAnyH_take (i := 7) (v := ?_) rfl (by kernel_rfl) (by kernel_rfl) (by kernel_rfl) (fun _ _ _ h => h) (Or.inl ⟨by rfl, ?_⟩) (by assumption) ?_; rotate_left; focus (intro w hSw; (try dsimp only at hSw); (try simp only [zk1, zk2, zk3]); go_simp; try with_reducible rfl)); (try simp only [zk1, zk2, zk3]); (try simp only [Act.put, zk4, zk5, zk6])
    (refine wpAnyH_ready (rs := [8]) (by kernel_rfl) (by simp) ?_; refine AllReadyH.cons rfl (fun K hK => ?_) AllReadyH.nil; (try simp only [zk1, zk2, zk3]))
    go_simp
    go_at_call 79
    refine (spec_ReadShort t at_ _ hs).mono ?_
    rw [HK.out]
    rintro e w2 ⟨rfl, x2⟩
    clear c0 c1
    replace F := F.ext hb x2
    replace hb := Nat.lt_of_lt_of_le hb (Ext.size x2)
    replace X := X.trans x2
    (try dsimp only)
    refine hK.out _ _ (by exact ⟨F.c0, F.c1⟩) (fun hHeld => ?_)
    clear hK K
    (refine wpAnyH_take (i := 9) (v := ?_) rfl (by kernel_rfl) (by kernel_rfl) (by kernel_rfl) (fun _ _ _ h => h) (Or.inl ⟨by rfl, ?_⟩) (by assumption) ?_; rotate_left; focus (intro w hSw; (try dsimp only at hSw); (try simp only [zk1, zk2, zk3]); go_simp; try with_reducible rfl)); (try simp only [zk1, zk2, zk3]); (try simp only [Act.put, zk4, zk5, zk6])
    (refine wpAnyH_take (i := 10) (v := ?_) rfl (by kernel_rfl) (by kernel_rfl) (by kernel_rfl) (fun _ _ _ h => h) (Or.inl ⟨by rfl, ?_⟩) (by assumption) ?_; rotate_left; focus (intro w hSw; (try dsimp only at hSw); (try simp only [zk1, zk2, zk3]); go_simp; try with_reducible rfl)); (try simp only [zk1, zk2, zk3]); (try simp only [Act.put, zk4, zk5, zk6])
    (refine wpAnyH_take (i := 11) (v := ?_) rfl (by kernel_rfl) (by kernel_rfl) (by kernel_rfl) (fun _ _ _ h => h) (Or.inl ⟨by rfl, ?_⟩) (by assumption) ?_; rotate_left; focus (intro w hSw; (try dsimp only at hSw); (try simp only [zk1, zk2, zk3]); go_simp; try with_reducible rfl)); (try simp only [zk1, zk2, zk3]); (try simp only [Act.put, zk4, zk5, zk6])
    (refine wpAnyH_take (i := 12) (v := ?_) rfl (by kernel_rfl) (by kernel_rfl) (by kernel_rfl) (fun _ _ _ h => h) (Or.inl ⟨by rfl, ?_⟩) (by assumption) ?_; rotate_left; focus (intro w hSw; (try dsimp only at hSw); (try simp only [zk1, zk2, zk3]); go_simp; try with_reducible rfl)); (try simp only [zk1, zk2, zk3]); (try simp only [Act.put, zk4, zk5, zk6])
    (refine wpAnyH_take (i := 13) (v := ?_) rfl (by kernel_rfl) (by kernel_rfl) (by kernel_rfl) (fun _ _ _ h => h) (Or.inl ⟨by rfl, ?_⟩) (by assumption) ?_; rotate_left; focus (intro w hSw; (try dsimp only at hSw); (try simp only [zk1, zk2, zk3]); go_simp; try with_reducible rfl)); (try simp only [zk1, zk2, zk3]); (try simp only [Act.put, zk4, zk5, zk6])
    (refine wpAnyH_take (i := 14) (v := ?_) rfl (by kernel_rfl) (by kernel_rfl) (by kernel_rfl) (fun _ _ _ h => h) (Or.inl ⟨by rfl, ?_⟩) (by assumption) ?_; rotate_left; focus (intro w hSw; (try dsimp only at hSw); (try simp only [zk1, zk2, zk3]); go_simp; try with_reducible rfl)); (try simp only [zk1, zk2, zk3]); (try simp only [Act.put, zk4, zk5, zk6])
    (refine wpAnyH_take (i := 15) (v := ?_) rfl (by kernel_rfl) (by kernel_rfl) (by kernel_rfl) (fun _ _ _ h => h) (Or.inl ⟨by rfl, ?_⟩) (by assumption) ?_; rotate_left; focus (intro w hSw; (try dsimp only at hSw); (try simp only [zk1, zk2, zk3]); go_simp; try with_reducible rfl)); (try simp only [zk1, zk2, zk3]); (try simp only [Act.put, zk4, zk5, zk6])
    refine wpAnyH_done (by kernel_rfl) ?_ _
    have c0 := F.c0
    have c1 := F.c1
    have c2 := F.c2
    have fz := F.fz
    go_wp2
    go_ret
    exact ⟨rfl, (Mut.of_ext X).setCell _ _, F.at _⟩
end Go.Proofs.YtkphipgfcbckcaaGreatDoor
namespace Go.Proofs.YtkphipgfcbckcaaGreatDoor
open Go.RowKit

def CutRd (W0 wx : World) (s5 : Value) (b : Nat) (t : ByteArray) (st : Int × Bool) (hh he : Int) (hr hp : ByteArray) (S : SigV) : Prop := ∃ (qb : Nat) (a1 a2 a3 : Option Addr) (c1 c2 c3 : Nat), s5 = .pointer (some ⟨qb, 0, none⟩) ∧ W0.heap.size ≤ qb ∧ Bx wx qb [.int .i64 hh, .int .i64 he, .string hr, .string hp, .int .i64 S.at_, .slice a1 S.op.length c1, .slice a2 S.sh.length c2, .slice a3 S.si.length c3] ∧ SigOwn wx W0.heap.size (.slice a1 S.op.length c1) (.slice a2 S.sh.length c2) (.slice a3 S.si.length c3) S ∧ Fld wx b t st.1 st.2 ∧ Mut b W0 wx
theorem SigOwn.mut {w w' : World} {base b : Nat} {v1 v2 v3 : Value} {s : SigV} (h : SigOwn w base v1 v2 v3 s) (hb : b < base) (hm : Mut b w w') : SigOwn w' base v1 v2 v3 s := ⟨own_mut h.1 hb hm, own_mut h.2.1 hb hm, own_mut h.2.2.1 hb hm, h.2.2.2⟩
def badE (x rk : Bool) (S : SigV) : Bool := x || (!rk || !sigWell S)
set_option maxRecDepth 100000 in
set_option maxHeartbeats 6400000 in
theorem impl_fields_seal (b : Nat) (t : ByteArray) (a : Int) (bad : Bool) (w : World) (h : Fld w b t a bad) (hb : b < w.heap.size) (ha : 0 ≤ a ∧ a ≤ t.size) (hs : t.size ≤ 1099511627776) :
    Calls Tryz.prog 39 #[.pointer (some ⟨b, 0, none⟩)] w fun e w' => ∃ a1 c1 a2 c2 a3 c3, e = .returned (.agg #[.int .i64 (hdH (rsT t a)), .int .i64 (hdE (rsT t a)), .string (hdR (rsT t a)), .string (hdP (rsT t a)), .int .i64 (sgRd t (shAt t a) (bad || !rsOk t a)).at_, .slice a1 (sgRd t (shAt t a) (bad || !rsOk t a)).op.length c1, .slice a2 (sgRd t (shAt t a) (bad || !rsOk t a)).sh.length c2, .slice a3 (sgRd t (shAt t a) (bad || !rsOk t a)).si.length c3]) ∧ SigOwn w' w.heap.size (.slice a1 (sgRd t (shAt t a) (bad || !rsOk t a)).op.length c1) (.slice a2 (sgRd t (shAt t a) (bad || !rsOk t a)).sh.length c2) (.slice a3 (sgRd t (shAt t a) (bad || !rsOk t a)).si.length c3) (sgRd t (shAt t a) (bad || !rsOk t a)) ∧ Fld w' b t (sgS4 t (shAt t a) (bad || !rsOk t a)).1 (badE (sgS4 t (shAt t a) (bad || !rsOk t a)).2 (rdHead (rsT t a)) (sgRd t (shAt t a) (bad || !rsOk t a))) ∧ Mut b w w' := by
  have e0 : Ext w (w.alloc (Obj.cells #[.int .i64 0, .int .i64 0, .string ⟨#[]⟩, .string ⟨#[]⟩, .int .i64 0, .slice none 0 0, .slice none 0 0, .slice none 0 0] 32)) := (Ext.refl w).alloc _
  have R := Bx.new w #[.int .i64 0, .int .i64 0, .string ⟨#[]⟩, .string ⟨#[]⟩, .int .i64 0, .slice none 0 0, .slice none 0 0, .slice none 0 0] 32
  have F0 := h.ext hb e0
  have hb0 := Nat.lt_of_lt_of_le hb e0.size
  have hwb : w.heap.size ≠ b := by omega
  have M0 : Mut b w (w.alloc (Obj.cells #[.int .i64 0, .int .i64 0, .string ⟨#[]⟩, .string ⟨#[]⟩, .int .i64 0, .slice none 0 0, .slice none 0 0, .slice none 0 0] 32)) := Mut.of_ext e0
  have hsa := shAt_bd (a := a) ha
  have hz := rsT_le t a
  generalize hht : rsT t a = ht at *
  generalize hok : rsOk t a = ok at *
  generalize hhsa : shAt t a = sa at *
  generalize ehh : hdH ht = hh at *
  generalize ehe : hdE ht = he at *
  generalize ehr : hdR ht = hr at *
  generalize ehp : hdP ht = hp at *
  generalize erk : rdHead ht = rk at *
  have HF := Lib.hid (sgRd_fit (t := t) (a := sa) (bad := bad || !ok) hsa)
  generalize hst : sgS4 t sa (bad || !ok) = st at *
  generalize hS : sgRd t sa (bad || !ok) = S at *
  have HHT := Lib.hid hht
  have HOK := Lib.hid hok
  have HSA := Lib.hid hhsa
  have E1 := Lib.hid ehh
  have E2 := Lib.hid ehe
  have E3 := Lib.hid ehr
  have E4 := Lib.hid ehp
  have E5 := Lib.hid erk
  have HST := Lib.hid hst
  have HS := Lib.hid hS
  clear hht hok hhsa ehh ehe ehr ehp erk hst hS
  skip
  go_enter Tryz.func39, Tryz.ntmps39
  go_wp2_with fail
  generalize w.alloc (Obj.cells #[.int .i64 0, .int .i64 0, .string ⟨#[]⟩, .string ⟨#[]⟩, .int .i64 0, .slice none 0 0, .slice none 0 0, .slice none 0 0] 32) = W0 at *
  refine (impl_fields_short b t a bad _ F0 hs).mono ?_
  rw [HHT.out, HOK.out, HSA.out]
  rintro e w1 ⟨rfl, M1, F1⟩
  have R1 := R.mut M1 hwb
  have hb1 := Nat.lt_of_lt_of_le hb0 M1.size
  have MA := M0.trans M1
  clear F0 R M0
  go_wp2_with fail
  refine (impl_ReadHead ht _ (by omega)).mono ?_
  rw [E1.out, E2.out, E3.out, E4.out, E5.out]
  rintro e w2 ⟨rfl, x2⟩
  have R2 := R1.ext x2
  have F2 := F1.ext hb1 x2
  have hb2 := Nat.lt_of_lt_of_le hb1 x2.size
  have MB := MA.trans (Mut.of_ext x2)
  clear F1 R1 MA
  have x3 : Ext w2 (w2.alloc (Obj.cells #[.int .i64 hh, .int .i64 he, .string hr, .string hp] 26)) := (Ext.refl _).alloc _
  have H := Bx.new w2 #[.int .i64 hh, .int .i64 he, .string hr, .string hp] 26
  have R3 := R2.ext x3
  have F3 := F2.ext hb2 x3
  have MC := MB.trans (Mut.of_ext x3)
  have hb3 := Nat.lt_of_lt_of_le hb2 x3.size
  have hbh : w2.heap.size ≠ b := by omega
  clear R2 F2 MB
  have h0 := H.2.1 0 _ rfl
  have h1 := H.2.1 1 _ rfl
  have h2 := H.2.1 2 _ rfl
  have h3 := H.2.1 3 _ rfl
  go_upto_region 2 with (fail)
  go_cut [5] (fun s5 wx => CutRd (w2.alloc (Obj.cells #[.int .i64 hh, .int .i64 he, .string hr, .string hp] 26)) wx s5 b t st hh he hr hp S)
  case first =>
    have LH := Lib.hid (show w2.heap.size < (w2.alloc (Obj.cells #[.int .i64 hh, .int .i64 he, .string hr, .string hp] 26)).heap.size from H.1)
    generalize w2.alloc (Obj.cells #[.int .i64 hh, .int .i64 he, .string hr, .string hp] 26) = w3 at *
    skip
    go_wp2_with fail
    clear h0 h1 h2 h3
    have M := Mut.refl b w3
    refine wp_region_held_drew (S := (fun W => W.cell? ⟨w2.heap.size, 0, none⟩ = some (.int .i64 hh) ∧ W.cell? ⟨w2.heap.size, 1, none⟩ = some (.int .i64 he) ∧ W.cell? ⟨w2.heap.size, 2, none⟩ = some (.string hr) ∧ W.cell? ⟨w2.heap.size, 3, none⟩ = some (.string hp))) (by kernel_rfl) (by exact ⟨H.2.1 0 _ rfl, H.2.1 1 _ rfl, H.2.1 2 _ rfl, H.2.1 3 _ rfl⟩) (fun hHeld => ?_)
    have xd : Ext w3 w3.drew := (Ext.refl w3).drew
    replace H := H.ext xd
    replace F3 := F3.ext hb3 xd
    replace hb3 := Nat.lt_of_lt_of_le hb3 (Ext.size xd)
    replace M := M.trans (Mut.of_ext xd)
    generalize w3.drew = y0 at *
    have h0 := H.2.1 0 _ rfl
    have h1 := H.2.1 1 _ rfl
    have h2 := H.2.1 2 _ rfl
    have h3 := H.2.1 3 _ rfl
    (refine wpAnyH_take (i := 0) (v := ?_) rfl (by kernel_rfl) (by kernel_rfl) (by kernel_rfl) (fun _ _ _ h => h) (Or.inl ⟨by rfl, ?_⟩) (by assumption) ?_; rotate_left; focus (intro w hSw; (try dsimp only at hSw); (try simp only [zk1, zk2]); go_simp; try with_reducible rfl)); (try simp only [zk1, zk2]); (try simp only [Act.put, zk4, zk5, zk6])
    (refine wpAnyH_take (i := 1) (v := ?_) rfl (by kernel_rfl) (by kernel_rfl) (by kernel_rfl) (fun _ _ _ h => h) (Or.inl ⟨by rfl, ?_⟩) (by assumption) ?_; rotate_left; focus (intro w hSw; (try dsimp only at hSw); (try simp only [zk1, zk2, zk3]); go_simp; try with_reducible rfl)); (try simp only [zk1, zk2, zk3]); (try simp only [Act.put, zk4, zk5, zk6])
    refine wpAnyH_ready (rs := [2, 4]) (by kernel_rfl) (by simp) ?_
    refine AllReadyH.cons rfl (fun K hK => ?_) (AllReadyH.cons rfl (fun K hK => ?_) AllReadyH.nil)
    · (try simp only [zk1, zk2, zk3])
      go_simp
      go_at_call 77
      refine (impl_fields_sig b t sa (bad || !ok) _ F3 hb3 hsa hs).mono ?_
      rw [HS.out, HST.out]
      rintro e y1 ⟨a1, c1, a2, c2, a3, c3, rfl, so, F4, M4⟩
      (try clear h0 h1 h2 h3)
      have H4 := H.mut M4 hbh
      have lsz : w3.heap.size ≤ y0.heap.size := M.size
      have SO := so.mono lsz
      have MM := M.trans M4
      replace hb3 := Nat.lt_of_lt_of_le hb3 M4.size
      have B0 := fun v n l (o : World.ownsRow y1 w3.heap.size 9 1 v n l) k (hk : v.ownBlock = some k) => (own_lt o k hk).2
      have B1 := fun k hk => Nat.ne_of_lt (B0 _ _ _ SO.1 k hk)
      have B2 := fun k hk => Nat.ne_of_lt (B0 _ _ _ SO.2.1 k hk)
      have B3 := fun k hk => Nat.ne_of_lt (B0 _ _ _ SO.2.2.1 k hk)
      clear B0
      clear so M F3 H
      have M := MM
      have F3 := F4
      have H := H4
      clear MM F4 H4
      (try dsimp only)
      refine hK.out _ _ (by exact ⟨H.2.1 0 _ rfl, H.2.1 1 _ rfl, H.2.1 2 _ rfl, H.2.1 3 _ rfl⟩) (fun hHeld => ?_)
      clear hK K
      (refine wpAnyH_take (i := 3) (v := ?_) rfl (by kernel_rfl) (by kernel_rfl) (by kernel_rfl) (fun _ _ _ h => h) (Or.inl ⟨by rfl, ?_⟩) (by assumption) ?_; rotate_left; focus (intro w hSw; (try dsimp only at hSw); (try simp only [zk1, zk2, zk3]); go_simp; try with_reducible rfl)); (try simp only [zk1, zk2, zk3]); (try simp only [Act.put, zk4, zk5, zk6])
      refine wpAnyH_ready (rs := [4]) (by kernel_rfl) (by simp) ?_
      refine AllReadyH.cons rfl (fun K hK => ?_) AllReadyH.nil
      (try simp only [zk1, zk2, zk3])
      go_simp
      have ez : Ext y1 (y1.alloc (Obj.cells #[.int .i64 0, .int .i64 0, .string ⟨#[]⟩, .string ⟨#[]⟩, .int .i64 0, .slice none 0 0, .slice none 0 0, .slice none 0 0] 32)) := (Ext.refl _).alloc _
      have Q := Bx.new y1 #[.int .i64 0, .int .i64 0, .string ⟨#[]⟩, .string ⟨#[]⟩, .int .i64 0, .slice none 0 0, .slice none 0 0, .slice none 0 0] 32
      have lq : w3.heap.size ≤ y1.heap.size := M.size
      have nqb : y1.heap.size ≠ b := by omega
      (try clear h0 h1 h2 h3)
      replace H := H.ext ez
      replace F3 := F3.ext hb3 ez
      replace hb3 := Nat.lt_of_lt_of_le hb3 (Ext.size ez)
      replace M := M.trans (Mut.of_ext ez)
      replace SO := SO.ext ez
      generalize y1.alloc (Obj.cells #[.int .i64 0, .int .i64 0, .string ⟨#[]⟩, .string ⟨#[]⟩, .int .i64 0, .slice none 0 0, .slice none 0 0, .slice none 0 0] 32) = y2 at *
      generalize hqb : y1.heap.size = qb at *
      clear hqb
      (try dsimp only)
      refine hK.out _ _ (by exact ⟨H.2.1 0 _ rfl, H.2.1 1 _ rfl, H.2.1 2 _ rfl, H.2.1 3 _ rfl⟩) (fun hHeld => ?_)
      clear hK K
      have z0 := Q.2.1 0 _ rfl
      have z1 := Q.2.1 1 _ rfl
      have z2 := Q.2.1 2 _ rfl
      have z3 := Q.2.1 3 _ rfl
      have z4 := Q.2.1 4 _ rfl
      have z5 := Q.2.1 5 _ rfl
      have z6 := Q.2.1 6 _ rfl
      have z7 := Q.2.1 7 _ rfl
      have f0 := Q.2.2 0
      have f1 := Q.2.2 1
      have f2 := Q.2.2 2
      have f3 := Q.2.2 3
      have f4 := Q.2.2 4
      have f5 := Q.2.2 5
      have f6 := Q.2.2 6
      have f7 := Q.2.2 7
      have nhq : qb ≠ w2.heap.size := by have := LH.out; omega
      have QQ := ((((((((Q.set 0 (.int .i64 hh) (by simp)).set 1 (.int .i64 he) (by simp)).set 2 (.string hr) (by simp)).set 3 (.string hp) (by simp)).set 4 (.int .i64 S.at_) (by simp)).set 5 (.slice a1 S.op.length c1) (by simp)).set 6 (.slice a2 S.sh.length c2) (by simp)).set 7 (.slice a3 S.si.length c3) (by simp))
      have SQ := ((((((((SO.far B1 B2 B3 0 (.int .i64 hh)).far B1 B2 B3 1 (.int .i64 he)).far B1 B2 B3 2 (.string hr)).far B1 B2 B3 3 (.string hp)).far B1 B2 B3 4 (.int .i64 S.at_)).far B1 B2 B3 5 (.slice a1 S.op.length c1)).far B1 B2 B3 6 (.slice a2 S.sh.length c2)).far B1 B2 B3 7 (.slice a3 S.si.length c3))
      have FQ := (fld_far (fld_far (fld_far (fld_far (fld_far (fld_far (fld_far (fld_far F3 nqb 0 (.int .i64 hh)) nqb 1 (.int .i64 he)) nqb 2 (.string hr)) nqb 3 (.string hp)) nqb 4 (.int .i64 S.at_)) nqb 5 (.slice a1 S.op.length c1)) nqb 6 (.slice a2 S.sh.length c2)) nqb 7 (.slice a3 S.si.length c3))
      have HQ := ((((((((H.far (c := qb) nhq 0 (.int .i64 hh)).far (c := qb) nhq 1 (.int .i64 he)).far (c := qb) nhq 2 (.string hr)).far (c := qb) nhq 3 (.string hp)).far (c := qb) nhq 4 (.int .i64 S.at_)).far (c := qb) nhq 5 (.slice a1 S.op.length c1)).far (c := qb) nhq 6 (.slice a2 S.sh.length c2)).far (c := qb) nhq 7 (.slice a3 S.si.length c3))
      have MQ : Mut b w3 ((((((((y2.setCell ⟨qb, 0, none⟩ (.int .i64 hh)).setCell ⟨qb, 1, none⟩ (.int .i64 he)).setCell ⟨qb, 2, none⟩ (.string hr)).setCell ⟨qb, 3, none⟩ (.string hp)).setCell ⟨qb, 4, none⟩ (.int .i64 S.at_)).setCell ⟨qb, 5, none⟩ (.slice a1 S.op.length c1)).setCell ⟨qb, 6, none⟩ (.slice a2 S.sh.length c2)).setCell ⟨qb, 7, none⟩ (.slice a3 S.si.length c3)) := (mut_new (mut_new (mut_new (mut_new (mut_new (mut_new (mut_new (mut_new M 0 (.int .i64 hh) lq) 1 (.int .i64 he) lq) 2 (.string hr) lq) 3 (.string hp) lq) 4 (.int .i64 S.at_) lq) 5 (.slice a1 S.op.length c1) lq) 6 (.slice a2 S.sh.length c2) lq) 7 (.slice a3 S.si.length c3) lq)
      clear H
      have H := HQ
      clear HQ
      (refine wpAnyH_ready (rs := [5]) (by kernel_rfl) (by simp) ?_; refine AllReadyH.cons rfl (fun K hK => ?_) AllReadyH.nil; (try simp only [zk1, zk2, zk3]))
      go_simp
      clear z0 f0 z1 f1 z2 f2 z3 f3 z4 f4 z5 f5 z6 f6 z7 f7
      generalize (((((((y2.setCell ⟨qb, 0, none⟩ (.int .i64 hh)).setCell ⟨qb, 1, none⟩ (.int .i64 he)).setCell ⟨qb, 2, none⟩ (.string hr)).setCell ⟨qb, 3, none⟩ (.string hp)).setCell ⟨qb, 4, none⟩ (.int .i64 S.at_)).setCell ⟨qb, 5, none⟩ (.slice a1 S.op.length c1)).setCell ⟨qb, 6, none⟩ (.slice a2 S.sh.length c2)).setCell ⟨qb, 7, none⟩ (.slice a3 S.si.length c3) = W6 at *
      (try dsimp only)
      refine hK.out _ _ (by exact ⟨H.2.1 0 _ rfl, H.2.1 1 _ rfl, H.2.1 2 _ rfl, H.2.1 3 _ rfl⟩) (fun hHeld => ?_)
      clear hK K
      refine wpAnyH_done (by kernel_rfl) ?_ _
      go_wp2_with fail
      go_meet
      exact ⟨qb, a1, a2, a3, c1, c2, c3, rfl, lq, QQ, SQ, FQ, MQ⟩
    · (try simp only [zk1, zk2, zk3])
      go_simp
      have ez : Ext y0 (y0.alloc (Obj.cells #[.int .i64 0, .int .i64 0, .string ⟨#[]⟩, .string ⟨#[]⟩, .int .i64 0, .slice none 0 0, .slice none 0 0, .slice none 0 0] 32)) := (Ext.refl _).alloc _
      have Q := Bx.new y0 #[.int .i64 0, .int .i64 0, .string ⟨#[]⟩, .string ⟨#[]⟩, .int .i64 0, .slice none 0 0, .slice none 0 0, .slice none 0 0] 32
      have lq : w3.heap.size ≤ y0.heap.size := M.size
      have nqb : y0.heap.size ≠ b := by omega
      (try clear h0 h1 h2 h3)
      replace H := H.ext ez
      replace F3 := F3.ext hb3 ez
      replace hb3 := Nat.lt_of_lt_of_le hb3 (Ext.size ez)
      replace M := M.trans (Mut.of_ext ez)
      generalize y0.alloc (Obj.cells #[.int .i64 0, .int .i64 0, .string ⟨#[]⟩, .string ⟨#[]⟩, .int .i64 0, .slice none 0 0, .slice none 0 0, .slice none 0 0] 32) = y1 at *
      generalize hqb : y0.heap.size = qb at *
      clear hqb
      (try dsimp only)
      refine hK.out _ _ (by exact ⟨H.2.1 0 _ rfl, H.2.1 1 _ rfl, H.2.1 2 _ rfl, H.2.1 3 _ rfl⟩) (fun hHeld => ?_)
      clear hK K
      (refine wpAnyH_ready (rs := [2]) (by kernel_rfl) (by simp) ?_; refine AllReadyH.cons rfl (fun K hK => ?_) AllReadyH.nil)
      (try simp only [zk1, zk2, zk3])
      go_simp
      go_at_call 77
      refine (impl_fields_sig b t sa (bad || !ok) _ F3 hb3 hsa hs).mono ?_
      rw [HS.out, HST.out]
      rintro e y2 ⟨a1, c1, a2, c2, a3, c3, rfl, so, F4, M4⟩
      (try clear h0 h1 h2 h3)
      have H4 := H.mut M4 hbh
      have lsz : w3.heap.size ≤ y1.heap.size := M.size
      have lqs : qb < y1.heap.size := Q.1
      have Q4 := Q.mut M4 nqb
      have B1 := fun k (hk : Value.ownBlock (.slice a1 S.op.length c1) = some k) => Nat.ne_of_gt (Nat.lt_of_lt_of_le lqs (own_lt so.1 k hk).1)
      have B2 := fun k (hk : Value.ownBlock (.slice a2 S.sh.length c2) = some k) => Nat.ne_of_gt (Nat.lt_of_lt_of_le lqs (own_lt so.2.1 k hk).1)
      have B3 := fun k (hk : Value.ownBlock (.slice a3 S.si.length c3) = some k) => Nat.ne_of_gt (Nat.lt_of_lt_of_le lqs (own_lt so.2.2.1 k hk).1)
      have SO := so.mono lsz
      have MM := M.trans M4
      replace hb3 := Nat.lt_of_lt_of_le hb3 M4.size
      clear so M F3 H Q
      have M := MM
      have F3 := F4
      have H := H4
      have Q := Q4
      clear MM F4 H4 Q4
      (try dsimp only)
      refine hK.out _ _ (by exact ⟨H.2.1 0 _ rfl, H.2.1 1 _ rfl, H.2.1 2 _ rfl, H.2.1 3 _ rfl⟩) (fun hHeld => ?_)
      clear hK K
      (refine wpAnyH_take (i := 3) (v := ?_) rfl (by kernel_rfl) (by kernel_rfl) (by kernel_rfl) (fun _ _ _ h => h) (Or.inl ⟨by rfl, ?_⟩) (by assumption) ?_; rotate_left; focus (intro w hSw; (try dsimp only at hSw); (try simp only [zk1, zk2, zk3]); go_simp; try with_reducible rfl)); (try simp only [zk1, zk2, zk3]); (try simp only [Act.put, zk4, zk5, zk6])
      have z0 := Q.2.1 0 _ rfl
      have z1 := Q.2.1 1 _ rfl
      have z2 := Q.2.1 2 _ rfl
      have z3 := Q.2.1 3 _ rfl
      have z4 := Q.2.1 4 _ rfl
      have z5 := Q.2.1 5 _ rfl
      have z6 := Q.2.1 6 _ rfl
      have z7 := Q.2.1 7 _ rfl
      have f0 := Q.2.2 0
      have f1 := Q.2.2 1
      have f2 := Q.2.2 2
      have f3 := Q.2.2 3
      have f4 := Q.2.2 4
      have f5 := Q.2.2 5
      have f6 := Q.2.2 6
      have f7 := Q.2.2 7
      have nhq : qb ≠ w2.heap.size := by have := LH.out; omega
      have QQ := ((((((((Q.set 0 (.int .i64 hh) (by simp)).set 1 (.int .i64 he) (by simp)).set 2 (.string hr) (by simp)).set 3 (.string hp) (by simp)).set 4 (.int .i64 S.at_) (by simp)).set 5 (.slice a1 S.op.length c1) (by simp)).set 6 (.slice a2 S.sh.length c2) (by simp)).set 7 (.slice a3 S.si.length c3) (by simp))
      have SQ := ((((((((SO.far B1 B2 B3 0 (.int .i64 hh)).far B1 B2 B3 1 (.int .i64 he)).far B1 B2 B3 2 (.string hr)).far B1 B2 B3 3 (.string hp)).far B1 B2 B3 4 (.int .i64 S.at_)).far B1 B2 B3 5 (.slice a1 S.op.length c1)).far B1 B2 B3 6 (.slice a2 S.sh.length c2)).far B1 B2 B3 7 (.slice a3 S.si.length c3))
      have FQ := (fld_far (fld_far (fld_far (fld_far (fld_far (fld_far (fld_far (fld_far F3 nqb 0 (.int .i64 hh)) nqb 1 (.int .i64 he)) nqb 2 (.string hr)) nqb 3 (.string hp)) nqb 4 (.int .i64 S.at_)) nqb 5 (.slice a1 S.op.length c1)) nqb 6 (.slice a2 S.sh.length c2)) nqb 7 (.slice a3 S.si.length c3))
      have HQ := ((((((((H.far (c := qb) nhq 0 (.int .i64 hh)).far (c := qb) nhq 1 (.int .i64 he)).far (c := qb) nhq 2 (.string hr)).far (c := qb) nhq 3 (.string hp)).far (c := qb) nhq 4 (.int .i64 S.at_)).far (c := qb) nhq 5 (.slice a1 S.op.length c1)).far (c := qb) nhq 6 (.slice a2 S.sh.length c2)).far (c := qb) nhq 7 (.slice a3 S.si.length c3))
      have MQ : Mut b w3 ((((((((y2.setCell ⟨qb, 0, none⟩ (.int .i64 hh)).setCell ⟨qb, 1, none⟩ (.int .i64 he)).setCell ⟨qb, 2, none⟩ (.string hr)).setCell ⟨qb, 3, none⟩ (.string hp)).setCell ⟨qb, 4, none⟩ (.int .i64 S.at_)).setCell ⟨qb, 5, none⟩ (.slice a1 S.op.length c1)).setCell ⟨qb, 6, none⟩ (.slice a2 S.sh.length c2)).setCell ⟨qb, 7, none⟩ (.slice a3 S.si.length c3)) := (mut_new (mut_new (mut_new (mut_new (mut_new (mut_new (mut_new (mut_new M 0 (.int .i64 hh) lq) 1 (.int .i64 he) lq) 2 (.string hr) lq) 3 (.string hp) lq) 4 (.int .i64 S.at_) lq) 5 (.slice a1 S.op.length c1) lq) 6 (.slice a2 S.sh.length c2) lq) 7 (.slice a3 S.si.length c3) lq)
      clear H
      have H := HQ
      clear HQ
      (refine wpAnyH_ready (rs := [5]) (by kernel_rfl) (by simp) ?_; refine AllReadyH.cons rfl (fun K hK => ?_) AllReadyH.nil; (try simp only [zk1, zk2, zk3]))
      go_simp
      clear z0 f0 z1 f1 z2 f2 z3 f3 z4 f4 z5 f5 z6 f6 z7 f7
      generalize (((((((y2.setCell ⟨qb, 0, none⟩ (.int .i64 hh)).setCell ⟨qb, 1, none⟩ (.int .i64 he)).setCell ⟨qb, 2, none⟩ (.string hr)).setCell ⟨qb, 3, none⟩ (.string hp)).setCell ⟨qb, 4, none⟩ (.int .i64 S.at_)).setCell ⟨qb, 5, none⟩ (.slice a1 S.op.length c1)).setCell ⟨qb, 6, none⟩ (.slice a2 S.sh.length c2)).setCell ⟨qb, 7, none⟩ (.slice a3 S.si.length c3) = W6 at *
      (try dsimp only)
      refine hK.out _ _ (by exact ⟨H.2.1 0 _ rfl, H.2.1 1 _ rfl, H.2.1 2 _ rfl, H.2.1 3 _ rfl⟩) (fun hHeld => ?_)
      clear hK K
      refine wpAnyH_done (by kernel_rfl) ?_ _
      go_wp2_with fail
      go_meet
      exact ⟨qb, a1, a2, a3, c1, c2, c3, rfl, lq, QQ, SQ, FQ, MQ⟩
  case rest =>
    obtain ⟨qb, a1, a2, a3, c1, c2, c3, rfl, lq, Q, SO, F4, M4⟩ := hcut
    have R4 := R3.mut M4 hwb
    have MD := MC.trans M4
    have hb4 := Nat.lt_of_lt_of_le hb3 M4.size
    have lw3 : w.heap.size < (w2.alloc (Obj.cells #[.int .i64 hh, .int .i64 he, .string hr, .string hp] 26)).heap.size := R3.1
    have nqb : qb ≠ b := by omega
    generalize wc = V at *
    clear R3 F3 H MC h0 h1 h2 h3
    have LW := Lib.hid lq
    have SO2 := SO.mono (show w.heap.size + 1 ≤ (w2.alloc (Obj.cells #[.int .i64 hh, .int .i64 he, .string hr, .string hp] 26)).heap.size from lw3)
    have hq2 : w.heap.size < qb := Nat.lt_of_lt_of_le lw3 lq
    clear SO lq LW M4
    have q0 := Q.2.1 0 _ rfl
    have q1 := Q.2.1 1 _ rfl
    have q2 := Q.2.1 2 _ rfl
    have q3 := Q.2.1 3 _ rfl
    have q4 := Q.2.1 4 _ rfl
    have q5 := Q.2.1 5 _ rfl
    have q6 := Q.2.1 6 _ rfl
    have q7 := Q.2.1 7 _ rfl
    have c2b := F4.c2
    have f2b := F4.fz 2
    have HE := Lib.hid (show badE st.2 rk S = (st.2 || (!rk || !sigWell S)) from rfl)
    cases hk1 : st.2 || !rk
    · have hst2 : st.2 = false := by cases h : st.2 <;> simp_all
      have hrk : rk = true := by cases h : rk <;> simp_all
      rw [hst2] at c2b
      have HST2 := Lib.hid hst2
      clear hk1 hst2
      subst hrk
      cases hk2 : sigWell S
      · have HK2 := Lib.hid hk2
        have HBE := Lib.hid (show badE st.2 true S = true by rw [badE, HST2.out, hk2]; rfl)
        clear hk2
        go_wp2_with fail
        refine (impl_formed _ _ _ S _ SO2.1.strs SO2.2.1.strs SO2.2.2.1.strs HF.out).mono ?_
        rw [HK2.out]
        rintro e w8 ⟨rfl, x8⟩
        clear c2b f2b q0 q1 q2 q3 q4 q5 q6 q7
        replace Q := Q.ext x8
        replace R4 := R4.ext x8
        replace SO2 := SO2.ext x8
        replace F4 := F4.ext hb4 x8
        replace MD := MD.trans (Mut.of_ext x8)
        have lb8 := Nat.lt_of_lt_of_le hb4 x8.size
        have q0 := Q.2.1 0 _ rfl
        have q1 := Q.2.1 1 _ rfl
        have q2 := Q.2.1 2 _ rfl
        have q3 := Q.2.1 3 _ rfl
        have q4 := Q.2.1 4 _ rfl
        have q5 := Q.2.1 5 _ rfl
        have q6 := Q.2.1 6 _ rfl
        have q7 := Q.2.1 7 _ rfl
        have c2b := F4.c2
        have f2b := F4.fz 2
        have FF := F4.bad true
        have MF := MD.setCell 2 (.bool true)
        have QF := Q.far (c := b) nqb.symm 2 (.bool true)
        have RF0 := R4.far (c := b) hwb.symm 2 (.bool true)
        have SF0 := SO2.mut (by omega) ((Mut.refl b w8).setCell 2 (.bool true))
        have z0 := R4.2.1 0 _ rfl
        have z1 := R4.2.1 1 _ rfl
        have z2 := R4.2.1 2 _ rfl
        have z3 := R4.2.1 3 _ rfl
        have z4 := R4.2.1 4 _ rfl
        have z5 := R4.2.1 5 _ rfl
        have z6 := R4.2.1 6 _ rfl
        have z7 := R4.2.1 7 _ rfl
        have zf0 := R4.2.2 0
        have zf1 := R4.2.2 1
        have zf2 := R4.2.2 2
        have zf3 := R4.2.2 3
        have zf4 := R4.2.2 4
        have zf5 := R4.2.2 5
        have zf6 := R4.2.2 6
        have zf7 := R4.2.2 7
        have RR := ((((((((RF0.set 0 (.int .i64 hh) (by simp)).set 1 (.int .i64 he) (by simp)).set 2 (.string hr) (by simp)).set 3 (.string hp) (by simp)).set 4 (.int .i64 S.at_) (by simp)).set 5 (.slice a1 S.op.length c1) (by simp)).set 6 (.slice a2 S.sh.length c2) (by simp)).set 7 (.slice a3 S.si.length c3) (by simp))
        have SS := ((((((((SF0.set (b := w.heap.size) (by omega) 0 (.int .i64 hh)).set (b := w.heap.size) (by omega) 1 (.int .i64 he)).set (b := w.heap.size) (by omega) 2 (.string hr)).set (b := w.heap.size) (by omega) 3 (.string hp)).set (b := w.heap.size) (by omega) 4 (.int .i64 S.at_)).set (b := w.heap.size) (by omega) 5 (.slice a1 S.op.length c1)).set (b := w.heap.size) (by omega) 6 (.slice a2 S.sh.length c2)).set (b := w.heap.size) (by omega) 7 (.slice a3 S.si.length c3))
        have FR := (fld_far (fld_far (fld_far (fld_far (fld_far (fld_far (fld_far (fld_far FF hwb 0 (.int .i64 hh)) hwb 1 (.int .i64 he)) hwb 2 (.string hr)) hwb 3 (.string hp)) hwb 4 (.int .i64 S.at_)) hwb 5 (.slice a1 S.op.length c1)) hwb 6 (.slice a2 S.sh.length c2)) hwb 7 (.slice a3 S.si.length c3))
        have MR : Mut b w (((((((((w8.setCell ⟨b, 2, none⟩ (.bool true)).setCell ⟨w.heap.size, 0, none⟩ (.int .i64 hh)).setCell ⟨w.heap.size, 1, none⟩ (.int .i64 he)).setCell ⟨w.heap.size, 2, none⟩ (.string hr)).setCell ⟨w.heap.size, 3, none⟩ (.string hp)).setCell ⟨w.heap.size, 4, none⟩ (.int .i64 S.at_)).setCell ⟨w.heap.size, 5, none⟩ (.slice a1 S.op.length c1)).setCell ⟨w.heap.size, 6, none⟩ (.slice a2 S.sh.length c2)).setCell ⟨w.heap.size, 7, none⟩ (.slice a3 S.si.length c3)) := (mut_new (mut_new (mut_new (mut_new (mut_new (mut_new (mut_new (mut_new MF 0 (.int .i64 hh)) 1 (.int .i64 he)) 2 (.string hr)) 3 (.string hp)) 4 (.int .i64 S.at_)) 5 (.slice a1 S.op.length c1)) 6 (.slice a2 S.sh.length c2)) 7 (.slice a3 S.si.length c3))
        go_wp2
        generalize ((((((((w8.setCell ⟨b, 2, none⟩ (.bool true)).setCell ⟨w.heap.size, 0, none⟩ (.int .i64 hh)).setCell ⟨w.heap.size, 1, none⟩ (.int .i64 he)).setCell ⟨w.heap.size, 2, none⟩ (.string hr)).setCell ⟨w.heap.size, 3, none⟩ (.string hp)).setCell ⟨w.heap.size, 4, none⟩ (.int .i64 S.at_)).setCell ⟨w.heap.size, 5, none⟩ (.slice a1 S.op.length c1)).setCell ⟨w.heap.size, 6, none⟩ (.slice a2 S.sh.length c2)).setCell ⟨w.heap.size, 7, none⟩ (.slice a3 S.si.length c3) = WF at *
        clear c2b f2b z0 zf0 z1 zf1 z2 zf2 z3 zf3 z4 zf4 z5 zf5 z6 zf6 z7 zf7 q0 q1 q2 q3 q4 q5 q6 q7
        have k0 := RR.2.1 0 _ rfl
        have k1 := RR.2.1 1 _ rfl
        have k2 := RR.2.1 2 _ rfl
        have k3 := RR.2.1 3 _ rfl
        have k4 := RR.2.1 4 _ rfl
        have k5 := RR.2.1 5 _ rfl
        have k6 := RR.2.1 6 _ rfl
        have k7 := RR.2.1 7 _ rfl
        refine bodyPost_ret (v := .agg #[.int .i64 hh, .int .i64 he, .string hr, .string hp, .int .i64 S.at_, .slice a1 S.op.length c1, .slice a2 S.sh.length c2, .slice a3 S.si.length c3]) (by simp [results, Tryz.results39, go_sem, k0, k1, k2, k3, k4, k5, k6, k7]) rfl ?_
        exact ⟨a1, c1, a2, c2, a3, c3, rfl, SS.mono (Nat.le_succ _), by rw [HBE.out]; exact FR, MR⟩
      · have HK2 := Lib.hid hk2
        have HBE := Lib.hid (show badE st.2 true S = false by rw [badE, HST2.out, hk2]; rfl)
        clear hk2
        go_wp2_with fail
        refine (impl_formed _ _ _ S _ SO2.1.strs SO2.2.1.strs SO2.2.2.1.strs HF.out).mono ?_
        rw [HK2.out]
        rintro e w8 ⟨rfl, x8⟩
        clear c2b f2b q0 q1 q2 q3 q4 q5 q6 q7
        replace Q := Q.ext x8
        replace R4 := R4.ext x8
        replace SO2 := SO2.ext x8
        replace F4 := F4.ext hb4 x8
        replace MD := MD.trans (Mut.of_ext x8)
        have lb8 := Nat.lt_of_lt_of_le hb4 x8.size
        have q0 := Q.2.1 0 _ rfl
        have q1 := Q.2.1 1 _ rfl
        have q2 := Q.2.1 2 _ rfl
        have q3 := Q.2.1 3 _ rfl
        have q4 := Q.2.1 4 _ rfl
        have q5 := Q.2.1 5 _ rfl
        have q6 := Q.2.1 6 _ rfl
        have q7 := Q.2.1 7 _ rfl
        have c2b := F4.c2
        have f2b := F4.fz 2
        have FF := F4.bad false
        have MF := MD.setCell 2 (.bool false)
        have QF := Q.far (c := b) nqb.symm 2 (.bool false)
        have RF0 := R4.far (c := b) hwb.symm 2 (.bool false)
        have SF0 := SO2.mut (by omega) ((Mut.refl b w8).setCell 2 (.bool false))
        have z0 := R4.2.1 0 _ rfl
        have z1 := R4.2.1 1 _ rfl
        have z2 := R4.2.1 2 _ rfl
        have z3 := R4.2.1 3 _ rfl
        have z4 := R4.2.1 4 _ rfl
        have z5 := R4.2.1 5 _ rfl
        have z6 := R4.2.1 6 _ rfl
        have z7 := R4.2.1 7 _ rfl
        have zf0 := R4.2.2 0
        have zf1 := R4.2.2 1
        have zf2 := R4.2.2 2
        have zf3 := R4.2.2 3
        have zf4 := R4.2.2 4
        have zf5 := R4.2.2 5
        have zf6 := R4.2.2 6
        have zf7 := R4.2.2 7
        have RR := ((((((((RF0.set 0 (.int .i64 hh) (by simp)).set 1 (.int .i64 he) (by simp)).set 2 (.string hr) (by simp)).set 3 (.string hp) (by simp)).set 4 (.int .i64 S.at_) (by simp)).set 5 (.slice a1 S.op.length c1) (by simp)).set 6 (.slice a2 S.sh.length c2) (by simp)).set 7 (.slice a3 S.si.length c3) (by simp))
        have SS := ((((((((SF0.set (b := w.heap.size) (by omega) 0 (.int .i64 hh)).set (b := w.heap.size) (by omega) 1 (.int .i64 he)).set (b := w.heap.size) (by omega) 2 (.string hr)).set (b := w.heap.size) (by omega) 3 (.string hp)).set (b := w.heap.size) (by omega) 4 (.int .i64 S.at_)).set (b := w.heap.size) (by omega) 5 (.slice a1 S.op.length c1)).set (b := w.heap.size) (by omega) 6 (.slice a2 S.sh.length c2)).set (b := w.heap.size) (by omega) 7 (.slice a3 S.si.length c3))
        have FR := (fld_far (fld_far (fld_far (fld_far (fld_far (fld_far (fld_far (fld_far FF hwb 0 (.int .i64 hh)) hwb 1 (.int .i64 he)) hwb 2 (.string hr)) hwb 3 (.string hp)) hwb 4 (.int .i64 S.at_)) hwb 5 (.slice a1 S.op.length c1)) hwb 6 (.slice a2 S.sh.length c2)) hwb 7 (.slice a3 S.si.length c3))
        have MR : Mut b w (((((((((w8.setCell ⟨b, 2, none⟩ (.bool false)).setCell ⟨w.heap.size, 0, none⟩ (.int .i64 hh)).setCell ⟨w.heap.size, 1, none⟩ (.int .i64 he)).setCell ⟨w.heap.size, 2, none⟩ (.string hr)).setCell ⟨w.heap.size, 3, none⟩ (.string hp)).setCell ⟨w.heap.size, 4, none⟩ (.int .i64 S.at_)).setCell ⟨w.heap.size, 5, none⟩ (.slice a1 S.op.length c1)).setCell ⟨w.heap.size, 6, none⟩ (.slice a2 S.sh.length c2)).setCell ⟨w.heap.size, 7, none⟩ (.slice a3 S.si.length c3)) := (mut_new (mut_new (mut_new (mut_new (mut_new (mut_new (mut_new (mut_new MF 0 (.int .i64 hh)) 1 (.int .i64 he)) 2 (.string hr)) 3 (.string hp)) 4 (.int .i64 S.at_)) 5 (.slice a1 S.op.length c1)) 6 (.slice a2 S.sh.length c2)) 7 (.slice a3 S.si.length c3))
        go_wp2
        generalize ((((((((w8.setCell ⟨b, 2, none⟩ (.bool false)).setCell ⟨w.heap.size, 0, none⟩ (.int .i64 hh)).setCell ⟨w.heap.size, 1, none⟩ (.int .i64 he)).setCell ⟨w.heap.size, 2, none⟩ (.string hr)).setCell ⟨w.heap.size, 3, none⟩ (.string hp)).setCell ⟨w.heap.size, 4, none⟩ (.int .i64 S.at_)).setCell ⟨w.heap.size, 5, none⟩ (.slice a1 S.op.length c1)).setCell ⟨w.heap.size, 6, none⟩ (.slice a2 S.sh.length c2)).setCell ⟨w.heap.size, 7, none⟩ (.slice a3 S.si.length c3) = WF at *
        clear c2b f2b z0 zf0 z1 zf1 z2 zf2 z3 zf3 z4 zf4 z5 zf5 z6 zf6 z7 zf7 q0 q1 q2 q3 q4 q5 q6 q7
        have k0 := RR.2.1 0 _ rfl
        have k1 := RR.2.1 1 _ rfl
        have k2 := RR.2.1 2 _ rfl
        have k3 := RR.2.1 3 _ rfl
        have k4 := RR.2.1 4 _ rfl
        have k5 := RR.2.1 5 _ rfl
        have k6 := RR.2.1 6 _ rfl
        have k7 := RR.2.1 7 _ rfl
        refine bodyPost_ret (v := .agg #[.int .i64 hh, .int .i64 he, .string hr, .string hp, .int .i64 S.at_, .slice a1 S.op.length c1, .slice a2 S.sh.length c2, .slice a3 S.si.length c3]) (by simp [results, Tryz.results39, go_sem, k0, k1, k2, k3, k4, k5, k6, k7]) rfl ?_
        exact ⟨a1, c1, a2, c2, a3, c3, rfl, SS.mono (Nat.le_succ _), by rw [HBE.out]; exact FR, MR⟩
    · have HBE := Lib.hid (show badE st.2 rk S = true by rw [badE]; cases h1 : st.2 <;> cases h2 : rk <;> simp_all)
      have HK1 := Lib.hid hk1
      have hc : (st.2 = true) ∨ (st.2 = false ∧ rk = false) := by cases h1 : st.2 <;> cases h2 : rk <;> simp_all
      clear hk1
      rcases hc with hc | ⟨hc, rfl⟩
      · rw [hc] at c2b
        clear hc
        have FF := F4.bad true
        have MF := MD.setCell 2 (.bool true)
        have QF := Q.far (c := b) nqb.symm 2 (.bool true)
        have RF0 := R4.far (c := b) hwb.symm 2 (.bool true)
        have SF0 := SO2.mut (by omega) ((Mut.refl b V).setCell 2 (.bool true))
        have z0 := R4.2.1 0 _ rfl
        have z1 := R4.2.1 1 _ rfl
        have z2 := R4.2.1 2 _ rfl
        have z3 := R4.2.1 3 _ rfl
        have z4 := R4.2.1 4 _ rfl
        have z5 := R4.2.1 5 _ rfl
        have z6 := R4.2.1 6 _ rfl
        have z7 := R4.2.1 7 _ rfl
        have zf0 := R4.2.2 0
        have zf1 := R4.2.2 1
        have zf2 := R4.2.2 2
        have zf3 := R4.2.2 3
        have zf4 := R4.2.2 4
        have zf5 := R4.2.2 5
        have zf6 := R4.2.2 6
        have zf7 := R4.2.2 7
        have RR := ((((((((RF0.set 0 (.int .i64 hh) (by simp)).set 1 (.int .i64 he) (by simp)).set 2 (.string hr) (by simp)).set 3 (.string hp) (by simp)).set 4 (.int .i64 S.at_) (by simp)).set 5 (.slice a1 S.op.length c1) (by simp)).set 6 (.slice a2 S.sh.length c2) (by simp)).set 7 (.slice a3 S.si.length c3) (by simp))
        have SS := ((((((((SF0.set (b := w.heap.size) (by omega) 0 (.int .i64 hh)).set (b := w.heap.size) (by omega) 1 (.int .i64 he)).set (b := w.heap.size) (by omega) 2 (.string hr)).set (b := w.heap.size) (by omega) 3 (.string hp)).set (b := w.heap.size) (by omega) 4 (.int .i64 S.at_)).set (b := w.heap.size) (by omega) 5 (.slice a1 S.op.length c1)).set (b := w.heap.size) (by omega) 6 (.slice a2 S.sh.length c2)).set (b := w.heap.size) (by omega) 7 (.slice a3 S.si.length c3))
        have FR := (fld_far (fld_far (fld_far (fld_far (fld_far (fld_far (fld_far (fld_far FF hwb 0 (.int .i64 hh)) hwb 1 (.int .i64 he)) hwb 2 (.string hr)) hwb 3 (.string hp)) hwb 4 (.int .i64 S.at_)) hwb 5 (.slice a1 S.op.length c1)) hwb 6 (.slice a2 S.sh.length c2)) hwb 7 (.slice a3 S.si.length c3))
        have MR : Mut b w (((((((((V.setCell ⟨b, 2, none⟩ (.bool true)).setCell ⟨w.heap.size, 0, none⟩ (.int .i64 hh)).setCell ⟨w.heap.size, 1, none⟩ (.int .i64 he)).setCell ⟨w.heap.size, 2, none⟩ (.string hr)).setCell ⟨w.heap.size, 3, none⟩ (.string hp)).setCell ⟨w.heap.size, 4, none⟩ (.int .i64 S.at_)).setCell ⟨w.heap.size, 5, none⟩ (.slice a1 S.op.length c1)).setCell ⟨w.heap.size, 6, none⟩ (.slice a2 S.sh.length c2)).setCell ⟨w.heap.size, 7, none⟩ (.slice a3 S.si.length c3)) := (mut_new (mut_new (mut_new (mut_new (mut_new (mut_new (mut_new (mut_new MF 0 (.int .i64 hh)) 1 (.int .i64 he)) 2 (.string hr)) 3 (.string hp)) 4 (.int .i64 S.at_)) 5 (.slice a1 S.op.length c1)) 6 (.slice a2 S.sh.length c2)) 7 (.slice a3 S.si.length c3))
        go_wp2
        generalize ((((((((V.setCell ⟨b, 2, none⟩ (.bool true)).setCell ⟨w.heap.size, 0, none⟩ (.int .i64 hh)).setCell ⟨w.heap.size, 1, none⟩ (.int .i64 he)).setCell ⟨w.heap.size, 2, none⟩ (.string hr)).setCell ⟨w.heap.size, 3, none⟩ (.string hp)).setCell ⟨w.heap.size, 4, none⟩ (.int .i64 S.at_)).setCell ⟨w.heap.size, 5, none⟩ (.slice a1 S.op.length c1)).setCell ⟨w.heap.size, 6, none⟩ (.slice a2 S.sh.length c2)).setCell ⟨w.heap.size, 7, none⟩ (.slice a3 S.si.length c3) = WF at *
        clear c2b f2b z0 zf0 z1 zf1 z2 zf2 z3 zf3 z4 zf4 z5 zf5 z6 zf6 z7 zf7 q0 q1 q2 q3 q4 q5 q6 q7
        have k0 := RR.2.1 0 _ rfl
        have k1 := RR.2.1 1 _ rfl
        have k2 := RR.2.1 2 _ rfl
        have k3 := RR.2.1 3 _ rfl
        have k4 := RR.2.1 4 _ rfl
        have k5 := RR.2.1 5 _ rfl
        have k6 := RR.2.1 6 _ rfl
        have k7 := RR.2.1 7 _ rfl
        refine bodyPost_ret (v := .agg #[.int .i64 hh, .int .i64 he, .string hr, .string hp, .int .i64 S.at_, .slice a1 S.op.length c1, .slice a2 S.sh.length c2, .slice a3 S.si.length c3]) (by simp [results, Tryz.results39, go_sem, k0, k1, k2, k3, k4, k5, k6, k7]) rfl ?_
        exact ⟨a1, c1, a2, c2, a3, c3, rfl, SS.mono (Nat.le_succ _), by rw [HBE.out]; exact FR, MR⟩
      · rw [hc] at c2b
        clear hc
        have FF := F4.bad true
        have MF := MD.setCell 2 (.bool true)
        have QF := Q.far (c := b) nqb.symm 2 (.bool true)
        have RF0 := R4.far (c := b) hwb.symm 2 (.bool true)
        have SF0 := SO2.mut (by omega) ((Mut.refl b V).setCell 2 (.bool true))
        have z0 := R4.2.1 0 _ rfl
        have z1 := R4.2.1 1 _ rfl
        have z2 := R4.2.1 2 _ rfl
        have z3 := R4.2.1 3 _ rfl
        have z4 := R4.2.1 4 _ rfl
        have z5 := R4.2.1 5 _ rfl
        have z6 := R4.2.1 6 _ rfl
        have z7 := R4.2.1 7 _ rfl
        have zf0 := R4.2.2 0
        have zf1 := R4.2.2 1
        have zf2 := R4.2.2 2
        have zf3 := R4.2.2 3
        have zf4 := R4.2.2 4
        have zf5 := R4.2.2 5
        have zf6 := R4.2.2 6
        have zf7 := R4.2.2 7
        have RR := ((((((((RF0.set 0 (.int .i64 hh) (by simp)).set 1 (.int .i64 he) (by simp)).set 2 (.string hr) (by simp)).set 3 (.string hp) (by simp)).set 4 (.int .i64 S.at_) (by simp)).set 5 (.slice a1 S.op.length c1) (by simp)).set 6 (.slice a2 S.sh.length c2) (by simp)).set 7 (.slice a3 S.si.length c3) (by simp))
        have SS := ((((((((SF0.set (b := w.heap.size) (by omega) 0 (.int .i64 hh)).set (b := w.heap.size) (by omega) 1 (.int .i64 he)).set (b := w.heap.size) (by omega) 2 (.string hr)).set (b := w.heap.size) (by omega) 3 (.string hp)).set (b := w.heap.size) (by omega) 4 (.int .i64 S.at_)).set (b := w.heap.size) (by omega) 5 (.slice a1 S.op.length c1)).set (b := w.heap.size) (by omega) 6 (.slice a2 S.sh.length c2)).set (b := w.heap.size) (by omega) 7 (.slice a3 S.si.length c3))
        have FR := (fld_far (fld_far (fld_far (fld_far (fld_far (fld_far (fld_far (fld_far FF hwb 0 (.int .i64 hh)) hwb 1 (.int .i64 he)) hwb 2 (.string hr)) hwb 3 (.string hp)) hwb 4 (.int .i64 S.at_)) hwb 5 (.slice a1 S.op.length c1)) hwb 6 (.slice a2 S.sh.length c2)) hwb 7 (.slice a3 S.si.length c3))
        have MR : Mut b w (((((((((V.setCell ⟨b, 2, none⟩ (.bool true)).setCell ⟨w.heap.size, 0, none⟩ (.int .i64 hh)).setCell ⟨w.heap.size, 1, none⟩ (.int .i64 he)).setCell ⟨w.heap.size, 2, none⟩ (.string hr)).setCell ⟨w.heap.size, 3, none⟩ (.string hp)).setCell ⟨w.heap.size, 4, none⟩ (.int .i64 S.at_)).setCell ⟨w.heap.size, 5, none⟩ (.slice a1 S.op.length c1)).setCell ⟨w.heap.size, 6, none⟩ (.slice a2 S.sh.length c2)).setCell ⟨w.heap.size, 7, none⟩ (.slice a3 S.si.length c3)) := (mut_new (mut_new (mut_new (mut_new (mut_new (mut_new (mut_new (mut_new MF 0 (.int .i64 hh)) 1 (.int .i64 he)) 2 (.string hr)) 3 (.string hp)) 4 (.int .i64 S.at_)) 5 (.slice a1 S.op.length c1)) 6 (.slice a2 S.sh.length c2)) 7 (.slice a3 S.si.length c3))
        go_wp2
        generalize ((((((((V.setCell ⟨b, 2, none⟩ (.bool true)).setCell ⟨w.heap.size, 0, none⟩ (.int .i64 hh)).setCell ⟨w.heap.size, 1, none⟩ (.int .i64 he)).setCell ⟨w.heap.size, 2, none⟩ (.string hr)).setCell ⟨w.heap.size, 3, none⟩ (.string hp)).setCell ⟨w.heap.size, 4, none⟩ (.int .i64 S.at_)).setCell ⟨w.heap.size, 5, none⟩ (.slice a1 S.op.length c1)).setCell ⟨w.heap.size, 6, none⟩ (.slice a2 S.sh.length c2)).setCell ⟨w.heap.size, 7, none⟩ (.slice a3 S.si.length c3) = WF at *
        clear c2b f2b z0 zf0 z1 zf1 z2 zf2 z3 zf3 z4 zf4 z5 zf5 z6 zf6 z7 zf7 q0 q1 q2 q3 q4 q5 q6 q7
        have k0 := RR.2.1 0 _ rfl
        have k1 := RR.2.1 1 _ rfl
        have k2 := RR.2.1 2 _ rfl
        have k3 := RR.2.1 3 _ rfl
        have k4 := RR.2.1 4 _ rfl
        have k5 := RR.2.1 5 _ rfl
        have k6 := RR.2.1 6 _ rfl
        have k7 := RR.2.1 7 _ rfl
        refine bodyPost_ret (v := .agg #[.int .i64 hh, .int .i64 he, .string hr, .string hp, .int .i64 S.at_, .slice a1 S.op.length c1, .slice a2 S.sh.length c2, .slice a3 S.si.length c3]) (by simp [results, Tryz.results39, go_sem, k0, k1, k2, k3, k4, k5, k6, k7]) rfl ?_
        exact ⟨a1, c1, a2, c2, a3, c3, rfl, SS.mono (Nat.le_succ _), by rw [HBE.out]; exact FR, MR⟩
end Go.Proofs.YtkphipgfcbckcaaGreatDoor
namespace Go.Proofs.YtkphipgfcbckcaaGreatDoor
open Go.RowKit

theorem xt_size (t : ByteArray) (e : Nat) (h : e ≤ t.size) : (t.extract e t.size).size = t.size - e := by rw [ByteArray.size_extract]; omega
theorem xt_xt {t : ByteArray} {e i j : Nat} (h : e + j ≤ t.size) : (t.extract e t.size).extract i j = t.extract (e + i) (e + j) := by
  apply ba_ext
  rw [ba_extract, ba_extract, ba_extract, List.drop_take, List.drop_drop, List.take_take]
  congr 1
  omega
theorem one_xt {t : ByteArray} {e : Nat} (h : e < t.size) : oneOf (t.extract e t.size) 0 false = oneOf t e false := by
  have h1 := one_at t e h
  have h2 := one_at (t.extract e t.size) 0 (by rw [xt_size t e (by omega)]; omega)
  rw [show ((0 : Nat) : Int) = 0 from rfl] at h2
  rw [h1, h2, ba_extract]
  have hl : e < t.data.toList.length := by rw [ba_len]; exact h
  rw [List.drop_eq_getElem_cons hl, List.getD_eq_getElem?_getD, List.getD_eq_getElem?_getD, List.getElem?_eq_getElem hl]
  rw [show t.size - e = (t.size - e - 1) + 1 by omega, List.take_succ_cons]
  rfl
theorem rsV_xt {t : ByteArray} {e : Nat} (h : e + 321 ≤ t.size) : rsV (t.extract e t.size) 0 = rsV t e := by
  rw [rsV, rsV, show ((0 : Nat) : Int) = 0 from rfl, one_xt (by omega)]
  have hc : ∀ a n, a + n * 16 ≤ 321 → cutL (t.extract e t.size) (0 + a) n = cutL t (e + a) n := by
    intro a n hn
    rw [cutL, cutL]
    refine List.map_congr_left fun j hj => ?_
    rw [List.mem_range] at hj
    rw [xt_xt (by omega)]
    congr 1 <;> omega
  rw [hc 1 8 (by omega), hc 129 8 (by omega), hc 257 4 (by omega)]
theorem rdSig_xt {t : ByteArray} {e : Nat} (h : e ≤ t.size) : rdSig (t.extract e t.size) = (decide (e + 321 = t.size) && decide (oneOf t e false ≤ 15)) := by
  rw [rdSig, xt_size t e h]
  by_cases h2 : e + 321 = t.size
  · rw [decide_eq_true (by omega), decide_eq_true h2, one_xt (by omega)]
  · rw [decide_eq_false (by omega), decide_eq_false h2]; rfl
theorem shAt_yes {t : ByteArray} {a : Int} (h : rsOk t a = true) : shAt t a = rsE t a := by rw [shAt, if_pos h]
theorem shAt_no {t : ByteArray} {a : Int} (h : rsOk t a = false) : shAt t a = a := by rw [shAt, if_neg (by rw [h]; decide)]
/-- what the program's ReadSeal asks is what a signed head's text is -/
theorem se_done (t : ByteArray) : doneB t (sgS4 t (shAt t 0) (false || !rsOk t 0)).1 (badE (sgS4 t (shAt t 0) (false || !rsOk t 0)).2 (rdHead (rsT t 0)) (sgRd t (shAt t 0) (false || !rsOk t 0))) = seOk t := by
  cases hok : rsOk t 0
  · rw [shAt_no hok, seOk, hok]
    have hb : (sgS4 t 0 (false || !false)).2 = true := by
      cases hb : (sgS4 t 0 (false || !false)).2 with
      | true => rfl
      | false => have := (sgS4_false (t := t) (a := 0) (by omega) hb).1; simp at this
    rw [doneB, badE, hb]
    rfl
  · have he := rsE_bd t 0
    rw [shAt_yes hok, seOk, hok]
    generalize rsE t 0 = e at *
    cases hk : rdHead (rsT t 0)
    · rw [doneB, badE]; simp
    · have hle : e ≤ t.size := by omega
      rw [rdSig_xt hle]
      show doneB t (sgS4 t e false).1 (badE (sgS4 t e false).2 true (sgRd t e false)) = (true && (true && _))
      by_cases h : e + 321 ≤ t.size
      · obtain ⟨e1, e2⟩ := sgRd_yes h
        rw [e1, e2, doneB, badE, rsV_well h, Bool.eq_iff_iff]
        simp
        omega
      · have hb : (sgS4 t e false).2 = true := by
          cases hb : (sgS4 t e false).2 with
          | true => rfl
          | false => exact absurd (sgS4_false hle hb).2 h
        rw [doneB, badE, hb, decide_eq_false (show ¬ e + 321 = t.size by omega)]
        rfl
theorem se_val {t : ByteArray} (h : seOk t = true) : seI t = hdH (rsT t 0) ∧ seE t = hdE (rsT t 0) ∧ seR t = hdR (rsT t 0) ∧ seP t = hdP (rsT t 0) ∧ seV t = sgRd t (shAt t 0) (false || !rsOk t 0) := by
  obtain ⟨h1, h2, h3, h4, h5⟩ := se_yes h
  refine ⟨h1, h2, h3, h4, ?_⟩
  have h' := h
  rw [seOk, Bool.and_eq_true, Bool.and_eq_true] at h'
  obtain ⟨k1, k2, k3⟩ := h'
  have he := rsE_bd t 0
  rw [h5, k1, shAt_yes k1]
  have hle : rsE t 0 ≤ t.size := by omega
  have k3' := k3
  rw [rdSig_xt hle, Bool.and_eq_true, decide_eq_true_eq] at k3'
  rw [rdSigV_yes k3, rsV_xt (by omega)]
  exact (sgRd_yes (by omega)).1.symm
/-- the text of what was read is what was read -/
theorem se_text {t : ByteArray} (h : seOk t = true) : sealOk (seI t) (seE t) (seR t) (seP t) (seV t) = true ∧ sealT (seI t) (seE t) (seR t) (seP t) (seV t) = t := by
  obtain ⟨h1, h2, h3, h4, h5⟩ := se_yes h
  rw [seOk, Bool.and_eq_true, Bool.and_eq_true] at h
  obtain ⟨k1, k2, k3⟩ := h
  obtain ⟨b1, b2⟩ := text_back k2
  obtain ⟨c1, c2⟩ := rdSig_text k3
  rw [h1, h2, h3, h4, h5]
  have hs : sealOk (hdH (rsT t 0)) (hdE (rsT t 0)) (hdR (rsT t 0)) (hdP (rsT t 0)) (rdSigV (t.extract (rsE t 0) t.size)) = true := by rw [sealOk, b1, c1]; rfl
  refine ⟨hs, ?_⟩
  rw [sealT_yes hs, b2, c2]
  have hr := rs_text (t := t) (a := 0) k1
  rw [show ((0 : Nat) : Int) = 0 from rfl] at hr
  rw [← hr.1, xt_app (by omega) hr.2.2]
  exact xt_all t
set_option maxRecDepth 100000 in
set_option maxHeartbeats 3200000 in
theorem impl_ReadSeal (t : ByteArray) (w : World) (hs : t.size ≤ 1099511627776) :
    Calls Tryz.prog 12 #[.string t] w fun e w' => ∃ a1 c1 a2 c2 a3 c3, e = .returned (.tuple #[.agg #[.int .i64 (seI t), .int .i64 (seE t), .string (seR t), .string (seP t), .int .i64 (seV t).at_, .slice a1 (seV t).op.length c1, .slice a2 (seV t).sh.length c2, .slice a3 (seV t).si.length c3], .bool (seOk t)]) ∧ SigOwn w' w.heap.size (.slice a1 (seV t).op.length c1) (.slice a2 (seV t).sh.length c2) (.slice a3 (seV t).si.length c3) (seV t) ∧ Ext w w' := by
  have HNO := Lib.hid (fun h => se_no (t := t) h)
  have HYE := Lib.hid (fun h => se_val (t := t) h)
  have HDN := Lib.hid (se_done t)
  generalize seOk t = so at *
  generalize seI t = vi at *
  generalize seE t = ve at *
  generalize seR t = vr at *
  generalize seP t = vp at *
  generalize seV t = vs at *
  have x0 : Ext w ((w.alloc (Obj.cells #[.int .i64 0, .int .i64 0, .string ⟨#[]⟩, .string ⟨#[]⟩, .int .i64 0, .slice none 0 0, .slice none 0 0, .slice none 0 0] 32)).alloc (Obj.cells #[.string t, .int .i64 0, .bool false] 62)) := ((Ext.refl w).alloc _).alloc _
  have R : Bx ((w.alloc (Obj.cells #[.int .i64 0, .int .i64 0, .string ⟨#[]⟩, .string ⟨#[]⟩, .int .i64 0, .slice none 0 0, .slice none 0 0, .slice none 0 0] 32)).alloc (Obj.cells #[.string t, .int .i64 0, .bool false] 62)) w.heap.size [.int .i64 0, .int .i64 0, .string ⟨#[]⟩, .string ⟨#[]⟩, .int .i64 0, .slice none 0 0, .slice none 0 0, .slice none 0 0] := (Bx.new w _ _).ext ((Ext.refl _).alloc _)
  have B : Bx ((w.alloc (Obj.cells #[.int .i64 0, .int .i64 0, .string ⟨#[]⟩, .string ⟨#[]⟩, .int .i64 0, .slice none 0 0, .slice none 0 0, .slice none 0 0] 32)).alloc (Obj.cells #[.string t, .int .i64 0, .bool false] 62)) (w.heap.size + 1) [.string t, .int .i64 0, .bool false] := by have e := Bx.new (w.alloc (Obj.cells #[.int .i64 0, .int .i64 0, .string ⟨#[]⟩, .string ⟨#[]⟩, .int .i64 0, .slice none 0 0, .slice none 0 0, .slice none 0 0] 32)) #[.string t, .int .i64 0, .bool false] 62; rw [World.size_alloc] at e; exact e
  go_enter Tryz.func12, Tryz.ntmps12
  go_wp2_with fail
  generalize (w.alloc (Obj.cells #[.int .i64 0, .int .i64 0, .string ⟨#[]⟩, .string ⟨#[]⟩, .int .i64 0, .slice none 0 0, .slice none 0 0, .slice none 0 0] 32)).alloc (Obj.cells #[.string t, .int .i64 0, .bool false] 62) = W0 at *
  have F : Fld W0 (w.heap.size + 1) t 0 false := ⟨B.2.1 0 _ rfl, B.2.1 1 _ rfl, B.2.1 2 _ rfl, B.2.2⟩
  refine (impl_fields_seal (w.heap.size + 1) t 0 false _ F B.1 (by omega) hs).mono ?_
  generalize hdH (rsT t 0) = hh at *
  generalize hdE (rsT t 0) = he at *
  generalize hdR (rsT t 0) = hr at *
  generalize hdP (rsT t 0) = hp at *
  generalize sgRd t (shAt t 0) (false || !rsOk t 0) = S at *
  generalize sgS4 t (shAt t 0) (false || !rsOk t 0) = st at *
  generalize rdHead (rsT t 0) = rk at *
  generalize badE st.2 rk S = bd at *
  rintro e w1 ⟨a1, c1, a2, c2, a3, c3, rfl, so1, F1, M1⟩
  have R1 := R.mut M1 (by omega)
  have X1 : Ext w w1 := x0.mut M1 (by omega)
  have z1 := Nat.lt_of_lt_of_le B.1 M1.size
  have SO1 := so1.mono (show w.heap.size + 2 ≤ W0.heap.size from B.1)
  clear R F so1
  have e1 : Ext w1 (w1.alloc (Obj.cells #[.int .i64 hh, .int .i64 he, .string hr, .string hp, .int .i64 S.at_, .slice a1 S.op.length c1, .slice a2 S.sh.length c2, .slice a3 S.si.length c3] 32)) := (Ext.refl _).alloc _
  have Q := Bx.new w1 #[.int .i64 hh, .int .i64 he, .string hr, .string hp, .int .i64 S.at_, .slice a1 S.op.length c1, .slice a2 S.sh.length c2, .slice a3 S.si.length c3] 32
  have R := R1.ext e1
  have X := X1.trans e1
  have SO := SO1.ext e1
  have F2 := F1.ext z1 e1
  clear R1 X1 SO1 F1
  cases hk : doneB t st.1 bd
  · have HSO := Lib.hid (hk.symm.trans HDN.out)
    have HK := Lib.hid hk
    clear hk HDN
    have HV := Lib.hid (HNO.out HSO.out.symm)
    go_wp2_with fail
    generalize w1.alloc (Obj.cells #[.int .i64 hh, .int .i64 he, .string hr, .string hp, .int .i64 S.at_, .slice a1 S.op.length c1, .slice a2 S.sh.length c2, .slice a3 S.si.length c3] 32) = W2 at *
    refine (impl_fields_done _ t st.1 bd _ F2).mono ?_
    rw [HK.out]
    rintro e w3 ⟨rfl, x3⟩
    replace R := R.ext x3
    replace X := X.trans x3
    replace SO := SO.ext x3
    replace Q := Q.ext x3
    have z0 := R.2.1 0 _ rfl
    have z1 := R.2.1 1 _ rfl
    have z2 := R.2.1 2 _ rfl
    have z3 := R.2.1 3 _ rfl
    have z4 := R.2.1 4 _ rfl
    have z5 := R.2.1 5 _ rfl
    have z6 := R.2.1 6 _ rfl
    have z7 := R.2.1 7 _ rfl
    have f0 := R.2.2 0
    have f1 := R.2.2 1
    have f2 := R.2.2 2
    have f3 := R.2.2 3
    have f4 := R.2.2 4
    have f5 := R.2.2 5
    have f6 := R.2.2 6
    have f7 := R.2.2 7
    have XF : Ext w ((((((((w3.setCell ⟨w.heap.size, 0, none⟩ (.int .i64 0)).setCell ⟨w.heap.size, 1, none⟩ (.int .i64 0)).setCell ⟨w.heap.size, 2, none⟩ (.string ⟨#[]⟩)).setCell ⟨w.heap.size, 3, none⟩ (.string ⟨#[]⟩)).setCell ⟨w.heap.size, 4, none⟩ (.int .i64 0)).setCell ⟨w.heap.size, 5, none⟩ (.slice none 0 0)).setCell ⟨w.heap.size, 6, none⟩ (.slice none 0 0)).setCell ⟨w.heap.size, 7, none⟩ (.slice none 0 0)) := ((((((((X.setCell (by dsimp only; omega) _).setCell (by dsimp only; omega) _).setCell (by dsimp only; omega) _).setCell (by dsimp only; omega) _).setCell (by dsimp only; omega) _).setCell (by dsimp only; omega) _).setCell (by dsimp only; omega) _).setCell (by dsimp only; omega) _)
    have RF := ((((((((R.set 0 (.int .i64 0) (by simp)).set 1 (.int .i64 0) (by simp)).set 2 (.string ⟨#[]⟩) (by simp)).set 3 (.string ⟨#[]⟩) (by simp)).set 4 (.int .i64 0) (by simp)).set 5 (.slice none 0 0) (by simp)).set 6 (.slice none 0 0) (by simp)).set 7 (.slice none 0 0) (by simp))
    go_wp2
    generalize (((((((w3.setCell ⟨w.heap.size, 0, none⟩ (.int .i64 0)).setCell ⟨w.heap.size, 1, none⟩ (.int .i64 0)).setCell ⟨w.heap.size, 2, none⟩ (.string ⟨#[]⟩)).setCell ⟨w.heap.size, 3, none⟩ (.string ⟨#[]⟩)).setCell ⟨w.heap.size, 4, none⟩ (.int .i64 0)).setCell ⟨w.heap.size, 5, none⟩ (.slice none 0 0)).setCell ⟨w.heap.size, 6, none⟩ (.slice none 0 0)).setCell ⟨w.heap.size, 7, none⟩ (.slice none 0 0) = WF at *
    clear z0 f0 z1 f1 z2 f2 z3 f3 z4 f4 z5 f5 z6 f6 z7 f7
    have k0 := RF.2.1 0 _ rfl
    have k1 := RF.2.1 1 _ rfl
    have k2 := RF.2.1 2 _ rfl
    have k3 := RF.2.1 3 _ rfl
    have k4 := RF.2.1 4 _ rfl
    have k5 := RF.2.1 5 _ rfl
    have k6 := RF.2.1 6 _ rfl
    have k7 := RF.2.1 7 _ rfl
    refine bodyPost_ret (v := .tuple #[.agg #[.int .i64 0, .int .i64 0, .string ⟨#[]⟩, .string ⟨#[]⟩, .int .i64 0, .slice none 0 0, .slice none 0 0, .slice none 0 0], .bool false]) (by simp [results, Tryz.results12, go_sem, k0, k1, k2, k3, k4, k5, k6, k7]) rfl ?_
    rw [HV.out.1, HV.out.2.1, HV.out.2.2.1, HV.out.2.2.2.1, HV.out.2.2.2.2, ← HSO.out]
    exact ⟨none, 0, none, 0, none, 0, rfl, sigOwn_nil _ _, XF⟩
  · have HSO := Lib.hid (hk.symm.trans HDN.out)
    have HK := Lib.hid hk
    clear hk HDN
    have HV := Lib.hid (HYE.out HSO.out.symm)
    go_wp2_with fail
    generalize w1.alloc (Obj.cells #[.int .i64 hh, .int .i64 he, .string hr, .string hp, .int .i64 S.at_, .slice a1 S.op.length c1, .slice a2 S.sh.length c2, .slice a3 S.si.length c3] 32) = W2 at *
    refine (impl_fields_done _ t st.1 bd _ F2).mono ?_
    rw [HK.out]
    rintro e w3 ⟨rfl, x3⟩
    replace R := R.ext x3
    replace X := X.trans x3
    replace SO := SO.ext x3
    replace Q := Q.ext x3
    have q0 := Q.2.1 0 _ rfl
    have q1 := Q.2.1 1 _ rfl
    have q2 := Q.2.1 2 _ rfl
    have q3 := Q.2.1 3 _ rfl
    have q4 := Q.2.1 4 _ rfl
    have q5 := Q.2.1 5 _ rfl
    have q6 := Q.2.1 6 _ rfl
    have q7 := Q.2.1 7 _ rfl
    have z0 := R.2.1 0 _ rfl
    have z1 := R.2.1 1 _ rfl
    have z2 := R.2.1 2 _ rfl
    have z3 := R.2.1 3 _ rfl
    have z4 := R.2.1 4 _ rfl
    have z5 := R.2.1 5 _ rfl
    have z6 := R.2.1 6 _ rfl
    have z7 := R.2.1 7 _ rfl
    have f0 := R.2.2 0
    have f1 := R.2.2 1
    have f2 := R.2.2 2
    have f3 := R.2.2 3
    have f4 := R.2.2 4
    have f5 := R.2.2 5
    have f6 := R.2.2 6
    have f7 := R.2.2 7
    have XF : Ext w ((((((((w3.setCell ⟨w.heap.size, 0, none⟩ (.int .i64 hh)).setCell ⟨w.heap.size, 1, none⟩ (.int .i64 he)).setCell ⟨w.heap.size, 2, none⟩ (.string hr)).setCell ⟨w.heap.size, 3, none⟩ (.string hp)).setCell ⟨w.heap.size, 4, none⟩ (.int .i64 S.at_)).setCell ⟨w.heap.size, 5, none⟩ (.slice a1 S.op.length c1)).setCell ⟨w.heap.size, 6, none⟩ (.slice a2 S.sh.length c2)).setCell ⟨w.heap.size, 7, none⟩ (.slice a3 S.si.length c3)) := ((((((((X.setCell (by dsimp only; omega) _).setCell (by dsimp only; omega) _).setCell (by dsimp only; omega) _).setCell (by dsimp only; omega) _).setCell (by dsimp only; omega) _).setCell (by dsimp only; omega) _).setCell (by dsimp only; omega) _).setCell (by dsimp only; omega) _)
    have RF := ((((((((R.set 0 (.int .i64 hh) (by simp)).set 1 (.int .i64 he) (by simp)).set 2 (.string hr) (by simp)).set 3 (.string hp) (by simp)).set 4 (.int .i64 S.at_) (by simp)).set 5 (.slice a1 S.op.length c1) (by simp)).set 6 (.slice a2 S.sh.length c2) (by simp)).set 7 (.slice a3 S.si.length c3) (by simp))
    have SF := ((((((((SO.set (b := w.heap.size) (by omega) 0 (.int .i64 hh)).set (b := w.heap.size) (by omega) 1 (.int .i64 he)).set (b := w.heap.size) (by omega) 2 (.string hr)).set (b := w.heap.size) (by omega) 3 (.string hp)).set (b := w.heap.size) (by omega) 4 (.int .i64 S.at_)).set (b := w.heap.size) (by omega) 5 (.slice a1 S.op.length c1)).set (b := w.heap.size) (by omega) 6 (.slice a2 S.sh.length c2)).set (b := w.heap.size) (by omega) 7 (.slice a3 S.si.length c3))
    go_wp2
    generalize (((((((w3.setCell ⟨w.heap.size, 0, none⟩ (.int .i64 hh)).setCell ⟨w.heap.size, 1, none⟩ (.int .i64 he)).setCell ⟨w.heap.size, 2, none⟩ (.string hr)).setCell ⟨w.heap.size, 3, none⟩ (.string hp)).setCell ⟨w.heap.size, 4, none⟩ (.int .i64 S.at_)).setCell ⟨w.heap.size, 5, none⟩ (.slice a1 S.op.length c1)).setCell ⟨w.heap.size, 6, none⟩ (.slice a2 S.sh.length c2)).setCell ⟨w.heap.size, 7, none⟩ (.slice a3 S.si.length c3) = WF at *
    clear z0 f0 z1 f1 z2 f2 z3 f3 z4 f4 z5 f5 z6 f6 z7 f7
    have k0 := RF.2.1 0 _ rfl
    have k1 := RF.2.1 1 _ rfl
    have k2 := RF.2.1 2 _ rfl
    have k3 := RF.2.1 3 _ rfl
    have k4 := RF.2.1 4 _ rfl
    have k5 := RF.2.1 5 _ rfl
    have k6 := RF.2.1 6 _ rfl
    have k7 := RF.2.1 7 _ rfl
    refine bodyPost_ret (v := .tuple #[.agg #[.int .i64 hh, .int .i64 he, .string hr, .string hp, .int .i64 S.at_, .slice a1 S.op.length c1, .slice a2 S.sh.length c2, .slice a3 S.si.length c3], .bool true]) (by simp [results, Tryz.results12, go_sem, k0, k1, k2, k3, k4, k5, k6, k7]) rfl ?_
    rw [HV.out.1, HV.out.2.1, HV.out.2.2.1, HV.out.2.2.2.1, HV.out.2.2.2.2, ← HSO.out]
    exact ⟨a1, c1, a2, c2, a3, c3, rfl, SF.mono (by omega), XF⟩
theorem rdSigV_fit (t : ByteArray) : SigFit (rdSigV t) := by
  rw [rdSigV]
  split
  · refine ⟨fun s hs => Nat.le_trans (cutL_le t _ _ s hs) (by decide), fun s hs => Nat.le_trans (cutL_le t _ _ s hs) (by decide), fun s hs => Nat.le_trans (cutL_le t _ _ s hs) (by decide)⟩
  · exact ⟨fun s hs => by simp at hs, fun s hs => by simp at hs, fun s hs => by simp at hs⟩
set_option maxRecDepth 100000 in
set_option maxHeartbeats 3200000 in
theorem spec_ReadSeal (t : ByteArray) (w : World) (hs : t.size ≤ 1099511627776) :
    Calls Tryz.prog 13 #[.string t] w fun e w' => ∃ a1 c1 a2 c2 a3 c3, e = .returned (.tuple #[.agg #[.int .i64 (seI t), .int .i64 (seE t), .string (seR t), .string (seP t), .int .i64 (seV t).at_, .slice a1 (seV t).op.length c1, .slice a2 (seV t).sh.length c2, .slice a3 (seV t).si.length c3], .bool (seOk t)]) ∧ SigOwn w' w.heap.size (.slice a1 (seV t).op.length c1) (.slice a2 (seV t).sh.length c2) (.slice a3 (seV t).si.length c3) (seV t) ∧ Ext w w' := by
  have HNO := Lib.hid (fun h => se_no (t := t) h)
  have HYE := Lib.hid (fun h => se_yes (t := t) h)
  have HTX := Lib.hid (fun h => se_text (t := t) h)
  have HDF := Lib.hid (show seOk t = (rsOk t 0 && (rdHead (rsT t 0) && rdSig (t.extract (rsE t 0) t.size))) from rfl)
  generalize seOk t = so at *
  generalize seI t = vi at *
  generalize seE t = ve at *
  generalize seR t = vr at *
  generalize seP t = vp at *
  generalize seV t = vs at *
  have x0 : Ext w ((w.alloc (Obj.cells #[.int .i64 0, .int .i64 0, .string ⟨#[]⟩, .string ⟨#[]⟩, .int .i64 0, .slice none 0 0, .slice none 0 0, .slice none 0 0] 32)).alloc (Obj.cells #[.string t, .int .i64 0, .bool false] 67)) := ((Ext.refl w).alloc _).alloc _
  have R : Bx ((w.alloc (Obj.cells #[.int .i64 0, .int .i64 0, .string ⟨#[]⟩, .string ⟨#[]⟩, .int .i64 0, .slice none 0 0, .slice none 0 0, .slice none 0 0] 32)).alloc (Obj.cells #[.string t, .int .i64 0, .bool false] 67)) w.heap.size [.int .i64 0, .int .i64 0, .string ⟨#[]⟩, .string ⟨#[]⟩, .int .i64 0, .slice none 0 0, .slice none 0 0, .slice none 0 0] := (Bx.new w _ _).ext ((Ext.refl _).alloc _)
  have B : Bx ((w.alloc (Obj.cells #[.int .i64 0, .int .i64 0, .string ⟨#[]⟩, .string ⟨#[]⟩, .int .i64 0, .slice none 0 0, .slice none 0 0, .slice none 0 0] 32)).alloc (Obj.cells #[.string t, .int .i64 0, .bool false] 67)) (w.heap.size + 1) [.string t, .int .i64 0, .bool false] := by have e := Bx.new (w.alloc (Obj.cells #[.int .i64 0, .int .i64 0, .string ⟨#[]⟩, .string ⟨#[]⟩, .int .i64 0, .slice none 0 0, .slice none 0 0, .slice none 0 0] 32)) #[.string t, .int .i64 0, .bool false] 67; rw [World.size_alloc] at e; exact e
  have he := rsE_bd t 0
  have hz := rsT_le t 0
  go_enter Tryz.func13, Tryz.ntmps13
  go_wp2_with fail
  generalize (w.alloc (Obj.cells #[.int .i64 0, .int .i64 0, .string ⟨#[]⟩, .string ⟨#[]⟩, .int .i64 0, .slice none 0 0, .slice none 0 0, .slice none 0 0] 32)).alloc (Obj.cells #[.string t, .int .i64 0, .bool false] 67) = W0 at *
  have F : Fld W0 (w.heap.size + 1) t 0 false := ⟨B.2.1 0 _ rfl, B.2.1 1 _ rfl, B.2.1 2 _ rfl, B.2.2⟩
  refine (spec_l09Short (w.heap.size + 1) t 0 false _ F B.1 rfl hs).mono ?_
  have HSY := Lib.hid (fun h => shAt_yes (t := t) (a := 0) h)
  generalize rsT t 0 = ht at *
  generalize shAt t 0 = sa at *
  generalize rsE t 0 = ee at *
  generalize rsOk t 0 = ok at *
  rintro e w1 ⟨rfl, M1, F1⟩
  have R1 := R.mut M1 (by omega)
  have X1 : Ext w w1 := x0.mut M1 (by omega)
  have z1 := Nat.lt_of_lt_of_le B.1 M1.size
  clear R F
  go_wp2_with fail
  refine (spec_ReadHead ht _ (by omega)).mono ?_
  generalize hdH ht = hh at *
  generalize hdE ht = hee at *
  generalize hdR ht = hr at *
  generalize hdP ht = hp at *
  generalize rdHead ht = rk at *
  rintro e w2 ⟨rfl, x2⟩
  have x3 : Ext w2 (w2.alloc (Obj.cells #[.int .i64 hh, .int .i64 hee, .string hr, .string hp] 26)) := (Ext.refl _).alloc _
  have H := Bx.new w2 #[.int .i64 hh, .int .i64 hee, .string hr, .string hp] 26
  have R := (R1.ext x2).ext x3
  have X := (X1.trans x2).trans x3
  have z2 := Nat.lt_of_lt_of_le z1 x2.size
  have F2 := (F1.ext z1 x2).ext z2 x3
  have z3 := Nat.lt_of_lt_of_le z2 x3.size
  clear R1 X1 F1 x2 x3
  have c2b := F2.c2
  have c1b := F2.c1
  cases ok
  · have HSO := Lib.hid (show so = false by rw [HDF.out]; rfl)
    have HV := Lib.hid (HNO.out HSO.out)
    have z0 := R.2.1 0 _ rfl
    have z1 := R.2.1 1 _ rfl
    have z2 := R.2.1 2 _ rfl
    have z3 := R.2.1 3 _ rfl
    have z4 := R.2.1 4 _ rfl
    have z5 := R.2.1 5 _ rfl
    have z6 := R.2.1 6 _ rfl
    have z7 := R.2.1 7 _ rfl
    have f0 := R.2.2 0
    have f1 := R.2.2 1
    have f2 := R.2.2 2
    have f3 := R.2.2 3
    have f4 := R.2.2 4
    have f5 := R.2.2 5
    have f6 := R.2.2 6
    have f7 := R.2.2 7
    have XF : Ext w (((((((((w2.alloc (Obj.cells #[.int .i64 hh, .int .i64 hee, .string hr, .string hp] 26)).setCell ⟨w.heap.size, 0, none⟩ (.int .i64 0)).setCell ⟨w.heap.size, 1, none⟩ (.int .i64 0)).setCell ⟨w.heap.size, 2, none⟩ (.string ⟨#[]⟩)).setCell ⟨w.heap.size, 3, none⟩ (.string ⟨#[]⟩)).setCell ⟨w.heap.size, 4, none⟩ (.int .i64 0)).setCell ⟨w.heap.size, 5, none⟩ (.slice none 0 0)).setCell ⟨w.heap.size, 6, none⟩ (.slice none 0 0)).setCell ⟨w.heap.size, 7, none⟩ (.slice none 0 0)) := ((((((((X.setCell (by dsimp only; omega) _).setCell (by dsimp only; omega) _).setCell (by dsimp only; omega) _).setCell (by dsimp only; omega) _).setCell (by dsimp only; omega) _).setCell (by dsimp only; omega) _).setCell (by dsimp only; omega) _).setCell (by dsimp only; omega) _)
    have RF := ((((((((R.set 0 (.int .i64 0) (by simp)).set 1 (.int .i64 0) (by simp)).set 2 (.string ⟨#[]⟩) (by simp)).set 3 (.string ⟨#[]⟩) (by simp)).set 4 (.int .i64 0) (by simp)).set 5 (.slice none 0 0) (by simp)).set 6 (.slice none 0 0) (by simp)).set 7 (.slice none 0 0) (by simp))
    go_wp2
    generalize ((((((((w2.alloc (Obj.cells #[.int .i64 hh, .int .i64 hee, .string hr, .string hp] 26)).setCell ⟨w.heap.size, 0, none⟩ (.int .i64 0)).setCell ⟨w.heap.size, 1, none⟩ (.int .i64 0)).setCell ⟨w.heap.size, 2, none⟩ (.string ⟨#[]⟩)).setCell ⟨w.heap.size, 3, none⟩ (.string ⟨#[]⟩)).setCell ⟨w.heap.size, 4, none⟩ (.int .i64 0)).setCell ⟨w.heap.size, 5, none⟩ (.slice none 0 0)).setCell ⟨w.heap.size, 6, none⟩ (.slice none 0 0)).setCell ⟨w.heap.size, 7, none⟩ (.slice none 0 0) = WF at *
    clear z0 f0 z1 f1 z2 f2 z3 f3 z4 f4 z5 f5 z6 f6 z7 f7
    have k0 := RF.2.1 0 _ rfl
    have k1 := RF.2.1 1 _ rfl
    have k2 := RF.2.1 2 _ rfl
    have k3 := RF.2.1 3 _ rfl
    have k4 := RF.2.1 4 _ rfl
    have k5 := RF.2.1 5 _ rfl
    have k6 := RF.2.1 6 _ rfl
    have k7 := RF.2.1 7 _ rfl
    refine bodyPost_ret (v := .tuple #[.agg #[.int .i64 0, .int .i64 0, .string ⟨#[]⟩, .string ⟨#[]⟩, .int .i64 0, .slice none 0 0, .slice none 0 0, .slice none 0 0], .bool false]) (by simp [results, Tryz.results13, go_sem, k0, k1, k2, k3, k4, k5, k6, k7]) rfl ?_
    rw [HV.out.1, HV.out.2.1, HV.out.2.2.1, HV.out.2.2.2.1, HV.out.2.2.2.2, HSO.out]
    exact ⟨none, 0, none, 0, none, 0, rfl, sigOwn_nil _ _, XF⟩
  · cases rk
    · have HSO := Lib.hid (show so = false by rw [HDF.out]; rfl)
      have HV := Lib.hid (HNO.out HSO.out)
      have z0 := R.2.1 0 _ rfl
      have z1 := R.2.1 1 _ rfl
      have z2 := R.2.1 2 _ rfl
      have z3 := R.2.1 3 _ rfl
      have z4 := R.2.1 4 _ rfl
      have z5 := R.2.1 5 _ rfl
      have z6 := R.2.1 6 _ rfl
      have z7 := R.2.1 7 _ rfl
      have f0 := R.2.2 0
      have f1 := R.2.2 1
      have f2 := R.2.2 2
      have f3 := R.2.2 3
      have f4 := R.2.2 4
      have f5 := R.2.2 5
      have f6 := R.2.2 6
      have f7 := R.2.2 7
      have XF : Ext w (((((((((w2.alloc (Obj.cells #[.int .i64 hh, .int .i64 hee, .string hr, .string hp] 26)).setCell ⟨w.heap.size, 0, none⟩ (.int .i64 0)).setCell ⟨w.heap.size, 1, none⟩ (.int .i64 0)).setCell ⟨w.heap.size, 2, none⟩ (.string ⟨#[]⟩)).setCell ⟨w.heap.size, 3, none⟩ (.string ⟨#[]⟩)).setCell ⟨w.heap.size, 4, none⟩ (.int .i64 0)).setCell ⟨w.heap.size, 5, none⟩ (.slice none 0 0)).setCell ⟨w.heap.size, 6, none⟩ (.slice none 0 0)).setCell ⟨w.heap.size, 7, none⟩ (.slice none 0 0)) := ((((((((X.setCell (by dsimp only; omega) _).setCell (by dsimp only; omega) _).setCell (by dsimp only; omega) _).setCell (by dsimp only; omega) _).setCell (by dsimp only; omega) _).setCell (by dsimp only; omega) _).setCell (by dsimp only; omega) _).setCell (by dsimp only; omega) _)
      have RF := ((((((((R.set 0 (.int .i64 0) (by simp)).set 1 (.int .i64 0) (by simp)).set 2 (.string ⟨#[]⟩) (by simp)).set 3 (.string ⟨#[]⟩) (by simp)).set 4 (.int .i64 0) (by simp)).set 5 (.slice none 0 0) (by simp)).set 6 (.slice none 0 0) (by simp)).set 7 (.slice none 0 0) (by simp))
      go_wp2
      generalize ((((((((w2.alloc (Obj.cells #[.int .i64 hh, .int .i64 hee, .string hr, .string hp] 26)).setCell ⟨w.heap.size, 0, none⟩ (.int .i64 0)).setCell ⟨w.heap.size, 1, none⟩ (.int .i64 0)).setCell ⟨w.heap.size, 2, none⟩ (.string ⟨#[]⟩)).setCell ⟨w.heap.size, 3, none⟩ (.string ⟨#[]⟩)).setCell ⟨w.heap.size, 4, none⟩ (.int .i64 0)).setCell ⟨w.heap.size, 5, none⟩ (.slice none 0 0)).setCell ⟨w.heap.size, 6, none⟩ (.slice none 0 0)).setCell ⟨w.heap.size, 7, none⟩ (.slice none 0 0) = WF at *
      clear z0 f0 z1 f1 z2 f2 z3 f3 z4 f4 z5 f5 z6 f6 z7 f7
      have k0 := RF.2.1 0 _ rfl
      have k1 := RF.2.1 1 _ rfl
      have k2 := RF.2.1 2 _ rfl
      have k3 := RF.2.1 3 _ rfl
      have k4 := RF.2.1 4 _ rfl
      have k5 := RF.2.1 5 _ rfl
      have k6 := RF.2.1 6 _ rfl
      have k7 := RF.2.1 7 _ rfl
      refine bodyPost_ret (v := .tuple #[.agg #[.int .i64 0, .int .i64 0, .string ⟨#[]⟩, .string ⟨#[]⟩, .int .i64 0, .slice none 0 0, .slice none 0 0, .slice none 0 0], .bool false]) (by simp [results, Tryz.results13, go_sem, k0, k1, k2, k3, k4, k5, k6, k7]) rfl ?_
      rw [HV.out.1, HV.out.2.1, HV.out.2.2.1, HV.out.2.2.2.1, HV.out.2.2.2.2, HSO.out]
      exact ⟨none, 0, none, 0, none, 0, rfl, sigOwn_nil _ _, XF⟩
    · have hsa : sa = (ee : Int) := HSY.out rfl
      subst hsa
      have hel : ee ≤ t.size := by omega
      have n1 : ((ee : Nat) : Int).toNat = ee := rfl
      have h0 := H.2.1 0 _ rfl
      have h1 := H.2.1 1 _ rfl
      have h2 := H.2.1 2 _ rfl
      have h3 := H.2.1 3 _ rfl
      have HRS := Lib.hid (show so = rdSig (t.extract ee t.size) by rw [HDF.out]; rfl)
      go_wp2_with fail
      generalize hsx : t.extract ee t.size = sx at *
      have hsxz : sx.size ≤ t.size := by rw [← hsx, ByteArray.size_extract]; omega
      clear hsx
      generalize w2.alloc (Obj.cells #[.int .i64 hh, .int .i64 hee, .string hr, .string hp] 26) = w3 at *
      refine (spec_ReadSig sx _ (by omega)).mono ?_
      have HNV := Lib.hid (fun h => rdSigV_no (t := sx) h)
      have HWL := Lib.hid (fun h => (rdSig_text (t := sx) h).1)
      have HCL := Lib.hid (show SigFit (rdSigV sx) from rdSigV_fit sx)
      generalize rdSigV sx = S at *
      generalize hrd : rdSig sx = rd at *
      have HRD := Lib.hid hrd
      clear hrd
      rintro e w4 ⟨a1, c1, a2, c2, a3, c3, rfl, so4, x4⟩
      have SO := so4.mono (show w.heap.size + 2 ≤ w3.heap.size by omega)
      clear so4 h0 h1 h2 h3 c1b c2b
      replace R := R.ext x4
      replace X := X.trans x4
      replace H := H.ext x4
      replace F2 := F2.ext z3 x4
      replace z3 := Nat.lt_of_lt_of_le z3 (Ext.size x4)
      have h0 := (H.ext ((Ext.refl _).alloc (Obj.cells #[.int .i64 S.at_, .slice a1 S.op.length c1, .slice a2 S.sh.length c2, .slice a3 S.si.length c3] 30))).2.1 0 _ rfl
      have h1 := (H.ext ((Ext.refl _).alloc (Obj.cells #[.int .i64 S.at_, .slice a1 S.op.length c1, .slice a2 S.sh.length c2, .slice a3 S.si.length c3] 30))).2.1 1 _ rfl
      have h2 := (H.ext ((Ext.refl _).alloc (Obj.cells #[.int .i64 S.at_, .slice a1 S.op.length c1, .slice a2 S.sh.length c2, .slice a3 S.si.length c3] 30))).2.1 2 _ rfl
      have h3 := (H.ext ((Ext.refl _).alloc (Obj.cells #[.int .i64 S.at_, .slice a1 S.op.length c1, .slice a2 S.sh.length c2, .slice a3 S.si.length c3] 30))).2.1 3 _ rfl
      have e6 : Ext w4 ((w4.alloc (Obj.cells #[.int .i64 S.at_, .slice a1 S.op.length c1, .slice a2 S.sh.length c2, .slice a3 S.si.length c3] 30)).alloc (Obj.cells #[.int .i64 hh, .int .i64 hee, .string hr, .string hp, .int .i64 S.at_, .slice a1 S.op.length c1, .slice a2 S.sh.length c2, .slice a3 S.si.length c3] 32)) := ((Ext.refl _).alloc _).alloc _
      have Q : Bx ((w4.alloc (Obj.cells #[.int .i64 S.at_, .slice a1 S.op.length c1, .slice a2 S.sh.length c2, .slice a3 S.si.length c3] 30)).alloc (Obj.cells #[.int .i64 hh, .int .i64 hee, .string hr, .string hp, .int .i64 S.at_, .slice a1 S.op.length c1, .slice a2 S.sh.length c2, .slice a3 S.si.length c3] 32)) (w4.heap.size + 1) [.int .i64 hh, .int .i64 hee, .string hr, .string hp, .int .i64 S.at_, .slice a1 S.op.length c1, .slice a2 S.sh.length c2, .slice a3 S.si.length c3] := by have e := Bx.new (w4.alloc (Obj.cells #[.int .i64 S.at_, .slice a1 S.op.length c1, .slice a2 S.sh.length c2, .slice a3 S.si.length c3] 30)) #[.int .i64 hh, .int .i64 hee, .string hr, .string hp, .int .i64 S.at_, .slice a1 S.op.length c1, .slice a2 S.sh.length c2, .slice a3 S.si.length c3] 32; rw [World.size_alloc] at e; exact e
      go_wp2_with fail
      replace R := R.ext e6
      replace X := X.trans e6
      replace H := H.ext e6
      replace F2 := F2.ext z3 e6
      replace z3 := Nat.lt_of_lt_of_le z3 (Ext.size e6)
      replace SO := SO.ext e6
      clear h0 h1 h2 h3
      generalize (w4.alloc (Obj.cells #[.int .i64 S.at_, .slice a1 S.op.length c1, .slice a2 S.sh.length c2, .slice a3 S.si.length c3] 30)).alloc (Obj.cells #[.int .i64 hh, .int .i64 hee, .string hr, .string hp, .int .i64 S.at_, .slice a1 S.op.length c1, .slice a2 S.sh.length c2, .slice a3 S.si.length c3] 32) = w6 at *
      generalize w4.heap.size + 1 = qb at *
      refine (spec_SealText hh hee hr hp _ _ _ S _ SO.1.strs SO.2.1.strs SO.2.2.1.strs HCL.out).mono ?_
      generalize hst : sealT hh hee hr hp S = stx at *
      generalize hso : sealOk hh hee hr hp S = sok at *
      have HST := Lib.hid hst
      have HSK := Lib.hid hso
      clear hst hso
      rintro e w7 ⟨rfl, x7⟩
      replace R := R.ext x7
      replace X := X.trans x7
      replace H := H.ext x7
      replace F2 := F2.ext z3 x7
      replace z3 := Nat.lt_of_lt_of_le z3 (Ext.size x7)
      replace SO := SO.ext x7
      replace Q := Q.ext x7
      cases rd
      · have HSO := Lib.hid (show so = false from HRS.out)
        have HV := Lib.hid (HNO.out HSO.out)
        have z0 := R.2.1 0 _ rfl
        have z1 := R.2.1 1 _ rfl
        have z2 := R.2.1 2 _ rfl
        have z3 := R.2.1 3 _ rfl
        have z4 := R.2.1 4 _ rfl
        have z5 := R.2.1 5 _ rfl
        have z6 := R.2.1 6 _ rfl
        have z7 := R.2.1 7 _ rfl
        have f0 := R.2.2 0
        have f1 := R.2.2 1
        have f2 := R.2.2 2
        have f3 := R.2.2 3
        have f4 := R.2.2 4
        have f5 := R.2.2 5
        have f6 := R.2.2 6
        have f7 := R.2.2 7
        have XF : Ext w ((((((((w7.setCell ⟨w.heap.size, 0, none⟩ (.int .i64 0)).setCell ⟨w.heap.size, 1, none⟩ (.int .i64 0)).setCell ⟨w.heap.size, 2, none⟩ (.string ⟨#[]⟩)).setCell ⟨w.heap.size, 3, none⟩ (.string ⟨#[]⟩)).setCell ⟨w.heap.size, 4, none⟩ (.int .i64 0)).setCell ⟨w.heap.size, 5, none⟩ (.slice none 0 0)).setCell ⟨w.heap.size, 6, none⟩ (.slice none 0 0)).setCell ⟨w.heap.size, 7, none⟩ (.slice none 0 0)) := ((((((((X.setCell (by dsimp only; omega) _).setCell (by dsimp only; omega) _).setCell (by dsimp only; omega) _).setCell (by dsimp only; omega) _).setCell (by dsimp only; omega) _).setCell (by dsimp only; omega) _).setCell (by dsimp only; omega) _).setCell (by dsimp only; omega) _)
        have RF := ((((((((R.set 0 (.int .i64 0) (by simp)).set 1 (.int .i64 0) (by simp)).set 2 (.string ⟨#[]⟩) (by simp)).set 3 (.string ⟨#[]⟩) (by simp)).set 4 (.int .i64 0) (by simp)).set 5 (.slice none 0 0) (by simp)).set 6 (.slice none 0 0) (by simp)).set 7 (.slice none 0 0) (by simp))
        go_wp2
        generalize (((((((w7.setCell ⟨w.heap.size, 0, none⟩ (.int .i64 0)).setCell ⟨w.heap.size, 1, none⟩ (.int .i64 0)).setCell ⟨w.heap.size, 2, none⟩ (.string ⟨#[]⟩)).setCell ⟨w.heap.size, 3, none⟩ (.string ⟨#[]⟩)).setCell ⟨w.heap.size, 4, none⟩ (.int .i64 0)).setCell ⟨w.heap.size, 5, none⟩ (.slice none 0 0)).setCell ⟨w.heap.size, 6, none⟩ (.slice none 0 0)).setCell ⟨w.heap.size, 7, none⟩ (.slice none 0 0) = WF at *
        clear z0 f0 z1 f1 z2 f2 z3 f3 z4 f4 z5 f5 z6 f6 z7 f7
        have k0 := RF.2.1 0 _ rfl
        have k1 := RF.2.1 1 _ rfl
        have k2 := RF.2.1 2 _ rfl
        have k3 := RF.2.1 3 _ rfl
        have k4 := RF.2.1 4 _ rfl
        have k5 := RF.2.1 5 _ rfl
        have k6 := RF.2.1 6 _ rfl
        have k7 := RF.2.1 7 _ rfl
        refine bodyPost_ret (v := .tuple #[.agg #[.int .i64 0, .int .i64 0, .string ⟨#[]⟩, .string ⟨#[]⟩, .int .i64 0, .slice none 0 0, .slice none 0 0, .slice none 0 0], .bool false]) (by simp [results, Tryz.results13, go_sem, k0, k1, k2, k3, k4, k5, k6, k7]) rfl ?_
        rw [HV.out.1, HV.out.2.1, HV.out.2.2.1, HV.out.2.2.2.1, HV.out.2.2.2.2, HSO.out]
        exact ⟨none, 0, none, 0, none, 0, rfl, sigOwn_nil _ _, XF⟩
      · have hso : so = true := HRS.out
        have HSO := Lib.hid hso
        obtain ⟨v1, v2, v3, v4, v5⟩ := HYE.out hso
        obtain ⟨w1x, w2x⟩ := HTX.out hso
        have HV := Lib.hid (show vi = hh ∧ ve = hee ∧ vr = hr ∧ vp = hp ∧ vs = S from ⟨v1, v2, v3, v4, v5⟩)
        rw [v1, v2, v3, v4, v5, HSK.out] at w1x
        rw [v1, v2, v3, v4, v5, HST.out] at w2x
        subst w1x
        have hbq : (stx.toList != t.toList) = false := by rw [w2x]; simp
        have hbe : (stx.toList == t.toList) = true := by rw [w2x]; simp
        clear v1 v2 v3 v4 v5 w2x hso
        have q0 := Q.2.1 0 _ rfl
        have q1 := Q.2.1 1 _ rfl
        have q2 := Q.2.1 2 _ rfl
        have q3 := Q.2.1 3 _ rfl
        have q4 := Q.2.1 4 _ rfl
        have q5 := Q.2.1 5 _ rfl
        have q6 := Q.2.1 6 _ rfl
        have q7 := Q.2.1 7 _ rfl
        have z0 := R.2.1 0 _ rfl
        have z1 := R.2.1 1 _ rfl
        have z2 := R.2.1 2 _ rfl
        have z3 := R.2.1 3 _ rfl
        have z4 := R.2.1 4 _ rfl
        have z5 := R.2.1 5 _ rfl
        have z6 := R.2.1 6 _ rfl
        have z7 := R.2.1 7 _ rfl
        have f0 := R.2.2 0
        have f1 := R.2.2 1
        have f2 := R.2.2 2
        have f3 := R.2.2 3
        have f4 := R.2.2 4
        have f5 := R.2.2 5
        have f6 := R.2.2 6
        have f7 := R.2.2 7
        have XF : Ext w ((((((((w7.setCell ⟨w.heap.size, 0, none⟩ (.int .i64 hh)).setCell ⟨w.heap.size, 1, none⟩ (.int .i64 hee)).setCell ⟨w.heap.size, 2, none⟩ (.string hr)).setCell ⟨w.heap.size, 3, none⟩ (.string hp)).setCell ⟨w.heap.size, 4, none⟩ (.int .i64 S.at_)).setCell ⟨w.heap.size, 5, none⟩ (.slice a1 S.op.length c1)).setCell ⟨w.heap.size, 6, none⟩ (.slice a2 S.sh.length c2)).setCell ⟨w.heap.size, 7, none⟩ (.slice a3 S.si.length c3)) := ((((((((X.setCell (by dsimp only; omega) _).setCell (by dsimp only; omega) _).setCell (by dsimp only; omega) _).setCell (by dsimp only; omega) _).setCell (by dsimp only; omega) _).setCell (by dsimp only; omega) _).setCell (by dsimp only; omega) _).setCell (by dsimp only; omega) _)
        have RF := ((((((((R.set 0 (.int .i64 hh) (by simp)).set 1 (.int .i64 hee) (by simp)).set 2 (.string hr) (by simp)).set 3 (.string hp) (by simp)).set 4 (.int .i64 S.at_) (by simp)).set 5 (.slice a1 S.op.length c1) (by simp)).set 6 (.slice a2 S.sh.length c2) (by simp)).set 7 (.slice a3 S.si.length c3) (by simp))
        have SF := ((((((((SO.set (b := w.heap.size) (by omega) 0 (.int .i64 hh)).set (b := w.heap.size) (by omega) 1 (.int .i64 hee)).set (b := w.heap.size) (by omega) 2 (.string hr)).set (b := w.heap.size) (by omega) 3 (.string hp)).set (b := w.heap.size) (by omega) 4 (.int .i64 S.at_)).set (b := w.heap.size) (by omega) 5 (.slice a1 S.op.length c1)).set (b := w.heap.size) (by omega) 6 (.slice a2 S.sh.length c2)).set (b := w.heap.size) (by omega) 7 (.slice a3 S.si.length c3))
        go_wp2
        generalize (((((((w7.setCell ⟨w.heap.size, 0, none⟩ (.int .i64 hh)).setCell ⟨w.heap.size, 1, none⟩ (.int .i64 hee)).setCell ⟨w.heap.size, 2, none⟩ (.string hr)).setCell ⟨w.heap.size, 3, none⟩ (.string hp)).setCell ⟨w.heap.size, 4, none⟩ (.int .i64 S.at_)).setCell ⟨w.heap.size, 5, none⟩ (.slice a1 S.op.length c1)).setCell ⟨w.heap.size, 6, none⟩ (.slice a2 S.sh.length c2)).setCell ⟨w.heap.size, 7, none⟩ (.slice a3 S.si.length c3) = WF at *
        clear z0 f0 z1 f1 z2 f2 z3 f3 z4 f4 z5 f5 z6 f6 z7 f7
        have k0 := RF.2.1 0 _ rfl
        have k1 := RF.2.1 1 _ rfl
        have k2 := RF.2.1 2 _ rfl
        have k3 := RF.2.1 3 _ rfl
        have k4 := RF.2.1 4 _ rfl
        have k5 := RF.2.1 5 _ rfl
        have k6 := RF.2.1 6 _ rfl
        have k7 := RF.2.1 7 _ rfl
        refine bodyPost_ret (v := .tuple #[.agg #[.int .i64 hh, .int .i64 hee, .string hr, .string hp, .int .i64 S.at_, .slice a1 S.op.length c1, .slice a2 S.sh.length c2, .slice a3 S.si.length c3], .bool true]) (by simp [results, Tryz.results13, go_sem, k0, k1, k2, k3, k4, k5, k6, k7]) rfl ?_
        rw [HV.out.1, HV.out.2.1, HV.out.2.2.1, HV.out.2.2.2.1, HV.out.2.2.2.2, HSO.out]
        exact ⟨a1, c1, a2, c2, a3, c3, rfl, SF.mono (by omega), XF⟩
end Go.Proofs.YtkphipgfcbckcaaGreatDoor
