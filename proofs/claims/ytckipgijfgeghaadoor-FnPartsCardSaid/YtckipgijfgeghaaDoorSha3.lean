/- The program's compression function. -/
import Derived.Test.YtckipgijfgeghaaDoorCore
import Derived.Deep.RegionHeld3
import Derived.StillTailTactics
import Derived.Deep.DrawnRows
namespace Go.Proofs.YtckipgijfgeghaaDoor
open Go.RowKit

attribute [local go_sem ↓] W32.add_i W32.xr_i W32.an_i W32.ro_i W32.no_i W32.no_i' W32.shr_i W32.shl_i W32.ofB_i W32.wr_i un_no no_max

set_option maxRecDepth 100000 in
set_option maxHeartbeats 2000000 in
theorem impl_compress (st : St) (s : ByteArray) (w : World) (h : s.size = 64) (hT : Tabs w) :
    Calls Tryd.prog 51 #[.agg #[.int .u32 st.a.i, .int .u32 st.b.i, .int .u32 st.c.i, .int .u32 st.d.i, .int .u32 st.e.i, .int .u32 st.f.i, .int .u32 st.g.i, .int .u32 st.h.i], .string s] w fun e w' => e = .returned (shaB s st).val ∧ Ext w w' := by
  have H := Lib.hid h
  have hsz : 64 ≤ s.size := by omega
  have HT := Lib.hid hT
  clear h hT
  go_enter Tryd.func51, Tryd.ntmps51
  go_wp2
  go_loopw [18] (fun i wr => ∃ k : Nat, k ≤ 16 ∧ i = .int .i64 k ∧ Ext w wr ∧ Arr wr w.heap.size st.list ∧ Arr wr (w.heap.size + 1 + 1) (wArr s k) ∧ Arr wr (w.heap.size + 1) zero8) (fun i _ => 16 - (intOf i).toNat)
  case atStart =>
    refine ⟨0, by omega, rfl, (by repeat (first | (with_reducible first | exact Ext.refl _ | assumption | apply Ext.alloc | apply Ext.drew | apply Ext.drewN | refine Ext.setCell ?_ ?_ _ | refine Ext.trans ?_ (by assumption)) | (show _ ≤ _; first | omega | (dsimp only; omega) | (simp; done) | (simp; omega)))), ?_, ?_, ?_⟩
    · exact ((Arr.new w st.list _).alloc _).alloc _
    · exact Arr.newAt (wArr s 0) _ (by simp)
    · exact (Arr.newAt zero8 _ (by simp)).alloc _
  case round =>
    obtain ⟨k, hk, rfl, hx, a1, a2, az⟩ := hrel
    by_cases hlt : k < 16
    · have i1 : (0 : Int) ≤ (k : Int) := by omega
      have i3 : (0 : Int) ≤ 4 * (k : Int) + 1 := by omega
      have i4 : (0 : Int) ≤ 4 * (k : Int) + 2 := by omega
      have i5 : (0 : Int) ≤ 4 * (k : Int) + 3 := by omega
      have i6 : (k : Int) < 64 := by omega
      have j0 : (0 : Int) ≤ 4 * (k : Int) := by omega
      have j1 : (4 * (k : Int)) < s.size := by omega
      have j2 : (4 * (k : Int) + 1) < s.size := by omega
      have j3 : (4 * (k : Int) + 2) < s.size := by omega
      have j4 : (4 * (k : Int) + 3) < s.size := by omega
      have w0 : IntKind.i64.wrap (4 * (k : Int)) = 4 * (k : Int) := IntWalk.i64_in _ (by omega)
      have w1 : IntKind.i64.wrap (4 * (k : Int) + 1) = 4 * (k : Int) + 1 := IntWalk.i64_in _ (by omega)
      have w2 : IntKind.i64.wrap (4 * (k : Int) + 2) = 4 * (k : Int) + 2 := IntWalk.i64_in _ (by omega)
      have w3 : IntKind.i64.wrap (4 * (k : Int) + 3) = 4 * (k : Int) + 3 := IntWalk.i64_in _ (by omega)
      have t0 : (4 * (k : Int)).toNat = 4 * k := by omega
      have t1 : (4 * (k : Int) + 1).toNat = 4 * k + 1 := by omega
      have t2 : (4 * (k : Int) + 2).toNat = 4 * k + 2 := by omega
      have t3 : (4 * (k : Int) + 3).toNat = 4 * k + 3 := by omega
      have l2 : k < (wArr s k).length := by rw [wArr_length _ _ (by omega)]; omega
      have e1 := a2.cell k l2
      have e2 := a2.free k l2
      have A1 := Lib.hid a1
      have A2 := Lib.hid a2
      have AZ := Lib.hid az
      clear a1 a2 az l2
      go_wp2
      go_still_tail 31, (by kernel_rfl)
      change wpList _ _ _ _ _ wr.drew
      go_wp2
      go_roundw
      case rel =>
        refine ⟨k + 1, by omega, by go_num, (by repeat (first | (with_reducible first | exact Ext.refl _ | assumption | apply Ext.alloc | apply Ext.drew | apply Ext.drewN | refine Ext.setCell ?_ ?_ _ | refine Ext.trans ?_ (by assumption)) | (show _ ≤ _; first | omega | (dsimp only; omega) | (simp; done) | (simp; omega)))), A1.out.other _ (by simp; omega), ?_, AZ.out.other _ (by simp)⟩
        refine A2.out.put (k := k) _ ?_ rfl
        rw [blk_word, ← wd_lo s k (by omega)]
        exact wArr_set s k (by omega)
      case measure => simp [intOf]; omega
    · have hkn : k = 16 := by omega
      subst hkn
      have A1 := Lib.hid a1
      have A2 := Lib.hid a2
      have AZ := Lib.hid az
      clear a1 a2 az
      rw [show ((16 : Nat) : Int) = 16 from rfl]
      go_wp2
      go_loopw [8] (fun i wr => ∃ k : Nat, 16 ≤ k ∧ k ≤ 64 ∧ i = .int .i64 k ∧ Ext w wr ∧ Arr wr w.heap.size st.list ∧ Arr wr (w.heap.size + 1 + 1) (wArr s k) ∧ Arr wr (w.heap.size + 1) zero8) (fun i _ => 64 - (intOf i).toNat)
      case atStart => exact ⟨16, by omega, by omega, rfl, hx, A1.out, A2.out, AZ.out⟩
      case round =>
        clear hx A1 A2 AZ
        rename_i wr0 wr
        obtain ⟨k, hk0, hk, rfl, hx, a1, a2, az⟩ := hrel
        by_cases hlt : k < 64
        · have w1 : IntKind.i64.wrap ((k : Int) - 15) = (k : Int) - 15 := IntWalk.i64_in _ (by omega)
          have w2 : IntKind.i64.wrap ((k : Int) - 2) = (k : Int) - 2 := IntWalk.i64_in _ (by omega)
          have w3 : IntKind.i64.wrap ((k : Int) - 16) = (k : Int) - 16 := IntWalk.i64_in _ (by omega)
          have w4 : IntKind.i64.wrap ((k : Int) - 7) = (k : Int) - 7 := IntWalk.i64_in _ (by omega)
          have t1 : ((k : Int) - 15).toNat = k - 15 := by omega
          have t2 : ((k : Int) - 2).toNat = k - 2 := by omega
          have t3 : ((k : Int) - 16).toNat = k - 16 := by omega
          have t4 : ((k : Int) - 7).toNat = k - 7 := by omega
          have i0 : (0 : Int) ≤ (k : Int) := by omega
          have i1 : (0 : Int) ≤ (k : Int) - 15 := by omega
          have i2 : (0 : Int) ≤ (k : Int) - 2 := by omega
          have i3 : (0 : Int) ≤ (k : Int) - 16 := by omega
          have i4 : (0 : Int) ≤ (k : Int) - 7 := by omega
          have k1 : (15 : Int) ≤ (k : Int) := by omega
          have k2 : (2 : Int) ≤ (k : Int) := by omega
          have k3 : (16 : Int) ≤ (k : Int) := by omega
          have k4 : (7 : Int) ≤ (k : Int) := by omega
          have j0 : (k : Int) < 64 := by omega
          have j1 : (k : Int) - 15 < 64 := by omega
          have j2 : (k : Int) - 2 < 64 := by omega
          have j3 : (k : Int) - 16 < 64 := by omega
          have j4 : (k : Int) - 7 < 64 := by omega
          have l0 : (wArr s k).length = 64 := wArr_length _ _ (by omega)
          have e0 := a2.cell k (by omega)
          have f0 := a2.free k (by omega)
          have e1 := a2.cell (k - 15) (by omega)
          have e2 := a2.cell (k - 2) (by omega)
          have e3 := a2.cell (k - 16) (by omega)
          have e4 := a2.cell (k - 7) (by omega)
          rw [wArr_get s k _ hk (by omega)] at e1 e2 e3 e4
          have A1 := Lib.hid a1
          have A2 := Lib.hid a2
          have AZ := Lib.hid az
          clear a1 a2 az l0
          go_wp2
          go_quiet (fail)
          go_wp2
          rename_i nq
          generalize hW : wr.drewN nq = W2
          have hx2 : Ext w W2 := by rw [← hW]; exact hx.drewN _
          have B1 := Lib.hid (show Arr W2 w.heap.size st.list by rw [← hW]; exact A1.out)
          have B2 := Lib.hid (show Arr W2 (w.heap.size + 1 + 1) (wArr s k) by rw [← hW]; exact A2.out)
          have BZ := Lib.hid (show Arr W2 (w.heap.size + 1) zero8 by rw [← hW]; exact AZ.out)
          clear A1 A2 AZ hW hx e0 f0 e1 e2 e3 e4
          have l0 : k < (wArr s k).length := by rw [wArr_length _ _ (by omega)]; omega
          have e0 := B2.out.cell k l0
          have f0 := B2.out.free k l0
          have e3 := B2.out.cell (k - 16) (by omega)
          have e4 := B2.out.cell (k - 7) (by omega)
          rw [wArr_get s k _ hk (by omega)] at e3 e4
          clear l0
          go_still_tail 33, (by kernel_rfl)
          still_call (still_of (impl_turn_7 _ _))
          repeat still_step
          still_call (still_of (impl_turn_18 _ _))
          repeat still_step
          still_call (still_of (impl_turn_17 _ _))
          repeat still_step
          still_call (still_of (impl_turn_19 _ _))
          repeat still_step
          refine wpStill_nil ?_
          change wpList _ _ _ _ _ W2.drew
          go_wp2
          go_roundw
          case rel =>
            refine ⟨k + 1, by omega, by omega, by go_num, (by repeat (first | (with_reducible first | exact Ext.refl _ | assumption | apply Ext.alloc | apply Ext.drew | apply Ext.drewN | refine Ext.setCell ?_ ?_ _ | refine Ext.trans ?_ (by assumption)) | (show _ ≤ _; first | omega | (dsimp only; omega) | (simp; done) | (simp; omega)))), B1.out.other _ (by simp; omega), ?_, BZ.out.other _ (by simp)⟩
            refine B2.out.put (k := k) _ ?_ rfl
            have e := wArr_set s k (by omega)
            rw [wd_hi s k (by omega)] at e
            exact e
          case measure => simp [intOf]; omega
        · have hkn : k = 64 := by omega
          subst hkn
          have b0 := a1.cell 0 (by rw [st_len]; omega)
          have b1 := a1.cell 1 (by rw [st_len]; omega)
          have b2 := a1.cell 2 (by rw [st_len]; omega)
          have b3 := a1.cell 3 (by rw [st_len]; omega)
          have b4 := a1.cell 4 (by rw [st_len]; omega)
          have b5 := a1.cell 5 (by rw [st_len]; omega)
          have b6 := a1.cell 6 (by rw [st_len]; omega)
          have b7 := a1.cell 7 (by rw [st_len]; omega)
          have lz1 := a1.1
          have lz2 := a2.1
          have A1 := Lib.hid a1
          have A2 := Lib.hid a2
          have AZ := Lib.hid az
          have lz3 := az.1
          clear a1 a2 az
          rw [show ((64 : Nat) : Int) = 64 from rfl]
          simp only [St.list, List.getD_cons_zero, List.getD_cons_succ] at b0 b1 b2 b3 b4 b5 b6 b7
          go_wp2
          obtain ⟨wo, rfl⟩ : ∃ wo : World, wo = wr := ⟨_, rfl⟩
          go_loopw [99] (fun i wr => ∃ k : Nat, k ≤ 64 ∧ i = .int .i64 k ∧ Ext w wr ∧ Arr wr w.heap.size st.list ∧ Arr wr (w.heap.size + 1 + 1) (wArr s 64) ∧ Arr wr wo.heap.size (rnds s st k).list ∧ Arr wr (w.heap.size + 1) zero8) (fun i _ => 64 - (intOf i).toNat)
          case atStart =>
            refine ⟨0, by omega, rfl, (by repeat (first | (with_reducible first | exact Ext.refl _ | assumption | apply Ext.alloc | apply Ext.drew | apply Ext.drewN | refine Ext.setCell ?_ ?_ _ | refine Ext.trans ?_ (by assumption)) | (show _ ≤ _; first | omega | (dsimp only; omega) | (simp; done) | (simp; omega)))), ?_, ?_, ?_, ?_⟩
            · exact A1.out.alloc _
            · exact A2.out.alloc _
            · exact Arr.new _ st.list _
            · exact AZ.out.alloc _
          case round =>
            obtain ⟨k, hk, rfl, hx3, a1, a2, a3, az⟩ := hrel
            by_cases hlt3 : k < 64
            · have HT3 := HT.out.ext hx3
              have i0 : (0 : Int) ≤ (k : Int) := by omega
              have j0 : (k : Int) < 64 := by omega
              have e0 := HT3.1.2 k hlt3
              have e1 := a2.cell k (by rw [wArr_length _ _ (by omega)]; omega)
              rw [wArr_get s 64 k (by omega) hlt3] at e1
              generalize hR : rnds s st k = t at a3
              have HR := Lib.hid hR
              have v0 := a3.cell 0 (by rw [st_len]; omega)
              have v1 := a3.cell 1 (by rw [st_len]; omega)
              have v2 := a3.cell 2 (by rw [st_len]; omega)
              have v3 := a3.cell 3 (by rw [st_len]; omega)
              have v4 := a3.cell 4 (by rw [st_len]; omega)
              have v5 := a3.cell 5 (by rw [st_len]; omega)
              have v6 := a3.cell 6 (by rw [st_len]; omega)
              have v7 := a3.cell 7 (by rw [st_len]; omega)
              have u0 := a3.free 0 (by rw [st_len]; omega)
              have u1 := a3.free 1 (by rw [st_len]; omega)
              have u2 := a3.free 2 (by rw [st_len]; omega)
              have u3 := a3.free 3 (by rw [st_len]; omega)
              have u4 := a3.free 4 (by rw [st_len]; omega)
              have u5 := a3.free 5 (by rw [st_len]; omega)
              have u6 := a3.free 6 (by rw [st_len]; omega)
              have u7 := a3.free 7 (by rw [st_len]; omega)
              simp only [St.list, List.getD_cons_zero, List.getD_cons_succ] at v0 v1 v2 v3 v4 v5 v6 v7
              have B1 := Lib.hid a1
              have B2 := Lib.hid a2
              have B3 := Lib.hid a3
              have BZ := Lib.hid az
              clear a1 a2 a3 az hR HT3 A1 A2 AZ b0 b1 b2 b3 b4 b5 b6 b7
              go_wp2
              go_quiet (fail)
              go_wp2
              go_quiet (first | (go_at_call_of 73 (Value.int .i64 6); exact quiet_add_left (impl_turn_6 _ _)) | (go_at_call_of 73 (Value.int .i64 11); exact quiet_add_left (impl_turn_11 _ _)) | (go_at_call_of 73 (Value.int .i64 25); exact quiet_add_left (impl_turn_25 _ _)))
              go_wp2
              go_quiet (first | (go_at_call_of 73 (Value.int .i64 2); exact quiet_add_left (impl_turn_2 _ _)) | (go_at_call_of 73 (Value.int .i64 13); exact quiet_add_left (impl_turn_13 _ _)) | (go_at_call_of 73 (Value.int .i64 22); exact quiet_add_left (impl_turn_22 _ _)))
              go_wp2
              go_roundw
              case rel =>
                refine ⟨k + 1, by omega, by go_num, (by repeat (first | (with_reducible first | exact Ext.refl _ | assumption | apply Ext.alloc | apply Ext.drew | apply Ext.drewN | refine Ext.setCell ?_ ?_ _ | refine Ext.trans ?_ (by assumption)) | (show _ ≤ _; first | omega | (dsimp only; omega) | (simp; done) | (simp; omega)))), ?_, ?_, ?_, ?_⟩
                · exact oct_other B1.out (by omega)
                · exact oct_other B2.out (by omega)
                · rw [rnds, HR.out]
                  exact oct_put (t := t) (t.next (keyW k) (wd s k)) B3.out
                · exact oct_other BZ.out (by omega)
              case measure => simp [intOf]; omega
            · have hkn : k = 64 := by omega
              subst hkn
              generalize hR : rnds s st 64 = r at a3
              have HR := Lib.hid hR
              have lz4 := a3.1
              have B1 := Lib.hid a1
              have B3 := Lib.hid a3
              have BZ := Lib.hid az
              clear a1 a2 a3 az hR A1 A2 AZ b0 b1 b2 b3 b4 b5 b6 b7
              rw [show ((64 : Nat) : Int) = 64 from rfl]
              go_wp2
              obtain ⟨w3, rfl⟩ : ∃ w3 : World, w3 = wr := ⟨_, rfl⟩
              go_loopw [185] (fun i wr => ∃ k : Nat, k ≤ 8 ∧ i = .int .i64 k ∧ Ext w wr ∧ Arr wr w.heap.size (plusL st r k) ∧ Arr wr wo.heap.size r.list ∧ Arr wr (w.heap.size + 1) zero8) (fun i _ => 8 - (intOf i).toNat)
              case atStart => exact ⟨0, by omega, rfl, hx3, B1.out, B3.out, BZ.out⟩
              case round =>
                clear hx3 B1 B3 BZ
                obtain ⟨k, hk, rfl, hx3, a1, a3, az⟩ := hrel
                by_cases hlt4 : k < 8
                · have i0 : (0 : Int) ≤ (k : Int) := by omega
                  have j0 : (k : Int) < 8 := by omega
                  have e1 := a1.cell k (by rw [plusL_len _ _ _ hk]; omega)
                  have f1 := a1.free k (by rw [plusL_len _ _ _ hk]; omega)
                  rw [plusL_get _ _ _ hlt4] at e1
                  have e3 := a3.cell k (by rw [st_len]; omega)
                  have B1 := Lib.hid a1
                  have B3 := Lib.hid a3
                  have BZ := Lib.hid az
                  clear a1 a3 az
                  go_wp2
                  go_still_tail 8, (by kernel_rfl)
                  change wpList _ _ _ _ _ wr.drew
                  go_wp2
                  go_roundw
                  case rel =>
                    refine ⟨k + 1, by omega, by go_num, (by repeat (first | (with_reducible first | exact Ext.refl _ | assumption | apply Ext.alloc | apply Ext.drew | apply Ext.drewN | refine Ext.setCell ?_ ?_ _ | refine Ext.trans ?_ (by assumption)) | (show _ ≤ _; first | omega | (dsimp only; omega) | (simp; done) | (simp; omega)))), ?_, B3.out.other _ (by simp; omega), BZ.out.other _ (by simp)⟩
                    exact B1.out.put (k := k) _ (plusL_set _ _ _ hlt4) rfl
                  case measure => simp [intOf]; omega
                · have hkn : k = 8 := by omega
                  subst hkn
                  rw [plusL_all] at a1
                  generalize hq : st.plus r = q at a1
                  have HQ := Lib.hid hq
                  have v0 := a1.cell 0 (by rw [st_len]; omega)
                  have v1 := a1.cell 1 (by rw [st_len]; omega)
                  have v2 := a1.cell 2 (by rw [st_len]; omega)
                  have v3 := a1.cell 3 (by rw [st_len]; omega)
                  have v4 := a1.cell 4 (by rw [st_len]; omega)
                  have v5 := a1.cell 5 (by rw [st_len]; omega)
                  have v6 := a1.cell 6 (by rw [st_len]; omega)
                  have v7 := a1.cell 7 (by rw [st_len]; omega)
                  simp only [St.list, List.getD_cons_zero, List.getD_cons_succ] at v0 v1 v2 v3 v4 v5 v6 v7
                  have z0 := az.cell 0 (by decide)
                  have z1 := az.cell 1 (by decide)
                  have z2 := az.cell 2 (by decide)
                  have z3 := az.cell 3 (by decide)
                  have z4 := az.cell 4 (by decide)
                  have z5 := az.cell 5 (by decide)
                  have z6 := az.cell 6 (by decide)
                  have z7 := az.cell 7 (by decide)
                  have u0 := az.free 0 (by decide)
                  have u1 := az.free 1 (by decide)
                  have u2 := az.free 2 (by decide)
                  have u3 := az.free 3 (by decide)
                  have u4 := az.free 4 (by decide)
                  have u5 := az.free 5 (by decide)
                  have u6 := az.free 6 (by decide)
                  have u7 := az.free 7 (by decide)
                  have BZ := Lib.hid az
                  clear a1 a3 az hq
                  go_wp2
                  have o := oct_put (t := stZ) q BZ.out
                  have c0 := o.cell 0 (by rw [st_len]; omega)
                  have c1 := o.cell 1 (by rw [st_len]; omega)
                  have c2 := o.cell 2 (by rw [st_len]; omega)
                  have c3 := o.cell 3 (by rw [st_len]; omega)
                  have c4 := o.cell 4 (by rw [st_len]; omega)
                  have c5 := o.cell 5 (by rw [st_len]; omega)
                  have c6 := o.cell 6 (by rw [st_len]; omega)
                  have c7 := o.cell 7 (by rw [st_len]; omega)
                  have hxo : Ext w (oct wr (w.heap.size + 1) (.int .u32 q.a.i) (.int .u32 q.b.i) (.int .u32 q.c.i) (.int .u32 q.d.i) (.int .u32 q.e.i) (.int .u32 q.f.i) (.int .u32 q.g.i) (.int .u32 q.h.i)) := by
                    unfold oct
                    exact (by repeat (first | (with_reducible first | exact Ext.refl _ | assumption | apply Ext.alloc | apply Ext.drew | apply Ext.drewN | refine Ext.setCell ?_ ?_ _ | refine Ext.trans ?_ (by assumption)) | (show _ ≤ _; first | omega | (dsimp only; omega) | (simp; done) | (simp; omega))))
                  have hfin : (shaB s st).val = q.val := by rw [shaB, HR.out, HQ.out]
                  simp only [St.list, List.getD_cons_zero, List.getD_cons_succ] at c0 c1 c2 c3 c4 c5 c6 c7
                  rw [hfin]
                  clear o hfin
                  change bodyPost _ _ _ _ _ (oct wr (w.heap.size + 1) (.int .u32 q.a.i) (.int .u32 q.b.i) (.int .u32 q.c.i) (.int .u32 q.d.i) (.int .u32 q.e.i) (.int .u32 q.f.i) (.int .u32 q.g.i) (.int .u32 q.h.i))
                  refine bodyPost_ret (v := q.val) ?_ rfl ⟨rfl, hxo⟩
                  simp [results, Tryd.results51, go_sem, c0, c1, c2, c3, c4, c5, c6, c7, St.val]
end Go.Proofs.YtckipgijfgeghaaDoor
