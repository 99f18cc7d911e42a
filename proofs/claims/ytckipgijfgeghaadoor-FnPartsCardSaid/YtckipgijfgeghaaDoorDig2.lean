/- The digest of the program. -/
import Derived.Test.YtckipgijfgeghaaDoorSha3
import Derived.Test.YtckipgijfgeghaaDoorOwnP
import Derived.StillTailTactics
namespace Go.Proofs.YtckipgijfgeghaaDoor
open Go.RowKit

theorem ext_head (P : ByteArray) (a : Nat) (h : a + 64 ≤ P.size) : (P.extract a P.size).extract 0 64 = P.extract a (a + 64) := by
  apply ByteArray.ext
  simp only [ByteArray.data_extract]
  rw [Array.extract_extract]
  congr 1
  have e : P.data.size = P.size := rfl
  omega
theorem ext_tail (P : ByteArray) (a : Nat) (h : a + 64 ≤ P.size) : (P.extract a P.size).extract 64 (P.extract a P.size).size = P.extract (a + 64) P.size := by
  apply ByteArray.ext
  simp only [ByteArray.data_extract, ByteArray.size_extract]
  rw [Array.extract_extract]
  have e : P.data.size = P.size := rfl
  congr 1
  omega
/-- the bytes of the first j words -/
def digUpto (s : St) (j : Nat) : ByteArray := strOfNums ((s.list.take j).flatMap W32.nums)
theorem digUpto_succ (s : St) (j : Nat) (h : j < 8) : digUpto s (j + 1) = digUpto s j ++ strOfNums (s.list.getD j default).nums := by
  rw [digUpto, digUpto, ← strOfNums_append]
  congr 1
  rcases lt8 h with rfl | rfl | rfl | rfl | rfl | rfl | rfl | rfl <;> rfl
theorem digUpto_all (s : St) : digUpto s 8 = strOfNums s.nums := rfl
theorem nums_len (x : W32) : x.nums.length = 4 := rfl
theorem digUpto_size (s : St) (j : Nat) (h : j ≤ 8) : (digUpto s j).size = 4 * j := by
  rw [digUpto, strOfNums_size]
  rcases Nat.lt_or_ge j 8 with h | h2
  · rcases lt8 h with rfl | rfl | rfl | rfl | rfl | rfl | rfl | rfl <;> rfl
  · obtain rfl : j = 8 := by omega
    rfl
theorem impl_compressL (st : St) (s : ByteArray) (w : World) (h : s.size = 64) (hT : Tabs w) :
    Calls Tryd.prog 51 #[.agg #[.int .u32 st.a.i, .int .u32 st.b.i, .int .u32 st.c.i, .int .u32 st.d.i, .int .u32 st.e.i, .int .u32 st.f.i, .int .u32 st.g.i, .int .u32 st.h.i], .string s] w fun e w' => e = .returned (.agg #[.int .u32 (shaB s st).a.i, .int .u32 (shaB s st).b.i, .int .u32 (shaB s st).c.i, .int .u32 (shaB s st).d.i, .int .u32 (shaB s st).e.i, .int .u32 (shaB s st).f.i, .int .u32 (shaB s st).g.i, .int .u32 (shaB s st).h.i]) ∧ Ext w w' :=
  impl_compress st s w h hT

set_option maxRecDepth 100000 in
set_option maxHeartbeats 1600000 in
theorem impl_Digest (t : ByteArray) (w : World) (ht : t.size ≤ 1073741824) (hT : Tabs w) :
    Calls Tryd.prog 31 #[.string t] w fun e w' => e = .returned (.string (digT t)) ∧ Ext w w' := by
  have b0 := hT.2.2 0 (by omega)
  have b1 := hT.2.2 1 (by omega)
  have b2 := hT.2.2 2 (by omega)
  have b3 := hT.2.2 3 (by omega)
  have b4 := hT.2.2 4 (by omega)
  have b5 := hT.2.2 5 (by omega)
  have b6 := hT.2.2 6 (by omega)
  have b7 := hT.2.2 7 (by omega)
  simp only [St.list, List.getD_cons_zero, List.getD_cons_succ] at b0 b1 b2 b3 b4 b5 b6 b7
  have HT := Lib.hid hT
  have R := Lib.hid (show digT t = strOfNums (shaN (padT t) ((padT t).size / 64)).nums from rfl)
  have hp := (padT_blocks t).1
  clear hT
  go_enter Tryd.func31, Tryd.ntmps31
  go_wp2_with (go_at_call 50; refine (impl_PadText t _ ht).mono ?_; rintro e w1 ⟨rfl, x1⟩)
  generalize padT t = P at *
  obtain ⟨N, hN⟩ : ∃ N, P.size = 64 * N := ⟨P.size / 64, by omega⟩
  have HN := Lib.hid hN
  have e0 : P.size / 64 = N := by omega
  rw [e0] at R
  have a0 := (Arr.new w st0.list 85).ext x1
  have x2 : Ext w w1 := ((Ext.refl w).alloc _).trans x1
  have A0 := Lib.hid a0
  clear b0 b1 b2 b3 b4 b5 b6 b7 hp e0 a0 x1 hN
  go_loopw [4] (fun v wr => ∃ (k : Nat) (q : ByteArray), k ≤ N ∧ v = .string q ∧ Hid (q = P.extract (64 * k) P.size) ∧ Hid (q.size = 64 * (N - k)) ∧ Ext w wr ∧ Arr wr w.heap.size (shaN P k).list) (fun v _ => match v with | .string s => s.size | _ => 0)
  case atStart =>
    refine ⟨0, P, by omega, rfl, Lib.hid ?_, Lib.hid (by have := HN.out; omega), x2, A0.out⟩
    rw [Nat.mul_zero, ByteArray.extract_zero_size]
  case round =>
    clear A0 x2
    obtain ⟨k, q, hk, rfl, hq, hqs, hx, a⟩ := hrel
    by_cases hlt : k < N
    · have hq0 : q.toList.isEmpty = false := by
        rw [toList_empty]
        have := hqs.out
        rw [decide_eq_false_iff_not]
        omega
      have hz : (64 : Int) ≤ q.size := by have := hqs.out; omega
      have HTr := Lib.hid (HT.out.ext hx)
      have HS := Lib.hid (show (q.extract 0 64).size = 64 by rw [ByteArray.size_extract]; omega)
      have hs1 : shaN P (k + 1) = shaB (q.extract 0 64) (shaN P k) := by
        rw [hq.out, ext_head _ _ (by have := HN.out; omega)]
        rfl
      have HS1 := Lib.hid hs1
      generalize shaN P k = s at *
      have lz := a.1
      have v0 := a.cell 0 (by rw [st_len]; omega)
      have v1 := a.cell 1 (by rw [st_len]; omega)
      have v2 := a.cell 2 (by rw [st_len]; omega)
      have v3 := a.cell 3 (by rw [st_len]; omega)
      have v4 := a.cell 4 (by rw [st_len]; omega)
      have v5 := a.cell 5 (by rw [st_len]; omega)
      have v6 := a.cell 6 (by rw [st_len]; omega)
      have v7 := a.cell 7 (by rw [st_len]; omega)
      simp only [St.list, List.getD_cons_zero, List.getD_cons_succ] at v0 v1 v2 v3 v4 v5 v6 v7
      have A := Lib.hid a
      clear a hs1
      go_wp2
      go_still_tail 3, (by kernel_rfl)
      change wpList _ _ _ _ _ wr.drew
      go_wp2_with fail
      refine (impl_compressL s (q.extract 0 64) _ HS.out (by exact HTr.out)).mono ?_
      rintro e w2 ⟨rfl, y2⟩
      have y3 : Ext wr w2 := Old.ext (Old.undrew (Old.of y2))
      have lz2 := y3.size
      have a2 := A.out.ext y3
      generalize shaB (q.extract 0 64) s = u at *
      have r0 := a2.cell 0 (by rw [st_len]; omega)
      have r1 := a2.cell 1 (by rw [st_len]; omega)
      have r2 := a2.cell 2 (by rw [st_len]; omega)
      have r3 := a2.cell 3 (by rw [st_len]; omega)
      have r4 := a2.cell 4 (by rw [st_len]; omega)
      have r5 := a2.cell 5 (by rw [st_len]; omega)
      have r6 := a2.cell 6 (by rw [st_len]; omega)
      have r7 := a2.cell 7 (by rw [st_len]; omega)
      have f0 := a2.free 0 (by rw [st_len]; omega)
      have f1 := a2.free 1 (by rw [st_len]; omega)
      have f2 := a2.free 2 (by rw [st_len]; omega)
      have f3 := a2.free 3 (by rw [st_len]; omega)
      have f4 := a2.free 4 (by rw [st_len]; omega)
      have f5 := a2.free 5 (by rw [st_len]; omega)
      have f6 := a2.free 6 (by rw [st_len]; omega)
      have f7 := a2.free 7 (by rw [st_len]; omega)
      simp only [St.list, List.getD_cons_zero, List.getD_cons_succ] at r0 r1 r2 r3 r4 r5 r6 r7
      have B := Lib.hid a2
      clear a2 v0 v1 v2 v3 v4 v5 v6 v7 y2 A
      go_wp2
      go_roundw
      case rel =>
        refine ⟨k + 1, _, by omega, rfl, Lib.hid ?_, Lib.hid ?_, ?_, ?_⟩
        · rw [hq.out, ext_tail _ _ (by have := HN.out; omega)]
          rfl
        · have := hqs.out
          rw [ByteArray.size_extract]
          omega
        · have hxo : Ext w (oct w2 w.heap.size (.int .u32 u.a.i) (.int .u32 u.b.i) (.int .u32 u.c.i) (.int .u32 u.d.i) (.int .u32 u.e.i) (.int .u32 u.f.i) (.int .u32 u.g.i) (.int .u32 u.h.i)) := by
            unfold oct
            exact (by repeat (first | (with_reducible first | exact Ext.refl _ | assumption | apply Ext.alloc | apply Ext.drew | apply Ext.drewN | refine Ext.setCell ?_ ?_ _ | refine Ext.trans ?_ (by assumption)) | (show _ ≤ _; first | omega | (dsimp only; omega) | (simp; done) | (simp; omega))))
          exact hxo
        · rw [HS1.out]
          exact oct_put (t := s) u B.out
      case measure =>
        have := hqs.out
        simp only [ByteArray.size_extract]
        omega
    · obtain rfl : k = N := by omega
      have hq0 : q.toList.isEmpty = true := by
        rw [toList_empty]
        have := hqs.out
        rw [decide_eq_true_eq]
        omega
      generalize shaN P k = s at *
      have v0 := a.cell 0 (by rw [st_len]; omega)
      have v1 := a.cell 1 (by rw [st_len]; omega)
      have v2 := a.cell 2 (by rw [st_len]; omega)
      have v3 := a.cell 3 (by rw [st_len]; omega)
      have v4 := a.cell 4 (by rw [st_len]; omega)
      have v5 := a.cell 5 (by rw [st_len]; omega)
      have v6 := a.cell 6 (by rw [st_len]; omega)
      have v7 := a.cell 7 (by rw [st_len]; omega)
      simp only [St.list, List.getD_cons_zero, List.getD_cons_succ] at v0 v1 v2 v3 v4 v5 v6 v7
      clear a
      go_wp2
      go_loopw [5, 20] (fun o i wr => ∃ j : Nat, j ≤ 8 ∧ i = .int .i64 j ∧ o = .string (digUpto s j) ∧ Ext w wr) (fun _ i _ => 8 - (intOf i).toNat)
      case atStart => exact ⟨0, by omega, rfl, rfl, (by repeat (first | (with_reducible first | exact Ext.refl _ | assumption | apply Ext.alloc | apply Ext.drew | apply Ext.drewN | refine Ext.setCell ?_ ?_ _ | refine Ext.trans ?_ (by assumption)) | (show _ ≤ _; first | omega | (dsimp only; omega) | (simp; done) | (simp; omega))))⟩
      case round =>
        clear hx
        obtain ⟨j, hj, rfl, rfl, hx⟩ := hrel
        have hsz := digUpto_size s j hj
        by_cases hlt2 : j < 8
        · have hs := Lib.hid (digUpto_succ s j hlt2)
          rcases lt8 hlt2 with rfl | rfl | rfl | rfl | rfl | rfl | rfl | rfl
          · have ix : ∀ W, (Instr.index 85 (.agg #[.int .u32 s.a.i, .int .u32 s.b.i, .int .u32 s.c.i, .int .u32 s.d.i, .int .u32 s.e.i, .int .u32 s.f.i, .int .u32 s.g.i, .int .u32 s.h.i]) (.int .i64 0)).run Tryd.prog W = .ok (.int .u32 s.a.i) W := fun _ => by kernel_rfl
            have z : (strOfNums s.a.nums).size = 4 := strOfNums_size _
            have q1 : ¬ (9223372036854775807 < (digUpto s 0).size + (strOfNums s.a.nums).size) := by omega
            clear z hsz
            go_wp2_with (go_at_call 52; refine (impl_fourBytes s.a _).mono ?_; rintro e w' ⟨rfl, y⟩)
            go_roundw
            case rel => exact ⟨1, by omega, rfl, by rw [hs.out]; rfl, (by repeat (first | (with_reducible first | exact Ext.refl _ | assumption | apply Ext.alloc | apply Ext.drew | apply Ext.drewN | refine Ext.setCell ?_ ?_ _ | refine Ext.trans ?_ (by assumption)) | (show _ ≤ _; first | omega | (dsimp only; omega) | (simp; done) | (simp; omega))))⟩
            case measure => simp [intOf]
          · have ix : ∀ W, (Instr.index 85 (.agg #[.int .u32 s.a.i, .int .u32 s.b.i, .int .u32 s.c.i, .int .u32 s.d.i, .int .u32 s.e.i, .int .u32 s.f.i, .int .u32 s.g.i, .int .u32 s.h.i]) (.int .i64 1)).run Tryd.prog W = .ok (.int .u32 s.b.i) W := fun _ => by kernel_rfl
            have z : (strOfNums s.b.nums).size = 4 := strOfNums_size _
            have q1 : ¬ (9223372036854775807 < (digUpto s 1).size + (strOfNums s.b.nums).size) := by omega
            clear z hsz
            go_wp2_with (go_at_call 52; refine (impl_fourBytes s.b _).mono ?_; rintro e w' ⟨rfl, y⟩)
            go_roundw
            case rel => exact ⟨2, by omega, rfl, by rw [hs.out]; rfl, (by repeat (first | (with_reducible first | exact Ext.refl _ | assumption | apply Ext.alloc | apply Ext.drew | apply Ext.drewN | refine Ext.setCell ?_ ?_ _ | refine Ext.trans ?_ (by assumption)) | (show _ ≤ _; first | omega | (dsimp only; omega) | (simp; done) | (simp; omega))))⟩
            case measure => simp [intOf]
          · have ix : ∀ W, (Instr.index 85 (.agg #[.int .u32 s.a.i, .int .u32 s.b.i, .int .u32 s.c.i, .int .u32 s.d.i, .int .u32 s.e.i, .int .u32 s.f.i, .int .u32 s.g.i, .int .u32 s.h.i]) (.int .i64 2)).run Tryd.prog W = .ok (.int .u32 s.c.i) W := fun _ => by kernel_rfl
            have z : (strOfNums s.c.nums).size = 4 := strOfNums_size _
            have q1 : ¬ (9223372036854775807 < (digUpto s 2).size + (strOfNums s.c.nums).size) := by omega
            clear z hsz
            go_wp2_with (go_at_call 52; refine (impl_fourBytes s.c _).mono ?_; rintro e w' ⟨rfl, y⟩)
            go_roundw
            case rel => exact ⟨3, by omega, rfl, by rw [hs.out]; rfl, (by repeat (first | (with_reducible first | exact Ext.refl _ | assumption | apply Ext.alloc | apply Ext.drew | apply Ext.drewN | refine Ext.setCell ?_ ?_ _ | refine Ext.trans ?_ (by assumption)) | (show _ ≤ _; first | omega | (dsimp only; omega) | (simp; done) | (simp; omega))))⟩
            case measure => simp [intOf]
          · have ix : ∀ W, (Instr.index 85 (.agg #[.int .u32 s.a.i, .int .u32 s.b.i, .int .u32 s.c.i, .int .u32 s.d.i, .int .u32 s.e.i, .int .u32 s.f.i, .int .u32 s.g.i, .int .u32 s.h.i]) (.int .i64 3)).run Tryd.prog W = .ok (.int .u32 s.d.i) W := fun _ => by kernel_rfl
            have z : (strOfNums s.d.nums).size = 4 := strOfNums_size _
            have q1 : ¬ (9223372036854775807 < (digUpto s 3).size + (strOfNums s.d.nums).size) := by omega
            clear z hsz
            go_wp2_with (go_at_call 52; refine (impl_fourBytes s.d _).mono ?_; rintro e w' ⟨rfl, y⟩)
            go_roundw
            case rel => exact ⟨4, by omega, rfl, by rw [hs.out]; rfl, (by repeat (first | (with_reducible first | exact Ext.refl _ | assumption | apply Ext.alloc | apply Ext.drew | apply Ext.drewN | refine Ext.setCell ?_ ?_ _ | refine Ext.trans ?_ (by assumption)) | (show _ ≤ _; first | omega | (dsimp only; omega) | (simp; done) | (simp; omega))))⟩
            case measure => simp [intOf]
          · have ix : ∀ W, (Instr.index 85 (.agg #[.int .u32 s.a.i, .int .u32 s.b.i, .int .u32 s.c.i, .int .u32 s.d.i, .int .u32 s.e.i, .int .u32 s.f.i, .int .u32 s.g.i, .int .u32 s.h.i]) (.int .i64 4)).run Tryd.prog W = .ok (.int .u32 s.e.i) W := fun _ => by kernel_rfl
            have z : (strOfNums s.e.nums).size = 4 := strOfNums_size _
            have q1 : ¬ (9223372036854775807 < (digUpto s 4).size + (strOfNums s.e.nums).size) := by omega
            clear z hsz
            go_wp2_with (go_at_call 52; refine (impl_fourBytes s.e _).mono ?_; rintro e w' ⟨rfl, y⟩)
            go_roundw
            case rel => exact ⟨5, by omega, rfl, by rw [hs.out]; rfl, (by repeat (first | (with_reducible first | exact Ext.refl _ | assumption | apply Ext.alloc | apply Ext.drew | apply Ext.drewN | refine Ext.setCell ?_ ?_ _ | refine Ext.trans ?_ (by assumption)) | (show _ ≤ _; first | omega | (dsimp only; omega) | (simp; done) | (simp; omega))))⟩
            case measure => simp [intOf]
          · have ix : ∀ W, (Instr.index 85 (.agg #[.int .u32 s.a.i, .int .u32 s.b.i, .int .u32 s.c.i, .int .u32 s.d.i, .int .u32 s.e.i, .int .u32 s.f.i, .int .u32 s.g.i, .int .u32 s.h.i]) (.int .i64 5)).run Tryd.prog W = .ok (.int .u32 s.f.i) W := fun _ => by kernel_rfl
            have z : (strOfNums s.f.nums).size = 4 := strOfNums_size _
            have q1 : ¬ (9223372036854775807 < (digUpto s 5).size + (strOfNums s.f.nums).size) := by omega
            clear z hsz
            go_wp2_with (go_at_call 52; refine (impl_fourBytes s.f _).mono ?_; rintro e w' ⟨rfl, y⟩)
            go_roundw
            case rel => exact ⟨6, by omega, rfl, by rw [hs.out]; rfl, (by repeat (first | (with_reducible first | exact Ext.refl _ | assumption | apply Ext.alloc | apply Ext.drew | apply Ext.drewN | refine Ext.setCell ?_ ?_ _ | refine Ext.trans ?_ (by assumption)) | (show _ ≤ _; first | omega | (dsimp only; omega) | (simp; done) | (simp; omega))))⟩
            case measure => simp [intOf]
          · have ix : ∀ W, (Instr.index 85 (.agg #[.int .u32 s.a.i, .int .u32 s.b.i, .int .u32 s.c.i, .int .u32 s.d.i, .int .u32 s.e.i, .int .u32 s.f.i, .int .u32 s.g.i, .int .u32 s.h.i]) (.int .i64 6)).run Tryd.prog W = .ok (.int .u32 s.g.i) W := fun _ => by kernel_rfl
            have z : (strOfNums s.g.nums).size = 4 := strOfNums_size _
            have q1 : ¬ (9223372036854775807 < (digUpto s 6).size + (strOfNums s.g.nums).size) := by omega
            clear z hsz
            go_wp2_with (go_at_call 52; refine (impl_fourBytes s.g _).mono ?_; rintro e w' ⟨rfl, y⟩)
            go_roundw
            case rel => exact ⟨7, by omega, rfl, by rw [hs.out]; rfl, (by repeat (first | (with_reducible first | exact Ext.refl _ | assumption | apply Ext.alloc | apply Ext.drew | apply Ext.drewN | refine Ext.setCell ?_ ?_ _ | refine Ext.trans ?_ (by assumption)) | (show _ ≤ _; first | omega | (dsimp only; omega) | (simp; done) | (simp; omega))))⟩
            case measure => simp [intOf]
          · have ix : ∀ W, (Instr.index 85 (.agg #[.int .u32 s.a.i, .int .u32 s.b.i, .int .u32 s.c.i, .int .u32 s.d.i, .int .u32 s.e.i, .int .u32 s.f.i, .int .u32 s.g.i, .int .u32 s.h.i]) (.int .i64 7)).run Tryd.prog W = .ok (.int .u32 s.h.i) W := fun _ => by kernel_rfl
            have z : (strOfNums s.h.nums).size = 4 := strOfNums_size _
            have q1 : ¬ (9223372036854775807 < (digUpto s 7).size + (strOfNums s.h.nums).size) := by omega
            clear z hsz
            go_wp2_with (go_at_call 52; refine (impl_fourBytes s.h _).mono ?_; rintro e w' ⟨rfl, y⟩)
            go_roundw
            case rel => exact ⟨8, by omega, rfl, by rw [hs.out]; rfl, (by repeat (first | (with_reducible first | exact Ext.refl _ | assumption | apply Ext.alloc | apply Ext.drew | apply Ext.drewN | refine Ext.setCell ?_ ?_ _ | refine Ext.trans ?_ (by assumption)) | (show _ ≤ _; first | omega | (dsimp only; omega) | (simp; done) | (simp; omega))))⟩
            case measure => simp [intOf]
        · obtain rfl : j = 8 := by omega
          go_wp2
          go_ret
          exact ⟨ret_str (by rw [R.out, digUpto_all]), hx⟩
end Go.Proofs.YtckipgijfgeghaaDoor
