/- Signatures read: both sides. -/
import Derived.Test.YtliebkhfddmhjaaRdP
import Derived.Test.YtliebkhfddmhjaaRv
import Derived.Test.YtliebkhfddmhjaaSgO
import Derived.Deep.AppendLies
import Derived.IntWalk
namespace Go.Proofs.Ytliebkhfddmhjaa
open Go.RowKit

theorem Fld.ext {w w' : World} {b : Nat} {t : ByteArray} {a : Int} {x : Bool} (h : Fld w b t a x) (hb : b < w.heap.size) (hx : Ext w w') : Fld w' b t a x :=
  ⟨(hx.cell _ _ hb).trans h.c0, (hx.cell _ _ hb).trans h.c1, (hx.cell _ _ hb).trans h.c2, fun o => (hx.frozen _ _ hb).trans (h.fz o)⟩
theorem Fld.grown {w w' : World} {b : Nat} {t : ByteArray} {a : Int} {x : Bool} (h : Fld w b t a x) (hb : b < w.heap.size) {row : Option Nat} (hg : w.grownBy w' row) (hr : row ≠ some b) : Fld w' b t a x := by
  have hne : ∀ o, some (⟨b, o, none⟩ : Addr).block ≠ row := fun o e => hr e.symm
  exact ⟨(hg.cell_far _ hb (hne _)).trans h.c0, (hg.cell_far _ hb (hne _)).trans h.c1, (hg.cell_far _ hb (hne _)).trans h.c2, fun o => (hg.frozen_far _ hb (hne _)).trans (h.fz o)⟩
theorem own_mut {w w' : World} {base b : Nat} {e : TypeId} {n len : Nat} {v : Value} {l : List Value} (h : w.ownsRow base e n v len l) (hb : b < base) (hm : Mut b w w') : w'.ownsRow base e n v len l := own_grown2 h hm (fun k hk hv => by cases hk; have := (own_lt h b hv).1; omega)
theorem Mut.grew {b : Nat} {w w' w'' : World} (h : Mut b w w') {row : Option Nat} (hg : w'.grownBy w'' row) (hr : ∀ k, row = some k → w.heap.size ≤ k) : Mut b w w'' :=
  ⟨hg.os.trans h.os, hg.tape.trans h.tape, hg.output.trans h.output, Nat.le_trans h.size hg.size, fun i hi hb => (hg.block i (Nat.lt_of_lt_of_le hi h.size) (fun e => by have := hr i e.symm; omega)).trans (h.block i hi hb)⟩
set_option maxHeartbeats 1600000 in
theorem impl_fields_hashes (b : Nat) (t : ByteArray) (a : Int) (bad : Bool) (n : Nat) (wd : Int) (w : World) (h : Fld w b t a bad) (hb : b < w.heap.size) (ha : 0 ≤ a ∧ a ≤ t.size) (hw : 0 ≤ wd ∧ wd ≤ 1048576) (hn : n ≤ 1000) (hs : t.size ≤ 1099511627776) :
    Calls Try.prog 98 #[.pointer (some ⟨b, 0, none⟩), .int .i64 n, .int .i64 wd] w fun e w' => ∃ oa oc, e = .returned (.slice oa (hsL t a bad wd n).length oc) ∧ OwnStrs w' w.heap.size (.slice oa (hsL t a bad wd n).length oc) (hsL t a bad wd n) ∧ Fld w' b t (hsS t a bad wd n).1 (hsS t a bad wd n).2 ∧ Mut b w w' := by
  obtain ⟨i0, hi, hz0, hz1, hz2⟩ := info_parts infoString
  have hn1 : (n : Int) ≤ 1000 := by omega
  obtain ⟨hw0, hw1⟩ := hw
  go_enter Try.func98, Try.ntmps98
  go_wp2
  go_loopw [7, 9] (fun v i wr => ∃ k : Nat, k ≤ n ∧ i = .int .i64 k ∧ wr.ownsRow w.heap.size 9 1 v k ((hsL t a bad wd k).map Value.string) ∧ Fld wr b t (hsS t a bad wd k).1 (hsS t a bad wd k).2 ∧ Mut b w wr) (fun _ i _ => n - (intOf i).toNat)
  case atStart => exact ⟨0, Nat.zero_le _, rfl, World.ownsRow_nil _ _ _ _, h, Mut.refl _ _⟩
  case round =>
    obtain ⟨k, hk, rfl, hown, F, M⟩ := hrel
    obtain ⟨oa, oc, rfl⟩ := own_any hown
    have hbd := hsS_bd (bad := bad) ha hw0 k
    have hsz := M.size
    by_cases hlt : k < n
    · have hlt' : (k : Int) < n := by omega
      have HU := Lib.hid (hsL_succ t a bad wd k)
      have HX := Lib.hid (show hsS t a bad wd (k + 1) = (bytesAt t (hsS t a bad wd k).1 (hsS t a bad wd k).2 wd, bytesBad t (hsS t a bad wd k).1 (hsS t a bad wd k).2 wd) from rfl)
      generalize hsS t a bad wd k = st at *
      obtain ⟨at1, bad1⟩ := st
      dsimp only at HX F hbd HU
      go_wp2_with fail
      refine (impl_fields_bytes b t at1 bad1 wd _ F hbd ⟨hw0, hw1⟩ hs).mono ?_
      generalize hs1 : bytesOf t at1 bad1 wd = s1 at *
      have HS := Lib.hid hs1
      clear hs1
      rintro e w1 ⟨rfl, M1, F1⟩
      have own1 := own_mut hown (b := b) hb M1
      have z1 := M1.size
      have HB := Lib.hid (show b < w1.heap.size by omega)
      have M2 := M.trans M1
      clear hown F M
      go_wp2_with (at_builtin; refine wpList_append_own _ rfl (.tmp 11) (.tmp 15) 24 rfl w.heap.size 9 i0 (.string ⟨#[]⟩) 1 16 Try.underlying24 hi hz0 hz1 hz2 rfl (by decide) _ _ _ rfl (own_alloc own1 _) ⟨w1.heap.size, 0, none⟩ 1 1 [.string s1] rfl rfl ?c1 ?c2 ?c3 ?c4 ?c5 ?_)
      case c1 => exact World.news_of_block (heap_alloc_new w1 (Obj.cells #[Value.string s1] 9))
      case c2 => intro u hu; simp at hu; subst hu; rfl
      case c3 => unfold maxLen; omega
      case c4 => omega
      case c5 => simp; omega
      intro v' w3 own3 hgrow _
      have e3 : Ext w1 (w1.alloc (Obj.cells #[Value.string s1] 9)) := (Ext.refl _).alloc _
      have bl := own_lt own1
      have F3 := (F1.ext HB.out e3).grown (Nat.lt_of_lt_of_le HB.out e3.size) hgrow (fun e => by have := (bl b e).1; omega)
      have M3 := (M2.trans (Mut.of_ext e3)).grew hgrow (fun k hk => (bl k hk).1)
      obtain ⟨oa3, oc3, rfl⟩ := own_any own3
      have O3 := Lib.hid own3
      clear own3 hgrow bl own1 F1 M2
      go_wp2
      go_roundw
      case rel => exact ⟨k + 1, by omega, by go_num, by rw [HU.out, List.map_append]; exact O3.out, by rw [HX.out]; exact F3, M3⟩
      case measure => simp [intOf]; omega
    · obtain rfl : k = n := by omega
      go_wp2
      go_ret
      exact ⟨oa, oc, by rw [hsL_len]; rfl, by unfold OwnStrs; rw [hsL_len]; exact hown, F, M⟩
theorem mut_new {b : Nat} {w w' : World} {c : Nat} (h : Mut b w w') (o : Nat) (u : Value) (hc : w.heap.size ≤ c := by exact Nat.le_refl _) : Mut b w (w'.setCell ⟨c, o, none⟩ u) := h.grew (row := some c) ⟨rfl, rfl, rfl, by simp [World.setCell], fun k _ hk => Below.heap_setCell _ _ _ _ (by simpa using hk)⟩ (fun k hk => by cases hk; exact hc)
theorem fld_far {w : World} {b c : Nat} {t : ByteArray} {a : Int} {x : Bool} (h : Fld w b t a x) (hc : c ≠ b) (o : Nat) (u : Value) : Fld (w.setCell ⟨c, o, none⟩ u) b t a x := by
  have hn : ∀ i, (⟨c, o, none⟩ : Addr) ≠ ⟨b, i, none⟩ := fun i e => hc (by injection e)
  exact ⟨by rw [World.cell?_setCell_other _ _ _ _ (hn _)]; exact h.c0, by rw [World.cell?_setCell_other _ _ _ _ (hn _)]; exact h.c1, by rw [World.cell?_setCell_other _ _ _ _ (hn _)]; exact h.c2, fun i => by rw [World.frozen?_setCell]; exact h.fz i⟩
set_option maxHeartbeats 1600000 in
theorem impl_fields_sig (b : Nat) (t : ByteArray) (a : Int) (bad : Bool) (w : World) (h : Fld w b t a bad) (hb : b < w.heap.size) (ha : 0 ≤ a ∧ a ≤ t.size) (hs : t.size ≤ 1099511627776) :
    Calls Try.prog 72 #[.pointer (some ⟨b, 0, none⟩)] w fun e w' => ∃ a1 c1 a2 c2 a3 c3, e = .returned (.agg #[.int .i64 (sgRd t a bad).at_, .slice a1 (sgRd t a bad).op.length c1, .slice a2 (sgRd t a bad).sh.length c2, .slice a3 (sgRd t a bad).si.length c3]) ∧ SigOwn w' w.heap.size (.slice a1 (sgRd t a bad).op.length c1) (.slice a2 (sgRd t a bad).sh.length c2) (.slice a3 (sgRd t a bad).si.length c3) (sgRd t a bad) ∧ Fld w' b t (sgS4 t a bad).1 (sgS4 t a bad).2 ∧ Mut b w w' := by
  have e0 : Ext w (w.alloc (Obj.cells #[.int .i64 0, .slice none 0 0, .slice none 0 0, .slice none 0 0] 26)) := (Ext.refl w).alloc _
  have R := Bx.new w #[.int .i64 0, .slice none 0 0, .slice none 0 0, .slice none 0 0] 26
  have F0 := h.ext hb e0
  have hb0 := Nat.lt_of_lt_of_le hb e0.size
  have hwb : w.heap.size ≠ b := by omega
  have M0 : Mut b w (w.alloc (Obj.cells #[.int .i64 0, .slice none 0 0, .slice none 0 0, .slice none 0 0] 26)) := Mut.of_ext e0
  have z0 : w.heap.size < (w.alloc (Obj.cells #[.int .i64 0, .slice none 0 0, .slice none 0 0, .slice none 0 0] 26)).heap.size := by rw [World.size_alloc]; omega
  go_enter Try.func72, Try.ntmps72
  go_wp2_with fail
  generalize w.alloc (Obj.cells #[.int .i64 0, .slice none 0 0, .slice none 0 0, .slice none 0 0] 26) = W0 at *
  refine (impl_fields_one b t a bad _ F0 ha hs).mono ?_
  rintro e w1 ⟨rfl, M1, F1⟩
  have hb1 := Nat.lt_of_lt_of_le hb0 M1.size
  have R1 := R.mut M1 hwb
  have q1 := sgS1_bd (bad := bad) ha
  have q2 := sgS2_bd (bad := bad) ha
  have q3 := sgS3_bd (bad := bad) ha
  have MA := M0.trans M1
  have HV := Lib.hid (show sgRd t a bad = ⟨oneOf t a bad, hsL t (sgS1 t a bad).1 (sgS1 t a bad).2 16 8, hsL t (sgS2 t a bad).1 (sgS2 t a bad).2 16 8, hsL t (sgS3 t a bad).1 (sgS3 t a bad).2 16 4⟩ from rfl)
  have HS2 := Lib.hid (show hsS t (sgS1 t a bad).1 (sgS1 t a bad).2 16 8 = sgS2 t a bad from rfl)
  have HS3 := Lib.hid (show hsS t (sgS2 t a bad).1 (sgS2 t a bad).2 16 8 = sgS3 t a bad from rfl)
  have HS4 := Lib.hid (show hsS t (sgS3 t a bad).1 (sgS3 t a bad).2 16 4 = sgS4 t a bad from rfl)
  have F1' : Fld w1 b t (sgS1 t a bad).1 (sgS1 t a bad).2 := F1
  clear F1 F0 R M0
  generalize sgS1 t a bad = s1 at *
  generalize sgS2 t a bad = s2 at *
  generalize sgS3 t a bad = s3 at *
  generalize hs4 : sgS4 t a bad = s4 at *
  have HS5 := Lib.hid hs4
  clear hs4
  go_wp2_with fail
  refine (impl_fields_hashes b t s1.1 s1.2 8 16 _ F1' hb1 q1 (by decide) (by decide) hs).mono ?_
  rw [HS2.out]
  generalize hsL t s1.1 s1.2 16 8 = l1 at *
  rintro e w2 ⟨a1, c1, rfl, o1, F2, M2⟩
  have hb2 := Nat.lt_of_lt_of_le hb1 M2.size
  have R2 := R1.mut M2 hwb
  have MB := MA.trans M2
  have n1 := M1.size
  have n2 := M2.size
  go_wp2_with fail
  refine (impl_fields_hashes b t s2.1 s2.2 8 16 _ F2 hb2 q2 (by decide) (by decide) hs).mono ?_
  rw [HS3.out]
  generalize hsL t s2.1 s2.2 16 8 = l2 at *
  rintro e w3 ⟨a2, c2, rfl, o2, F3, M3⟩
  have hb3 := Nat.lt_of_lt_of_le hb2 M3.size
  have R3 := R2.mut M3 hwb
  have MC := MB.trans M3
  have o1b := own_mut o1 (b := b) hb1 M3
  have n3 := M3.size
  go_wp2_with fail
  refine (impl_fields_hashes b t s3.1 s3.2 4 16 _ F3 hb3 q3 (by decide) (by decide) hs).mono ?_
  rw [HS4.out]
  generalize hsL t s3.1 s3.2 16 4 = l3 at *
  rintro e w4 ⟨a3, c3, rfl, o3, F4, M4⟩
  have R4 := R3.mut M4 hwb
  have MD := MC.trans M4
  have o1c := own_mut o1b (b := b) hb1 M4
  have o2c := own_mut o2 (b := b) hb2 M4
  have n4 := M4.size
  have f12 : Off (.slice a1 l1.length c1) (.slice a2 l2.length c2) := off_new o1 o2 (Nat.le_refl _)
  have f13 : Off (.slice a1 l1.length c1) (.slice a3 l3.length c3) := off_new o1b o3 (Nat.le_refl _)
  have f23 : Off (.slice a2 l2.length c2) (.slice a3 l3.length c3) := off_new o2 o3 (Nat.le_refl _)
  generalize hz : oneOf t a bad = z at *
  have HZ := Lib.hid hz
  clear hz o1 o1b o2 R1 R2 R3 M1 M2 M3 M4 MA MB MC F1' F2 F3
  have hx1 : w.heap.size < w1.heap.size := by omega
  have hx2 : w.heap.size < w2.heap.size := by omega
  have hx3 : w.heap.size < w3.heap.size := by omega
  have RF := ((((R4.set 0 (.int .i64 z) (by simp)).set 1 (.slice a1 l1.length c1) (by simp)).set 2 (.slice a2 l2.length c2) (by simp)).set 3 (.slice a3 l3.length c3) (by simp))
  have O1 := Lib.hid ((own_set (b := w.heap.size) (o := 3) (own_set (b := w.heap.size) (o := 2) (own_set (b := w.heap.size) (o := 1) (own_set (b := w.heap.size) (o := 0) o1c hx1 (.int .i64 z)) hx1 (.slice a1 l1.length c1)) hx1 (.slice a2 l2.length c2)) hx1 (.slice a3 l3.length c3)))
  have O2 := Lib.hid ((own_set (b := w.heap.size) (o := 3) (own_set (b := w.heap.size) (o := 2) (own_set (b := w.heap.size) (o := 1) (own_set (b := w.heap.size) (o := 0) o2c hx2 (.int .i64 z)) hx2 (.slice a1 l1.length c1)) hx2 (.slice a2 l2.length c2)) hx2 (.slice a3 l3.length c3)))
  have O3 := Lib.hid ((own_set (b := w.heap.size) (o := 3) (own_set (b := w.heap.size) (o := 2) (own_set (b := w.heap.size) (o := 1) (own_set (b := w.heap.size) (o := 0) o3 hx3 (.int .i64 z)) hx3 (.slice a1 l1.length c1)) hx3 (.slice a2 l2.length c2)) hx3 (.slice a3 l3.length c3)))
  have MF := (mut_new (mut_new (mut_new (mut_new MD 0 (.int .i64 z)) 1 (.slice a1 l1.length c1)) 2 (.slice a2 l2.length c2)) 3 (.slice a3 l3.length c3))
  have FF := (fld_far (fld_far (fld_far (fld_far F4 hwb 0 (.int .i64 z)) hwb 1 (.slice a1 l1.length c1)) hwb 2 (.slice a2 l2.length c2)) hwb 3 (.slice a3 l3.length c3))
  have k0 := R4.2.1 0 _ rfl
  have k1 := R4.2.1 1 _ rfl
  have k2 := R4.2.1 2 _ rfl
  have k3 := R4.2.1 3 _ rfl
  have f0 := R4.2.2 0
  have f1 := R4.2.2 1
  have f2 := R4.2.2 2
  have f3 := R4.2.2 3
  clear R4 o1c o2c o3 MD F4
  go_wp2
  generalize (((w4.setCell ⟨w.heap.size, 0, none⟩ (.int .i64 z)).setCell ⟨w.heap.size, 1, none⟩ (.slice a1 l1.length c1)).setCell ⟨w.heap.size, 2, none⟩ (.slice a2 l2.length c2)).setCell ⟨w.heap.size, 3, none⟩ (.slice a3 l3.length c3) = WF at *
  clear k0 k1 k2 k3
  have k0 := RF.2.1 0 _ rfl
  have k1 := RF.2.1 1 _ rfl
  have k2 := RF.2.1 2 _ rfl
  have k3 := RF.2.1 3 _ rfl
  refine bodyPost_ret (v := .agg #[.int .i64 z, .slice a1 l1.length c1, .slice a2 l2.length c2, .slice a3 l3.length c3]) (by simp [results, Try.results72, go_sem, k0, k1, k2, k3]) rfl ?_
  rw [HV.out]
  exact ⟨a1, c1, a2, c2, a3, c3, rfl, ⟨own_mono O1.out (Nat.le_of_lt hx1), own_mono O2.out (Nat.le_of_lt hx2), own_mono O3.out (Nat.le_of_lt hx3), f12, f13, f23⟩, by rw [HS5.out]; exact FF, MF⟩
def doneB (t : ByteArray) (a : Int) (bad : Bool) : Bool := !bad && decide (a = t.size)
set_option maxHeartbeats 800000 in
theorem impl_fields_done (b : Nat) (t : ByteArray) (a : Int) (bad : Bool) (w : World) (h : Fld w b t a bad) :
    Calls Try.prog 27 #[.pointer (some ⟨b, 0, none⟩)] w fun e w' => e = .returned (.bool (doneB t a bad)) ∧ Ext w w' := by
  obtain ⟨h0, h1, h2, -⟩ := h
  cases bad
  · go_enter Try.func27, Try.ntmps27
    go_wp2
    by_cases hq : a = t.size
    · have hb : (a == (t.size : Int)) = true := by simp [hq]
      have HQ := Lib.hid hq
      clear hq
      go_quiet (fail)
      go_wp2
      go_ret
      exact ⟨ret_bool (by rw [doneB, decide_eq_true HQ.out]; simp), (by repeat (first | (with_reducible first | exact Ext.refl _ | assumption | apply Ext.alloc | apply Ext.drew | apply Ext.drewN | refine Ext.setCell ?_ ?_ _ | refine Ext.trans ?_ (by assumption)) | (show _ ≤ _; first | omega | (dsimp only; omega) | (simp; done) | (simp; omega))))⟩
    · have hb : (a == (t.size : Int)) = false := by simp [hq]
      have HQ := Lib.hid hq
      clear hq
      go_quiet (fail)
      go_wp2
      go_ret
      exact ⟨ret_bool (by rw [doneB, decide_eq_false HQ.out]; simp), (by repeat (first | (with_reducible first | exact Ext.refl _ | assumption | apply Ext.alloc | apply Ext.drew | apply Ext.drewN | refine Ext.setCell ?_ ?_ _ | refine Ext.trans ?_ (by assumption)) | (show _ ≤ _; first | omega | (dsimp only; omega) | (simp; done) | (simp; omega))))⟩
  · go_enter Try.func27, Try.ntmps27
    go_wp2
    go_quiet (fail)
    go_wp2
    go_ret
    exact ⟨ret_bool (by simp [doneB]), (by repeat (first | (with_reducible first | exact Ext.refl _ | assumption | apply Ext.alloc | apply Ext.drew | apply Ext.drewN | refine Ext.setCell ?_ ?_ _ | refine Ext.trans ?_ (by assumption)) | (show _ ≤ _; first | omega | (dsimp only; omega) | (simp; done) | (simp; omega))))⟩
set_option maxHeartbeats 1600000 in
theorem spec_l05Cut (t : ByteArray) (a n : Nat) (w : World) (h : a + n * 16 ≤ t.size) (hn : n ≤ 1000) (hs : t.size ≤ 1099511627776) :
    Calls Try.prog 68 #[.string t, .int .i64 a, .int .i64 n] w fun e w' => ∃ oa oc, e = .returned (.slice oa (cutL t a n).length oc) ∧ OwnStrs w' w.heap.size (.slice oa (cutL t a n).length oc) (cutL t a n) ∧ Ext w w' := by
  obtain ⟨i0, hi, hz0, hz1, hz2⟩ := info_parts infoString
  have hn1 : (n : Int) ≤ 1000 := by omega
  go_enter Try.func68, Try.ntmps68
  go_wp2
  go_loopw [7, 8] (fun v i wr => ∃ k : Nat, k ≤ n ∧ i = .int .i64 k ∧ wr.ownsRow w.heap.size 9 1 v k ((cutL t a k).map Value.string) ∧ Ext w wr) (fun _ i _ => n - (intOf i).toNat)
  case atStart => exact ⟨0, Nat.zero_le _, rfl, World.ownsRow_lit w #[] 0 (Nat.le_refl _) (Nat.zero_le _) rfl, (by repeat (first | (with_reducible first | exact Ext.refl _ | assumption | apply Ext.alloc | apply Ext.drew | apply Ext.drewN | refine Ext.setCell ?_ ?_ _ | refine Ext.trans ?_ (by assumption)) | (show _ ≤ _; first | omega | (dsimp only; omega) | (simp; done) | (simp; omega))))⟩
  case round =>
    obtain ⟨k, hk, rfl, hown, hx⟩ := hrel
    obtain ⟨oa, oc, rfl⟩ := own_any hown
    have hsz := hx.size
    by_cases hlt : k < n
    · have hlt' : (k : Int) < n := by omega
      have HU := Lib.hid (cutL_succ t a k)
      have w1 : IntKind.i64.wrap ((k : Int) * 16) = k * 16 := IntWalk.i64_in _ (by omega)
      have w2 : IntKind.i64.wrap (((k : Int) + 1) * 16) = (k + 1) * 16 := IntWalk.i64_in _ (by omega)
      have b1 : (0 : Int) ≤ a + k * 16 := by omega
      have b2 : (a : Int) + k * 16 ≤ a + (k + 1) * 16 := by omega
      have b3 : (a : Int) + (k + 1) * 16 ≤ t.size := by omega
      have n1 : ((a : Int) + k * 16).toNat = a + k * 16 := by omega
      have n2 : ((a : Int) + (k + 1) * 16).toNat = a + k * 16 + 16 := by omega
      go_wp2_with (at_builtin; refine wpList_append_own _ rfl (.tmp 15) (.tmp 27) 24 rfl w.heap.size 9 i0 (.string ⟨#[]⟩) 1 16 Try.underlying24 hi hz0 hz1 hz2 rfl (by decide) _ _ _ rfl (own_alloc hown _) ⟨wr.heap.size, 0, none⟩ 1 1 [.string (t.extract (a + k * 16) (a + k * 16 + 16))] rfl rfl ?c1 ?c2 ?c3 ?c4 ?c5 ?_)
      case c1 => exact World.news_of_block (heap_alloc_new wr (Obj.cells #[Value.string (t.extract (a + k * 16) (a + k * 16 + 16))] 9))
      case c2 => intro u hu; simp at hu; subst hu; rfl
      case c3 => unfold maxLen; omega
      case c4 => omega
      case c5 => simp; omega
      intro v' w3 own3 hgrow _
      have hx3 : Ext w w3 := own_ext_of (hx.alloc _) (own_alloc hown _) hgrow (Nat.le_refl _)
      obtain ⟨oa3, oc3, rfl⟩ := own_any own3
      have O3 := Lib.hid own3
      clear own3 hgrow hown
      go_wp2
      go_roundw
      case rel => exact ⟨k + 1, by omega, by go_num, by rw [HU.out, List.map_append]; exact O3.out, hx3⟩
      case measure => simp [intOf]; omega
    · obtain rfl : k = n := by omega
      go_wp2
      go_ret
      exact ⟨oa, oc, by rw [cutL_len]; rfl, by unfold OwnStrs; rw [cutL_len]; exact hown, hx⟩
end Go.Proofs.Ytliebkhfddmhjaa
