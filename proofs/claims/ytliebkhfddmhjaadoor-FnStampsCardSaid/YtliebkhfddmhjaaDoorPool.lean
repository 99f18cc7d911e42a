/- One level up, the root of a pool: both. -/
import Derived.Test.YtliebkhfddmhjaaDoorHashA
import Derived.Test.YtliebkhfddmhjaaDoorRoots2
import Derived.Test.YtliebkhfddmhjaaDoorApp
import Derived.IntWalk
namespace Go.Proofs.YtliebkhfddmhjaaDoor
open Go.RowKit

/-- the root of a pool -/
def poolRt (xs : List ByteArray) : ByteArray := if xs.length = 16 then topT 16 4 xs else ⟨#[]⟩
theorem poolRt_yes {xs : List ByteArray} (h : xs.length = 16) : poolRt xs = topT 16 4 xs := by rw [poolRt, if_pos h]
theorem poolRt_no {xs : List ByteArray} (h : ¬ xs.length = 16) : poolRt xs = ⟨#[]⟩ := by rw [poolRt, if_neg h]
theorem up_fit (xs : List ByteArray) (wd : Int) (k : Nat) : ∀ s ∈ upK xs wd k, s.size ≤ maxLen := fun s hs => by have := upK_fit xs wd k s hs; unfold maxLen; omega
set_option maxRecDepth 100000 in
set_option maxHeartbeats 1600000 in
theorem impl_above2 (v : Value) (xs : List ByteArray) (wd : Int) (w : World) (h : Strs w v xs) (hs : ∀ s ∈ xs, s.size ≤ maxLen) (hb : xs.length ≤ 1000) (hT : Tabs w) :
    Calls Tryd.prog 153 #[v, .int .i64 wd] w fun e w' => ∃ a c, e = .returned (.slice a (upL xs wd).length c) ∧ OwnStrs w' w.heap.size (.slice a (upL xs wd).length c) (upL xs wd) ∧ Ext w w' := by
  have HT := Lib.hid hT
  clear hT
  obtain ⟨i0, hi, hz0, hz1, hz2⟩ := info_parts infoString
  obtain ⟨-, a1, c1, rfl, hc1, hm1, g1⟩ := h
  unfold maxLen at hm1
  go_enter Tryd.func153, Tryd.ntmps153
  go_wp2
  go_loopw [5, 6] (fun v ii wr => ∃ k m : Nat, m = 2 * k ∧ m ≤ xs.length ∧ ii = .int .i64 m ∧ wr.ownsRow w.heap.size 9 1 v (upK xs wd k).length ((upK xs wd k).map Value.string) ∧ Ext w wr) (fun _ ii _ => xs.length - (intOf ii).toNat)
  case atStart => exact ⟨0, 0, rfl, Nat.zero_le _, rfl, World.ownsRow_nil _ _ _ _, (by repeat (first | (with_reducible first | exact Ext.refl _ | assumption | apply Ext.alloc | apply Ext.drew | apply Ext.drewN | refine Ext.setCell ?_ ?_ _ | refine Ext.trans ?_ (by assumption)) | (show _ ≤ _; first | omega | (dsimp only; omega) | (simp; done) | (simp; omega))))⟩
  case round =>
    obtain ⟨k, m, hm2, hk, rfl, hown, hx⟩ := hrel
    obtain ⟨a, c, rfl⟩ := own_any hown
    have hsz := hx.size
    have HM := Lib.hid hm2
    clear hm2
    have ws : IntKind.i64.wrap ((m : Int) + 1) = (m : Int) + 1 := IntWalk.i64_in _ (by omega)
    have HK := Lib.hid (upK_length xs wd k)
    by_cases hlt : m + 1 < xs.length
    · rcases g1 with g1 | ⟨b1, o1, rfl, hb1, g1⟩
      · omega
      have f1 := Lib.hid (g1 m (.string xs[m]) (by simp; try omega))
      have f2 := Lib.hid (g1 (m + 1) (.string xs[m + 1]) (by simp; try omega))
      have j0 : (0 : Int) ≤ (m : Int) := by omega
      have j1 : (m : Int) < xs.length := by omega
      have j2 : (0 : Int) ≤ (m : Int) + 1 := by omega
      have j3 : (m : Int) + 1 < xs.length := by omega
      have j4 : ((m : Int) + 1).toNat = m + 1 := by omega
      have e1 : wr.cell? ⟨b1, o1 + m, none⟩ = some (.string xs[m]) := (hx.cell b1 _ hb1).trans f1.out
      have e2 : wr.cell? ⟨b1, o1 + (m + 1), none⟩ = some (.string xs[m + 1]) := (hx.cell b1 _ hb1).trans f2.out
      have HU := Lib.hid (upK_succ xs wd k m HM.out hlt)
      have HO := Lib.hid hown
      have ff := fit2 (hs xs[m] (List.getElem_mem _)) (hs xs[m + 1] (List.getElem_mem _))
      have l1 : b1 < wr.heap.size := Nat.lt_of_lt_of_le hb1 hx.size
      clear g1 hown
      go_wp2_with fail
      generalize hA : xs[m] = A at *
      generalize hB : xs[m + 1] = B at *
      go_region_held3 (fun W => W.cell? ⟨b1, o1 + m, none⟩ = some (.string A) ∧ W.cell? ⟨b1, o1 + (m + 1), none⟩ = some (.string B)) (first | exact ⟨e1, e2⟩ | exact ⟨cell_newp e1 l1, cell_newp e2 l1⟩ | exact ⟨d1, d2⟩ | exact ⟨cell_newp d1 l2, cell_newp d2 l2⟩ | exact ⟨(y9.cell b1 _ hb1).trans f1.out, (y9.cell b1 _ hb1).trans f2.out⟩) (first | (go_at_call 163; refine (impl_hashOf 3 _ [A, B] wd _ (by exact strs_lit2 wr.drew _ _ _) ff (by exact HT.out.ext (by repeat (first | (with_reducible first | exact Ext.refl _ | assumption | apply Ext.alloc | apply Ext.drew | apply Ext.drewN | refine Ext.setCell ?_ ?_ _ | refine Ext.trans ?_ (by assumption)) | (show _ ≤ _; first | omega | (dsimp only; omega) | (simp; done) | (simp; omega)))))).mono ?_; rintro e w1 ⟨rfl, x1⟩; have y1 : Ext wr w1 := (by repeat (first | (with_reducible first | exact Ext.refl _ | assumption | apply Ext.alloc | apply Ext.drew | apply Ext.drewN | refine Ext.setCell ?_ ?_ _ | refine Ext.trans ?_ (by assumption)) | (show _ ≤ _; first | omega | (dsimp only; omega) | (simp; done) | (simp; omega)))); have l2 := Nat.lt_of_lt_of_le l1 y1.size; have d1 := (y1.cell _ _ l1).trans e1; have d2 := (y1.cell _ _ l1).trans e2) | (refine step_append_lies _ rfl (.tmp 14) (.tmp 27) 22 (by rfl) w.heap.size 9 i0 (.string ⟨#[]⟩) 1 16 Tryd.underlying22 hi hz0 hz1 hz2 rfl (by decide) _ _ _ (by rfl) (own_alloc (own_ext HO.out y1) _) ⟨w1.heap.size, 0, none⟩ 1 1 [.string (tagH 3 [A, B] wd)] (by rfl) rfl (World.news_of_block (heap_alloc_new w1 (Obj.cells #[Value.string (tagH 3 [A, B] wd)] 9))) (by intro u hu; simp at hu; rcases hu with rfl; rfl) (by decide) (by have := HM.out; have := HK.out; unfold maxLen; omega) (by have := HM.out; have := HK.out; omega) (by have := y1.size; simp; omega) _ rfl ?_; intro g cap w9 hown9 hgrow _ _; have y9 : Ext w w9 := own_ext_of ((hx.trans y1).alloc _) (own_alloc (own_ext HO.out y1) _) hgrow (Nat.le_refl _)))
      have HO9 := Lib.hid hown9
      clear hown9 hgrow
      go_wp2
      go_roundw
      case rel => exact ⟨k + 1, m + 2, by have := HM.out; omega, by omega, by go_num, by rw [HU.out, List.length_append, List.map_append]; simpa using HO9.out, y9⟩
      case measure => simp [intOf]; omega
    · have hkn : k = xs.length / 2 := by have := HM.out; omega
      have hL : upK xs wd k = upL xs wd := by rw [hkn]; rfl
      have HL := Lib.hid hL
      have HO := Lib.hid hown
      clear g1 hL hown
      go_wp2
      go_ret
      refine ⟨a, c, ?_, ?_, hx⟩
      · rw [← HL.out]; rfl
      · rw [← HL.out]; exact HO.out
set_option maxRecDepth 100000 in
set_option maxHeartbeats 1600000 in
theorem spec_l05Up (v : Value) (xs : List ByteArray) (w : World) (h : Strs w v xs) (hs : ∀ s ∈ xs, s.size ≤ maxLen) (hb : xs.length ≤ 1000) :
    Calls Tryd.prog 126 #[v] w fun e w' => ∃ a c, e = .returned (.slice a (upL xs 16).length c) ∧ OwnStrs w' w.heap.size (.slice a (upL xs 16).length c) (upL xs 16) ∧ Ext w w' := by
  obtain ⟨i0, hi, hz0, hz1, hz2⟩ := info_parts infoString
  obtain ⟨-, a1, c1, rfl, hc1, hm1, g1⟩ := h
  unfold maxLen at hm1
  go_enter Tryd.func126, Tryd.ntmps126
  go_wp2
  go_loopw [3, 4] (fun v ii wr => ∃ k m : Nat, m = 2 * k ∧ m ≤ xs.length ∧ ii = .int .i64 m ∧ wr.ownsRow w.heap.size 9 1 v (upK xs 16 k).length ((upK xs 16 k).map Value.string) ∧ Ext w wr) (fun _ ii _ => xs.length - (intOf ii).toNat)
  case atStart => exact ⟨0, 0, rfl, Nat.zero_le _, rfl, World.ownsRow_lit w #[] 0 (Nat.le_refl _) (Nat.zero_le _) rfl, (by repeat (first | (with_reducible first | exact Ext.refl _ | assumption | apply Ext.alloc | apply Ext.drew | apply Ext.drewN | refine Ext.setCell ?_ ?_ _ | refine Ext.trans ?_ (by assumption)) | (show _ ≤ _; first | omega | (dsimp only; omega) | (simp; done) | (simp; omega))))⟩
  case round =>
    obtain ⟨k, m, hm2, hk, rfl, hown, hx⟩ := hrel
    obtain ⟨a, c, rfl⟩ := own_any hown
    have hsz := hx.size
    have HM := Lib.hid hm2
    clear hm2
    have ws : IntKind.i64.wrap ((m : Int) + 1) = (m : Int) + 1 := IntWalk.i64_in _ (by omega)
    have HK := Lib.hid (upK_length xs 16 k)
    by_cases hlt : m + 1 < xs.length
    · rcases g1 with g1 | ⟨b1, o1, rfl, hb1, g1⟩
      · omega
      have f1 := Lib.hid (g1 m (.string xs[m]) (by simp; try omega))
      have f2 := Lib.hid (g1 (m + 1) (.string xs[m + 1]) (by simp; try omega))
      have j0 : (0 : Int) ≤ (m : Int) := by omega
      have j1 : (m : Int) < xs.length := by omega
      have j2 : (0 : Int) ≤ (m : Int) + 1 := by omega
      have j3 : (m : Int) + 1 < xs.length := by omega
      have j4 : ((m : Int) + 1).toNat = m + 1 := by omega
      have e1 : wr.cell? ⟨b1, o1 + m, none⟩ = some (.string xs[m]) := (hx.cell b1 _ hb1).trans f1.out
      have e2 : wr.cell? ⟨b1, o1 + (m + 1), none⟩ = some (.string xs[m + 1]) := (hx.cell b1 _ hb1).trans f2.out
      have HU := Lib.hid (upK_succ xs 16 k m HM.out hlt)
      have HO := Lib.hid hown
      have ff := fit2 (hs xs[m] (List.getElem_mem _)) (hs xs[m + 1] (List.getElem_mem _))
      have l1 : b1 < wr.heap.size := Nat.lt_of_lt_of_le hb1 hx.size
      clear g1 hown
      go_wp2_with fail
      generalize hA : xs[m] = A at *
      generalize hB : xs[m + 1] = B at *
      go_region_held3 (fun W => W.cell? ⟨b1, o1 + m, none⟩ = some (.string A) ∧ W.cell? ⟨b1, o1 + (m + 1), none⟩ = some (.string B)) (first | exact ⟨e1, e2⟩ | exact ⟨cell_newp e1 l1, cell_newp e2 l1⟩ | exact ⟨d1, d2⟩ | exact ⟨cell_newp d1 l2, cell_newp d2 l2⟩ | exact ⟨(y9.cell b1 _ hb1).trans f1.out, (y9.cell b1 _ hb1).trans f2.out⟩) (first | (go_at_call 118; refine (spec_TagHash 3 _ [A, B] 16 _ (by exact strs_lit2 wr.drew _ _ _) ff).mono ?_; rintro e w1 ⟨rfl, x1⟩; have y1 : Ext wr w1 := (by repeat (first | (with_reducible first | exact Ext.refl _ | assumption | apply Ext.alloc | apply Ext.drew | apply Ext.drewN | refine Ext.setCell ?_ ?_ _ | refine Ext.trans ?_ (by assumption)) | (show _ ≤ _; first | omega | (dsimp only; omega) | (simp; done) | (simp; omega)))); have l2 := Nat.lt_of_lt_of_le l1 y1.size; have d1 := (y1.cell _ _ l1).trans e1; have d2 := (y1.cell _ _ l1).trans e2) | (refine step_append_lies _ rfl (.tmp 13) (.tmp 25) 22 (by rfl) w.heap.size 9 i0 (.string ⟨#[]⟩) 1 16 Tryd.underlying22 hi hz0 hz1 hz2 rfl (by decide) _ _ _ (by rfl) (own_alloc (own_ext HO.out y1) _) ⟨w1.heap.size, 0, none⟩ 1 1 [.string (tagH 3 [A, B] 16)] (by rfl) rfl (World.news_of_block (heap_alloc_new w1 (Obj.cells #[Value.string (tagH 3 [A, B] 16)] 9))) (by intro u hu; simp at hu; rcases hu with rfl; rfl) (by decide) (by have := HM.out; have := HK.out; unfold maxLen; omega) (by have := HM.out; have := HK.out; omega) (by have := y1.size; simp; omega) _ rfl ?_; intro g cap w9 hown9 hgrow _ _; have y9 : Ext w w9 := own_ext_of ((hx.trans y1).alloc _) (own_alloc (own_ext HO.out y1) _) hgrow (Nat.le_refl _)))
      have HO9 := Lib.hid hown9
      clear hown9 hgrow
      go_wp2
      go_roundw
      case rel => exact ⟨k + 1, m + 2, by have := HM.out; omega, by omega, by go_num, by rw [HU.out, List.length_append, List.map_append]; simpa using HO9.out, y9⟩
      case measure => simp [intOf]; omega
    · have hkn : k = xs.length / 2 := by have := HM.out; omega
      have hL : upK xs 16 k = upL xs 16 := by rw [hkn]; rfl
      have HL := Lib.hid hL
      have HO := Lib.hid hown
      clear g1 hL hown
      go_wp2
      go_ret
      refine ⟨a, c, ?_, ?_, hx⟩
      · rw [← HL.out]; rfl
      · rw [← HL.out]; exact HO.out

set_option maxRecDepth 100000 in
set_option maxHeartbeats 1600000 in
theorem spec_PoolRoot (v : Value) (xs : List ByteArray) (w : World) (h : Strs w v xs) (hs : ∀ s ∈ xs, s.size ≤ maxLen) (hsol : Solid v) :
    Calls Tryd.prog 55 #[v] w fun e w' => e = .returned (.string (poolRt xs)) ∧ Ext w w' := by
  obtain ⟨i0, hi, hz0, hz1, hz2⟩ := info_parts infoString
  obtain ⟨a, c, rfl⟩ := h.form
  by_cases hl : ¬ xs.length = 16
  · have hn1 : ((xs.length : Int) != 16) = true := by simp; omega
    have hn2 : ¬ ((xs.length : Int) = 16) := by omega
    have HR := Lib.hid (poolRt_no hl)
    clear hl
    go_enter Tryd.func55, Tryd.ntmps55
    go_wp2
    go_ret
    exact ⟨ret_str HR.out.symm, (by repeat (first | (with_reducible first | exact Ext.refl _ | assumption | apply Ext.alloc | apply Ext.drew | apply Ext.drewN | refine Ext.setCell ?_ ?_ _ | refine Ext.trans ?_ (by assumption)) | (show _ ≤ _; first | omega | (dsimp only; omega) | (simp; done) | (simp; omega))))⟩
  replace hl : xs.length = 16 := by omega
  have hn1 : ((xs.length : Int) != 16) = false := by simp; omega
  have hmax : xs.length ≤ 16 := by omega
  have R := Lib.hid (poolRt_yes hl)
  have HLL := Lib.hid hl
  clear hl
  have HR := Lib.hid (h.ext (show Ext w (w.alloc (Obj.cells #[] 9)) from (by repeat (first | (with_reducible first | exact Ext.refl _ | assumption | apply Ext.alloc | apply Ext.drew | apply Ext.drewN | refine Ext.setCell ?_ ?_ _ | refine Ext.trans ?_ (by assumption)) | (show _ ≤ _; first | omega | (dsimp only; omega) | (simp; done) | (simp; omega))))))
  have OL := World.ownsRow_lit (base := w.heap.size) (e := 9) (size := 1) w #[] 0 (Nat.le_refl _) (Nat.zero_le _) rfl
  go_enter Tryd.func55, Tryd.ntmps55
  go_wp2_with (at_builtin; refine wpList_append_any rfl (.tmp 7) (.tmp 8) 22 rfl w.heap.size 9 i0 _ 1 16 Tryd.underlying22 hi hz0 hz1 hz2 rfl (by decide) _ _ _ rfl OL _ xs.length (xs.map Value.string) rfl HR.out hsol (by intro u hu; rw [List.mem_map] at hu; obtain ⟨t, -, rfl⟩ := hu; rfl) (by unfold maxLen; omega) (by omega) (by rw [World.size_alloc]; omega) ?_)
  intro v' w3 own3 hgrow
  have hx3 : Ext w w3 := own_ext_of ((Ext.refl w).alloc _) OL hgrow (Nat.le_refl _)
  have s3 : Strs w3 v' xs := by have := Row.of_owns own3; simpa [Strs] using this
  clear own3 hgrow OL HR
  obtain ⟨a3, c3, rfl⟩ := s3.form
  go_wp2
  go_loopw [3] (fun lv wr => ∃ n ys, Strs wr lv ys ∧ ys.length = 2 ^ n ∧ n ≤ 4 ∧ topT 16 n ys = topT 16 4 xs ∧ (∀ s ∈ ys, s.size ≤ maxLen) ∧ Ext w wr) (fun lv _ => lenOf lv)
  case atStart => exact ⟨4, xs, s3, HLL.out, Nat.le_refl _, rfl, hs, hx3⟩
  case round =>
    obtain ⟨n, ys, hst, hyl, hn2, htop, hfit, hx⟩ := hrel
    obtain ⟨a', c', rfl⟩ := hst.form
    cases n with
    | zero =>
      have hy1 : ys.length = 1 := hyl
      have hgt : ¬ ((1 : Int) < ys.length) := by omega
      have hin : (0 : Int) < ys.length := by omega
      obtain ⟨b1, o1, rfl, hb1, e0⟩ := strs_first hst (by omega)
      have HH := Lib.hid htop
      clear htop
      go_wp2
      go_ret
      exact ⟨ret_str (by rw [R.out, ← HH.out]; exact (ba_getD ys 0 (by omega) _).symm), hx⟩
    | succ n =>
      have hp : 0 < 2 ^ n := Nat.pow_pos (by decide)
      rw [Nat.pow_succ] at hyl
      have hgt : (1 : Int) < ys.length := by omega
      have hul : (upL ys 16).length = 2 ^ n := by rw [upL_length]; omega
      have hb : ys.length ≤ 1000 := by
        have : 2 ^ n ≤ 2 ^ 3 := Nat.pow_le_pow_right (by decide) (by omega)
        omega
      have HU := Lib.hid hul
      have HH := Lib.hid (show topT 16 n (upL ys 16) = topT 16 4 xs from htop)
      have hlt : (upL ys 16).length < ys.length := by omega
      clear htop hul hyl hp
      go_wp2_with fail
      refine (spec_l05Up _ ys _ hst hfit hb).mono ?_
      rintro e w2 ⟨a2, c2, rfl, o2, x2⟩
      have s2 := o2.strs
      clear o2
      have hx2 : Ext w w2 := (by repeat (first | (with_reducible first | exact Ext.refl _ | assumption | apply Ext.alloc | apply Ext.drew | apply Ext.drewN | refine Ext.setCell ?_ ?_ _ | refine Ext.trans ?_ (by assumption)) | (show _ ≤ _; first | omega | (dsimp only; omega) | (simp; done) | (simp; omega))))
      go_wp2
      go_roundw
      case rel => exact ⟨n, upL ys 16, s2, HU.out, by omega, HH.out, up_fit _ _ _, hx2⟩
      case measure => exact hlt
end Go.Proofs.YtliebkhfddmhjaaDoor
