/- The draw of roots to be combined. -/
import Derived.Test.YtliebkhfddmhjaaDoorCur3
import Derived.OwnWalk
namespace Go.Proofs.YtliebkhfddmhjaaDoor
open Go.RowKit

set_option maxRecDepth 100000 in
set_option maxHeartbeats 1600000 in
theorem spec_l12Draw (b : Nat) (w : World) (h : Cur w b) :
    Calls Tryd.prog 156 #[.pointer (some ⟨b, 0, none⟩)] w fun e w' => ∃ (xs : List ByteArray) (a : Option Addr) (c : Nat) (wd : Int), e = .returned (.tuple #[.slice a xs.length c, .int .i64 wd]) ∧ (∀ s ∈ xs, s.size ≤ 32) ∧ Strs w' (.slice a xs.length c) xs ∧ Cur w' b ∧ Mut b w w' := by
  obtain ⟨i0, hi, hz0, hz1, hz2⟩ := info_parts infoString
  go_enter Tryd.func156, Tryd.ntmps156
  go_wp2_with fail
  refine (spec_l01PickInt b _ [16, 1, 32, 16] _ (h.ext (by repeat (first | (with_reducible first | exact Ext.refl _ | assumption | apply Ext.alloc | apply Ext.drew | apply Ext.drewN | refine Ext.setCell ?_ ?_ _ | refine Ext.trans ?_ (by assumption)) | (show _ ≤ _; first | omega | (dsimp only; omega) | (simp; done) | (simp; omega))))) (by exact ints_lit w [16, 1, 32, 16] 4 _ _ rfl rfl (by omega)) (own_not h.lt) (by decide) (by decide)).mono ?_
  rintro e w1 ⟨wd, hwd, rfl, C1, M1⟩
  have M1' : Mut b w w1 := (Mut.of_ext ((Ext.refl w).alloc _)).trans M1
  clear hwd
  go_wp2_with fail
  refine (spec_l01PickInt b _ [1, 2, 4, 2, 4, 3, 0] _ (C1.ext (by repeat (first | (with_reducible first | exact Ext.refl _ | assumption | apply Ext.alloc | apply Ext.drew | apply Ext.drewN | refine Ext.setCell ?_ ?_ _ | refine Ext.trans ?_ (by assumption)) | (show _ ≤ _; first | omega | (dsimp only; omega) | (simp; done) | (simp; omega))))) (by exact ints_lit w1 [1, 2, 4, 2, 4, 3, 0] 7 _ _ rfl rfl (by omega)) (own_not C1.lt) (by decide) (by decide)).mono ?_
  rintro e w2 ⟨n, hn, rfl, C2, M2⟩
  have M2' : Mut b w w2 := M1'.trans ((Mut.of_ext ((Ext.refl w1).alloc _)).trans M2)
  obtain ⟨n, rfl, hn4⟩ : ∃ m : Nat, n = m ∧ m ≤ 4 := by
    simp only [List.mem_cons, List.not_mem_nil, or_false] at hn
    rcases hn with rfl | rfl | rfl | rfl | rfl | rfl | rfl
    · exact ⟨1, rfl, by omega⟩
    · exact ⟨2, rfl, by omega⟩
    · exact ⟨4, rfl, by omega⟩
    · exact ⟨2, rfl, by omega⟩
    · exact ⟨4, rfl, by omega⟩
    · exact ⟨3, rfl, by omega⟩
    · exact ⟨0, rfl, by omega⟩
  clear hn
  have hb := C2.lt
  have hb0 := h.lt
  have hs2 := M2'.size
  go_wp2
  go_loopw [6, 7] (fun v i wr => ∃ (xs : List ByteArray), i = .int .i64 xs.length ∧ xs.length ≤ n ∧ (∀ s ∈ xs, s.size ≤ 32) ∧ wr.ownsRow w2.heap.size 9 1 v xs.length (xs.map Value.string) ∧ Cur wr b ∧ Mut b w wr ∧ w2.heap.size ≤ wr.heap.size) (fun _ i _ => n - (intOf i).toNat)
  case atStart => exact ⟨[], rfl, Nat.zero_le _, fun s hs => by simp at hs, World.ownsRow_lit w2 #[] 0 (Nat.le_refl _) (Nat.zero_le _) rfl, C2.ext (by repeat (first | (with_reducible first | exact Ext.refl _ | assumption | apply Ext.alloc | apply Ext.drew | apply Ext.drewN | refine Ext.setCell ?_ ?_ _ | refine Ext.trans ?_ (by assumption)) | (show _ ≤ _; first | omega | (dsimp only; omega) | (simp; done) | (simp; omega)))), M2'.trans (Mut.of_ext (by repeat (first | (with_reducible first | exact Ext.refl _ | assumption | apply Ext.alloc | apply Ext.drew | apply Ext.drewN | refine Ext.setCell ?_ ?_ _ | refine Ext.trans ?_ (by assumption)) | (show _ ≤ _; first | omega | (dsimp only; omega) | (simp; done) | (simp; omega))))), by first | (rw [World.size_alloc]; omega) | omega⟩
  case round =>
    obtain ⟨xs, rfl, hxn, hxs, hown, C, M, hz0s⟩ := hrel
    obtain ⟨oa, oc, rfl⟩ := own_any hown
    have HXS := Lib.hid hxs
    clear hxs
    have hsz := M.size
    by_cases hlt : xs.length < n
    · have hlti : (xs.length : Int) < n := by omega
      go_wp2_with fail
      refine (spec_l01Text b 2 _ C (by omega)).mono ?_
      rintro e w4 ⟨s, rfl, hs, C4, M4⟩
      have own4 : w4.ownsRow w2.heap.size 9 1 (.slice oa xs.length oc) xs.length (xs.map Value.string) := own_grown2 hown M4 (fun k hk hv => by cases hk; have := (own_lt hown b hv).1; omega)
      have M5 := M.trans M4
      have z4 := M4.size
      clear hown M M4
      go_wp2_with fail
      refine (spec_CutDigest s wd _ (by omega)).mono ?_
      have hc := cutT_le s wd
      generalize cutT s wd = ct at *
      rintro e w5 ⟨rfl, x5⟩
      replace C4 := C4.ext x5
      replace M5 := M5.trans (Mut.of_ext x5)
      have own5 := own_ext own4 x5
      have z5 := x5.size
      clear own4 x5 hs
      go_wp2_with (at_builtin; refine wpList_append_own _ rfl (.tmp 20) (.tmp 25) 22 rfl w2.heap.size 9 i0 (.string ⟨#[]⟩) 1 16 Tryd.underlying22 hi hz0 hz1 hz2 rfl (by decide) _ _ _ rfl (own_alloc own5 _) ⟨w5.heap.size, 0, none⟩ 1 1 [.string ct] rfl rfl ?c1 ?c2 ?c3 ?c4 ?c5 ?_)
      case c1 => exact World.news_of_block (heap_alloc_new w5 (Obj.cells #[Value.string ct] 9))
      case c2 => intro u hu; simp at hu; subst hu; rfl
      case c3 => unfold maxLen; omega
      case c4 => omega
      case c5 => simp; omega
      intro v' w6 own6 hgrow _
      have e6 : Ext w5 (w5.alloc (Obj.cells #[Value.string ct] 9)) := (Ext.refl _).alloc _
      have bl := own_lt own5
      have C6 := (C4.ext e6).grown hgrow (fun k hk => by have := (bl k hk).1; omega)
      have M6 := (M5.trans (Mut.of_ext e6)).grown hgrow (fun k hk => by have := (bl k hk).1; omega)
      obtain ⟨oa6, oc6, rfl⟩ := own_any own6
      have O6 := Lib.hid own6
      have z6 : w2.heap.size ≤ w6.heap.size := by have h1 := hgrow.size; rw [World.size_alloc] at h1; omega
      clear own6 hgrow bl own5
      go_wp2
      go_roundw
      case rel => exact ⟨xs ++ [ct], by simp, by simp; omega, fun s hs => by (rw [List.mem_append, List.mem_singleton] at hs; rcases hs with hs | rfl; exact HXS.out s hs; exact hc), by rw [List.map_append, List.length_append]; exact O6.out, C6, M6, z6⟩
      case measure => simp only [intOf]; omega
    · have hlti : ¬ (xs.length : Int) < n := by omega
      have HO := Lib.hid (show Strs wr (.slice oa xs.length oc) xs from Row.of_owns hown)
      have HW := Lib.hid hown
      clear hown
      go_wp2_with fail
      refine (spec_l01Once b 12 _ C (by decide)).mono ?_
      rintro e w4 ⟨q, rfl, C4, M4⟩
      have M5 := M.trans M4
      have O4 := own_grown2 HW.out M4 (fun k hk hv => by cases hk; have := (own_lt HW.out b hv).1; omega)
      have HW4 := Lib.hid O4
      clear O4 HW HO M M4
      cases q
      · go_wp2
        go_ret2
        exact ⟨xs, oa, oc, wd, rfl, HXS.out, Row.of_owns HW4.out, C4, M5⟩
      · go_wp2_with fail
        refine (spec_l01PickInt b _ [0, 33, 5] _ (C4.ext (by repeat (first | (with_reducible first | exact Ext.refl _ | assumption | apply Ext.alloc | apply Ext.drew | apply Ext.drewN | refine Ext.setCell ?_ ?_ _ | refine Ext.trans ?_ (by assumption)) | (show _ ≤ _; first | omega | (dsimp only; omega) | (simp; done) | (simp; omega))))) (by exact ints_lit w4 [0, 33, 5] 3 _ _ rfl rfl (by omega)) (own_not C4.lt) (by decide) (by decide)).mono ?_
        rintro e w5 ⟨wd2, -, rfl, C5, M6⟩
        have e5 : Ext w4 (w4.alloc (Obj.cells #[Value.int .i64 0, Value.int .i64 33, Value.int .i64 5] 3)) := (Ext.refl _).alloc _
        have O5 := own_grown2 (own_ext HW4.out e5) M6 (fun k hk hv => by cases hk; have := (own_lt HW4.out b hv).1; omega)
        have HW5 := Lib.hid O5
        have M7 := (M5.trans (Mut.of_ext e5)).trans M6
        clear O5
        go_wp2
        go_ret2
        exact ⟨xs, oa, oc, wd2, rfl, HXS.out, Row.of_owns HW5.out, C5, M7⟩
set_option maxRecDepth 100000 in
theorem spec_DrawCombineSides (v : Value) (bs : List Int) (w : World) (h : Code w w.heap.size v bs) (hl : bs.length ≤ 1048576) :
    Calls Tryd.prog 76 #[v] w fun e w' => ∃ (xs : List ByteArray) (a : Option Addr) (c : Nat) (sh wd : Int), e = .returned (.tuple #[.slice a xs.length c, .int .i64 sh, .int .i64 wd]) ∧ (∀ s ∈ xs, s.size ≤ 32) ∧ Strs w' (.slice a xs.length c) xs ∧ Ext w w' := by
  go_enter Tryd.func76, Tryd.ntmps76
  go_wp2_with fail
  refine (spec_l01New v bs _ h hl).mono ?_
  rintro e w1 ⟨rfl, C1, x1⟩
  generalize hB : w.heap.size = B at *
  go_wp2_with fail
  refine (spec_l01PickInt B _ [0, 1, 2, 3, -1, 4] _ (C1.ext (by repeat (first | (with_reducible first | exact Ext.refl _ | assumption | apply Ext.alloc | apply Ext.drew | apply Ext.drewN | refine Ext.setCell ?_ ?_ _ | refine Ext.trans ?_ (by assumption)) | (show _ ≤ _; first | omega | (dsimp only; omega) | (simp; done) | (simp; omega))))) (by exact ints_lit w1 [0, 1, 2, 3, -1, 4] 6 _ _ rfl rfl (by omega)) (own_not C1.lt) (by decide) (by decide)).mono ?_
  rintro e w2 ⟨sh, -, rfl, C2, M2⟩
  have X2 := (x1.trans ((Ext.refl w1).alloc _)).mut M2 (by omega)
  go_wp2_with fail
  refine (spec_l12Draw B _ C2).mono ?_
  rintro e w3 ⟨xs, a, c, wd, rfl, hxs, hst, C3, M3⟩
  have HX := Lib.hid hxs
  have HS := Lib.hid hst
  have X3 := X2.mut M3 (by omega)
  clear hxs hst
  go_wp2
  go_ret3
  exact ⟨xs, a, c, sh, wd, rfl, HX.out, HS.out, X3⟩
end Go.Proofs.YtliebkhfddmhjaaDoor
