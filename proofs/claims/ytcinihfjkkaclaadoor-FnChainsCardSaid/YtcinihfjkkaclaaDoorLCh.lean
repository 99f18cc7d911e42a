/- FnChains: the walk. -/
import Derived.Test.YtcinihfjkkaclaaDoorDChain
import Derived.Test.YtcinihfjkkaclaaDoorChP
import Derived.Test.YtcinihfjkkaclaaDoorDec
import Derived.Test.YtcinihfjkkaclaaDoorApp
import Derived.Test.YtcinihfjkkaclaaDoorPls
import Derived.Test.YtcinihfjkkaclaaDoorTurn
import Derived.Test.YtcinihfjkkaclaaDoorCore
import Derived.Test.YtcinihfjkkaclaaDoorCurA
import Derived.Test.YtcinihfjkkaclaaDoorLftA
import Derived.Deep.RegionHeld3
import Derived.Deep.AppendLies
namespace Go.Proofs.YtcinihfjkkaclaaDoor
open Go.RowKit

theorem hds_drop1 {w : World} {g n c : Nat} {xs : List Hd} (h : Hds w (.slice (some ⟨g, 0, none⟩) n c) xs) (hn : 1 < xs.length) : Hds w (.slice (some ⟨g, 4, none⟩) (xs.length - 1) (c - 1)) (xs.drop 1) := by
  obtain ⟨hl, a, c', he, hc, hm, hcase⟩ := h
  injection he with e1 e2 e3
  subst e1 e3
  have hlen : (xs.drop 1).length = xs.length - 1 := List.length_drop
  rcases hcase with h0 | ⟨b, o, hb, hlt, hcell⟩
  · omega
  · simp only [Option.some.injEq, Addr.mk.injEq, and_true] at hb
    obtain ⟨rfl, rfl⟩ := hb
    refine ⟨flat_length Hd.cells_len _, _, _, by rw [hlen], by omega, by omega, Or.inr ⟨g, 4, rfl, hlt, fun j u hu => ?_⟩⟩
    have hx : xs = xs[0] :: xs.drop 1 := by
      have := List.drop_eq_getElem_cons (l := xs) (i := 0) (by omega)
      simpa using this
    have hf : xs.flatMap Hd.cells = xs[0].cells ++ (xs.drop 1).flatMap Hd.cells := by
      conv => lhs; rw [hx]
      rw [List.flatMap_cons]
    have := hcell (4 + j) u (by rw [hf, List.getElem?_append_right (by rw [Hd.cells_len]; omega), Hd.cells_len, Nat.add_sub_cancel_left]; exact hu)
    rwa [Nat.zero_add] at this
set_option maxRecDepth 100000 in
set_option maxHeartbeats 12800000 in
theorem laws_FnChains (v : Value) (bs : List Int) (w : World) (h : Code w w.heap.size v bs) (hT : Tabs w) :
    Calls Tryd.prog 4 #[v] w fun e w' => e = .returned (.bool true) ∧ Ext w w' := by
  obtain ⟨i0, hi, hz0, hz1, hz2⟩ := info_parts infoHead
  have HT := Lib.hid hT
  clear hT
  have HC := Lib.hid h
  obtain ⟨a, cap, rfl, -, -⟩ := id h
  by_cases hb : (1048576 : Int) < bs.length
  · go_enter Tryd.func4, Tryd.ntmps4
    go_wp2_with (go_at_call 10; refine (laws_big _ _ bs _ HC.out).mono ?_; rintro e w' ⟨rfl, rfl⟩)
    go_ret
    exact ⟨rfl, (by repeat (first | (with_reducible first | exact Ext.refl _ | assumption | apply Ext.alloc | apply Ext.drew | apply Ext.drewN | refine Ext.setCell ?_ ?_ _ | refine Ext.trans ?_ (by assumption)) | (show _ ≤ _; first | omega | (dsimp only; omega) | (simp; done) | (simp; omega))))⟩
  · have hl : bs.length ≤ 1048576 := by omega
    clear h
    go_enter Tryd.func4, Tryd.ntmps4
    go_wp2_with fail
    refine (laws_big _ _ bs _ HC.out).mono ?_
    rintro e w' ⟨rfl, rfl⟩
    go_wp2_with fail
    refine (spec_DrawChain _ bs _ HC.out hl).mono ?_
    rintro e w1 ⟨xs, g, c, house, rfl, hh, h4, hch, hown, x1⟩
    have HCH := Lib.hid hch
    have HO := Lib.hid hown
    have hg := (own_lt hown g rfl).1
    clear hch hown
    have s1 := x1.size
    go_wp2_with fail
    refine (spec_DrawPlaces2 _ bs _ (HC.out.ext (Nat.le_refl _) x1 s1) hl).mono ?_
    rintro e w2 ⟨ys, gp, cp, rfl, hys, -, hgp, hyc, -, x2⟩
    have y0 := hys 0
    have y1 := hys 1
    have d0 := hyc 0 (by omega)
    have d1 := hyc 1 (by omega)
    generalize ys.getD 0 0 = i0' at *
    generalize ys.getD 1 0 = i1' at *
    clear hys hyc
    have X2 := x1.trans x2
    go_wp2_with fail
    refine (impl_ChainOk _ xs house _ (OwnHds.hds (HO.out.ext x2)) (by omega) (HT.out.ext X2)).mono ?_
    rw [HCH.out]
    rintro e w3 ⟨rfl, x3⟩
    have d0' := (x3.cell _ _ hgp).trans d0
    have d1' := (x3.cell _ _ hgp).trans d1
    have hgp3 := Nat.lt_of_lt_of_le hgp x3.size
    have X3 := X2.trans x3
    clear d0 d1
    obtain ⟨n0, rfl⟩ := Int.eq_ofNat_of_zero_le y0.1
    go_wp2_with fail
    refine (spec_Decimal n0 _ (by omega)).mono ?_
    rintro e w4 ⟨dt, rfl, hdt, x4⟩
    have e4 : Ext w3 w4 := (by repeat (first | (with_reducible first | exact Ext.refl _ | assumption | apply Ext.alloc | apply Ext.drew | apply Ext.drewN | refine Ext.setCell ?_ ?_ _ | refine Ext.trans ?_ (by assumption)) | (show _ ≤ _; first | omega | (dsimp only; omega) | (simp; done) | (simp; omega))))
    have X4 := X3.trans e4
    go_wp2_with fail
    refine (spec_CutDigest dt 16 _ (by omega)).mono ?_
    have hr16 : (cutT dt 16).size = 16 := by
      have := cutT_size dt 16 (by decide)
      omega
    generalize cutT dt 16 = root at *
    rintro e w5 ⟨rfl, x5⟩
    have X5 := X4.trans x5
    have d0 := (x5.cell _ _ (Nat.lt_of_lt_of_le hgp3 e4.size)).trans ((e4.cell _ _ hgp3).trans d0')
    have d1 := (x5.cell _ _ (Nat.lt_of_lt_of_le hgp3 e4.size)).trans ((e4.cell _ _ hgp3).trans d1')
    have hgp5 : gp < w5.heap.size := Nat.lt_of_lt_of_le hgp3 (Nat.le_trans e4.size x5.size)
    have HO5 := Lib.hid ((((HO.out.ext x2).ext x3).ext e4).ext x5)
    clear d0' d1' HO
    go_wp2_with fail
    refine (impl_NextHead _ xs house root _ (OwnHds.hds HO5.out) (by omega) (HT.out.ext X5)).mono ?_
    have hnx := nx_len (root := root) HCH.out hh hr16 h4
    rintro e w6 ⟨rfl, x6⟩
    have X6 := X5.trans x6
    have HO6 := Lib.hid (HO5.out.ext x6)
    have d0' := (x6.cell _ _ hgp5).trans d0
    have d1' := (x6.cell _ _ hgp5).trans d1
    have hgp6 := Nat.lt_of_lt_of_le hgp5 x6.size
    clear d0 d1 HO5
    by_cases hlt4 : (xs.length : Int) < 4
    · have hl4 : decide ((xs.length : Int) < 4) = true := decide_eq_true hlt4
      rw [nx_yes (hnx.trans hl4)]
      have hn2 : headOk house ((xs.length : Int) + 1) root (lastH xs) = true := by have := hnx.trans hl4; rw [nxOk, Bool.and_eq_true] at this; exact this.2
      have HS := Lib.hid (chain_snoc HCH.out hn2)
      clear hn2
      clear hnx
      have HPR := Lib.hid (rfl : lastH xs = lastH xs)
      generalize lastH xs = prev at *
      by_cases h1 : (1 : Int) < xs.length
      · have D6 : Pls w6 gp n0 i1' := ⟨hgp6, d0', d1'⟩
        have P := Bx.new w6 #[.int .i64 house, .int .i64 ((xs.length : Int) + 1), .string root, .string prev] 25
        have X7 : Ext w (w6.alloc (Obj.cells #[.int .i64 house, .int .i64 ((xs.length : Int) + 1), .string root, .string prev] 25)) := X6.alloc _
        have HO7 := Lib.hid (own_alloc HO6.out (Obj.cells #[.int .i64 house, .int .i64 ((xs.length : Int) + 1), .string root, .string prev] 25))
        have l7 : w6.heap.size + 1 ≤ (w6.alloc (Obj.cells #[.int .i64 house, .int .i64 ((xs.length : Int) + 1), .string root, .string prev] 25)).heap.size := by rw [World.size_alloc]; omega
        have s6 := X6.size
        have hg6 := (own_lt HO6.out g rfl).2
        have e7 : Ext w6 (w6.alloc (Obj.cells #[.int .i64 house, .int .i64 ((xs.length : Int) + 1), .string root, .string prev] 25)) := (by repeat (first | (with_reducible first | exact Ext.refl _ | assumption | apply Ext.alloc | apply Ext.drew | apply Ext.drewN | refine Ext.setCell ?_ ?_ _ | refine Ext.trans ?_ (by assumption)) | (show _ ≤ _; first | omega | (dsimp only; omega) | (simp; done) | (simp; omega))))
        have D7 := D6.ext e7
        obtain ⟨i, hie⟩ : ∃ i : Nat, i1' % ((xs.length : Int) - 1) = i := ⟨_, (Int.toNat_of_nonneg (Int.emod_nonneg _ (by omega))).symm⟩
        have hil : i + 1 < xs.length := by have := Int.emod_lt_of_pos i1' (show 0 < (xs.length : Int) - 1 by omega); omega
        have hilt : i < xs.length := by omega
        have hil0 : (0 : Int) ≤ (i : Int) := by omega
        have hil1 : (i : Int) < xs.length := by omega
        have OL7 := World.ownsRow_lit (base := w6.heap.size + 1) (e := 25) (size := 4) (w6.alloc (Obj.cells #[.int .i64 house, .int .i64 ((xs.length : Int) + 1), .string root, .string prev] 25)) #[] 0 l7 (Nat.zero_le _) rfl
        rw [World.size_alloc] at OL7
        have HR7 := Lib.hid (own_alloc HO7.out (Obj.cells #[] 25))
        go_wp2_with (at_builtin; go_loud (refine wpList_append_any rfl (.tmp 51) (.tmp 52) 37 rfl (w6.heap.size + 1) 25 i0 _ 4 48 Tryd.underlying37 hi hz0 hz1 hz2 rfl (by decide) _ _ _ rfl OL7 _ xs.length (xs.flatMap Hd.cells) rfl (Row.of_owns HR7.out) (own_solid HR7.out) (hds_ones xs) (by unfold maxLen; omega) (by omega) (by rw [World.size_alloc]; omega) ?_))
        intro v8 W8 own8 g8
        obtain ⟨gO, cO, rfl⟩ := own_form own8 (by omega)
        have b8 := (own_lt own8 gO rfl).1
        have bL := (own_lt OL7 _ rfl).1
        have X8 : Ext w W8 := own_ext_of (X7.alloc _) OL7 g8 (by omega)
        have l8 := Nat.le_trans l7 (Nat.le_trans ((Ext.refl (w6.alloc (Obj.cells #[.int .i64 house, .int .i64 ((xs.length : Int) + 1), .string root, .string prev] 25))).alloc (Obj.cells #[] 25)).size g8.size)
        have P8 := (P.ext ((Ext.refl (w6.alloc (Obj.cells #[.int .i64 house, .int .i64 ((xs.length : Int) + 1), .string root, .string prev] 25))).alloc (Obj.cells #[] 25))).grown g8 (fun e => by injection e with e; dsimp only at e; omega)
        have HO8 := Lib.hid (own_grown2 HR7.out g8 (fun k hk e => by injection hk with hk; injection e with e; dsimp only at hk e; omega))
        have D8 := (D7.ext ((Ext.refl (w6.alloc (Obj.cells #[.int .i64 house, .int .i64 ((xs.length : Int) + 1), .string root, .string prev] 25))).alloc (Obj.cells #[] 25))).grown g8 (fun e => by injection e with e; dsimp only at e; omega)
        have e2 : W8.cell? ⟨g, i * 4 + 2, none⟩ = some (.string xs[i].root) := by rw [HO8.out.cellAt (i * 4 + 2) (by omega)]; exact hd_c2 xs i hilt
        have hzr := (chain_fit HCH.out _ (List.getElem_mem hilt)).1
        have O8 := Lib.hid own8
        clear own8 g8 HR7 OL7 D7 d0' d1'
        go_wp2_with fail
        refine (laws_turned xs[i].root gp cp n0 i1' _ (by omega) D8.1 D8.2.1 D8.2.2 y0 y1).mono ?_
        rintro e W9 ⟨r', rfl, hne, hsz, hle, x9⟩
        have X9 := X8.trans x9
        have l9 := Nat.le_trans l8 x9.size
        have P9 := P8.ext x9
        have HO9 := Lib.hid (own_ext HO8.out x9)
        have own9 := own_ext O8.out x9
        have f2 : W9.cell? ⟨gO, i * 4 + 2, none⟩ = some (.string xs[i].root) := by rw [own9.cellAt (i * 4 + 2) (by omega)]; simpa using hd_c2 xs i hilt
        have f3 : W9.frozen? ⟨gO, i * 4 + 2, none⟩ = false := own9.frozenAt _
        have S := own9.stored (i * 4 + 2) (.string r')
        have HPE := hd_put (.string r') ⟨xs[i].house, xs[i].epoch, r', xs[i].prev⟩ 2 (by omega) xs i hilt rfl
        rw [HPE] at S
        have OS := Lib.hid S.1
        have GS := S.2
        have hgO : w6.heap.size + 1 ≤ gO := b8
        have P10 := P9.grown GS (fun e => by injection e with e; omega)
        have X10 : Ext w (W9.setCell ⟨gO, i * 4 + 2, none⟩ (.string r')) := X9.setCell (by dsimp only; omega) _
        have HO10 := Lib.hid (own_grown2 HO9.out GS (fun k hk e => by injection hk with hk; injection e with e; dsimp only at e; omega))
        have l10 := Nat.le_trans l9 GS.size
        clear S GS O8 own9 e2 HO8 HO9
        go_wp2_with fail
        clear f2 f3
        generalize W9.setCell ⟨gO, i * 4 + 2, none⟩ (.string r') = W10 at *
        have hls : i < (xs.set i ⟨xs[i].house, xs[i].epoch, r', xs[i].prev⟩).length := by rw [List.length_set]; exact hilt
        have q0 : W10.cell? ⟨gO, i * 4, none⟩ = some (.int .i64 xs[i].house) := by rw [OS.out.cellAt (i * 4) (by omega)]; have := hd_c0 (xs.set i ⟨xs[i].house, xs[i].epoch, r', xs[i].prev⟩) i hls; rw [List.getElem_set_self] at this; simpa using this
        have q1 : W10.cell? ⟨gO, i * 4 + 1, none⟩ = some (.int .i64 xs[i].epoch) := by rw [OS.out.cellAt (i * 4 + 1) (by omega)]; have := hd_c1 (xs.set i ⟨xs[i].house, xs[i].epoch, r', xs[i].prev⟩) i hls; rw [List.getElem_set_self] at this; simpa using this
        have q2 : W10.cell? ⟨gO, i * 4 + 2, none⟩ = some (.string r') := by rw [OS.out.cellAt (i * 4 + 2) (by omega)]; have := hd_c2 (xs.set i ⟨xs[i].house, xs[i].epoch, r', xs[i].prev⟩) i hls; rw [List.getElem_set_self] at this; simpa using this
        have q3 : W10.cell? ⟨gO, i * 4 + 3, none⟩ = some (.string xs[i].prev) := by rw [OS.out.cellAt (i * 4 + 3) (by omega)]; have := hd_c3 (xs.set i ⟨xs[i].house, xs[i].epoch, r', xs[i].prev⟩) i hls; rw [List.getElem_set_self] at this; simpa using this
        have r0 : W10.cell? ⟨g, i * 4, none⟩ = some (.int .i64 xs[i].house) := by rw [HO10.out.cellAt (i * 4) (by omega)]; exact hd_c0 xs i hilt
        have r1 : W10.cell? ⟨g, i * 4 + 1, none⟩ = some (.int .i64 xs[i].epoch) := by rw [HO10.out.cellAt (i * 4 + 1) (by omega)]; exact hd_c1 xs i hilt
        have r2 : W10.cell? ⟨g, i * 4 + 2, none⟩ = some (.string xs[i].root) := by rw [HO10.out.cellAt (i * 4 + 2) (by omega)]; exact hd_c2 xs i hilt
        have r3 : W10.cell? ⟨g, i * 4 + 3, none⟩ = some (.string xs[i].prev) := by rw [HO10.out.cellAt (i * 4 + 3) (by omega)]; exact hd_c3 xs i hilt
        have HOT := Lib.hid (chain_other (l' := ⟨xs[i].house, xs[i].epoch, r', xs[i].prev⟩) HCH.out hil)
        have HTL := Lib.hid (chain_tail HCH.out (by omega))
        have HOTH : Hds W10 (.slice (some ⟨gO, 0, none⟩) xs.length cO) (xs.set i ⟨xs[i].house, xs[i].epoch, r', xs[i].prev⟩) := by have R := Row.of_owns OS.out; unfold Hds; rw [List.length_set]; simpa using R
        have HTLH : Hds W10 (.slice (some ⟨g, 4, none⟩) (xs.length - 1) (c - 1)) (xs.drop 1) := hds_drop1 (OwnHds.hds HO10.out) (by omega)
        have hcc := (Row.of_owns HO10.out).2
        have hc1 : xs.length ≤ c := by obtain ⟨a9, c9, he, h9, -⟩ := hcc; injection he with e1 e2 e3; omega
        clear hcc OS
        have HLZ := Lib.hid (show (xs.set i ⟨xs[i].house, xs[i].epoch, r', xs[i].prev⟩).length = xs.length from List.length_set)
        have lgO : gO < W10.heap.size := World.block_lt_of_cell? _ _ q0
        have lg : g < W10.heap.size := World.block_lt_of_cell? _ _ r0
        generalize xs.set i ⟨xs[i].house, xs[i].epoch, r', xs[i].prev⟩ = zs at *
        generalize hz : xs[i] = z at *
        have HZ := Lib.hid hz
        clear hz
        cases hb2 : chainOk zs house
        · have HB2 := Lib.hid hb2
          clear hb2
          refine wp_region_held_drew (S := (fun W => W.cell? ⟨gO, i * 4, none⟩ = some (.int .i64 z.house) ∧ W.cell? ⟨gO, i * 4 + 1, none⟩ = some (.int .i64 z.epoch) ∧ W.cell? ⟨gO, i * 4 + 2, none⟩ = some (.string r') ∧ W.cell? ⟨gO, i * 4 + 3, none⟩ = some (.string z.prev) ∧ W.cell? ⟨g, i * 4, none⟩ = some (.int .i64 z.house) ∧ W.cell? ⟨g, i * 4 + 1, none⟩ = some (.int .i64 z.epoch) ∧ W.cell? ⟨g, i * 4 + 2, none⟩ = some (.string z.root) ∧ W.cell? ⟨g, i * 4 + 3, none⟩ = some (.string z.prev))) (by kernel_rfl) (by exact ⟨q0, q1, q2, q3, r0, r1, r2, r3⟩) (fun hHeld => ?_)
          (refine wpAnyH_take (i := 0) (v := ?_) rfl (by kernel_rfl) (by kernel_rfl) (by kernel_rfl) (fun _ _ _ h => h) (Or.inl ⟨by rfl, ?_⟩) (by assumption) ?_; rotate_left; focus (intro w hSw; (try dsimp only at hSw); (try simp only [List.getElem_toArray, List.getElem_cons_zero]); go_simp; try with_reducible rfl)); (try simp only [List.getElem_toArray, List.getElem_cons_zero]); (try simp only [Act.put, List.setIfInBounds_toArray, List.set_cons_zero, List.set_cons_succ])
          (refine wpAnyH_take (i := 1) (v := ?_) rfl (by kernel_rfl) (by kernel_rfl) (by kernel_rfl) (fun _ _ _ h => h) (Or.inl ⟨by rfl, ?_⟩) (by assumption) ?_; rotate_left; focus (intro w hSw; (try dsimp only at hSw); (try simp only [List.getElem_toArray, List.getElem_cons_zero, List.getElem_cons_succ]); go_simp; try with_reducible rfl)); (try simp only [List.getElem_toArray, List.getElem_cons_zero, List.getElem_cons_succ]); (try simp only [Act.put, List.setIfInBounds_toArray, List.set_cons_zero, List.set_cons_succ])
          (refine wpAnyH_ready (rs := [2]) (by kernel_rfl) (by simp) ?_; refine AllReadyH.cons rfl (fun K hK => ?_) AllReadyH.nil; (try simp only [List.getElem_toArray, List.getElem_cons_zero, List.getElem_cons_succ]))
          go_simp
          go_at_call 23
          refine (impl_ChainOk _ zs house _ (HOTH.ext (by repeat (first | (with_reducible first | exact Ext.refl _ | assumption | apply Ext.alloc | apply Ext.drew | apply Ext.drewN | refine Ext.setCell ?_ ?_ _ | refine Ext.trans ?_ (by assumption)) | (show _ ≤ _; first | omega | (dsimp only; omega) | (simp; done) | (simp; omega))))) (by have := HLZ.out; omega) (HT.out.ext (X10.trans (by repeat (first | (with_reducible first | exact Ext.refl _ | assumption | apply Ext.alloc | apply Ext.drew | apply Ext.drewN | refine Ext.setCell ?_ ?_ _ | refine Ext.trans ?_ (by assumption)) | (show _ ≤ _; first | omega | (dsimp only; omega) | (simp; done) | (simp; omega))))))).mono ?_
          rw [HB2.out]
          rintro e wa ⟨rfl, xa⟩
          have ya : Ext W10 wa := ((Ext.refl W10).drew).trans xa
          (try dsimp only)
          refine hK.out _ _ (by exact ⟨(ya.cell _ _ lgO).trans q0, (ya.cell _ _ lgO).trans q1, (ya.cell _ _ lgO).trans q2, (ya.cell _ _ lgO).trans q3, (ya.cell _ _ lg).trans r0, (ya.cell _ _ lg).trans r1, (ya.cell _ _ lg).trans r2, (ya.cell _ _ lg).trans r3⟩) (fun hHeld => ?_)
          clear hK K
          (refine wpAnyH_take (i := 3) (v := ?_) rfl (by kernel_rfl) (by kernel_rfl) (by kernel_rfl) (fun _ _ _ h => h) (Or.inl ⟨by rfl, ?_⟩) (by assumption) ?_; rotate_left; focus (intro w hSw; (try dsimp only at hSw); (try simp only [List.getElem_toArray, List.getElem_cons_zero, List.getElem_cons_succ]); go_simp; try with_reducible rfl)); (try simp only [List.getElem_toArray, List.getElem_cons_zero, List.getElem_cons_succ]); (try simp only [Act.put, List.setIfInBounds_toArray, List.set_cons_zero, List.set_cons_succ])
          (refine wpAnyH_take (i := 4) rfl (by kernel_rfl) (by kernel_rfl) (by kernel_rfl) (fun _ _ _ h => h) (Or.inr ⟨by rfl, rfl⟩) (by assumption) ?_); (try simp only [List.getElem_toArray, List.getElem_cons_zero, List.getElem_cons_succ]); (try simp only [Act.put, List.setIfInBounds_toArray, List.set_cons_zero, List.set_cons_succ])
          (refine wpAnyH_take (i := 5) rfl (by kernel_rfl) (by kernel_rfl) (by kernel_rfl) (fun _ _ _ h => h) (Or.inr ⟨by rfl, rfl⟩) (by assumption) ?_); (try simp only [List.getElem_toArray, List.getElem_cons_zero, List.getElem_cons_succ]); (try simp only [Act.put, List.setIfInBounds_toArray, List.set_cons_zero, List.set_cons_succ])
          (refine wpAnyH_take (i := 6) rfl (by kernel_rfl) (by kernel_rfl) (by kernel_rfl) (fun _ _ _ h => h) (Or.inr ⟨by rfl, rfl⟩) (by assumption) ?_); (try simp only [List.getElem_toArray, List.getElem_cons_zero, List.getElem_cons_succ]); (try simp only [Act.put, List.setIfInBounds_toArray, List.set_cons_zero, List.set_cons_succ])
          (refine wpAnyH_take (i := 7) rfl (by kernel_rfl) (by kernel_rfl) (by kernel_rfl) (fun _ _ _ h => h) (Or.inr ⟨by rfl, rfl⟩) (by assumption) ?_); (try simp only [List.getElem_toArray, List.getElem_cons_zero, List.getElem_cons_succ]); (try simp only [Act.put, List.setIfInBounds_toArray, List.set_cons_zero, List.set_cons_succ])
          (refine wpAnyH_take (i := 8) rfl (by kernel_rfl) (by kernel_rfl) (by kernel_rfl) (fun _ _ _ h => h) (Or.inr ⟨by rfl, rfl⟩) (by assumption) ?_); (try simp only [List.getElem_toArray, List.getElem_cons_zero, List.getElem_cons_succ]); (try simp only [Act.put, List.setIfInBounds_toArray, List.set_cons_zero, List.set_cons_succ])
          (refine wpAnyH_take (i := 9) rfl (by kernel_rfl) (by kernel_rfl) (by kernel_rfl) (fun _ _ _ h => h) (Or.inr ⟨by rfl, rfl⟩) (by assumption) ?_); (try simp only [List.getElem_toArray, List.getElem_cons_zero, List.getElem_cons_succ]); (try simp only [Act.put, List.setIfInBounds_toArray, List.set_cons_zero, List.set_cons_succ])
          (refine wpAnyH_take (i := 10) rfl (by kernel_rfl) (by kernel_rfl) (by kernel_rfl) (fun _ _ _ h => h) (Or.inr ⟨by rfl, rfl⟩) (by assumption) ?_); (try simp only [List.getElem_toArray, List.getElem_cons_zero, List.getElem_cons_succ]); (try simp only [Act.put, List.setIfInBounds_toArray, List.set_cons_zero, List.set_cons_succ])
          (refine wpAnyH_take (i := 11) rfl (by kernel_rfl) (by kernel_rfl) (by kernel_rfl) (fun _ _ _ h => h) (Or.inr ⟨by rfl, rfl⟩) (by assumption) ?_); (try simp only [List.getElem_toArray, List.getElem_cons_zero, List.getElem_cons_succ]); (try simp only [Act.put, List.setIfInBounds_toArray, List.set_cons_zero, List.set_cons_succ])
          (refine wpAnyH_take (i := 12) rfl (by kernel_rfl) (by kernel_rfl) (by kernel_rfl) (fun _ _ _ h => h) (Or.inr ⟨by rfl, rfl⟩) (by assumption) ?_); (try simp only [List.getElem_toArray, List.getElem_cons_zero, List.getElem_cons_succ]); (try simp only [Act.put, List.setIfInBounds_toArray, List.set_cons_zero, List.set_cons_succ])
          (refine wpAnyH_take (i := 13) rfl (by kernel_rfl) (by kernel_rfl) (by kernel_rfl) (fun _ _ _ h => h) (Or.inr ⟨by rfl, rfl⟩) (by assumption) ?_); (try simp only [List.getElem_toArray, List.getElem_cons_zero, List.getElem_cons_succ]); (try simp only [Act.put, List.setIfInBounds_toArray, List.set_cons_zero, List.set_cons_succ])
          (refine wpAnyH_take (i := 14) rfl (by kernel_rfl) (by kernel_rfl) (by kernel_rfl) (fun _ _ _ h => h) (Or.inr ⟨by rfl, rfl⟩) (by assumption) ?_); (try simp only [List.getElem_toArray, List.getElem_cons_zero, List.getElem_cons_succ]); (try simp only [Act.put, List.setIfInBounds_toArray, List.set_cons_zero, List.set_cons_succ])
          (refine wpAnyH_take (i := 15) (v := ?_) rfl (by kernel_rfl) (by kernel_rfl) (by kernel_rfl) (fun _ _ _ h => h) (Or.inl ⟨by rfl, ?_⟩) (by assumption) ?_; rotate_left; focus (intro w hSw; (try dsimp only at hSw); (try simp only [List.getElem_toArray, List.getElem_cons_zero, List.getElem_cons_succ]); go_simp; try with_reducible rfl)); (try simp only [List.getElem_toArray, List.getElem_cons_zero, List.getElem_cons_succ]); (try simp only [Act.put, List.setIfInBounds_toArray, List.set_cons_zero, List.set_cons_succ])
          (refine wpAnyH_take (i := 16) (v := ?_) rfl (by kernel_rfl) (by kernel_rfl) (by kernel_rfl) (fun _ _ _ h => h) (Or.inl ⟨by rfl, ?_⟩) (by assumption) ?_; rotate_left; focus (intro w hSw; (try dsimp only at hSw); (try simp only [List.getElem_toArray, List.getElem_cons_zero, List.getElem_cons_succ]); go_simp; try with_reducible rfl)); (try simp only [List.getElem_toArray, List.getElem_cons_zero, List.getElem_cons_succ]); (try simp only [Act.put, List.setIfInBounds_toArray, List.set_cons_zero, List.set_cons_succ])
          (refine wpAnyH_take (i := 17) (v := ?_) rfl (by kernel_rfl) (by kernel_rfl) (by kernel_rfl) (fun _ _ _ h => h) (Or.inl ⟨by rfl, ?_⟩) (by assumption) ?_; rotate_left; focus (intro w hSw; (try dsimp only at hSw); (try simp only [List.getElem_toArray, List.getElem_cons_zero, List.getElem_cons_succ]); go_simp; try with_reducible rfl)); (try simp only [List.getElem_toArray, List.getElem_cons_zero, List.getElem_cons_succ]); (try simp only [Act.put, List.setIfInBounds_toArray, List.set_cons_zero, List.set_cons_succ])
          (refine wpAnyH_take (i := 18) (v := .slice (some ⟨g, 4, none⟩) (xs.length - 1) (c - 1)) rfl (by kernel_rfl) (by kernel_rfl) (by kernel_rfl) (fun _ _ _ h => h) (Or.inl ⟨by rfl, ?_⟩) (by assumption) ?_; focus (intro w hSw; (try dsimp only at hSw); (try simp only [List.getElem_toArray, List.getElem_cons_zero, List.getElem_cons_succ]); go_simp; rw [if_pos (by omega), if_neg (by omega)])); (try simp only [List.getElem_toArray, List.getElem_cons_zero, List.getElem_cons_succ]); (try simp only [Act.put, List.setIfInBounds_toArray, List.set_cons_zero, List.set_cons_succ])
          (refine wpAnyH_take (i := 19) (v := ?_) rfl (by kernel_rfl) (by kernel_rfl) (by kernel_rfl) (fun _ _ _ h => h) (Or.inl ⟨by rfl, ?_⟩) (by assumption) ?_; rotate_left; focus (intro w hSw; (try dsimp only at hSw); (try simp only [List.getElem_toArray, List.getElem_cons_zero, List.getElem_cons_succ]); go_simp; try with_reducible rfl)); (try simp only [List.getElem_toArray, List.getElem_cons_zero, List.getElem_cons_succ]); (try simp only [Act.put, List.setIfInBounds_toArray, List.set_cons_zero, List.set_cons_succ])
          (refine wpAnyH_ready (rs := [20]) (by kernel_rfl) (by simp) ?_; refine AllReadyH.cons rfl (fun K hK => ?_) AllReadyH.nil; (try simp only [List.getElem_toArray, List.getElem_cons_zero, List.getElem_cons_succ]))
          go_simp
          go_at_call 23
          refine (impl_ChainOk _ (xs.drop 1) house _ (HTLH.ext ya) (by rw [List.length_drop]; omega) (HT.out.ext (X10.trans ya))).mono ?_
          rw [HTL.out]
          rintro e wd ⟨rfl, xd⟩
          have yd : Ext W10 wd := ya.trans xd
          (try dsimp only)
          refine hK.out _ _ (by exact ⟨(yd.cell _ _ lgO).trans q0, (yd.cell _ _ lgO).trans q1, (yd.cell _ _ lgO).trans q2, (yd.cell _ _ lgO).trans q3, (yd.cell _ _ lg).trans r0, (yd.cell _ _ lg).trans r1, (yd.cell _ _ lg).trans r2, (yd.cell _ _ lg).trans r3⟩) (fun hHeld => ?_)
          clear hK K
          (refine wpAnyH_take (i := 21) (v := ?_) rfl (by kernel_rfl) (by kernel_rfl) (by kernel_rfl) (fun _ _ _ h => h) (Or.inl ⟨by rfl, ?_⟩) (by assumption) ?_; rotate_left; focus (intro w hSw; (try dsimp only at hSw); (try simp only [List.getElem_toArray, List.getElem_cons_zero, List.getElem_cons_succ]); go_simp; try with_reducible rfl)); (try simp only [List.getElem_toArray, List.getElem_cons_zero, List.getElem_cons_succ]); (try simp only [Act.put, List.setIfInBounds_toArray, List.set_cons_zero, List.set_cons_succ])
          refine wpAnyH_done (by kernel_rfl) ?_ _
          have X11 := X10.trans yd
          have HO11 := Lib.hid (own_ext HO10.out yd)
          have l11 := Nat.le_trans l10 yd.size
          have P11 := P10.ext yd
          clear q0 q1 q2 q3 r0 r1 r2 r3
          go_wp2_with fail
          refine wp_region_held_drew (S := (fun W => W.cell? ⟨w6.heap.size, 0, none⟩ = some (.int .i64 house) ∧ W.cell? ⟨w6.heap.size, 1, none⟩ = some (.int .i64 ((xs.length : Int) + 1)) ∧ W.cell? ⟨w6.heap.size, 2, none⟩ = some (.string root) ∧ W.cell? ⟨w6.heap.size, 3, none⟩ = some (.string prev))) (by kernel_rfl) (by exact ⟨P11.2.1 0 _ rfl, P11.2.1 1 _ rfl, P11.2.1 2 _ rfl, P11.2.1 3 _ rfl⟩) (fun hHeld => ?_)
          have eD : Ext wd wd.drew := (by repeat (first | (with_reducible first | exact Ext.refl _ | assumption | apply Ext.alloc | apply Ext.drew | apply Ext.drewN | refine Ext.setCell ?_ ?_ _ | refine Ext.trans ?_ (by assumption)) | (show _ ≤ _; first | omega | (dsimp only; omega) | (simp; done) | (simp; omega))))
          have XD := X11.trans eD
          have PD := P11.ext eD
          have HD := Lib.hid (own_ext HO11.out eD)
          have lD := Nat.le_trans (l11) eD.size
          generalize wd.drew = VD at *
          (refine wpAnyH_take (i := 0) (v := ?_) rfl (by kernel_rfl) (by kernel_rfl) (by kernel_rfl) (fun _ _ _ h => h) (Or.inl ⟨by rfl, ?_⟩) (by assumption) ?_; rotate_left; focus (intro w hSw; (try dsimp only at hSw); (try simp only [List.getElem_toArray, List.getElem_cons_zero]); go_simp; try with_reducible rfl)); (try simp only [List.getElem_toArray, List.getElem_cons_zero]); (try simp only [Act.put, List.setIfInBounds_toArray, List.set_cons_zero, List.set_cons_succ])
          (refine wpAnyH_take (i := 1) (v := ?_) rfl (by kernel_rfl) (by kernel_rfl) (by kernel_rfl) (fun _ _ _ h => h) (Or.inl ⟨by rfl, ?_⟩) (by assumption) ?_; rotate_left; focus (intro w hSw; (try dsimp only at hSw); (try simp only [List.getElem_toArray, List.getElem_cons_zero, List.getElem_cons_succ]); go_simp; try with_reducible rfl)); (try simp only [List.getElem_toArray, List.getElem_cons_zero, List.getElem_cons_succ]); (try simp only [Act.put, List.setIfInBounds_toArray, List.set_cons_zero, List.set_cons_succ])
          (refine wpAnyH_take (i := 2) (v := ?_) rfl (by kernel_rfl) (by kernel_rfl) (by kernel_rfl) (fun _ _ _ h => h) (Or.inl ⟨by rfl, ?_⟩) (by assumption) ?_; rotate_left; focus (intro w hSw; (try dsimp only at hSw); (try simp only [List.getElem_toArray, List.getElem_cons_zero, List.getElem_cons_succ]); go_simp; try with_reducible rfl)); (try simp only [List.getElem_toArray, List.getElem_cons_zero, List.getElem_cons_succ]); (try simp only [Act.put, List.setIfInBounds_toArray, List.set_cons_zero, List.set_cons_succ])
          (refine wpAnyH_take (i := 4) (v := ?_) rfl (by kernel_rfl) (by kernel_rfl) (by kernel_rfl) (fun _ _ _ h => h) (Or.inl ⟨by rfl, ?_⟩) (by assumption) ?_; rotate_left; focus (intro w hSw; (try dsimp only at hSw); (try simp only [List.getElem_toArray, List.getElem_cons_zero, List.getElem_cons_succ]); go_simp; try with_reducible rfl)); (try simp only [List.getElem_toArray, List.getElem_cons_zero, List.getElem_cons_succ]); (try simp only [Act.put, List.setIfInBounds_toArray, List.set_cons_zero, List.set_cons_succ])
          (refine wpAnyH_take (i := 6) (v := ?_) rfl (by kernel_rfl) (by kernel_rfl) (by kernel_rfl) (fun _ _ _ h => h) (Or.inl ⟨by rfl, ?_⟩) (by assumption) ?_; rotate_left; focus (intro w hSw; (try dsimp only at hSw); (try simp only [List.getElem_toArray, List.getElem_cons_zero, List.getElem_cons_succ]); go_simp; try with_reducible rfl)); (try simp only [List.getElem_toArray, List.getElem_cons_zero, List.getElem_cons_succ]); (try simp only [Act.put, List.setIfInBounds_toArray, List.set_cons_zero, List.set_cons_succ])
          (refine wpAnyH_take (i := 9) (v := ?_) rfl (by kernel_rfl) (by kernel_rfl) (by kernel_rfl) (fun _ _ _ h => h) (Or.inl ⟨by rfl, ?_⟩) (by assumption) ?_; rotate_left; focus (intro w hSw; (try dsimp only at hSw); (try simp only [List.getElem_toArray, List.getElem_cons_zero, List.getElem_cons_succ]); go_simp; try with_reducible rfl)); (try simp only [List.getElem_toArray, List.getElem_cons_zero, List.getElem_cons_succ]); (try simp only [Act.put, List.setIfInBounds_toArray, List.set_cons_zero, List.set_cons_succ])
          refine wpAnyH_ready (rs := [3, 7]) (by kernel_rfl) (by simp) ?_
          refine AllReadyH.cons rfl (fun K hK => ?_) (AllReadyH.cons rfl (fun K hK => ?_) AllReadyH.nil)
          · (try simp only [List.getElem_toArray, List.getElem_cons_zero, List.getElem_cons_succ])
            go_simp
            have eVA : Ext VD (VD.alloc (Obj.cells #[] 25)) := (by repeat (first | (with_reducible first | exact Ext.refl _ | assumption | apply Ext.alloc | apply Ext.drew | apply Ext.drewN | refine Ext.setCell ?_ ?_ _ | refine Ext.trans ?_ (by assumption)) | (show _ ≤ _; first | omega | (dsimp only; omega) | (simp; done) | (simp; omega))))
            have OLVA := World.ownsRow_lit (base := w6.heap.size + 1) (e := 25) (size := 4) VD #[] 0 (lD) (Nat.zero_le _) rfl
            have XVA := XD.trans eVA
            have PVA := PD.ext eVA
            have HVA := Lib.hid (own_ext HD.out eVA)
            have lVA := Nat.le_trans (lD) eVA.size
            have qVA : VD.heap.size < (VD.alloc (Obj.cells #[] 25)).heap.size := by rw [World.size_alloc]; omega
            generalize VD.alloc (Obj.cells #[] 25) = VA at *
            (try dsimp only)
            refine hK.out _ _ (by exact ⟨PVA.2.1 0 _ rfl, PVA.2.1 1 _ rfl, PVA.2.1 2 _ rfl, PVA.2.1 3 _ rfl⟩) (fun hHeld => ?_)
            clear hK K
            refine wpAnyH_ready (rs := [5, 7]) (by kernel_rfl) (by simp) ?_
            refine AllReadyH.cons rfl (fun K hK => ?_) (AllReadyH.cons rfl (fun K hK => ?_) AllReadyH.nil)
            · refine step_append_any (.tmp 90) (.tmp 91) 37 (by rfl) (by rfl) (w6.heap.size + 1) 25 i0 _ 4 48 Tryd.underlying37 hi hz0 hz1 hz2 rfl (by decide) _ _ _ (by rfl) OLVA _ xs.length (xs.flatMap Hd.cells) (by rfl) (Row.of_owns HVA.out) (own_solid HVA.out) (hds_ones xs) (by unfold maxLen; omega) (by omega) (lVA) ?_
              intro aVB cVB VB ownVB gVB atVB
              clear atVB
              simp only [Nat.zero_add, List.nil_append] at ownVB ⊢
              have bVB := (own_lt OLVA _ rfl).1
              have hVB := (own_lt HVA.out g rfl).2
              have XVB : Ext w VB := own_ext_of XVA OLVA gVB (by omega)
              have PVB := PVA.grown gVB (fun e => by injection e with e; dsimp only at e; omega)
              have HVB := Lib.hid (own_grown2 HVA.out gVB (fun k hk e => by injection hk with hk; injection e with e; dsimp only at hk e; omega))
              have lVB := Nat.le_trans (lVA) gVB.size
              (try dsimp only)
              refine hK.out _ _ (by exact ⟨PVB.2.1 0 _ rfl, PVB.2.1 1 _ rfl, PVB.2.1 2 _ rfl, PVB.2.1 3 _ rfl⟩) (fun hHeld => ?_)
              clear hK K
              refine wpAnyH_ready (rs := [7]) (by kernel_rfl) (by simp) ?_
              refine AllReadyH.cons rfl (fun K hK => ?_) AllReadyH.nil
              (try simp only [List.getElem_toArray, List.getElem_cons_zero, List.getElem_cons_succ])
              go_simp
              have eVC : Ext VB (VB.alloc (Obj.cells #[.int .i64 house, .int .i64 ((xs.length : Int) + 1), .string root, .string prev] 25)) := (by repeat (first | (with_reducible first | exact Ext.refl _ | assumption | apply Ext.alloc | apply Ext.drew | apply Ext.drewN | refine Ext.setCell ?_ ?_ _ | refine Ext.trans ?_ (by assumption)) | (show _ ≤ _; first | omega | (dsimp only; omega) | (simp; done) | (simp; omega))))
              have NVC := Bx.new VB #[.int .i64 house, .int .i64 ((xs.length : Int) + 1), .string root, .string prev] 25
              have XVC := XVB.trans eVC
              have PVC := PVB.ext eVC
              have HVC := Lib.hid (own_ext HVB.out eVC)
              have lVC := Nat.le_trans (lVB) eVC.size
              have ownVC := own_ext ownVB eVC
              have qVC : VB.heap.size < (VB.alloc (Obj.cells #[.int .i64 house, .int .i64 ((xs.length : Int) + 1), .string root, .string prev] 25)).heap.size := by rw [World.size_alloc]; omega
              generalize VB.alloc (Obj.cells #[.int .i64 house, .int .i64 ((xs.length : Int) + 1), .string root, .string prev] 25) = VC at *
              (try dsimp only)
              refine hK.out _ _ (by exact ⟨PVC.2.1 0 _ rfl, PVC.2.1 1 _ rfl, PVC.2.1 2 _ rfl, PVC.2.1 3 _ rfl⟩) (fun hHeld => ?_)
              clear hK K
              (refine wpAnyH_ready (rs := [8]) (by kernel_rfl) (by simp) ?_; refine AllReadyH.cons rfl (fun K hK => ?_) AllReadyH.nil)
              refine step_append_any (.tmp 92) (.tmp 94) 37 (by rfl) (by rfl) (w6.heap.size + 1) 25 i0 _ 4 48 Tryd.underlying37 hi hz0 hz1 hz2 rfl (by decide) _ _ _ (by rfl) ownVC _ 1 [.int .i64 house, .int .i64 ((xs.length : Int) + 1), .string root, .string prev] (by rfl) (NVC.row rfl (Nat.le_refl _) (by decide)) (solid_some _ _ _ _) (hd_one ⟨house, (xs.length : Int) + 1, root, prev⟩) (by unfold maxLen; omega) (by omega) (lVC) ?_
              intro aVE cVE VE ownVE gVE atVE
              have XVE : Ext w VE := own_ext_of XVC ownVC gVE (by omega)
              have PVE := PVC.grown gVE (fun e => by have := (own_lt ownVC _ e).1; omega)
              have RVE : Hds VE (.slice aVE (xs.length + 1) cVE) (xs ++ [⟨house, (xs.length : Int) + 1, root, prev⟩]) := by have R := Row.of_owns ownVE; unfold Hds; rw [hds_snoc, List.length_append]; simpa [Hd.cells] using R
              (try dsimp only)
              refine hK.out _ _ (by exact ⟨PVE.2.1 0 _ rfl, PVE.2.1 1 _ rfl, PVE.2.1 2 _ rfl, PVE.2.1 3 _ rfl⟩) (fun hHeld => ?_)
              clear hK K
              (refine wpAnyH_ready (rs := [10]) (by kernel_rfl) (by simp) ?_; refine AllReadyH.cons rfl (fun K hK => ?_) AllReadyH.nil; (try simp only [List.getElem_toArray, List.getElem_cons_zero, List.getElem_cons_succ]))
              go_simp
              go_at_call 23
              refine (impl_ChainOk _ (xs ++ [⟨house, (xs.length : Int) + 1, root, prev⟩]) house _ RVE (by simp; omega) (HT.out.ext XVE)).mono ?_
              rw [HS.out]
              rintro e VF ⟨rfl, xVF⟩
              have XVF := XVE.trans xVF
              have PVF := PVE.ext xVF
              (try dsimp only)
              refine hK.out _ _ (by exact ⟨PVF.2.1 0 _ rfl, PVF.2.1 1 _ rfl, PVF.2.1 2 _ rfl, PVF.2.1 3 _ rfl⟩) (fun hHeld => ?_)
              clear hK K
              (refine wpAnyH_take (i := 11) (v := ?_) rfl (by kernel_rfl) (by kernel_rfl) (by kernel_rfl) (fun _ _ _ h => h) (Or.inl ⟨by rfl, ?_⟩) (by assumption) ?_; rotate_left; focus (intro w hSw; (try dsimp only at hSw); (try simp only [List.getElem_toArray, List.getElem_cons_zero, List.getElem_cons_succ]); go_simp; try with_reducible rfl)); (try simp only [List.getElem_toArray, List.getElem_cons_zero, List.getElem_cons_succ]); (try simp only [Act.put, List.setIfInBounds_toArray, List.set_cons_zero, List.set_cons_succ])
              (refine wpAnyH_take (i := 12) (v := ?_) rfl (by kernel_rfl) (by kernel_rfl) (by kernel_rfl) (fun _ _ _ h => h) (Or.inl ⟨by rfl, ?_⟩) (by assumption) ?_; rotate_left; focus (intro w hSw; (try dsimp only at hSw); (try simp only [List.getElem_toArray, List.getElem_cons_zero, List.getElem_cons_succ]); go_simp; try with_reducible rfl)); (try simp only [List.getElem_toArray, List.getElem_cons_zero, List.getElem_cons_succ]); (try simp only [Act.put, List.setIfInBounds_toArray, List.set_cons_zero, List.set_cons_succ])
              (refine wpAnyH_take (i := 13) (v := ?_) rfl (by kernel_rfl) (by kernel_rfl) (by kernel_rfl) (fun _ _ _ h => h) (Or.inl ⟨by rfl, ?_⟩) (by assumption) ?_; rotate_left; focus (intro w hSw; (try dsimp only at hSw); (try simp only [List.getElem_toArray, List.getElem_cons_zero, List.getElem_cons_succ]); go_simp; try with_reducible rfl)); (try simp only [List.getElem_toArray, List.getElem_cons_zero, List.getElem_cons_succ]); (try simp only [Act.put, List.setIfInBounds_toArray, List.set_cons_zero, List.set_cons_succ])
              (refine wpAnyH_take (i := 14) (v := ?_) rfl (by kernel_rfl) (by kernel_rfl) (by kernel_rfl) (fun _ _ _ h => h) (Or.inl ⟨by rfl, ?_⟩) (by assumption) ?_; rotate_left; focus (intro w hSw; (try dsimp only at hSw); (try simp only [List.getElem_toArray, List.getElem_cons_zero, List.getElem_cons_succ]); go_simp; try with_reducible rfl)); (try simp only [List.getElem_toArray, List.getElem_cons_zero, List.getElem_cons_succ]); (try simp only [Act.put, List.setIfInBounds_toArray, List.set_cons_zero, List.set_cons_succ])
              (refine wpAnyH_take (i := 15) (v := .bool true) rfl (by kernel_rfl) (by kernel_rfl) (by kernel_rfl) (fun _ _ _ h => h) (Or.inl ⟨by rfl, ?_⟩) (by assumption) ?_; focus (intro w hSw; (try dsimp only at hSw); (try simp only [List.getElem_toArray, List.getElem_cons_zero, List.getElem_cons_succ]); go_simp; (try simp))); (try simp only [List.getElem_toArray, List.getElem_cons_zero, List.getElem_cons_succ]); (try simp only [Act.put, List.setIfInBounds_toArray, List.set_cons_zero, List.set_cons_succ])
              (refine wpAnyH_take (i := 16) (v := ?_) rfl (by kernel_rfl) (by kernel_rfl) (by kernel_rfl) (fun _ _ _ h => h) (Or.inl ⟨by rfl, ?_⟩) (by assumption) ?_; rotate_left; focus (intro w hSw; (try dsimp only at hSw); (try simp only [List.getElem_toArray, List.getElem_cons_zero, List.getElem_cons_succ]); go_simp; try with_reducible rfl)); (try simp only [List.getElem_toArray, List.getElem_cons_zero, List.getElem_cons_succ]); (try simp only [Act.put, List.setIfInBounds_toArray, List.set_cons_zero, List.set_cons_succ])
              (refine wpAnyH_take (i := 17) (v := ?_) rfl (by kernel_rfl) (by kernel_rfl) (by kernel_rfl) (fun _ _ _ h => h) (Or.inl ⟨by rfl, ?_⟩) (by assumption) ?_; rotate_left; focus (intro w hSw; (try dsimp only at hSw); (try simp only [List.getElem_toArray, List.getElem_cons_zero, List.getElem_cons_succ]); go_simp; try with_reducible rfl)); (try simp only [List.getElem_toArray, List.getElem_cons_zero, List.getElem_cons_succ]); (try simp only [Act.put, List.setIfInBounds_toArray, List.set_cons_zero, List.set_cons_succ])
              (refine wpAnyH_take (i := 18) (v := ?_) rfl (by kernel_rfl) (by kernel_rfl) (by kernel_rfl) (fun _ _ _ h => h) (Or.inl ⟨by rfl, ?_⟩) (by assumption) ?_; rotate_left; focus (intro w hSw; (try dsimp only at hSw); (try simp only [List.getElem_toArray, List.getElem_cons_zero, List.getElem_cons_succ]); go_simp; try with_reducible rfl)); (try simp only [List.getElem_toArray, List.getElem_cons_zero, List.getElem_cons_succ]); (try simp only [Act.put, List.setIfInBounds_toArray, List.set_cons_zero, List.set_cons_succ])
              refine wpAnyH_done (by kernel_rfl) ?_ _
              go_wp2
              go_ret
              exact ⟨rfl, XVF⟩
            · (try simp only [List.getElem_toArray, List.getElem_cons_zero, List.getElem_cons_succ])
              go_simp
              have eVB : Ext VA (VA.alloc (Obj.cells #[.int .i64 house, .int .i64 ((xs.length : Int) + 1), .string root, .string prev] 25)) := (by repeat (first | (with_reducible first | exact Ext.refl _ | assumption | apply Ext.alloc | apply Ext.drew | apply Ext.drewN | refine Ext.setCell ?_ ?_ _ | refine Ext.trans ?_ (by assumption)) | (show _ ≤ _; first | omega | (dsimp only; omega) | (simp; done) | (simp; omega))))
              have NVB := Bx.new VA #[.int .i64 house, .int .i64 ((xs.length : Int) + 1), .string root, .string prev] 25
              have XVB := XVA.trans eVB
              have PVB := PVA.ext eVB
              have HVB := Lib.hid (own_ext HVA.out eVB)
              have lVB := Nat.le_trans (lVA) eVB.size
              have OLVB := own_ext OLVA eVB
              have qVB : VA.heap.size < (VA.alloc (Obj.cells #[.int .i64 house, .int .i64 ((xs.length : Int) + 1), .string root, .string prev] 25)).heap.size := by rw [World.size_alloc]; omega
              generalize VA.alloc (Obj.cells #[.int .i64 house, .int .i64 ((xs.length : Int) + 1), .string root, .string prev] 25) = VB at *
              (try dsimp only)
              refine hK.out _ _ (by exact ⟨PVB.2.1 0 _ rfl, PVB.2.1 1 _ rfl, PVB.2.1 2 _ rfl, PVB.2.1 3 _ rfl⟩) (fun hHeld => ?_)
              clear hK K
              (refine wpAnyH_ready (rs := [5]) (by kernel_rfl) (by simp) ?_; refine AllReadyH.cons rfl (fun K hK => ?_) AllReadyH.nil)
              refine step_append_any (.tmp 90) (.tmp 91) 37 (by rfl) (by rfl) (w6.heap.size + 1) 25 i0 _ 4 48 Tryd.underlying37 hi hz0 hz1 hz2 rfl (by decide) _ _ _ (by rfl) OLVB _ xs.length (xs.flatMap Hd.cells) (by rfl) (Row.of_owns HVB.out) (own_solid HVB.out) (hds_ones xs) (by unfold maxLen; omega) (by omega) (lVB) ?_
              intro aVC cVC VC ownVC gVC atVC
              clear atVC
              simp only [Nat.zero_add, List.nil_append] at ownVC ⊢
              have bVC := (own_lt OLVB _ rfl).1
              have hVC := (own_lt HVB.out g rfl).2
              have XVC : Ext w VC := own_ext_of XVB OLVB gVC (by omega)
              have PVC := PVB.grown gVC (fun e => by injection e with e; dsimp only at e; omega)
              have HVC := Lib.hid (own_grown2 HVB.out gVC (fun k hk e => by injection hk with hk; injection e with e; dsimp only at hk e; omega))
              have lVC := Nat.le_trans (lVB) gVC.size
              have NVC := NVB.grown gVC (fun e => by injection e with e; dsimp only at e; omega)
              (try dsimp only)
              refine hK.out _ _ (by exact ⟨PVC.2.1 0 _ rfl, PVC.2.1 1 _ rfl, PVC.2.1 2 _ rfl, PVC.2.1 3 _ rfl⟩) (fun hHeld => ?_)
              clear hK K
              (refine wpAnyH_ready (rs := [8]) (by kernel_rfl) (by simp) ?_; refine AllReadyH.cons rfl (fun K hK => ?_) AllReadyH.nil)
              refine step_append_any (.tmp 92) (.tmp 94) 37 (by rfl) (by rfl) (w6.heap.size + 1) 25 i0 _ 4 48 Tryd.underlying37 hi hz0 hz1 hz2 rfl (by decide) _ _ _ (by rfl) ownVC _ 1 [.int .i64 house, .int .i64 ((xs.length : Int) + 1), .string root, .string prev] (by rfl) (NVC.row rfl (Nat.le_refl _) (by decide)) (solid_some _ _ _ _) (hd_one ⟨house, (xs.length : Int) + 1, root, prev⟩) (by unfold maxLen; omega) (by omega) (lVC) ?_
              intro aVE cVE VE ownVE gVE atVE
              have XVE : Ext w VE := own_ext_of XVC ownVC gVE (by omega)
              have PVE := PVC.grown gVE (fun e => by have := (own_lt ownVC _ e).1; omega)
              have RVE : Hds VE (.slice aVE (xs.length + 1) cVE) (xs ++ [⟨house, (xs.length : Int) + 1, root, prev⟩]) := by have R := Row.of_owns ownVE; unfold Hds; rw [hds_snoc, List.length_append]; simpa [Hd.cells] using R
              (try dsimp only)
              refine hK.out _ _ (by exact ⟨PVE.2.1 0 _ rfl, PVE.2.1 1 _ rfl, PVE.2.1 2 _ rfl, PVE.2.1 3 _ rfl⟩) (fun hHeld => ?_)
              clear hK K
              (refine wpAnyH_ready (rs := [10]) (by kernel_rfl) (by simp) ?_; refine AllReadyH.cons rfl (fun K hK => ?_) AllReadyH.nil; (try simp only [List.getElem_toArray, List.getElem_cons_zero, List.getElem_cons_succ]))
              go_simp
              go_at_call 23
              refine (impl_ChainOk _ (xs ++ [⟨house, (xs.length : Int) + 1, root, prev⟩]) house _ RVE (by simp; omega) (HT.out.ext XVE)).mono ?_
              rw [HS.out]
              rintro e VF ⟨rfl, xVF⟩
              have XVF := XVE.trans xVF
              have PVF := PVE.ext xVF
              (try dsimp only)
              refine hK.out _ _ (by exact ⟨PVF.2.1 0 _ rfl, PVF.2.1 1 _ rfl, PVF.2.1 2 _ rfl, PVF.2.1 3 _ rfl⟩) (fun hHeld => ?_)
              clear hK K
              (refine wpAnyH_take (i := 11) (v := ?_) rfl (by kernel_rfl) (by kernel_rfl) (by kernel_rfl) (fun _ _ _ h => h) (Or.inl ⟨by rfl, ?_⟩) (by assumption) ?_; rotate_left; focus (intro w hSw; (try dsimp only at hSw); (try simp only [List.getElem_toArray, List.getElem_cons_zero, List.getElem_cons_succ]); go_simp; try with_reducible rfl)); (try simp only [List.getElem_toArray, List.getElem_cons_zero, List.getElem_cons_succ]); (try simp only [Act.put, List.setIfInBounds_toArray, List.set_cons_zero, List.set_cons_succ])
              (refine wpAnyH_take (i := 12) (v := ?_) rfl (by kernel_rfl) (by kernel_rfl) (by kernel_rfl) (fun _ _ _ h => h) (Or.inl ⟨by rfl, ?_⟩) (by assumption) ?_; rotate_left; focus (intro w hSw; (try dsimp only at hSw); (try simp only [List.getElem_toArray, List.getElem_cons_zero, List.getElem_cons_succ]); go_simp; try with_reducible rfl)); (try simp only [List.getElem_toArray, List.getElem_cons_zero, List.getElem_cons_succ]); (try simp only [Act.put, List.setIfInBounds_toArray, List.set_cons_zero, List.set_cons_succ])
              (refine wpAnyH_take (i := 13) (v := ?_) rfl (by kernel_rfl) (by kernel_rfl) (by kernel_rfl) (fun _ _ _ h => h) (Or.inl ⟨by rfl, ?_⟩) (by assumption) ?_; rotate_left; focus (intro w hSw; (try dsimp only at hSw); (try simp only [List.getElem_toArray, List.getElem_cons_zero, List.getElem_cons_succ]); go_simp; try with_reducible rfl)); (try simp only [List.getElem_toArray, List.getElem_cons_zero, List.getElem_cons_succ]); (try simp only [Act.put, List.setIfInBounds_toArray, List.set_cons_zero, List.set_cons_succ])
              (refine wpAnyH_take (i := 14) (v := ?_) rfl (by kernel_rfl) (by kernel_rfl) (by kernel_rfl) (fun _ _ _ h => h) (Or.inl ⟨by rfl, ?_⟩) (by assumption) ?_; rotate_left; focus (intro w hSw; (try dsimp only at hSw); (try simp only [List.getElem_toArray, List.getElem_cons_zero, List.getElem_cons_succ]); go_simp; try with_reducible rfl)); (try simp only [List.getElem_toArray, List.getElem_cons_zero, List.getElem_cons_succ]); (try simp only [Act.put, List.setIfInBounds_toArray, List.set_cons_zero, List.set_cons_succ])
              (refine wpAnyH_take (i := 15) (v := .bool true) rfl (by kernel_rfl) (by kernel_rfl) (by kernel_rfl) (fun _ _ _ h => h) (Or.inl ⟨by rfl, ?_⟩) (by assumption) ?_; focus (intro w hSw; (try dsimp only at hSw); (try simp only [List.getElem_toArray, List.getElem_cons_zero, List.getElem_cons_succ]); go_simp; (try simp))); (try simp only [List.getElem_toArray, List.getElem_cons_zero, List.getElem_cons_succ]); (try simp only [Act.put, List.setIfInBounds_toArray, List.set_cons_zero, List.set_cons_succ])
              (refine wpAnyH_take (i := 16) (v := ?_) rfl (by kernel_rfl) (by kernel_rfl) (by kernel_rfl) (fun _ _ _ h => h) (Or.inl ⟨by rfl, ?_⟩) (by assumption) ?_; rotate_left; focus (intro w hSw; (try dsimp only at hSw); (try simp only [List.getElem_toArray, List.getElem_cons_zero, List.getElem_cons_succ]); go_simp; try with_reducible rfl)); (try simp only [List.getElem_toArray, List.getElem_cons_zero, List.getElem_cons_succ]); (try simp only [Act.put, List.setIfInBounds_toArray, List.set_cons_zero, List.set_cons_succ])
              (refine wpAnyH_take (i := 17) (v := ?_) rfl (by kernel_rfl) (by kernel_rfl) (by kernel_rfl) (fun _ _ _ h => h) (Or.inl ⟨by rfl, ?_⟩) (by assumption) ?_; rotate_left; focus (intro w hSw; (try dsimp only at hSw); (try simp only [List.getElem_toArray, List.getElem_cons_zero, List.getElem_cons_succ]); go_simp; try with_reducible rfl)); (try simp only [List.getElem_toArray, List.getElem_cons_zero, List.getElem_cons_succ]); (try simp only [Act.put, List.setIfInBounds_toArray, List.set_cons_zero, List.set_cons_succ])
              (refine wpAnyH_take (i := 18) (v := ?_) rfl (by kernel_rfl) (by kernel_rfl) (by kernel_rfl) (fun _ _ _ h => h) (Or.inl ⟨by rfl, ?_⟩) (by assumption) ?_; rotate_left; focus (intro w hSw; (try dsimp only at hSw); (try simp only [List.getElem_toArray, List.getElem_cons_zero, List.getElem_cons_succ]); go_simp; try with_reducible rfl)); (try simp only [List.getElem_toArray, List.getElem_cons_zero, List.getElem_cons_succ]); (try simp only [Act.put, List.setIfInBounds_toArray, List.set_cons_zero, List.set_cons_succ])
              refine wpAnyH_done (by kernel_rfl) ?_ _
              go_wp2
              go_ret
              exact ⟨rfl, XVF⟩
          · (try simp only [List.getElem_toArray, List.getElem_cons_zero, List.getElem_cons_succ])
            go_simp
            have eVA : Ext VD (VD.alloc (Obj.cells #[.int .i64 house, .int .i64 ((xs.length : Int) + 1), .string root, .string prev] 25)) := (by repeat (first | (with_reducible first | exact Ext.refl _ | assumption | apply Ext.alloc | apply Ext.drew | apply Ext.drewN | refine Ext.setCell ?_ ?_ _ | refine Ext.trans ?_ (by assumption)) | (show _ ≤ _; first | omega | (dsimp only; omega) | (simp; done) | (simp; omega))))
            have NVA := Bx.new VD #[.int .i64 house, .int .i64 ((xs.length : Int) + 1), .string root, .string prev] 25
            have XVA := XD.trans eVA
            have PVA := PD.ext eVA
            have HVA := Lib.hid (own_ext HD.out eVA)
            have lVA := Nat.le_trans (lD) eVA.size
            have qVA : VD.heap.size < (VD.alloc (Obj.cells #[.int .i64 house, .int .i64 ((xs.length : Int) + 1), .string root, .string prev] 25)).heap.size := by rw [World.size_alloc]; omega
            generalize VD.alloc (Obj.cells #[.int .i64 house, .int .i64 ((xs.length : Int) + 1), .string root, .string prev] 25) = VA at *
            (try dsimp only)
            refine hK.out _ _ (by exact ⟨PVA.2.1 0 _ rfl, PVA.2.1 1 _ rfl, PVA.2.1 2 _ rfl, PVA.2.1 3 _ rfl⟩) (fun hHeld => ?_)
            clear hK K
            refine wpAnyH_ready (rs := [3]) (by kernel_rfl) (by simp) ?_
            refine AllReadyH.cons rfl (fun K hK => ?_) AllReadyH.nil
            (try simp only [List.getElem_toArray, List.getElem_cons_zero, List.getElem_cons_succ])
            go_simp
            have eVB : Ext VA (VA.alloc (Obj.cells #[] 25)) := (by repeat (first | (with_reducible first | exact Ext.refl _ | assumption | apply Ext.alloc | apply Ext.drew | apply Ext.drewN | refine Ext.setCell ?_ ?_ _ | refine Ext.trans ?_ (by assumption)) | (show _ ≤ _; first | omega | (dsimp only; omega) | (simp; done) | (simp; omega))))
            have OLVB := World.ownsRow_lit (base := w6.heap.size + 1) (e := 25) (size := 4) VA #[] 0 (lVA) (Nat.zero_le _) rfl
            have XVB := XVA.trans eVB
            have PVB := PVA.ext eVB
            have HVB := Lib.hid (own_ext HVA.out eVB)
            have lVB := Nat.le_trans (lVA) eVB.size
            have NVB := NVA.ext eVB
            have qVB : VA.heap.size < (VA.alloc (Obj.cells #[] 25)).heap.size := by rw [World.size_alloc]; omega
            generalize VA.alloc (Obj.cells #[] 25) = VB at *
            (try dsimp only)
            refine hK.out _ _ (by exact ⟨PVB.2.1 0 _ rfl, PVB.2.1 1 _ rfl, PVB.2.1 2 _ rfl, PVB.2.1 3 _ rfl⟩) (fun hHeld => ?_)
            clear hK K
            (refine wpAnyH_ready (rs := [5]) (by kernel_rfl) (by simp) ?_; refine AllReadyH.cons rfl (fun K hK => ?_) AllReadyH.nil)
            refine step_append_any (.tmp 90) (.tmp 91) 37 (by rfl) (by rfl) (w6.heap.size + 1) 25 i0 _ 4 48 Tryd.underlying37 hi hz0 hz1 hz2 rfl (by decide) _ _ _ (by rfl) OLVB _ xs.length (xs.flatMap Hd.cells) (by rfl) (Row.of_owns HVB.out) (own_solid HVB.out) (hds_ones xs) (by unfold maxLen; omega) (by omega) (lVB) ?_
            intro aVC cVC VC ownVC gVC atVC
            clear atVC
            simp only [Nat.zero_add, List.nil_append] at ownVC ⊢
            have bVC := (own_lt OLVB _ rfl).1
            have hVC := (own_lt HVB.out g rfl).2
            have XVC : Ext w VC := own_ext_of XVB OLVB gVC (by omega)
            have PVC := PVB.grown gVC (fun e => by injection e with e; dsimp only at e; omega)
            have HVC := Lib.hid (own_grown2 HVB.out gVC (fun k hk e => by injection hk with hk; injection e with e; dsimp only at hk e; omega))
            have lVC := Nat.le_trans (lVB) gVC.size
            have NVC := NVB.grown gVC (fun e => by injection e with e; dsimp only at e; omega)
            (try dsimp only)
            refine hK.out _ _ (by exact ⟨PVC.2.1 0 _ rfl, PVC.2.1 1 _ rfl, PVC.2.1 2 _ rfl, PVC.2.1 3 _ rfl⟩) (fun hHeld => ?_)
            clear hK K
            (refine wpAnyH_ready (rs := [8]) (by kernel_rfl) (by simp) ?_; refine AllReadyH.cons rfl (fun K hK => ?_) AllReadyH.nil)
            refine step_append_any (.tmp 92) (.tmp 94) 37 (by rfl) (by rfl) (w6.heap.size + 1) 25 i0 _ 4 48 Tryd.underlying37 hi hz0 hz1 hz2 rfl (by decide) _ _ _ (by rfl) ownVC _ 1 [.int .i64 house, .int .i64 ((xs.length : Int) + 1), .string root, .string prev] (by rfl) (NVC.row rfl (Nat.le_refl _) (by decide)) (solid_some _ _ _ _) (hd_one ⟨house, (xs.length : Int) + 1, root, prev⟩) (by unfold maxLen; omega) (by omega) (lVC) ?_
            intro aVE cVE VE ownVE gVE atVE
            have XVE : Ext w VE := own_ext_of XVC ownVC gVE (by omega)
            have PVE := PVC.grown gVE (fun e => by have := (own_lt ownVC _ e).1; omega)
            have RVE : Hds VE (.slice aVE (xs.length + 1) cVE) (xs ++ [⟨house, (xs.length : Int) + 1, root, prev⟩]) := by have R := Row.of_owns ownVE; unfold Hds; rw [hds_snoc, List.length_append]; simpa [Hd.cells] using R
            (try dsimp only)
            refine hK.out _ _ (by exact ⟨PVE.2.1 0 _ rfl, PVE.2.1 1 _ rfl, PVE.2.1 2 _ rfl, PVE.2.1 3 _ rfl⟩) (fun hHeld => ?_)
            clear hK K
            (refine wpAnyH_ready (rs := [10]) (by kernel_rfl) (by simp) ?_; refine AllReadyH.cons rfl (fun K hK => ?_) AllReadyH.nil; (try simp only [List.getElem_toArray, List.getElem_cons_zero, List.getElem_cons_succ]))
            go_simp
            go_at_call 23
            refine (impl_ChainOk _ (xs ++ [⟨house, (xs.length : Int) + 1, root, prev⟩]) house _ RVE (by simp; omega) (HT.out.ext XVE)).mono ?_
            rw [HS.out]
            rintro e VF ⟨rfl, xVF⟩
            have XVF := XVE.trans xVF
            have PVF := PVE.ext xVF
            (try dsimp only)
            refine hK.out _ _ (by exact ⟨PVF.2.1 0 _ rfl, PVF.2.1 1 _ rfl, PVF.2.1 2 _ rfl, PVF.2.1 3 _ rfl⟩) (fun hHeld => ?_)
            clear hK K
            (refine wpAnyH_take (i := 11) (v := ?_) rfl (by kernel_rfl) (by kernel_rfl) (by kernel_rfl) (fun _ _ _ h => h) (Or.inl ⟨by rfl, ?_⟩) (by assumption) ?_; rotate_left; focus (intro w hSw; (try dsimp only at hSw); (try simp only [List.getElem_toArray, List.getElem_cons_zero, List.getElem_cons_succ]); go_simp; try with_reducible rfl)); (try simp only [List.getElem_toArray, List.getElem_cons_zero, List.getElem_cons_succ]); (try simp only [Act.put, List.setIfInBounds_toArray, List.set_cons_zero, List.set_cons_succ])
            (refine wpAnyH_take (i := 12) (v := ?_) rfl (by kernel_rfl) (by kernel_rfl) (by kernel_rfl) (fun _ _ _ h => h) (Or.inl ⟨by rfl, ?_⟩) (by assumption) ?_; rotate_left; focus (intro w hSw; (try dsimp only at hSw); (try simp only [List.getElem_toArray, List.getElem_cons_zero, List.getElem_cons_succ]); go_simp; try with_reducible rfl)); (try simp only [List.getElem_toArray, List.getElem_cons_zero, List.getElem_cons_succ]); (try simp only [Act.put, List.setIfInBounds_toArray, List.set_cons_zero, List.set_cons_succ])
            (refine wpAnyH_take (i := 13) (v := ?_) rfl (by kernel_rfl) (by kernel_rfl) (by kernel_rfl) (fun _ _ _ h => h) (Or.inl ⟨by rfl, ?_⟩) (by assumption) ?_; rotate_left; focus (intro w hSw; (try dsimp only at hSw); (try simp only [List.getElem_toArray, List.getElem_cons_zero, List.getElem_cons_succ]); go_simp; try with_reducible rfl)); (try simp only [List.getElem_toArray, List.getElem_cons_zero, List.getElem_cons_succ]); (try simp only [Act.put, List.setIfInBounds_toArray, List.set_cons_zero, List.set_cons_succ])
            (refine wpAnyH_take (i := 14) (v := ?_) rfl (by kernel_rfl) (by kernel_rfl) (by kernel_rfl) (fun _ _ _ h => h) (Or.inl ⟨by rfl, ?_⟩) (by assumption) ?_; rotate_left; focus (intro w hSw; (try dsimp only at hSw); (try simp only [List.getElem_toArray, List.getElem_cons_zero, List.getElem_cons_succ]); go_simp; try with_reducible rfl)); (try simp only [List.getElem_toArray, List.getElem_cons_zero, List.getElem_cons_succ]); (try simp only [Act.put, List.setIfInBounds_toArray, List.set_cons_zero, List.set_cons_succ])
            (refine wpAnyH_take (i := 15) (v := .bool true) rfl (by kernel_rfl) (by kernel_rfl) (by kernel_rfl) (fun _ _ _ h => h) (Or.inl ⟨by rfl, ?_⟩) (by assumption) ?_; focus (intro w hSw; (try dsimp only at hSw); (try simp only [List.getElem_toArray, List.getElem_cons_zero, List.getElem_cons_succ]); go_simp; (try simp))); (try simp only [List.getElem_toArray, List.getElem_cons_zero, List.getElem_cons_succ]); (try simp only [Act.put, List.setIfInBounds_toArray, List.set_cons_zero, List.set_cons_succ])
            (refine wpAnyH_take (i := 16) (v := ?_) rfl (by kernel_rfl) (by kernel_rfl) (by kernel_rfl) (fun _ _ _ h => h) (Or.inl ⟨by rfl, ?_⟩) (by assumption) ?_; rotate_left; focus (intro w hSw; (try dsimp only at hSw); (try simp only [List.getElem_toArray, List.getElem_cons_zero, List.getElem_cons_succ]); go_simp; try with_reducible rfl)); (try simp only [List.getElem_toArray, List.getElem_cons_zero, List.getElem_cons_succ]); (try simp only [Act.put, List.setIfInBounds_toArray, List.set_cons_zero, List.set_cons_succ])
            (refine wpAnyH_take (i := 17) (v := ?_) rfl (by kernel_rfl) (by kernel_rfl) (by kernel_rfl) (fun _ _ _ h => h) (Or.inl ⟨by rfl, ?_⟩) (by assumption) ?_; rotate_left; focus (intro w hSw; (try dsimp only at hSw); (try simp only [List.getElem_toArray, List.getElem_cons_zero, List.getElem_cons_succ]); go_simp; try with_reducible rfl)); (try simp only [List.getElem_toArray, List.getElem_cons_zero, List.getElem_cons_succ]); (try simp only [Act.put, List.setIfInBounds_toArray, List.set_cons_zero, List.set_cons_succ])
            (refine wpAnyH_take (i := 18) (v := ?_) rfl (by kernel_rfl) (by kernel_rfl) (by kernel_rfl) (fun _ _ _ h => h) (Or.inl ⟨by rfl, ?_⟩) (by assumption) ?_; rotate_left; focus (intro w hSw; (try dsimp only at hSw); (try simp only [List.getElem_toArray, List.getElem_cons_zero, List.getElem_cons_succ]); go_simp; try with_reducible rfl)); (try simp only [List.getElem_toArray, List.getElem_cons_zero, List.getElem_cons_succ]); (try simp only [Act.put, List.setIfInBounds_toArray, List.set_cons_zero, List.set_cons_succ])
            refine wpAnyH_done (by kernel_rfl) ?_ _
            go_wp2
            go_ret
            exact ⟨rfl, XVF⟩
        · have HB2 := Lib.hid hb2
          clear hb2
          have HQ := Lib.hid (HOT.out HB2.out)
          refine wp_region_held_drew (S := (fun W => W.cell? ⟨gO, i * 4, none⟩ = some (.int .i64 z.house) ∧ W.cell? ⟨gO, i * 4 + 1, none⟩ = some (.int .i64 z.epoch) ∧ W.cell? ⟨gO, i * 4 + 2, none⟩ = some (.string r') ∧ W.cell? ⟨gO, i * 4 + 3, none⟩ = some (.string z.prev) ∧ W.cell? ⟨g, i * 4, none⟩ = some (.int .i64 z.house) ∧ W.cell? ⟨g, i * 4 + 1, none⟩ = some (.int .i64 z.epoch) ∧ W.cell? ⟨g, i * 4 + 2, none⟩ = some (.string z.root) ∧ W.cell? ⟨g, i * 4 + 3, none⟩ = some (.string z.prev))) (by kernel_rfl) (by exact ⟨q0, q1, q2, q3, r0, r1, r2, r3⟩) (fun hHeld => ?_)
          (refine wpAnyH_take (i := 0) (v := ?_) rfl (by kernel_rfl) (by kernel_rfl) (by kernel_rfl) (fun _ _ _ h => h) (Or.inl ⟨by rfl, ?_⟩) (by assumption) ?_; rotate_left; focus (intro w hSw; (try dsimp only at hSw); (try simp only [List.getElem_toArray, List.getElem_cons_zero]); go_simp; try with_reducible rfl)); (try simp only [List.getElem_toArray, List.getElem_cons_zero]); (try simp only [Act.put, List.setIfInBounds_toArray, List.set_cons_zero, List.set_cons_succ])
          (refine wpAnyH_take (i := 1) (v := ?_) rfl (by kernel_rfl) (by kernel_rfl) (by kernel_rfl) (fun _ _ _ h => h) (Or.inl ⟨by rfl, ?_⟩) (by assumption) ?_; rotate_left; focus (intro w hSw; (try dsimp only at hSw); (try simp only [List.getElem_toArray, List.getElem_cons_zero, List.getElem_cons_succ]); go_simp; try with_reducible rfl)); (try simp only [List.getElem_toArray, List.getElem_cons_zero, List.getElem_cons_succ]); (try simp only [Act.put, List.setIfInBounds_toArray, List.set_cons_zero, List.set_cons_succ])
          (refine wpAnyH_ready (rs := [2]) (by kernel_rfl) (by simp) ?_; refine AllReadyH.cons rfl (fun K hK => ?_) AllReadyH.nil; (try simp only [List.getElem_toArray, List.getElem_cons_zero, List.getElem_cons_succ]))
          go_simp
          go_at_call 23
          refine (impl_ChainOk _ zs house _ (HOTH.ext (by repeat (first | (with_reducible first | exact Ext.refl _ | assumption | apply Ext.alloc | apply Ext.drew | apply Ext.drewN | refine Ext.setCell ?_ ?_ _ | refine Ext.trans ?_ (by assumption)) | (show _ ≤ _; first | omega | (dsimp only; omega) | (simp; done) | (simp; omega))))) (by have := HLZ.out; omega) (HT.out.ext (X10.trans (by repeat (first | (with_reducible first | exact Ext.refl _ | assumption | apply Ext.alloc | apply Ext.drew | apply Ext.drewN | refine Ext.setCell ?_ ?_ _ | refine Ext.trans ?_ (by assumption)) | (show _ ≤ _; first | omega | (dsimp only; omega) | (simp; done) | (simp; omega))))))).mono ?_
          rw [HB2.out]
          rintro e wa ⟨rfl, xa⟩
          have ya : Ext W10 wa := ((Ext.refl W10).drew).trans xa
          (try dsimp only)
          refine hK.out _ _ (by exact ⟨(ya.cell _ _ lgO).trans q0, (ya.cell _ _ lgO).trans q1, (ya.cell _ _ lgO).trans q2, (ya.cell _ _ lgO).trans q3, (ya.cell _ _ lg).trans r0, (ya.cell _ _ lg).trans r1, (ya.cell _ _ lg).trans r2, (ya.cell _ _ lg).trans r3⟩) (fun hHeld => ?_)
          clear hK K
          (refine wpAnyH_take (i := 3) (v := ?_) rfl (by kernel_rfl) (by kernel_rfl) (by kernel_rfl) (fun _ _ _ h => h) (Or.inl ⟨by rfl, ?_⟩) (by assumption) ?_; rotate_left; focus (intro w hSw; (try dsimp only at hSw); (try simp only [List.getElem_toArray, List.getElem_cons_zero, List.getElem_cons_succ]); go_simp; try with_reducible rfl)); (try simp only [List.getElem_toArray, List.getElem_cons_zero, List.getElem_cons_succ]); (try simp only [Act.put, List.setIfInBounds_toArray, List.set_cons_zero, List.set_cons_succ])
          (refine wpAnyH_take (i := 4) (v := ?_) rfl (by kernel_rfl) (by kernel_rfl) (by kernel_rfl) (fun _ _ _ h => h) (Or.inl ⟨by rfl, ?_⟩) (by assumption) ?_; rotate_left; focus (intro w hSw; (try dsimp only at hSw); (try simp only [List.getElem_toArray, List.getElem_cons_zero, List.getElem_cons_succ]); go_simp; try with_reducible rfl)); (try simp only [List.getElem_toArray, List.getElem_cons_zero, List.getElem_cons_succ]); (try simp only [Act.put, List.setIfInBounds_toArray, List.set_cons_zero, List.set_cons_succ])
          (refine wpAnyH_take (i := 5) (v := ?_) rfl (by kernel_rfl) (by kernel_rfl) (by kernel_rfl) (fun _ _ _ h => h) (Or.inl ⟨by rfl, ?_⟩) (by assumption) ?_; rotate_left; focus (intro w hSw; (try dsimp only at hSw); (try simp only [List.getElem_toArray, List.getElem_cons_zero, List.getElem_cons_succ]); go_simp; try with_reducible rfl)); (try simp only [List.getElem_toArray, List.getElem_cons_zero, List.getElem_cons_succ]); (try simp only [Act.put, List.setIfInBounds_toArray, List.set_cons_zero, List.set_cons_succ])
          (refine wpAnyH_take (i := 6) (v := ?_) rfl (by kernel_rfl) (by kernel_rfl) (by kernel_rfl) (fun _ _ _ h => h) (Or.inl ⟨by rfl, ?_⟩) (by assumption) ?_; rotate_left; focus (intro w hSw; (try dsimp only at hSw); (try simp only [List.getElem_toArray, List.getElem_cons_zero, List.getElem_cons_succ]); go_simp; try with_reducible rfl)); (try simp only [List.getElem_toArray, List.getElem_cons_zero, List.getElem_cons_succ]); (try simp only [Act.put, List.setIfInBounds_toArray, List.set_cons_zero, List.set_cons_succ])
          (refine wpAnyH_take (i := 7) (v := ?_) rfl (by kernel_rfl) (by kernel_rfl) (by kernel_rfl) (fun _ _ _ h => h) (Or.inl ⟨by rfl, ?_⟩) (by assumption) ?_; rotate_left; focus (intro w hSw; (try dsimp only at hSw); (try simp only [List.getElem_toArray, List.getElem_cons_zero, List.getElem_cons_succ]); go_simp; try with_reducible rfl)); (try simp only [List.getElem_toArray, List.getElem_cons_zero, List.getElem_cons_succ]); (try simp only [Act.put, List.setIfInBounds_toArray, List.set_cons_zero, List.set_cons_succ])
          (refine wpAnyH_take (i := 9) (v := ?_) rfl (by kernel_rfl) (by kernel_rfl) (by kernel_rfl) (fun _ _ _ h => h) (Or.inl ⟨by rfl, ?_⟩) (by assumption) ?_; rotate_left; focus (intro w hSw; (try dsimp only at hSw); (try simp only [List.getElem_toArray, List.getElem_cons_zero, List.getElem_cons_succ]); go_simp; try with_reducible rfl)); (try simp only [List.getElem_toArray, List.getElem_cons_zero, List.getElem_cons_succ]); (try simp only [Act.put, List.setIfInBounds_toArray, List.set_cons_zero, List.set_cons_succ])
          (refine wpAnyH_take (i := 10) (v := ?_) rfl (by kernel_rfl) (by kernel_rfl) (by kernel_rfl) (fun _ _ _ h => h) (Or.inl ⟨by rfl, ?_⟩) (by assumption) ?_; rotate_left; focus (intro w hSw; (try dsimp only at hSw); (try simp only [List.getElem_toArray, List.getElem_cons_zero, List.getElem_cons_succ]); go_simp; try with_reducible rfl)); (try simp only [List.getElem_toArray, List.getElem_cons_zero, List.getElem_cons_succ]); (try simp only [Act.put, List.setIfInBounds_toArray, List.set_cons_zero, List.set_cons_succ])
          (refine wpAnyH_take (i := 11) (v := ?_) rfl (by kernel_rfl) (by kernel_rfl) (by kernel_rfl) (fun _ _ _ h => h) (Or.inl ⟨by rfl, ?_⟩) (by assumption) ?_; rotate_left; focus (intro w hSw; (try dsimp only at hSw); (try simp only [List.getElem_toArray, List.getElem_cons_zero, List.getElem_cons_succ]); go_simp; try with_reducible rfl)); (try simp only [List.getElem_toArray, List.getElem_cons_zero, List.getElem_cons_succ]); (try simp only [Act.put, List.setIfInBounds_toArray, List.set_cons_zero, List.set_cons_succ])
          (refine wpAnyH_take (i := 12) (v := ?_) rfl (by kernel_rfl) (by kernel_rfl) (by kernel_rfl) (fun _ _ _ h => h) (Or.inl ⟨by rfl, ?_⟩) (by assumption) ?_; rotate_left; focus (intro w hSw; (try dsimp only at hSw); (try simp only [List.getElem_toArray, List.getElem_cons_zero, List.getElem_cons_succ]); go_simp; try with_reducible rfl)); (try simp only [List.getElem_toArray, List.getElem_cons_zero, List.getElem_cons_succ]); (try simp only [Act.put, List.setIfInBounds_toArray, List.set_cons_zero, List.set_cons_succ])
          (refine wpAnyH_ready (rs := [8]) (by kernel_rfl) (by simp) ?_; refine AllReadyH.cons rfl (fun K hK => ?_) AllReadyH.nil; (try simp only [List.getElem_toArray, List.getElem_cons_zero, List.getElem_cons_succ]))
          go_simp
          go_at_call 21
          refine (spec_HeadHash _ _ _ _ _).mono ?_
          rintro e wb ⟨rfl, xb⟩
          have yb : Ext W10 wb := ya.trans xb
          (try dsimp only)
          refine hK.out _ _ (by exact ⟨(yb.cell _ _ lgO).trans q0, (yb.cell _ _ lgO).trans q1, (yb.cell _ _ lgO).trans q2, (yb.cell _ _ lgO).trans q3, (yb.cell _ _ lg).trans r0, (yb.cell _ _ lg).trans r1, (yb.cell _ _ lg).trans r2, (yb.cell _ _ lg).trans r3⟩) (fun hHeld => ?_)
          clear hK K
          (refine wpAnyH_ready (rs := [13]) (by kernel_rfl) (by simp) ?_; refine AllReadyH.cons rfl (fun K hK => ?_) AllReadyH.nil; (try simp only [List.getElem_toArray, List.getElem_cons_zero, List.getElem_cons_succ]))
          go_simp
          go_at_call 21
          refine (spec_HeadHash _ _ _ _ _).mono ?_
          rw [show headH z.house z.epoch z.root z.prev = headH z.house z.epoch r' z.prev from HQ.out.symm]
          rintro e wc ⟨rfl, xc⟩
          have yc : Ext W10 wc := yb.trans xc
          (try dsimp only)
          refine hK.out _ _ (by exact ⟨(yc.cell _ _ lgO).trans q0, (yc.cell _ _ lgO).trans q1, (yc.cell _ _ lgO).trans q2, (yc.cell _ _ lgO).trans q3, (yc.cell _ _ lg).trans r0, (yc.cell _ _ lg).trans r1, (yc.cell _ _ lg).trans r2, (yc.cell _ _ lg).trans r3⟩) (fun hHeld => ?_)
          clear hK K
          (refine wpAnyH_take (i := 14) (v := .bool false) rfl (by kernel_rfl) (by kernel_rfl) (by kernel_rfl) (fun _ _ _ h => h) (Or.inl ⟨by rfl, ?_⟩) (by assumption) ?_; focus (intro w hSw; (try dsimp only at hSw); (try simp only [List.getElem_toArray, List.getElem_cons_zero, List.getElem_cons_succ]); go_simp; (try simp))); (try simp only [List.getElem_toArray, List.getElem_cons_zero, List.getElem_cons_succ]); (try simp only [Act.put, List.setIfInBounds_toArray, List.set_cons_zero, List.set_cons_succ])
          (refine wpAnyH_take (i := 15) (v := ?_) rfl (by kernel_rfl) (by kernel_rfl) (by kernel_rfl) (fun _ _ _ h => h) (Or.inl ⟨by rfl, ?_⟩) (by assumption) ?_; rotate_left; focus (intro w hSw; (try dsimp only at hSw); (try simp only [List.getElem_toArray, List.getElem_cons_zero, List.getElem_cons_succ]); go_simp; try with_reducible rfl)); (try simp only [List.getElem_toArray, List.getElem_cons_zero, List.getElem_cons_succ]); (try simp only [Act.put, List.setIfInBounds_toArray, List.set_cons_zero, List.set_cons_succ])
          (refine wpAnyH_take (i := 16) (v := ?_) rfl (by kernel_rfl) (by kernel_rfl) (by kernel_rfl) (fun _ _ _ h => h) (Or.inl ⟨by rfl, ?_⟩) (by assumption) ?_; rotate_left; focus (intro w hSw; (try dsimp only at hSw); (try simp only [List.getElem_toArray, List.getElem_cons_zero, List.getElem_cons_succ]); go_simp; try with_reducible rfl)); (try simp only [List.getElem_toArray, List.getElem_cons_zero, List.getElem_cons_succ]); (try simp only [Act.put, List.setIfInBounds_toArray, List.set_cons_zero, List.set_cons_succ])
          (refine wpAnyH_take (i := 17) (v := ?_) rfl (by kernel_rfl) (by kernel_rfl) (by kernel_rfl) (fun _ _ _ h => h) (Or.inl ⟨by rfl, ?_⟩) (by assumption) ?_; rotate_left; focus (intro w hSw; (try dsimp only at hSw); (try simp only [List.getElem_toArray, List.getElem_cons_zero, List.getElem_cons_succ]); go_simp; try with_reducible rfl)); (try simp only [List.getElem_toArray, List.getElem_cons_zero, List.getElem_cons_succ]); (try simp only [Act.put, List.setIfInBounds_toArray, List.set_cons_zero, List.set_cons_succ])
          (refine wpAnyH_take (i := 18) (v := .slice (some ⟨g, 4, none⟩) (xs.length - 1) (c - 1)) rfl (by kernel_rfl) (by kernel_rfl) (by kernel_rfl) (fun _ _ _ h => h) (Or.inl ⟨by rfl, ?_⟩) (by assumption) ?_; focus (intro w hSw; (try dsimp only at hSw); (try simp only [List.getElem_toArray, List.getElem_cons_zero, List.getElem_cons_succ]); go_simp; rw [if_pos (by omega), if_neg (by omega)])); (try simp only [List.getElem_toArray, List.getElem_cons_zero, List.getElem_cons_succ]); (try simp only [Act.put, List.setIfInBounds_toArray, List.set_cons_zero, List.set_cons_succ])
          (refine wpAnyH_take (i := 19) (v := ?_) rfl (by kernel_rfl) (by kernel_rfl) (by kernel_rfl) (fun _ _ _ h => h) (Or.inl ⟨by rfl, ?_⟩) (by assumption) ?_; rotate_left; focus (intro w hSw; (try dsimp only at hSw); (try simp only [List.getElem_toArray, List.getElem_cons_zero, List.getElem_cons_succ]); go_simp; try with_reducible rfl)); (try simp only [List.getElem_toArray, List.getElem_cons_zero, List.getElem_cons_succ]); (try simp only [Act.put, List.setIfInBounds_toArray, List.set_cons_zero, List.set_cons_succ])
          (refine wpAnyH_ready (rs := [20]) (by kernel_rfl) (by simp) ?_; refine AllReadyH.cons rfl (fun K hK => ?_) AllReadyH.nil; (try simp only [List.getElem_toArray, List.getElem_cons_zero, List.getElem_cons_succ]))
          go_simp
          go_at_call 23
          refine (impl_ChainOk _ (xs.drop 1) house _ (HTLH.ext yc) (by rw [List.length_drop]; omega) (HT.out.ext (X10.trans yc))).mono ?_
          rw [HTL.out]
          rintro e wd ⟨rfl, xd⟩
          have yd : Ext W10 wd := yc.trans xd
          (try dsimp only)
          refine hK.out _ _ (by exact ⟨(yd.cell _ _ lgO).trans q0, (yd.cell _ _ lgO).trans q1, (yd.cell _ _ lgO).trans q2, (yd.cell _ _ lgO).trans q3, (yd.cell _ _ lg).trans r0, (yd.cell _ _ lg).trans r1, (yd.cell _ _ lg).trans r2, (yd.cell _ _ lg).trans r3⟩) (fun hHeld => ?_)
          clear hK K
          (refine wpAnyH_take (i := 21) (v := ?_) rfl (by kernel_rfl) (by kernel_rfl) (by kernel_rfl) (fun _ _ _ h => h) (Or.inl ⟨by rfl, ?_⟩) (by assumption) ?_; rotate_left; focus (intro w hSw; (try dsimp only at hSw); (try simp only [List.getElem_toArray, List.getElem_cons_zero, List.getElem_cons_succ]); go_simp; try with_reducible rfl)); (try simp only [List.getElem_toArray, List.getElem_cons_zero, List.getElem_cons_succ]); (try simp only [Act.put, List.setIfInBounds_toArray, List.set_cons_zero, List.set_cons_succ])
          refine wpAnyH_done (by kernel_rfl) ?_ _
          have X11 := X10.trans yd
          have HO11 := Lib.hid (own_ext HO10.out yd)
          have l11 := Nat.le_trans l10 yd.size
          have P11 := P10.ext yd
          clear q0 q1 q2 q3 r0 r1 r2 r3
          go_wp2_with fail
          refine wp_region_held_drew (S := (fun W => W.cell? ⟨w6.heap.size, 0, none⟩ = some (.int .i64 house) ∧ W.cell? ⟨w6.heap.size, 1, none⟩ = some (.int .i64 ((xs.length : Int) + 1)) ∧ W.cell? ⟨w6.heap.size, 2, none⟩ = some (.string root) ∧ W.cell? ⟨w6.heap.size, 3, none⟩ = some (.string prev))) (by kernel_rfl) (by exact ⟨P11.2.1 0 _ rfl, P11.2.1 1 _ rfl, P11.2.1 2 _ rfl, P11.2.1 3 _ rfl⟩) (fun hHeld => ?_)
          have eD : Ext wd wd.drew := (by repeat (first | (with_reducible first | exact Ext.refl _ | assumption | apply Ext.alloc | apply Ext.drew | apply Ext.drewN | refine Ext.setCell ?_ ?_ _ | refine Ext.trans ?_ (by assumption)) | (show _ ≤ _; first | omega | (dsimp only; omega) | (simp; done) | (simp; omega))))
          have XD := X11.trans eD
          have PD := P11.ext eD
          have HD := Lib.hid (own_ext HO11.out eD)
          have lD := Nat.le_trans (l11) eD.size
          generalize wd.drew = VD at *
          (refine wpAnyH_take (i := 0) (v := ?_) rfl (by kernel_rfl) (by kernel_rfl) (by kernel_rfl) (fun _ _ _ h => h) (Or.inl ⟨by rfl, ?_⟩) (by assumption) ?_; rotate_left; focus (intro w hSw; (try dsimp only at hSw); (try simp only [List.getElem_toArray, List.getElem_cons_zero]); go_simp; try with_reducible rfl)); (try simp only [List.getElem_toArray, List.getElem_cons_zero]); (try simp only [Act.put, List.setIfInBounds_toArray, List.set_cons_zero, List.set_cons_succ])
          (refine wpAnyH_take (i := 1) (v := ?_) rfl (by kernel_rfl) (by kernel_rfl) (by kernel_rfl) (fun _ _ _ h => h) (Or.inl ⟨by rfl, ?_⟩) (by assumption) ?_; rotate_left; focus (intro w hSw; (try dsimp only at hSw); (try simp only [List.getElem_toArray, List.getElem_cons_zero, List.getElem_cons_succ]); go_simp; try with_reducible rfl)); (try simp only [List.getElem_toArray, List.getElem_cons_zero, List.getElem_cons_succ]); (try simp only [Act.put, List.setIfInBounds_toArray, List.set_cons_zero, List.set_cons_succ])
          (refine wpAnyH_take (i := 2) (v := ?_) rfl (by kernel_rfl) (by kernel_rfl) (by kernel_rfl) (fun _ _ _ h => h) (Or.inl ⟨by rfl, ?_⟩) (by assumption) ?_; rotate_left; focus (intro w hSw; (try dsimp only at hSw); (try simp only [List.getElem_toArray, List.getElem_cons_zero, List.getElem_cons_succ]); go_simp; try with_reducible rfl)); (try simp only [List.getElem_toArray, List.getElem_cons_zero, List.getElem_cons_succ]); (try simp only [Act.put, List.setIfInBounds_toArray, List.set_cons_zero, List.set_cons_succ])
          (refine wpAnyH_take (i := 4) (v := ?_) rfl (by kernel_rfl) (by kernel_rfl) (by kernel_rfl) (fun _ _ _ h => h) (Or.inl ⟨by rfl, ?_⟩) (by assumption) ?_; rotate_left; focus (intro w hSw; (try dsimp only at hSw); (try simp only [List.getElem_toArray, List.getElem_cons_zero, List.getElem_cons_succ]); go_simp; try with_reducible rfl)); (try simp only [List.getElem_toArray, List.getElem_cons_zero, List.getElem_cons_succ]); (try simp only [Act.put, List.setIfInBounds_toArray, List.set_cons_zero, List.set_cons_succ])
          (refine wpAnyH_take (i := 6) (v := ?_) rfl (by kernel_rfl) (by kernel_rfl) (by kernel_rfl) (fun _ _ _ h => h) (Or.inl ⟨by rfl, ?_⟩) (by assumption) ?_; rotate_left; focus (intro w hSw; (try dsimp only at hSw); (try simp only [List.getElem_toArray, List.getElem_cons_zero, List.getElem_cons_succ]); go_simp; try with_reducible rfl)); (try simp only [List.getElem_toArray, List.getElem_cons_zero, List.getElem_cons_succ]); (try simp only [Act.put, List.setIfInBounds_toArray, List.set_cons_zero, List.set_cons_succ])
          (refine wpAnyH_take (i := 9) (v := ?_) rfl (by kernel_rfl) (by kernel_rfl) (by kernel_rfl) (fun _ _ _ h => h) (Or.inl ⟨by rfl, ?_⟩) (by assumption) ?_; rotate_left; focus (intro w hSw; (try dsimp only at hSw); (try simp only [List.getElem_toArray, List.getElem_cons_zero, List.getElem_cons_succ]); go_simp; try with_reducible rfl)); (try simp only [List.getElem_toArray, List.getElem_cons_zero, List.getElem_cons_succ]); (try simp only [Act.put, List.setIfInBounds_toArray, List.set_cons_zero, List.set_cons_succ])
          refine wpAnyH_ready (rs := [3, 7]) (by kernel_rfl) (by simp) ?_
          refine AllReadyH.cons rfl (fun K hK => ?_) (AllReadyH.cons rfl (fun K hK => ?_) AllReadyH.nil)
          · (try simp only [List.getElem_toArray, List.getElem_cons_zero, List.getElem_cons_succ])
            go_simp
            have eVA : Ext VD (VD.alloc (Obj.cells #[] 25)) := (by repeat (first | (with_reducible first | exact Ext.refl _ | assumption | apply Ext.alloc | apply Ext.drew | apply Ext.drewN | refine Ext.setCell ?_ ?_ _ | refine Ext.trans ?_ (by assumption)) | (show _ ≤ _; first | omega | (dsimp only; omega) | (simp; done) | (simp; omega))))
            have OLVA := World.ownsRow_lit (base := w6.heap.size + 1) (e := 25) (size := 4) VD #[] 0 (lD) (Nat.zero_le _) rfl
            have XVA := XD.trans eVA
            have PVA := PD.ext eVA
            have HVA := Lib.hid (own_ext HD.out eVA)
            have lVA := Nat.le_trans (lD) eVA.size
            have qVA : VD.heap.size < (VD.alloc (Obj.cells #[] 25)).heap.size := by rw [World.size_alloc]; omega
            generalize VD.alloc (Obj.cells #[] 25) = VA at *
            (try dsimp only)
            refine hK.out _ _ (by exact ⟨PVA.2.1 0 _ rfl, PVA.2.1 1 _ rfl, PVA.2.1 2 _ rfl, PVA.2.1 3 _ rfl⟩) (fun hHeld => ?_)
            clear hK K
            refine wpAnyH_ready (rs := [5, 7]) (by kernel_rfl) (by simp) ?_
            refine AllReadyH.cons rfl (fun K hK => ?_) (AllReadyH.cons rfl (fun K hK => ?_) AllReadyH.nil)
            · refine step_append_any (.tmp 90) (.tmp 91) 37 (by rfl) (by rfl) (w6.heap.size + 1) 25 i0 _ 4 48 Tryd.underlying37 hi hz0 hz1 hz2 rfl (by decide) _ _ _ (by rfl) OLVA _ xs.length (xs.flatMap Hd.cells) (by rfl) (Row.of_owns HVA.out) (own_solid HVA.out) (hds_ones xs) (by unfold maxLen; omega) (by omega) (lVA) ?_
              intro aVB cVB VB ownVB gVB atVB
              clear atVB
              simp only [Nat.zero_add, List.nil_append] at ownVB ⊢
              have bVB := (own_lt OLVA _ rfl).1
              have hVB := (own_lt HVA.out g rfl).2
              have XVB : Ext w VB := own_ext_of XVA OLVA gVB (by omega)
              have PVB := PVA.grown gVB (fun e => by injection e with e; dsimp only at e; omega)
              have HVB := Lib.hid (own_grown2 HVA.out gVB (fun k hk e => by injection hk with hk; injection e with e; dsimp only at hk e; omega))
              have lVB := Nat.le_trans (lVA) gVB.size
              (try dsimp only)
              refine hK.out _ _ (by exact ⟨PVB.2.1 0 _ rfl, PVB.2.1 1 _ rfl, PVB.2.1 2 _ rfl, PVB.2.1 3 _ rfl⟩) (fun hHeld => ?_)
              clear hK K
              refine wpAnyH_ready (rs := [7]) (by kernel_rfl) (by simp) ?_
              refine AllReadyH.cons rfl (fun K hK => ?_) AllReadyH.nil
              (try simp only [List.getElem_toArray, List.getElem_cons_zero, List.getElem_cons_succ])
              go_simp
              have eVC : Ext VB (VB.alloc (Obj.cells #[.int .i64 house, .int .i64 ((xs.length : Int) + 1), .string root, .string prev] 25)) := (by repeat (first | (with_reducible first | exact Ext.refl _ | assumption | apply Ext.alloc | apply Ext.drew | apply Ext.drewN | refine Ext.setCell ?_ ?_ _ | refine Ext.trans ?_ (by assumption)) | (show _ ≤ _; first | omega | (dsimp only; omega) | (simp; done) | (simp; omega))))
              have NVC := Bx.new VB #[.int .i64 house, .int .i64 ((xs.length : Int) + 1), .string root, .string prev] 25
              have XVC := XVB.trans eVC
              have PVC := PVB.ext eVC
              have HVC := Lib.hid (own_ext HVB.out eVC)
              have lVC := Nat.le_trans (lVB) eVC.size
              have ownVC := own_ext ownVB eVC
              have qVC : VB.heap.size < (VB.alloc (Obj.cells #[.int .i64 house, .int .i64 ((xs.length : Int) + 1), .string root, .string prev] 25)).heap.size := by rw [World.size_alloc]; omega
              generalize VB.alloc (Obj.cells #[.int .i64 house, .int .i64 ((xs.length : Int) + 1), .string root, .string prev] 25) = VC at *
              (try dsimp only)
              refine hK.out _ _ (by exact ⟨PVC.2.1 0 _ rfl, PVC.2.1 1 _ rfl, PVC.2.1 2 _ rfl, PVC.2.1 3 _ rfl⟩) (fun hHeld => ?_)
              clear hK K
              (refine wpAnyH_ready (rs := [8]) (by kernel_rfl) (by simp) ?_; refine AllReadyH.cons rfl (fun K hK => ?_) AllReadyH.nil)
              refine step_append_any (.tmp 92) (.tmp 94) 37 (by rfl) (by rfl) (w6.heap.size + 1) 25 i0 _ 4 48 Tryd.underlying37 hi hz0 hz1 hz2 rfl (by decide) _ _ _ (by rfl) ownVC _ 1 [.int .i64 house, .int .i64 ((xs.length : Int) + 1), .string root, .string prev] (by rfl) (NVC.row rfl (Nat.le_refl _) (by decide)) (solid_some _ _ _ _) (hd_one ⟨house, (xs.length : Int) + 1, root, prev⟩) (by unfold maxLen; omega) (by omega) (lVC) ?_
              intro aVE cVE VE ownVE gVE atVE
              have XVE : Ext w VE := own_ext_of XVC ownVC gVE (by omega)
              have PVE := PVC.grown gVE (fun e => by have := (own_lt ownVC _ e).1; omega)
              have RVE : Hds VE (.slice aVE (xs.length + 1) cVE) (xs ++ [⟨house, (xs.length : Int) + 1, root, prev⟩]) := by have R := Row.of_owns ownVE; unfold Hds; rw [hds_snoc, List.length_append]; simpa [Hd.cells] using R
              (try dsimp only)
              refine hK.out _ _ (by exact ⟨PVE.2.1 0 _ rfl, PVE.2.1 1 _ rfl, PVE.2.1 2 _ rfl, PVE.2.1 3 _ rfl⟩) (fun hHeld => ?_)
              clear hK K
              (refine wpAnyH_ready (rs := [10]) (by kernel_rfl) (by simp) ?_; refine AllReadyH.cons rfl (fun K hK => ?_) AllReadyH.nil; (try simp only [List.getElem_toArray, List.getElem_cons_zero, List.getElem_cons_succ]))
              go_simp
              go_at_call 23
              refine (impl_ChainOk _ (xs ++ [⟨house, (xs.length : Int) + 1, root, prev⟩]) house _ RVE (by simp; omega) (HT.out.ext XVE)).mono ?_
              rw [HS.out]
              rintro e VF ⟨rfl, xVF⟩
              have XVF := XVE.trans xVF
              have PVF := PVE.ext xVF
              (try dsimp only)
              refine hK.out _ _ (by exact ⟨PVF.2.1 0 _ rfl, PVF.2.1 1 _ rfl, PVF.2.1 2 _ rfl, PVF.2.1 3 _ rfl⟩) (fun hHeld => ?_)
              clear hK K
              (refine wpAnyH_take (i := 11) (v := ?_) rfl (by kernel_rfl) (by kernel_rfl) (by kernel_rfl) (fun _ _ _ h => h) (Or.inl ⟨by rfl, ?_⟩) (by assumption) ?_; rotate_left; focus (intro w hSw; (try dsimp only at hSw); (try simp only [List.getElem_toArray, List.getElem_cons_zero, List.getElem_cons_succ]); go_simp; try with_reducible rfl)); (try simp only [List.getElem_toArray, List.getElem_cons_zero, List.getElem_cons_succ]); (try simp only [Act.put, List.setIfInBounds_toArray, List.set_cons_zero, List.set_cons_succ])
              (refine wpAnyH_take (i := 12) (v := ?_) rfl (by kernel_rfl) (by kernel_rfl) (by kernel_rfl) (fun _ _ _ h => h) (Or.inl ⟨by rfl, ?_⟩) (by assumption) ?_; rotate_left; focus (intro w hSw; (try dsimp only at hSw); (try simp only [List.getElem_toArray, List.getElem_cons_zero, List.getElem_cons_succ]); go_simp; try with_reducible rfl)); (try simp only [List.getElem_toArray, List.getElem_cons_zero, List.getElem_cons_succ]); (try simp only [Act.put, List.setIfInBounds_toArray, List.set_cons_zero, List.set_cons_succ])
              (refine wpAnyH_take (i := 13) (v := ?_) rfl (by kernel_rfl) (by kernel_rfl) (by kernel_rfl) (fun _ _ _ h => h) (Or.inl ⟨by rfl, ?_⟩) (by assumption) ?_; rotate_left; focus (intro w hSw; (try dsimp only at hSw); (try simp only [List.getElem_toArray, List.getElem_cons_zero, List.getElem_cons_succ]); go_simp; try with_reducible rfl)); (try simp only [List.getElem_toArray, List.getElem_cons_zero, List.getElem_cons_succ]); (try simp only [Act.put, List.setIfInBounds_toArray, List.set_cons_zero, List.set_cons_succ])
              (refine wpAnyH_take (i := 14) (v := ?_) rfl (by kernel_rfl) (by kernel_rfl) (by kernel_rfl) (fun _ _ _ h => h) (Or.inl ⟨by rfl, ?_⟩) (by assumption) ?_; rotate_left; focus (intro w hSw; (try dsimp only at hSw); (try simp only [List.getElem_toArray, List.getElem_cons_zero, List.getElem_cons_succ]); go_simp; try with_reducible rfl)); (try simp only [List.getElem_toArray, List.getElem_cons_zero, List.getElem_cons_succ]); (try simp only [Act.put, List.setIfInBounds_toArray, List.set_cons_zero, List.set_cons_succ])
              (refine wpAnyH_take (i := 15) (v := .bool true) rfl (by kernel_rfl) (by kernel_rfl) (by kernel_rfl) (fun _ _ _ h => h) (Or.inl ⟨by rfl, ?_⟩) (by assumption) ?_; focus (intro w hSw; (try dsimp only at hSw); (try simp only [List.getElem_toArray, List.getElem_cons_zero, List.getElem_cons_succ]); go_simp; (try simp))); (try simp only [List.getElem_toArray, List.getElem_cons_zero, List.getElem_cons_succ]); (try simp only [Act.put, List.setIfInBounds_toArray, List.set_cons_zero, List.set_cons_succ])
              (refine wpAnyH_take (i := 16) (v := ?_) rfl (by kernel_rfl) (by kernel_rfl) (by kernel_rfl) (fun _ _ _ h => h) (Or.inl ⟨by rfl, ?_⟩) (by assumption) ?_; rotate_left; focus (intro w hSw; (try dsimp only at hSw); (try simp only [List.getElem_toArray, List.getElem_cons_zero, List.getElem_cons_succ]); go_simp; try with_reducible rfl)); (try simp only [List.getElem_toArray, List.getElem_cons_zero, List.getElem_cons_succ]); (try simp only [Act.put, List.setIfInBounds_toArray, List.set_cons_zero, List.set_cons_succ])
              (refine wpAnyH_take (i := 17) (v := ?_) rfl (by kernel_rfl) (by kernel_rfl) (by kernel_rfl) (fun _ _ _ h => h) (Or.inl ⟨by rfl, ?_⟩) (by assumption) ?_; rotate_left; focus (intro w hSw; (try dsimp only at hSw); (try simp only [List.getElem_toArray, List.getElem_cons_zero, List.getElem_cons_succ]); go_simp; try with_reducible rfl)); (try simp only [List.getElem_toArray, List.getElem_cons_zero, List.getElem_cons_succ]); (try simp only [Act.put, List.setIfInBounds_toArray, List.set_cons_zero, List.set_cons_succ])
              (refine wpAnyH_take (i := 18) (v := ?_) rfl (by kernel_rfl) (by kernel_rfl) (by kernel_rfl) (fun _ _ _ h => h) (Or.inl ⟨by rfl, ?_⟩) (by assumption) ?_; rotate_left; focus (intro w hSw; (try dsimp only at hSw); (try simp only [List.getElem_toArray, List.getElem_cons_zero, List.getElem_cons_succ]); go_simp; try with_reducible rfl)); (try simp only [List.getElem_toArray, List.getElem_cons_zero, List.getElem_cons_succ]); (try simp only [Act.put, List.setIfInBounds_toArray, List.set_cons_zero, List.set_cons_succ])
              refine wpAnyH_done (by kernel_rfl) ?_ _
              go_wp2
              go_ret
              exact ⟨rfl, XVF⟩
            · (try simp only [List.getElem_toArray, List.getElem_cons_zero, List.getElem_cons_succ])
              go_simp
              have eVB : Ext VA (VA.alloc (Obj.cells #[.int .i64 house, .int .i64 ((xs.length : Int) + 1), .string root, .string prev] 25)) := (by repeat (first | (with_reducible first | exact Ext.refl _ | assumption | apply Ext.alloc | apply Ext.drew | apply Ext.drewN | refine Ext.setCell ?_ ?_ _ | refine Ext.trans ?_ (by assumption)) | (show _ ≤ _; first | omega | (dsimp only; omega) | (simp; done) | (simp; omega))))
              have NVB := Bx.new VA #[.int .i64 house, .int .i64 ((xs.length : Int) + 1), .string root, .string prev] 25
              have XVB := XVA.trans eVB
              have PVB := PVA.ext eVB
              have HVB := Lib.hid (own_ext HVA.out eVB)
              have lVB := Nat.le_trans (lVA) eVB.size
              have OLVB := own_ext OLVA eVB
              have qVB : VA.heap.size < (VA.alloc (Obj.cells #[.int .i64 house, .int .i64 ((xs.length : Int) + 1), .string root, .string prev] 25)).heap.size := by rw [World.size_alloc]; omega
              generalize VA.alloc (Obj.cells #[.int .i64 house, .int .i64 ((xs.length : Int) + 1), .string root, .string prev] 25) = VB at *
              (try dsimp only)
              refine hK.out _ _ (by exact ⟨PVB.2.1 0 _ rfl, PVB.2.1 1 _ rfl, PVB.2.1 2 _ rfl, PVB.2.1 3 _ rfl⟩) (fun hHeld => ?_)
              clear hK K
              (refine wpAnyH_ready (rs := [5]) (by kernel_rfl) (by simp) ?_; refine AllReadyH.cons rfl (fun K hK => ?_) AllReadyH.nil)
              refine step_append_any (.tmp 90) (.tmp 91) 37 (by rfl) (by rfl) (w6.heap.size + 1) 25 i0 _ 4 48 Tryd.underlying37 hi hz0 hz1 hz2 rfl (by decide) _ _ _ (by rfl) OLVB _ xs.length (xs.flatMap Hd.cells) (by rfl) (Row.of_owns HVB.out) (own_solid HVB.out) (hds_ones xs) (by unfold maxLen; omega) (by omega) (lVB) ?_
              intro aVC cVC VC ownVC gVC atVC
              clear atVC
              simp only [Nat.zero_add, List.nil_append] at ownVC ⊢
              have bVC := (own_lt OLVB _ rfl).1
              have hVC := (own_lt HVB.out g rfl).2
              have XVC : Ext w VC := own_ext_of XVB OLVB gVC (by omega)
              have PVC := PVB.grown gVC (fun e => by injection e with e; dsimp only at e; omega)
              have HVC := Lib.hid (own_grown2 HVB.out gVC (fun k hk e => by injection hk with hk; injection e with e; dsimp only at hk e; omega))
              have lVC := Nat.le_trans (lVB) gVC.size
              have NVC := NVB.grown gVC (fun e => by injection e with e; dsimp only at e; omega)
              (try dsimp only)
              refine hK.out _ _ (by exact ⟨PVC.2.1 0 _ rfl, PVC.2.1 1 _ rfl, PVC.2.1 2 _ rfl, PVC.2.1 3 _ rfl⟩) (fun hHeld => ?_)
              clear hK K
              (refine wpAnyH_ready (rs := [8]) (by kernel_rfl) (by simp) ?_; refine AllReadyH.cons rfl (fun K hK => ?_) AllReadyH.nil)
              refine step_append_any (.tmp 92) (.tmp 94) 37 (by rfl) (by rfl) (w6.heap.size + 1) 25 i0 _ 4 48 Tryd.underlying37 hi hz0 hz1 hz2 rfl (by decide) _ _ _ (by rfl) ownVC _ 1 [.int .i64 house, .int .i64 ((xs.length : Int) + 1), .string root, .string prev] (by rfl) (NVC.row rfl (Nat.le_refl _) (by decide)) (solid_some _ _ _ _) (hd_one ⟨house, (xs.length : Int) + 1, root, prev⟩) (by unfold maxLen; omega) (by omega) (lVC) ?_
              intro aVE cVE VE ownVE gVE atVE
              have XVE : Ext w VE := own_ext_of XVC ownVC gVE (by omega)
              have PVE := PVC.grown gVE (fun e => by have := (own_lt ownVC _ e).1; omega)
              have RVE : Hds VE (.slice aVE (xs.length + 1) cVE) (xs ++ [⟨house, (xs.length : Int) + 1, root, prev⟩]) := by have R := Row.of_owns ownVE; unfold Hds; rw [hds_snoc, List.length_append]; simpa [Hd.cells] using R
              (try dsimp only)
              refine hK.out _ _ (by exact ⟨PVE.2.1 0 _ rfl, PVE.2.1 1 _ rfl, PVE.2.1 2 _ rfl, PVE.2.1 3 _ rfl⟩) (fun hHeld => ?_)
              clear hK K
              (refine wpAnyH_ready (rs := [10]) (by kernel_rfl) (by simp) ?_; refine AllReadyH.cons rfl (fun K hK => ?_) AllReadyH.nil; (try simp only [List.getElem_toArray, List.getElem_cons_zero, List.getElem_cons_succ]))
              go_simp
              go_at_call 23
              refine (impl_ChainOk _ (xs ++ [⟨house, (xs.length : Int) + 1, root, prev⟩]) house _ RVE (by simp; omega) (HT.out.ext XVE)).mono ?_
              rw [HS.out]
              rintro e VF ⟨rfl, xVF⟩
              have XVF := XVE.trans xVF
              have PVF := PVE.ext xVF
              (try dsimp only)
              refine hK.out _ _ (by exact ⟨PVF.2.1 0 _ rfl, PVF.2.1 1 _ rfl, PVF.2.1 2 _ rfl, PVF.2.1 3 _ rfl⟩) (fun hHeld => ?_)
              clear hK K
              (refine wpAnyH_take (i := 11) (v := ?_) rfl (by kernel_rfl) (by kernel_rfl) (by kernel_rfl) (fun _ _ _ h => h) (Or.inl ⟨by rfl, ?_⟩) (by assumption) ?_; rotate_left; focus (intro w hSw; (try dsimp only at hSw); (try simp only [List.getElem_toArray, List.getElem_cons_zero, List.getElem_cons_succ]); go_simp; try with_reducible rfl)); (try simp only [List.getElem_toArray, List.getElem_cons_zero, List.getElem_cons_succ]); (try simp only [Act.put, List.setIfInBounds_toArray, List.set_cons_zero, List.set_cons_succ])
              (refine wpAnyH_take (i := 12) (v := ?_) rfl (by kernel_rfl) (by kernel_rfl) (by kernel_rfl) (fun _ _ _ h => h) (Or.inl ⟨by rfl, ?_⟩) (by assumption) ?_; rotate_left; focus (intro w hSw; (try dsimp only at hSw); (try simp only [List.getElem_toArray, List.getElem_cons_zero, List.getElem_cons_succ]); go_simp; try with_reducible rfl)); (try simp only [List.getElem_toArray, List.getElem_cons_zero, List.getElem_cons_succ]); (try simp only [Act.put, List.setIfInBounds_toArray, List.set_cons_zero, List.set_cons_succ])
              (refine wpAnyH_take (i := 13) (v := ?_) rfl (by kernel_rfl) (by kernel_rfl) (by kernel_rfl) (fun _ _ _ h => h) (Or.inl ⟨by rfl, ?_⟩) (by assumption) ?_; rotate_left; focus (intro w hSw; (try dsimp only at hSw); (try simp only [List.getElem_toArray, List.getElem_cons_zero, List.getElem_cons_succ]); go_simp; try with_reducible rfl)); (try simp only [List.getElem_toArray, List.getElem_cons_zero, List.getElem_cons_succ]); (try simp only [Act.put, List.setIfInBounds_toArray, List.set_cons_zero, List.set_cons_succ])
              (refine wpAnyH_take (i := 14) (v := ?_) rfl (by kernel_rfl) (by kernel_rfl) (by kernel_rfl) (fun _ _ _ h => h) (Or.inl ⟨by rfl, ?_⟩) (by assumption) ?_; rotate_left; focus (intro w hSw; (try dsimp only at hSw); (try simp only [List.getElem_toArray, List.getElem_cons_zero, List.getElem_cons_succ]); go_simp; try with_reducible rfl)); (try simp only [List.getElem_toArray, List.getElem_cons_zero, List.getElem_cons_succ]); (try simp only [Act.put, List.setIfInBounds_toArray, List.set_cons_zero, List.set_cons_succ])
              (refine wpAnyH_take (i := 15) (v := .bool true) rfl (by kernel_rfl) (by kernel_rfl) (by kernel_rfl) (fun _ _ _ h => h) (Or.inl ⟨by rfl, ?_⟩) (by assumption) ?_; focus (intro w hSw; (try dsimp only at hSw); (try simp only [List.getElem_toArray, List.getElem_cons_zero, List.getElem_cons_succ]); go_simp; (try simp))); (try simp only [List.getElem_toArray, List.getElem_cons_zero, List.getElem_cons_succ]); (try simp only [Act.put, List.setIfInBounds_toArray, List.set_cons_zero, List.set_cons_succ])
              (refine wpAnyH_take (i := 16) (v := ?_) rfl (by kernel_rfl) (by kernel_rfl) (by kernel_rfl) (fun _ _ _ h => h) (Or.inl ⟨by rfl, ?_⟩) (by assumption) ?_; rotate_left; focus (intro w hSw; (try dsimp only at hSw); (try simp only [List.getElem_toArray, List.getElem_cons_zero, List.getElem_cons_succ]); go_simp; try with_reducible rfl)); (try simp only [List.getElem_toArray, List.getElem_cons_zero, List.getElem_cons_succ]); (try simp only [Act.put, List.setIfInBounds_toArray, List.set_cons_zero, List.set_cons_succ])
              (refine wpAnyH_take (i := 17) (v := ?_) rfl (by kernel_rfl) (by kernel_rfl) (by kernel_rfl) (fun _ _ _ h => h) (Or.inl ⟨by rfl, ?_⟩) (by assumption) ?_; rotate_left; focus (intro w hSw; (try dsimp only at hSw); (try simp only [List.getElem_toArray, List.getElem_cons_zero, List.getElem_cons_succ]); go_simp; try with_reducible rfl)); (try simp only [List.getElem_toArray, List.getElem_cons_zero, List.getElem_cons_succ]); (try simp only [Act.put, List.setIfInBounds_toArray, List.set_cons_zero, List.set_cons_succ])
              (refine wpAnyH_take (i := 18) (v := ?_) rfl (by kernel_rfl) (by kernel_rfl) (by kernel_rfl) (fun _ _ _ h => h) (Or.inl ⟨by rfl, ?_⟩) (by assumption) ?_; rotate_left; focus (intro w hSw; (try dsimp only at hSw); (try simp only [List.getElem_toArray, List.getElem_cons_zero, List.getElem_cons_succ]); go_simp; try with_reducible rfl)); (try simp only [List.getElem_toArray, List.getElem_cons_zero, List.getElem_cons_succ]); (try simp only [Act.put, List.setIfInBounds_toArray, List.set_cons_zero, List.set_cons_succ])
              refine wpAnyH_done (by kernel_rfl) ?_ _
              go_wp2
              go_ret
              exact ⟨rfl, XVF⟩
          · (try simp only [List.getElem_toArray, List.getElem_cons_zero, List.getElem_cons_succ])
            go_simp
            have eVA : Ext VD (VD.alloc (Obj.cells #[.int .i64 house, .int .i64 ((xs.length : Int) + 1), .string root, .string prev] 25)) := (by repeat (first | (with_reducible first | exact Ext.refl _ | assumption | apply Ext.alloc | apply Ext.drew | apply Ext.drewN | refine Ext.setCell ?_ ?_ _ | refine Ext.trans ?_ (by assumption)) | (show _ ≤ _; first | omega | (dsimp only; omega) | (simp; done) | (simp; omega))))
            have NVA := Bx.new VD #[.int .i64 house, .int .i64 ((xs.length : Int) + 1), .string root, .string prev] 25
            have XVA := XD.trans eVA
            have PVA := PD.ext eVA
            have HVA := Lib.hid (own_ext HD.out eVA)
            have lVA := Nat.le_trans (lD) eVA.size
            have qVA : VD.heap.size < (VD.alloc (Obj.cells #[.int .i64 house, .int .i64 ((xs.length : Int) + 1), .string root, .string prev] 25)).heap.size := by rw [World.size_alloc]; omega
            generalize VD.alloc (Obj.cells #[.int .i64 house, .int .i64 ((xs.length : Int) + 1), .string root, .string prev] 25) = VA at *
            (try dsimp only)
            refine hK.out _ _ (by exact ⟨PVA.2.1 0 _ rfl, PVA.2.1 1 _ rfl, PVA.2.1 2 _ rfl, PVA.2.1 3 _ rfl⟩) (fun hHeld => ?_)
            clear hK K
            refine wpAnyH_ready (rs := [3]) (by kernel_rfl) (by simp) ?_
            refine AllReadyH.cons rfl (fun K hK => ?_) AllReadyH.nil
            (try simp only [List.getElem_toArray, List.getElem_cons_zero, List.getElem_cons_succ])
            go_simp
            have eVB : Ext VA (VA.alloc (Obj.cells #[] 25)) := (by repeat (first | (with_reducible first | exact Ext.refl _ | assumption | apply Ext.alloc | apply Ext.drew | apply Ext.drewN | refine Ext.setCell ?_ ?_ _ | refine Ext.trans ?_ (by assumption)) | (show _ ≤ _; first | omega | (dsimp only; omega) | (simp; done) | (simp; omega))))
            have OLVB := World.ownsRow_lit (base := w6.heap.size + 1) (e := 25) (size := 4) VA #[] 0 (lVA) (Nat.zero_le _) rfl
            have XVB := XVA.trans eVB
            have PVB := PVA.ext eVB
            have HVB := Lib.hid (own_ext HVA.out eVB)
            have lVB := Nat.le_trans (lVA) eVB.size
            have NVB := NVA.ext eVB
            have qVB : VA.heap.size < (VA.alloc (Obj.cells #[] 25)).heap.size := by rw [World.size_alloc]; omega
            generalize VA.alloc (Obj.cells #[] 25) = VB at *
            (try dsimp only)
            refine hK.out _ _ (by exact ⟨PVB.2.1 0 _ rfl, PVB.2.1 1 _ rfl, PVB.2.1 2 _ rfl, PVB.2.1 3 _ rfl⟩) (fun hHeld => ?_)
            clear hK K
            (refine wpAnyH_ready (rs := [5]) (by kernel_rfl) (by simp) ?_; refine AllReadyH.cons rfl (fun K hK => ?_) AllReadyH.nil)
            refine step_append_any (.tmp 90) (.tmp 91) 37 (by rfl) (by rfl) (w6.heap.size + 1) 25 i0 _ 4 48 Tryd.underlying37 hi hz0 hz1 hz2 rfl (by decide) _ _ _ (by rfl) OLVB _ xs.length (xs.flatMap Hd.cells) (by rfl) (Row.of_owns HVB.out) (own_solid HVB.out) (hds_ones xs) (by unfold maxLen; omega) (by omega) (lVB) ?_
            intro aVC cVC VC ownVC gVC atVC
            clear atVC
            simp only [Nat.zero_add, List.nil_append] at ownVC ⊢
            have bVC := (own_lt OLVB _ rfl).1
            have hVC := (own_lt HVB.out g rfl).2
            have XVC : Ext w VC := own_ext_of XVB OLVB gVC (by omega)
            have PVC := PVB.grown gVC (fun e => by injection e with e; dsimp only at e; omega)
            have HVC := Lib.hid (own_grown2 HVB.out gVC (fun k hk e => by injection hk with hk; injection e with e; dsimp only at hk e; omega))
            have lVC := Nat.le_trans (lVB) gVC.size
            have NVC := NVB.grown gVC (fun e => by injection e with e; dsimp only at e; omega)
            (try dsimp only)
            refine hK.out _ _ (by exact ⟨PVC.2.1 0 _ rfl, PVC.2.1 1 _ rfl, PVC.2.1 2 _ rfl, PVC.2.1 3 _ rfl⟩) (fun hHeld => ?_)
            clear hK K
            (refine wpAnyH_ready (rs := [8]) (by kernel_rfl) (by simp) ?_; refine AllReadyH.cons rfl (fun K hK => ?_) AllReadyH.nil)
            refine step_append_any (.tmp 92) (.tmp 94) 37 (by rfl) (by rfl) (w6.heap.size + 1) 25 i0 _ 4 48 Tryd.underlying37 hi hz0 hz1 hz2 rfl (by decide) _ _ _ (by rfl) ownVC _ 1 [.int .i64 house, .int .i64 ((xs.length : Int) + 1), .string root, .string prev] (by rfl) (NVC.row rfl (Nat.le_refl _) (by decide)) (solid_some _ _ _ _) (hd_one ⟨house, (xs.length : Int) + 1, root, prev⟩) (by unfold maxLen; omega) (by omega) (lVC) ?_
            intro aVE cVE VE ownVE gVE atVE
            have XVE : Ext w VE := own_ext_of XVC ownVC gVE (by omega)
            have PVE := PVC.grown gVE (fun e => by have := (own_lt ownVC _ e).1; omega)
            have RVE : Hds VE (.slice aVE (xs.length + 1) cVE) (xs ++ [⟨house, (xs.length : Int) + 1, root, prev⟩]) := by have R := Row.of_owns ownVE; unfold Hds; rw [hds_snoc, List.length_append]; simpa [Hd.cells] using R
            (try dsimp only)
            refine hK.out _ _ (by exact ⟨PVE.2.1 0 _ rfl, PVE.2.1 1 _ rfl, PVE.2.1 2 _ rfl, PVE.2.1 3 _ rfl⟩) (fun hHeld => ?_)
            clear hK K
            (refine wpAnyH_ready (rs := [10]) (by kernel_rfl) (by simp) ?_; refine AllReadyH.cons rfl (fun K hK => ?_) AllReadyH.nil; (try simp only [List.getElem_toArray, List.getElem_cons_zero, List.getElem_cons_succ]))
            go_simp
            go_at_call 23
            refine (impl_ChainOk _ (xs ++ [⟨house, (xs.length : Int) + 1, root, prev⟩]) house _ RVE (by simp; omega) (HT.out.ext XVE)).mono ?_
            rw [HS.out]
            rintro e VF ⟨rfl, xVF⟩
            have XVF := XVE.trans xVF
            have PVF := PVE.ext xVF
            (try dsimp only)
            refine hK.out _ _ (by exact ⟨PVF.2.1 0 _ rfl, PVF.2.1 1 _ rfl, PVF.2.1 2 _ rfl, PVF.2.1 3 _ rfl⟩) (fun hHeld => ?_)
            clear hK K
            (refine wpAnyH_take (i := 11) (v := ?_) rfl (by kernel_rfl) (by kernel_rfl) (by kernel_rfl) (fun _ _ _ h => h) (Or.inl ⟨by rfl, ?_⟩) (by assumption) ?_; rotate_left; focus (intro w hSw; (try dsimp only at hSw); (try simp only [List.getElem_toArray, List.getElem_cons_zero, List.getElem_cons_succ]); go_simp; try with_reducible rfl)); (try simp only [List.getElem_toArray, List.getElem_cons_zero, List.getElem_cons_succ]); (try simp only [Act.put, List.setIfInBounds_toArray, List.set_cons_zero, List.set_cons_succ])
            (refine wpAnyH_take (i := 12) (v := ?_) rfl (by kernel_rfl) (by kernel_rfl) (by kernel_rfl) (fun _ _ _ h => h) (Or.inl ⟨by rfl, ?_⟩) (by assumption) ?_; rotate_left; focus (intro w hSw; (try dsimp only at hSw); (try simp only [List.getElem_toArray, List.getElem_cons_zero, List.getElem_cons_succ]); go_simp; try with_reducible rfl)); (try simp only [List.getElem_toArray, List.getElem_cons_zero, List.getElem_cons_succ]); (try simp only [Act.put, List.setIfInBounds_toArray, List.set_cons_zero, List.set_cons_succ])
            (refine wpAnyH_take (i := 13) (v := ?_) rfl (by kernel_rfl) (by kernel_rfl) (by kernel_rfl) (fun _ _ _ h => h) (Or.inl ⟨by rfl, ?_⟩) (by assumption) ?_; rotate_left; focus (intro w hSw; (try dsimp only at hSw); (try simp only [List.getElem_toArray, List.getElem_cons_zero, List.getElem_cons_succ]); go_simp; try with_reducible rfl)); (try simp only [List.getElem_toArray, List.getElem_cons_zero, List.getElem_cons_succ]); (try simp only [Act.put, List.setIfInBounds_toArray, List.set_cons_zero, List.set_cons_succ])
            (refine wpAnyH_take (i := 14) (v := ?_) rfl (by kernel_rfl) (by kernel_rfl) (by kernel_rfl) (fun _ _ _ h => h) (Or.inl ⟨by rfl, ?_⟩) (by assumption) ?_; rotate_left; focus (intro w hSw; (try dsimp only at hSw); (try simp only [List.getElem_toArray, List.getElem_cons_zero, List.getElem_cons_succ]); go_simp; try with_reducible rfl)); (try simp only [List.getElem_toArray, List.getElem_cons_zero, List.getElem_cons_succ]); (try simp only [Act.put, List.setIfInBounds_toArray, List.set_cons_zero, List.set_cons_succ])
            (refine wpAnyH_take (i := 15) (v := .bool true) rfl (by kernel_rfl) (by kernel_rfl) (by kernel_rfl) (fun _ _ _ h => h) (Or.inl ⟨by rfl, ?_⟩) (by assumption) ?_; focus (intro w hSw; (try dsimp only at hSw); (try simp only [List.getElem_toArray, List.getElem_cons_zero, List.getElem_cons_succ]); go_simp; (try simp))); (try simp only [List.getElem_toArray, List.getElem_cons_zero, List.getElem_cons_succ]); (try simp only [Act.put, List.setIfInBounds_toArray, List.set_cons_zero, List.set_cons_succ])
            (refine wpAnyH_take (i := 16) (v := ?_) rfl (by kernel_rfl) (by kernel_rfl) (by kernel_rfl) (fun _ _ _ h => h) (Or.inl ⟨by rfl, ?_⟩) (by assumption) ?_; rotate_left; focus (intro w hSw; (try dsimp only at hSw); (try simp only [List.getElem_toArray, List.getElem_cons_zero, List.getElem_cons_succ]); go_simp; try with_reducible rfl)); (try simp only [List.getElem_toArray, List.getElem_cons_zero, List.getElem_cons_succ]); (try simp only [Act.put, List.setIfInBounds_toArray, List.set_cons_zero, List.set_cons_succ])
            (refine wpAnyH_take (i := 17) (v := ?_) rfl (by kernel_rfl) (by kernel_rfl) (by kernel_rfl) (fun _ _ _ h => h) (Or.inl ⟨by rfl, ?_⟩) (by assumption) ?_; rotate_left; focus (intro w hSw; (try dsimp only at hSw); (try simp only [List.getElem_toArray, List.getElem_cons_zero, List.getElem_cons_succ]); go_simp; try with_reducible rfl)); (try simp only [List.getElem_toArray, List.getElem_cons_zero, List.getElem_cons_succ]); (try simp only [Act.put, List.setIfInBounds_toArray, List.set_cons_zero, List.set_cons_succ])
            (refine wpAnyH_take (i := 18) (v := ?_) rfl (by kernel_rfl) (by kernel_rfl) (by kernel_rfl) (fun _ _ _ h => h) (Or.inl ⟨by rfl, ?_⟩) (by assumption) ?_; rotate_left; focus (intro w hSw; (try dsimp only at hSw); (try simp only [List.getElem_toArray, List.getElem_cons_zero, List.getElem_cons_succ]); go_simp; try with_reducible rfl)); (try simp only [List.getElem_toArray, List.getElem_cons_zero, List.getElem_cons_succ]); (try simp only [Act.put, List.setIfInBounds_toArray, List.set_cons_zero, List.set_cons_succ])
            refine wpAnyH_done (by kernel_rfl) ?_ _
            go_wp2
            go_ret
            exact ⟨rfl, XVF⟩
      · go_wp2_with fail
        have P := Bx.new w6 #[.int .i64 house, .int .i64 ((xs.length : Int) + 1), .string root, .string prev] 25
        have X7 : Ext w (w6.alloc (Obj.cells #[.int .i64 house, .int .i64 ((xs.length : Int) + 1), .string root, .string prev] 25)) := X6.alloc _
        have HO7 := Lib.hid (own_alloc HO6.out (Obj.cells #[.int .i64 house, .int .i64 ((xs.length : Int) + 1), .string root, .string prev] 25))
        have l7 : w6.heap.size + 1 ≤ (w6.alloc (Obj.cells #[.int .i64 house, .int .i64 ((xs.length : Int) + 1), .string root, .string prev] 25)).heap.size := by rw [World.size_alloc]; omega
        have s6 := X6.size
        have hg6 := (own_lt HO6.out g rfl).2
        have e7 : Ext w6 (w6.alloc (Obj.cells #[.int .i64 house, .int .i64 ((xs.length : Int) + 1), .string root, .string prev] 25)) := (by repeat (first | (with_reducible first | exact Ext.refl _ | assumption | apply Ext.alloc | apply Ext.drew | apply Ext.drewN | refine Ext.setCell ?_ ?_ _ | refine Ext.trans ?_ (by assumption)) | (show _ ≤ _; first | omega | (dsimp only; omega) | (simp; done) | (simp; omega))))
        generalize w6.alloc (Obj.cells #[.int .i64 house, .int .i64 ((xs.length : Int) + 1), .string root, .string prev] 25) = W7 at *
        go_wp2_with fail
        refine wp_region_held_drew (S := (fun W => W.cell? ⟨w6.heap.size, 0, none⟩ = some (.int .i64 house) ∧ W.cell? ⟨w6.heap.size, 1, none⟩ = some (.int .i64 ((xs.length : Int) + 1)) ∧ W.cell? ⟨w6.heap.size, 2, none⟩ = some (.string root) ∧ W.cell? ⟨w6.heap.size, 3, none⟩ = some (.string prev))) (by kernel_rfl) (by exact ⟨P.2.1 0 _ rfl, P.2.1 1 _ rfl, P.2.1 2 _ rfl, P.2.1 3 _ rfl⟩) (fun hHeld => ?_)
        have eD : Ext W7 W7.drew := (by repeat (first | (with_reducible first | exact Ext.refl _ | assumption | apply Ext.alloc | apply Ext.drew | apply Ext.drewN | refine Ext.setCell ?_ ?_ _ | refine Ext.trans ?_ (by assumption)) | (show _ ≤ _; first | omega | (dsimp only; omega) | (simp; done) | (simp; omega))))
        have XD := X7.trans eD
        have PD := P.ext eD
        have HD := Lib.hid (own_ext HO7.out eD)
        have lD := Nat.le_trans (l7) eD.size
        generalize W7.drew = VD at *
        (refine wpAnyH_take (i := 0) (v := ?_) rfl (by kernel_rfl) (by kernel_rfl) (by kernel_rfl) (fun _ _ _ h => h) (Or.inl ⟨by rfl, ?_⟩) (by assumption) ?_; rotate_left; focus (intro w hSw; (try dsimp only at hSw); (try simp only [List.getElem_toArray, List.getElem_cons_zero]); go_simp; try with_reducible rfl)); (try simp only [List.getElem_toArray, List.getElem_cons_zero]); (try simp only [Act.put, List.setIfInBounds_toArray, List.set_cons_zero, List.set_cons_succ])
        (refine wpAnyH_take (i := 1) (v := ?_) rfl (by kernel_rfl) (by kernel_rfl) (by kernel_rfl) (fun _ _ _ h => h) (Or.inl ⟨by rfl, ?_⟩) (by assumption) ?_; rotate_left; focus (intro w hSw; (try dsimp only at hSw); (try simp only [List.getElem_toArray, List.getElem_cons_zero, List.getElem_cons_succ]); go_simp; try with_reducible rfl)); (try simp only [List.getElem_toArray, List.getElem_cons_zero, List.getElem_cons_succ]); (try simp only [Act.put, List.setIfInBounds_toArray, List.set_cons_zero, List.set_cons_succ])
        (refine wpAnyH_take (i := 2) (v := ?_) rfl (by kernel_rfl) (by kernel_rfl) (by kernel_rfl) (fun _ _ _ h => h) (Or.inl ⟨by rfl, ?_⟩) (by assumption) ?_; rotate_left; focus (intro w hSw; (try dsimp only at hSw); (try simp only [List.getElem_toArray, List.getElem_cons_zero, List.getElem_cons_succ]); go_simp; try with_reducible rfl)); (try simp only [List.getElem_toArray, List.getElem_cons_zero, List.getElem_cons_succ]); (try simp only [Act.put, List.setIfInBounds_toArray, List.set_cons_zero, List.set_cons_succ])
        (refine wpAnyH_take (i := 4) (v := ?_) rfl (by kernel_rfl) (by kernel_rfl) (by kernel_rfl) (fun _ _ _ h => h) (Or.inl ⟨by rfl, ?_⟩) (by assumption) ?_; rotate_left; focus (intro w hSw; (try dsimp only at hSw); (try simp only [List.getElem_toArray, List.getElem_cons_zero, List.getElem_cons_succ]); go_simp; try with_reducible rfl)); (try simp only [List.getElem_toArray, List.getElem_cons_zero, List.getElem_cons_succ]); (try simp only [Act.put, List.setIfInBounds_toArray, List.set_cons_zero, List.set_cons_succ])
        (refine wpAnyH_take (i := 6) (v := ?_) rfl (by kernel_rfl) (by kernel_rfl) (by kernel_rfl) (fun _ _ _ h => h) (Or.inl ⟨by rfl, ?_⟩) (by assumption) ?_; rotate_left; focus (intro w hSw; (try dsimp only at hSw); (try simp only [List.getElem_toArray, List.getElem_cons_zero, List.getElem_cons_succ]); go_simp; try with_reducible rfl)); (try simp only [List.getElem_toArray, List.getElem_cons_zero, List.getElem_cons_succ]); (try simp only [Act.put, List.setIfInBounds_toArray, List.set_cons_zero, List.set_cons_succ])
        (refine wpAnyH_take (i := 9) (v := ?_) rfl (by kernel_rfl) (by kernel_rfl) (by kernel_rfl) (fun _ _ _ h => h) (Or.inl ⟨by rfl, ?_⟩) (by assumption) ?_; rotate_left; focus (intro w hSw; (try dsimp only at hSw); (try simp only [List.getElem_toArray, List.getElem_cons_zero, List.getElem_cons_succ]); go_simp; try with_reducible rfl)); (try simp only [List.getElem_toArray, List.getElem_cons_zero, List.getElem_cons_succ]); (try simp only [Act.put, List.setIfInBounds_toArray, List.set_cons_zero, List.set_cons_succ])
        refine wpAnyH_ready (rs := [3, 7]) (by kernel_rfl) (by simp) ?_
        refine AllReadyH.cons rfl (fun K hK => ?_) (AllReadyH.cons rfl (fun K hK => ?_) AllReadyH.nil)
        · (try simp only [List.getElem_toArray, List.getElem_cons_zero, List.getElem_cons_succ])
          go_simp
          have eVA : Ext VD (VD.alloc (Obj.cells #[] 25)) := (by repeat (first | (with_reducible first | exact Ext.refl _ | assumption | apply Ext.alloc | apply Ext.drew | apply Ext.drewN | refine Ext.setCell ?_ ?_ _ | refine Ext.trans ?_ (by assumption)) | (show _ ≤ _; first | omega | (dsimp only; omega) | (simp; done) | (simp; omega))))
          have OLVA := World.ownsRow_lit (base := w6.heap.size + 1) (e := 25) (size := 4) VD #[] 0 (lD) (Nat.zero_le _) rfl
          have XVA := XD.trans eVA
          have PVA := PD.ext eVA
          have HVA := Lib.hid (own_ext HD.out eVA)
          have lVA := Nat.le_trans (lD) eVA.size
          have qVA : VD.heap.size < (VD.alloc (Obj.cells #[] 25)).heap.size := by rw [World.size_alloc]; omega
          generalize VD.alloc (Obj.cells #[] 25) = VA at *
          (try dsimp only)
          refine hK.out _ _ (by exact ⟨PVA.2.1 0 _ rfl, PVA.2.1 1 _ rfl, PVA.2.1 2 _ rfl, PVA.2.1 3 _ rfl⟩) (fun hHeld => ?_)
          clear hK K
          refine wpAnyH_ready (rs := [5, 7]) (by kernel_rfl) (by simp) ?_
          refine AllReadyH.cons rfl (fun K hK => ?_) (AllReadyH.cons rfl (fun K hK => ?_) AllReadyH.nil)
          · refine step_append_any (.tmp 90) (.tmp 91) 37 (by rfl) (by rfl) (w6.heap.size + 1) 25 i0 _ 4 48 Tryd.underlying37 hi hz0 hz1 hz2 rfl (by decide) _ _ _ (by rfl) OLVA _ xs.length (xs.flatMap Hd.cells) (by rfl) (Row.of_owns HVA.out) (own_solid HVA.out) (hds_ones xs) (by unfold maxLen; omega) (by omega) (lVA) ?_
            intro aVB cVB VB ownVB gVB atVB
            clear atVB
            simp only [Nat.zero_add, List.nil_append] at ownVB ⊢
            have bVB := (own_lt OLVA _ rfl).1
            have hVB := (own_lt HVA.out g rfl).2
            have XVB : Ext w VB := own_ext_of XVA OLVA gVB (by omega)
            have PVB := PVA.grown gVB (fun e => by injection e with e; dsimp only at e; omega)
            have HVB := Lib.hid (own_grown2 HVA.out gVB (fun k hk e => by injection hk with hk; injection e with e; dsimp only at hk e; omega))
            have lVB := Nat.le_trans (lVA) gVB.size
            (try dsimp only)
            refine hK.out _ _ (by exact ⟨PVB.2.1 0 _ rfl, PVB.2.1 1 _ rfl, PVB.2.1 2 _ rfl, PVB.2.1 3 _ rfl⟩) (fun hHeld => ?_)
            clear hK K
            refine wpAnyH_ready (rs := [7]) (by kernel_rfl) (by simp) ?_
            refine AllReadyH.cons rfl (fun K hK => ?_) AllReadyH.nil
            (try simp only [List.getElem_toArray, List.getElem_cons_zero, List.getElem_cons_succ])
            go_simp
            have eVC : Ext VB (VB.alloc (Obj.cells #[.int .i64 house, .int .i64 ((xs.length : Int) + 1), .string root, .string prev] 25)) := (by repeat (first | (with_reducible first | exact Ext.refl _ | assumption | apply Ext.alloc | apply Ext.drew | apply Ext.drewN | refine Ext.setCell ?_ ?_ _ | refine Ext.trans ?_ (by assumption)) | (show _ ≤ _; first | omega | (dsimp only; omega) | (simp; done) | (simp; omega))))
            have NVC := Bx.new VB #[.int .i64 house, .int .i64 ((xs.length : Int) + 1), .string root, .string prev] 25
            have XVC := XVB.trans eVC
            have PVC := PVB.ext eVC
            have HVC := Lib.hid (own_ext HVB.out eVC)
            have lVC := Nat.le_trans (lVB) eVC.size
            have ownVC := own_ext ownVB eVC
            have qVC : VB.heap.size < (VB.alloc (Obj.cells #[.int .i64 house, .int .i64 ((xs.length : Int) + 1), .string root, .string prev] 25)).heap.size := by rw [World.size_alloc]; omega
            generalize VB.alloc (Obj.cells #[.int .i64 house, .int .i64 ((xs.length : Int) + 1), .string root, .string prev] 25) = VC at *
            (try dsimp only)
            refine hK.out _ _ (by exact ⟨PVC.2.1 0 _ rfl, PVC.2.1 1 _ rfl, PVC.2.1 2 _ rfl, PVC.2.1 3 _ rfl⟩) (fun hHeld => ?_)
            clear hK K
            (refine wpAnyH_ready (rs := [8]) (by kernel_rfl) (by simp) ?_; refine AllReadyH.cons rfl (fun K hK => ?_) AllReadyH.nil)
            refine step_append_any (.tmp 92) (.tmp 94) 37 (by rfl) (by rfl) (w6.heap.size + 1) 25 i0 _ 4 48 Tryd.underlying37 hi hz0 hz1 hz2 rfl (by decide) _ _ _ (by rfl) ownVC _ 1 [.int .i64 house, .int .i64 ((xs.length : Int) + 1), .string root, .string prev] (by rfl) (NVC.row rfl (Nat.le_refl _) (by decide)) (solid_some _ _ _ _) (hd_one ⟨house, (xs.length : Int) + 1, root, prev⟩) (by unfold maxLen; omega) (by omega) (lVC) ?_
            intro aVE cVE VE ownVE gVE atVE
            have XVE : Ext w VE := own_ext_of XVC ownVC gVE (by omega)
            have PVE := PVC.grown gVE (fun e => by have := (own_lt ownVC _ e).1; omega)
            have RVE : Hds VE (.slice aVE (xs.length + 1) cVE) (xs ++ [⟨house, (xs.length : Int) + 1, root, prev⟩]) := by have R := Row.of_owns ownVE; unfold Hds; rw [hds_snoc, List.length_append]; simpa [Hd.cells] using R
            (try dsimp only)
            refine hK.out _ _ (by exact ⟨PVE.2.1 0 _ rfl, PVE.2.1 1 _ rfl, PVE.2.1 2 _ rfl, PVE.2.1 3 _ rfl⟩) (fun hHeld => ?_)
            clear hK K
            (refine wpAnyH_ready (rs := [10]) (by kernel_rfl) (by simp) ?_; refine AllReadyH.cons rfl (fun K hK => ?_) AllReadyH.nil; (try simp only [List.getElem_toArray, List.getElem_cons_zero, List.getElem_cons_succ]))
            go_simp
            go_at_call 23
            refine (impl_ChainOk _ (xs ++ [⟨house, (xs.length : Int) + 1, root, prev⟩]) house _ RVE (by simp; omega) (HT.out.ext XVE)).mono ?_
            rw [HS.out]
            rintro e VF ⟨rfl, xVF⟩
            have XVF := XVE.trans xVF
            have PVF := PVE.ext xVF
            (try dsimp only)
            refine hK.out _ _ (by exact ⟨PVF.2.1 0 _ rfl, PVF.2.1 1 _ rfl, PVF.2.1 2 _ rfl, PVF.2.1 3 _ rfl⟩) (fun hHeld => ?_)
            clear hK K
            (refine wpAnyH_take (i := 11) (v := ?_) rfl (by kernel_rfl) (by kernel_rfl) (by kernel_rfl) (fun _ _ _ h => h) (Or.inl ⟨by rfl, ?_⟩) (by assumption) ?_; rotate_left; focus (intro w hSw; (try dsimp only at hSw); (try simp only [List.getElem_toArray, List.getElem_cons_zero, List.getElem_cons_succ]); go_simp; try with_reducible rfl)); (try simp only [List.getElem_toArray, List.getElem_cons_zero, List.getElem_cons_succ]); (try simp only [Act.put, List.setIfInBounds_toArray, List.set_cons_zero, List.set_cons_succ])
            (refine wpAnyH_take (i := 12) (v := ?_) rfl (by kernel_rfl) (by kernel_rfl) (by kernel_rfl) (fun _ _ _ h => h) (Or.inl ⟨by rfl, ?_⟩) (by assumption) ?_; rotate_left; focus (intro w hSw; (try dsimp only at hSw); (try simp only [List.getElem_toArray, List.getElem_cons_zero, List.getElem_cons_succ]); go_simp; try with_reducible rfl)); (try simp only [List.getElem_toArray, List.getElem_cons_zero, List.getElem_cons_succ]); (try simp only [Act.put, List.setIfInBounds_toArray, List.set_cons_zero, List.set_cons_succ])
            (refine wpAnyH_take (i := 13) (v := ?_) rfl (by kernel_rfl) (by kernel_rfl) (by kernel_rfl) (fun _ _ _ h => h) (Or.inl ⟨by rfl, ?_⟩) (by assumption) ?_; rotate_left; focus (intro w hSw; (try dsimp only at hSw); (try simp only [List.getElem_toArray, List.getElem_cons_zero, List.getElem_cons_succ]); go_simp; try with_reducible rfl)); (try simp only [List.getElem_toArray, List.getElem_cons_zero, List.getElem_cons_succ]); (try simp only [Act.put, List.setIfInBounds_toArray, List.set_cons_zero, List.set_cons_succ])
            (refine wpAnyH_take (i := 14) (v := ?_) rfl (by kernel_rfl) (by kernel_rfl) (by kernel_rfl) (fun _ _ _ h => h) (Or.inl ⟨by rfl, ?_⟩) (by assumption) ?_; rotate_left; focus (intro w hSw; (try dsimp only at hSw); (try simp only [List.getElem_toArray, List.getElem_cons_zero, List.getElem_cons_succ]); go_simp; try with_reducible rfl)); (try simp only [List.getElem_toArray, List.getElem_cons_zero, List.getElem_cons_succ]); (try simp only [Act.put, List.setIfInBounds_toArray, List.set_cons_zero, List.set_cons_succ])
            (refine wpAnyH_take (i := 15) (v := .bool true) rfl (by kernel_rfl) (by kernel_rfl) (by kernel_rfl) (fun _ _ _ h => h) (Or.inl ⟨by rfl, ?_⟩) (by assumption) ?_; focus (intro w hSw; (try dsimp only at hSw); (try simp only [List.getElem_toArray, List.getElem_cons_zero, List.getElem_cons_succ]); go_simp; (try simp))); (try simp only [List.getElem_toArray, List.getElem_cons_zero, List.getElem_cons_succ]); (try simp only [Act.put, List.setIfInBounds_toArray, List.set_cons_zero, List.set_cons_succ])
            (refine wpAnyH_take (i := 16) (v := ?_) rfl (by kernel_rfl) (by kernel_rfl) (by kernel_rfl) (fun _ _ _ h => h) (Or.inl ⟨by rfl, ?_⟩) (by assumption) ?_; rotate_left; focus (intro w hSw; (try dsimp only at hSw); (try simp only [List.getElem_toArray, List.getElem_cons_zero, List.getElem_cons_succ]); go_simp; try with_reducible rfl)); (try simp only [List.getElem_toArray, List.getElem_cons_zero, List.getElem_cons_succ]); (try simp only [Act.put, List.setIfInBounds_toArray, List.set_cons_zero, List.set_cons_succ])
            (refine wpAnyH_take (i := 17) (v := ?_) rfl (by kernel_rfl) (by kernel_rfl) (by kernel_rfl) (fun _ _ _ h => h) (Or.inl ⟨by rfl, ?_⟩) (by assumption) ?_; rotate_left; focus (intro w hSw; (try dsimp only at hSw); (try simp only [List.getElem_toArray, List.getElem_cons_zero, List.getElem_cons_succ]); go_simp; try with_reducible rfl)); (try simp only [List.getElem_toArray, List.getElem_cons_zero, List.getElem_cons_succ]); (try simp only [Act.put, List.setIfInBounds_toArray, List.set_cons_zero, List.set_cons_succ])
            (refine wpAnyH_take (i := 18) (v := ?_) rfl (by kernel_rfl) (by kernel_rfl) (by kernel_rfl) (fun _ _ _ h => h) (Or.inl ⟨by rfl, ?_⟩) (by assumption) ?_; rotate_left; focus (intro w hSw; (try dsimp only at hSw); (try simp only [List.getElem_toArray, List.getElem_cons_zero, List.getElem_cons_succ]); go_simp; try with_reducible rfl)); (try simp only [List.getElem_toArray, List.getElem_cons_zero, List.getElem_cons_succ]); (try simp only [Act.put, List.setIfInBounds_toArray, List.set_cons_zero, List.set_cons_succ])
            refine wpAnyH_done (by kernel_rfl) ?_ _
            go_wp2
            go_ret
            exact ⟨rfl, XVF⟩
          · (try simp only [List.getElem_toArray, List.getElem_cons_zero, List.getElem_cons_succ])
            go_simp
            have eVB : Ext VA (VA.alloc (Obj.cells #[.int .i64 house, .int .i64 ((xs.length : Int) + 1), .string root, .string prev] 25)) := (by repeat (first | (with_reducible first | exact Ext.refl _ | assumption | apply Ext.alloc | apply Ext.drew | apply Ext.drewN | refine Ext.setCell ?_ ?_ _ | refine Ext.trans ?_ (by assumption)) | (show _ ≤ _; first | omega | (dsimp only; omega) | (simp; done) | (simp; omega))))
            have NVB := Bx.new VA #[.int .i64 house, .int .i64 ((xs.length : Int) + 1), .string root, .string prev] 25
            have XVB := XVA.trans eVB
            have PVB := PVA.ext eVB
            have HVB := Lib.hid (own_ext HVA.out eVB)
            have lVB := Nat.le_trans (lVA) eVB.size
            have OLVB := own_ext OLVA eVB
            have qVB : VA.heap.size < (VA.alloc (Obj.cells #[.int .i64 house, .int .i64 ((xs.length : Int) + 1), .string root, .string prev] 25)).heap.size := by rw [World.size_alloc]; omega
            generalize VA.alloc (Obj.cells #[.int .i64 house, .int .i64 ((xs.length : Int) + 1), .string root, .string prev] 25) = VB at *
            (try dsimp only)
            refine hK.out _ _ (by exact ⟨PVB.2.1 0 _ rfl, PVB.2.1 1 _ rfl, PVB.2.1 2 _ rfl, PVB.2.1 3 _ rfl⟩) (fun hHeld => ?_)
            clear hK K
            (refine wpAnyH_ready (rs := [5]) (by kernel_rfl) (by simp) ?_; refine AllReadyH.cons rfl (fun K hK => ?_) AllReadyH.nil)
            refine step_append_any (.tmp 90) (.tmp 91) 37 (by rfl) (by rfl) (w6.heap.size + 1) 25 i0 _ 4 48 Tryd.underlying37 hi hz0 hz1 hz2 rfl (by decide) _ _ _ (by rfl) OLVB _ xs.length (xs.flatMap Hd.cells) (by rfl) (Row.of_owns HVB.out) (own_solid HVB.out) (hds_ones xs) (by unfold maxLen; omega) (by omega) (lVB) ?_
            intro aVC cVC VC ownVC gVC atVC
            clear atVC
            simp only [Nat.zero_add, List.nil_append] at ownVC ⊢
            have bVC := (own_lt OLVB _ rfl).1
            have hVC := (own_lt HVB.out g rfl).2
            have XVC : Ext w VC := own_ext_of XVB OLVB gVC (by omega)
            have PVC := PVB.grown gVC (fun e => by injection e with e; dsimp only at e; omega)
            have HVC := Lib.hid (own_grown2 HVB.out gVC (fun k hk e => by injection hk with hk; injection e with e; dsimp only at hk e; omega))
            have lVC := Nat.le_trans (lVB) gVC.size
            have NVC := NVB.grown gVC (fun e => by injection e with e; dsimp only at e; omega)
            (try dsimp only)
            refine hK.out _ _ (by exact ⟨PVC.2.1 0 _ rfl, PVC.2.1 1 _ rfl, PVC.2.1 2 _ rfl, PVC.2.1 3 _ rfl⟩) (fun hHeld => ?_)
            clear hK K
            (refine wpAnyH_ready (rs := [8]) (by kernel_rfl) (by simp) ?_; refine AllReadyH.cons rfl (fun K hK => ?_) AllReadyH.nil)
            refine step_append_any (.tmp 92) (.tmp 94) 37 (by rfl) (by rfl) (w6.heap.size + 1) 25 i0 _ 4 48 Tryd.underlying37 hi hz0 hz1 hz2 rfl (by decide) _ _ _ (by rfl) ownVC _ 1 [.int .i64 house, .int .i64 ((xs.length : Int) + 1), .string root, .string prev] (by rfl) (NVC.row rfl (Nat.le_refl _) (by decide)) (solid_some _ _ _ _) (hd_one ⟨house, (xs.length : Int) + 1, root, prev⟩) (by unfold maxLen; omega) (by omega) (lVC) ?_
            intro aVE cVE VE ownVE gVE atVE
            have XVE : Ext w VE := own_ext_of XVC ownVC gVE (by omega)
            have PVE := PVC.grown gVE (fun e => by have := (own_lt ownVC _ e).1; omega)
            have RVE : Hds VE (.slice aVE (xs.length + 1) cVE) (xs ++ [⟨house, (xs.length : Int) + 1, root, prev⟩]) := by have R := Row.of_owns ownVE; unfold Hds; rw [hds_snoc, List.length_append]; simpa [Hd.cells] using R
            (try dsimp only)
            refine hK.out _ _ (by exact ⟨PVE.2.1 0 _ rfl, PVE.2.1 1 _ rfl, PVE.2.1 2 _ rfl, PVE.2.1 3 _ rfl⟩) (fun hHeld => ?_)
            clear hK K
            (refine wpAnyH_ready (rs := [10]) (by kernel_rfl) (by simp) ?_; refine AllReadyH.cons rfl (fun K hK => ?_) AllReadyH.nil; (try simp only [List.getElem_toArray, List.getElem_cons_zero, List.getElem_cons_succ]))
            go_simp
            go_at_call 23
            refine (impl_ChainOk _ (xs ++ [⟨house, (xs.length : Int) + 1, root, prev⟩]) house _ RVE (by simp; omega) (HT.out.ext XVE)).mono ?_
            rw [HS.out]
            rintro e VF ⟨rfl, xVF⟩
            have XVF := XVE.trans xVF
            have PVF := PVE.ext xVF
            (try dsimp only)
            refine hK.out _ _ (by exact ⟨PVF.2.1 0 _ rfl, PVF.2.1 1 _ rfl, PVF.2.1 2 _ rfl, PVF.2.1 3 _ rfl⟩) (fun hHeld => ?_)
            clear hK K
            (refine wpAnyH_take (i := 11) (v := ?_) rfl (by kernel_rfl) (by kernel_rfl) (by kernel_rfl) (fun _ _ _ h => h) (Or.inl ⟨by rfl, ?_⟩) (by assumption) ?_; rotate_left; focus (intro w hSw; (try dsimp only at hSw); (try simp only [List.getElem_toArray, List.getElem_cons_zero, List.getElem_cons_succ]); go_simp; try with_reducible rfl)); (try simp only [List.getElem_toArray, List.getElem_cons_zero, List.getElem_cons_succ]); (try simp only [Act.put, List.setIfInBounds_toArray, List.set_cons_zero, List.set_cons_succ])
            (refine wpAnyH_take (i := 12) (v := ?_) rfl (by kernel_rfl) (by kernel_rfl) (by kernel_rfl) (fun _ _ _ h => h) (Or.inl ⟨by rfl, ?_⟩) (by assumption) ?_; rotate_left; focus (intro w hSw; (try dsimp only at hSw); (try simp only [List.getElem_toArray, List.getElem_cons_zero, List.getElem_cons_succ]); go_simp; try with_reducible rfl)); (try simp only [List.getElem_toArray, List.getElem_cons_zero, List.getElem_cons_succ]); (try simp only [Act.put, List.setIfInBounds_toArray, List.set_cons_zero, List.set_cons_succ])
            (refine wpAnyH_take (i := 13) (v := ?_) rfl (by kernel_rfl) (by kernel_rfl) (by kernel_rfl) (fun _ _ _ h => h) (Or.inl ⟨by rfl, ?_⟩) (by assumption) ?_; rotate_left; focus (intro w hSw; (try dsimp only at hSw); (try simp only [List.getElem_toArray, List.getElem_cons_zero, List.getElem_cons_succ]); go_simp; try with_reducible rfl)); (try simp only [List.getElem_toArray, List.getElem_cons_zero, List.getElem_cons_succ]); (try simp only [Act.put, List.setIfInBounds_toArray, List.set_cons_zero, List.set_cons_succ])
            (refine wpAnyH_take (i := 14) (v := ?_) rfl (by kernel_rfl) (by kernel_rfl) (by kernel_rfl) (fun _ _ _ h => h) (Or.inl ⟨by rfl, ?_⟩) (by assumption) ?_; rotate_left; focus (intro w hSw; (try dsimp only at hSw); (try simp only [List.getElem_toArray, List.getElem_cons_zero, List.getElem_cons_succ]); go_simp; try with_reducible rfl)); (try simp only [List.getElem_toArray, List.getElem_cons_zero, List.getElem_cons_succ]); (try simp only [Act.put, List.setIfInBounds_toArray, List.set_cons_zero, List.set_cons_succ])
            (refine wpAnyH_take (i := 15) (v := .bool true) rfl (by kernel_rfl) (by kernel_rfl) (by kernel_rfl) (fun _ _ _ h => h) (Or.inl ⟨by rfl, ?_⟩) (by assumption) ?_; focus (intro w hSw; (try dsimp only at hSw); (try simp only [List.getElem_toArray, List.getElem_cons_zero, List.getElem_cons_succ]); go_simp; (try simp))); (try simp only [List.getElem_toArray, List.getElem_cons_zero, List.getElem_cons_succ]); (try simp only [Act.put, List.setIfInBounds_toArray, List.set_cons_zero, List.set_cons_succ])
            (refine wpAnyH_take (i := 16) (v := ?_) rfl (by kernel_rfl) (by kernel_rfl) (by kernel_rfl) (fun _ _ _ h => h) (Or.inl ⟨by rfl, ?_⟩) (by assumption) ?_; rotate_left; focus (intro w hSw; (try dsimp only at hSw); (try simp only [List.getElem_toArray, List.getElem_cons_zero, List.getElem_cons_succ]); go_simp; try with_reducible rfl)); (try simp only [List.getElem_toArray, List.getElem_cons_zero, List.getElem_cons_succ]); (try simp only [Act.put, List.setIfInBounds_toArray, List.set_cons_zero, List.set_cons_succ])
            (refine wpAnyH_take (i := 17) (v := ?_) rfl (by kernel_rfl) (by kernel_rfl) (by kernel_rfl) (fun _ _ _ h => h) (Or.inl ⟨by rfl, ?_⟩) (by assumption) ?_; rotate_left; focus (intro w hSw; (try dsimp only at hSw); (try simp only [List.getElem_toArray, List.getElem_cons_zero, List.getElem_cons_succ]); go_simp; try with_reducible rfl)); (try simp only [List.getElem_toArray, List.getElem_cons_zero, List.getElem_cons_succ]); (try simp only [Act.put, List.setIfInBounds_toArray, List.set_cons_zero, List.set_cons_succ])
            (refine wpAnyH_take (i := 18) (v := ?_) rfl (by kernel_rfl) (by kernel_rfl) (by kernel_rfl) (fun _ _ _ h => h) (Or.inl ⟨by rfl, ?_⟩) (by assumption) ?_; rotate_left; focus (intro w hSw; (try dsimp only at hSw); (try simp only [List.getElem_toArray, List.getElem_cons_zero, List.getElem_cons_succ]); go_simp; try with_reducible rfl)); (try simp only [List.getElem_toArray, List.getElem_cons_zero, List.getElem_cons_succ]); (try simp only [Act.put, List.setIfInBounds_toArray, List.set_cons_zero, List.set_cons_succ])
            refine wpAnyH_done (by kernel_rfl) ?_ _
            go_wp2
            go_ret
            exact ⟨rfl, XVF⟩
        · (try simp only [List.getElem_toArray, List.getElem_cons_zero, List.getElem_cons_succ])
          go_simp
          have eVA : Ext VD (VD.alloc (Obj.cells #[.int .i64 house, .int .i64 ((xs.length : Int) + 1), .string root, .string prev] 25)) := (by repeat (first | (with_reducible first | exact Ext.refl _ | assumption | apply Ext.alloc | apply Ext.drew | apply Ext.drewN | refine Ext.setCell ?_ ?_ _ | refine Ext.trans ?_ (by assumption)) | (show _ ≤ _; first | omega | (dsimp only; omega) | (simp; done) | (simp; omega))))
          have NVA := Bx.new VD #[.int .i64 house, .int .i64 ((xs.length : Int) + 1), .string root, .string prev] 25
          have XVA := XD.trans eVA
          have PVA := PD.ext eVA
          have HVA := Lib.hid (own_ext HD.out eVA)
          have lVA := Nat.le_trans (lD) eVA.size
          have qVA : VD.heap.size < (VD.alloc (Obj.cells #[.int .i64 house, .int .i64 ((xs.length : Int) + 1), .string root, .string prev] 25)).heap.size := by rw [World.size_alloc]; omega
          generalize VD.alloc (Obj.cells #[.int .i64 house, .int .i64 ((xs.length : Int) + 1), .string root, .string prev] 25) = VA at *
          (try dsimp only)
          refine hK.out _ _ (by exact ⟨PVA.2.1 0 _ rfl, PVA.2.1 1 _ rfl, PVA.2.1 2 _ rfl, PVA.2.1 3 _ rfl⟩) (fun hHeld => ?_)
          clear hK K
          refine wpAnyH_ready (rs := [3]) (by kernel_rfl) (by simp) ?_
          refine AllReadyH.cons rfl (fun K hK => ?_) AllReadyH.nil
          (try simp only [List.getElem_toArray, List.getElem_cons_zero, List.getElem_cons_succ])
          go_simp
          have eVB : Ext VA (VA.alloc (Obj.cells #[] 25)) := (by repeat (first | (with_reducible first | exact Ext.refl _ | assumption | apply Ext.alloc | apply Ext.drew | apply Ext.drewN | refine Ext.setCell ?_ ?_ _ | refine Ext.trans ?_ (by assumption)) | (show _ ≤ _; first | omega | (dsimp only; omega) | (simp; done) | (simp; omega))))
          have OLVB := World.ownsRow_lit (base := w6.heap.size + 1) (e := 25) (size := 4) VA #[] 0 (lVA) (Nat.zero_le _) rfl
          have XVB := XVA.trans eVB
          have PVB := PVA.ext eVB
          have HVB := Lib.hid (own_ext HVA.out eVB)
          have lVB := Nat.le_trans (lVA) eVB.size
          have NVB := NVA.ext eVB
          have qVB : VA.heap.size < (VA.alloc (Obj.cells #[] 25)).heap.size := by rw [World.size_alloc]; omega
          generalize VA.alloc (Obj.cells #[] 25) = VB at *
          (try dsimp only)
          refine hK.out _ _ (by exact ⟨PVB.2.1 0 _ rfl, PVB.2.1 1 _ rfl, PVB.2.1 2 _ rfl, PVB.2.1 3 _ rfl⟩) (fun hHeld => ?_)
          clear hK K
          (refine wpAnyH_ready (rs := [5]) (by kernel_rfl) (by simp) ?_; refine AllReadyH.cons rfl (fun K hK => ?_) AllReadyH.nil)
          refine step_append_any (.tmp 90) (.tmp 91) 37 (by rfl) (by rfl) (w6.heap.size + 1) 25 i0 _ 4 48 Tryd.underlying37 hi hz0 hz1 hz2 rfl (by decide) _ _ _ (by rfl) OLVB _ xs.length (xs.flatMap Hd.cells) (by rfl) (Row.of_owns HVB.out) (own_solid HVB.out) (hds_ones xs) (by unfold maxLen; omega) (by omega) (lVB) ?_
          intro aVC cVC VC ownVC gVC atVC
          clear atVC
          simp only [Nat.zero_add, List.nil_append] at ownVC ⊢
          have bVC := (own_lt OLVB _ rfl).1
          have hVC := (own_lt HVB.out g rfl).2
          have XVC : Ext w VC := own_ext_of XVB OLVB gVC (by omega)
          have PVC := PVB.grown gVC (fun e => by injection e with e; dsimp only at e; omega)
          have HVC := Lib.hid (own_grown2 HVB.out gVC (fun k hk e => by injection hk with hk; injection e with e; dsimp only at hk e; omega))
          have lVC := Nat.le_trans (lVB) gVC.size
          have NVC := NVB.grown gVC (fun e => by injection e with e; dsimp only at e; omega)
          (try dsimp only)
          refine hK.out _ _ (by exact ⟨PVC.2.1 0 _ rfl, PVC.2.1 1 _ rfl, PVC.2.1 2 _ rfl, PVC.2.1 3 _ rfl⟩) (fun hHeld => ?_)
          clear hK K
          (refine wpAnyH_ready (rs := [8]) (by kernel_rfl) (by simp) ?_; refine AllReadyH.cons rfl (fun K hK => ?_) AllReadyH.nil)
          refine step_append_any (.tmp 92) (.tmp 94) 37 (by rfl) (by rfl) (w6.heap.size + 1) 25 i0 _ 4 48 Tryd.underlying37 hi hz0 hz1 hz2 rfl (by decide) _ _ _ (by rfl) ownVC _ 1 [.int .i64 house, .int .i64 ((xs.length : Int) + 1), .string root, .string prev] (by rfl) (NVC.row rfl (Nat.le_refl _) (by decide)) (solid_some _ _ _ _) (hd_one ⟨house, (xs.length : Int) + 1, root, prev⟩) (by unfold maxLen; omega) (by omega) (lVC) ?_
          intro aVE cVE VE ownVE gVE atVE
          have XVE : Ext w VE := own_ext_of XVC ownVC gVE (by omega)
          have PVE := PVC.grown gVE (fun e => by have := (own_lt ownVC _ e).1; omega)
          have RVE : Hds VE (.slice aVE (xs.length + 1) cVE) (xs ++ [⟨house, (xs.length : Int) + 1, root, prev⟩]) := by have R := Row.of_owns ownVE; unfold Hds; rw [hds_snoc, List.length_append]; simpa [Hd.cells] using R
          (try dsimp only)
          refine hK.out _ _ (by exact ⟨PVE.2.1 0 _ rfl, PVE.2.1 1 _ rfl, PVE.2.1 2 _ rfl, PVE.2.1 3 _ rfl⟩) (fun hHeld => ?_)
          clear hK K
          (refine wpAnyH_ready (rs := [10]) (by kernel_rfl) (by simp) ?_; refine AllReadyH.cons rfl (fun K hK => ?_) AllReadyH.nil; (try simp only [List.getElem_toArray, List.getElem_cons_zero, List.getElem_cons_succ]))
          go_simp
          go_at_call 23
          refine (impl_ChainOk _ (xs ++ [⟨house, (xs.length : Int) + 1, root, prev⟩]) house _ RVE (by simp; omega) (HT.out.ext XVE)).mono ?_
          rw [HS.out]
          rintro e VF ⟨rfl, xVF⟩
          have XVF := XVE.trans xVF
          have PVF := PVE.ext xVF
          (try dsimp only)
          refine hK.out _ _ (by exact ⟨PVF.2.1 0 _ rfl, PVF.2.1 1 _ rfl, PVF.2.1 2 _ rfl, PVF.2.1 3 _ rfl⟩) (fun hHeld => ?_)
          clear hK K
          (refine wpAnyH_take (i := 11) (v := ?_) rfl (by kernel_rfl) (by kernel_rfl) (by kernel_rfl) (fun _ _ _ h => h) (Or.inl ⟨by rfl, ?_⟩) (by assumption) ?_; rotate_left; focus (intro w hSw; (try dsimp only at hSw); (try simp only [List.getElem_toArray, List.getElem_cons_zero, List.getElem_cons_succ]); go_simp; try with_reducible rfl)); (try simp only [List.getElem_toArray, List.getElem_cons_zero, List.getElem_cons_succ]); (try simp only [Act.put, List.setIfInBounds_toArray, List.set_cons_zero, List.set_cons_succ])
          (refine wpAnyH_take (i := 12) (v := ?_) rfl (by kernel_rfl) (by kernel_rfl) (by kernel_rfl) (fun _ _ _ h => h) (Or.inl ⟨by rfl, ?_⟩) (by assumption) ?_; rotate_left; focus (intro w hSw; (try dsimp only at hSw); (try simp only [List.getElem_toArray, List.getElem_cons_zero, List.getElem_cons_succ]); go_simp; try with_reducible rfl)); (try simp only [List.getElem_toArray, List.getElem_cons_zero, List.getElem_cons_succ]); (try simp only [Act.put, List.setIfInBounds_toArray, List.set_cons_zero, List.set_cons_succ])
          (refine wpAnyH_take (i := 13) (v := ?_) rfl (by kernel_rfl) (by kernel_rfl) (by kernel_rfl) (fun _ _ _ h => h) (Or.inl ⟨by rfl, ?_⟩) (by assumption) ?_; rotate_left; focus (intro w hSw; (try dsimp only at hSw); (try simp only [List.getElem_toArray, List.getElem_cons_zero, List.getElem_cons_succ]); go_simp; try with_reducible rfl)); (try simp only [List.getElem_toArray, List.getElem_cons_zero, List.getElem_cons_succ]); (try simp only [Act.put, List.setIfInBounds_toArray, List.set_cons_zero, List.set_cons_succ])
          (refine wpAnyH_take (i := 14) (v := ?_) rfl (by kernel_rfl) (by kernel_rfl) (by kernel_rfl) (fun _ _ _ h => h) (Or.inl ⟨by rfl, ?_⟩) (by assumption) ?_; rotate_left; focus (intro w hSw; (try dsimp only at hSw); (try simp only [List.getElem_toArray, List.getElem_cons_zero, List.getElem_cons_succ]); go_simp; try with_reducible rfl)); (try simp only [List.getElem_toArray, List.getElem_cons_zero, List.getElem_cons_succ]); (try simp only [Act.put, List.setIfInBounds_toArray, List.set_cons_zero, List.set_cons_succ])
          (refine wpAnyH_take (i := 15) (v := .bool true) rfl (by kernel_rfl) (by kernel_rfl) (by kernel_rfl) (fun _ _ _ h => h) (Or.inl ⟨by rfl, ?_⟩) (by assumption) ?_; focus (intro w hSw; (try dsimp only at hSw); (try simp only [List.getElem_toArray, List.getElem_cons_zero, List.getElem_cons_succ]); go_simp; (try simp))); (try simp only [List.getElem_toArray, List.getElem_cons_zero, List.getElem_cons_succ]); (try simp only [Act.put, List.setIfInBounds_toArray, List.set_cons_zero, List.set_cons_succ])
          (refine wpAnyH_take (i := 16) (v := ?_) rfl (by kernel_rfl) (by kernel_rfl) (by kernel_rfl) (fun _ _ _ h => h) (Or.inl ⟨by rfl, ?_⟩) (by assumption) ?_; rotate_left; focus (intro w hSw; (try dsimp only at hSw); (try simp only [List.getElem_toArray, List.getElem_cons_zero, List.getElem_cons_succ]); go_simp; try with_reducible rfl)); (try simp only [List.getElem_toArray, List.getElem_cons_zero, List.getElem_cons_succ]); (try simp only [Act.put, List.setIfInBounds_toArray, List.set_cons_zero, List.set_cons_succ])
          (refine wpAnyH_take (i := 17) (v := ?_) rfl (by kernel_rfl) (by kernel_rfl) (by kernel_rfl) (fun _ _ _ h => h) (Or.inl ⟨by rfl, ?_⟩) (by assumption) ?_; rotate_left; focus (intro w hSw; (try dsimp only at hSw); (try simp only [List.getElem_toArray, List.getElem_cons_zero, List.getElem_cons_succ]); go_simp; try with_reducible rfl)); (try simp only [List.getElem_toArray, List.getElem_cons_zero, List.getElem_cons_succ]); (try simp only [Act.put, List.setIfInBounds_toArray, List.set_cons_zero, List.set_cons_succ])
          (refine wpAnyH_take (i := 18) (v := ?_) rfl (by kernel_rfl) (by kernel_rfl) (by kernel_rfl) (fun _ _ _ h => h) (Or.inl ⟨by rfl, ?_⟩) (by assumption) ?_; rotate_left; focus (intro w hSw; (try dsimp only at hSw); (try simp only [List.getElem_toArray, List.getElem_cons_zero, List.getElem_cons_succ]); go_simp; try with_reducible rfl)); (try simp only [List.getElem_toArray, List.getElem_cons_zero, List.getElem_cons_succ]); (try simp only [Act.put, List.setIfInBounds_toArray, List.set_cons_zero, List.set_cons_succ])
          refine wpAnyH_done (by kernel_rfl) ?_ _
          go_wp2
          go_ret
          exact ⟨rfl, XVF⟩
    · have hl4 : decide ((xs.length : Int) < 4) = false := decide_eq_false hlt4
      rw [nx_no (hnx.trans hl4)]
      clear hnx
      have h1 : (1 : Int) < xs.length := by omega
      have D6 : Pls w6 gp n0 i1' := ⟨hgp6, d0', d1'⟩
      have P := Bx.new w6 #[.int .i64 0, .int .i64 0, .string ⟨#[]⟩, .string ⟨#[]⟩] 25
      have X7 : Ext w (w6.alloc (Obj.cells #[.int .i64 0, .int .i64 0, .string ⟨#[]⟩, .string ⟨#[]⟩] 25)) := X6.alloc _
      have HO7 := Lib.hid (own_alloc HO6.out (Obj.cells #[.int .i64 0, .int .i64 0, .string ⟨#[]⟩, .string ⟨#[]⟩] 25))
      have l7 : w6.heap.size + 1 ≤ (w6.alloc (Obj.cells #[.int .i64 0, .int .i64 0, .string ⟨#[]⟩, .string ⟨#[]⟩] 25)).heap.size := by rw [World.size_alloc]; omega
      have s6 := X6.size
      have hg6 := (own_lt HO6.out g rfl).2
      have e7 : Ext w6 (w6.alloc (Obj.cells #[.int .i64 0, .int .i64 0, .string ⟨#[]⟩, .string ⟨#[]⟩] 25)) := (by repeat (first | (with_reducible first | exact Ext.refl _ | assumption | apply Ext.alloc | apply Ext.drew | apply Ext.drewN | refine Ext.setCell ?_ ?_ _ | refine Ext.trans ?_ (by assumption)) | (show _ ≤ _; first | omega | (dsimp only; omega) | (simp; done) | (simp; omega))))
      clear P
      have D7 := D6.ext e7
      obtain ⟨i, hie⟩ : ∃ i : Nat, i1' % ((xs.length : Int) - 1) = i := ⟨_, (Int.toNat_of_nonneg (Int.emod_nonneg _ (by omega))).symm⟩
      have hil : i + 1 < xs.length := by have := Int.emod_lt_of_pos i1' (show 0 < (xs.length : Int) - 1 by omega); omega
      have hilt : i < xs.length := by omega
      have hil0 : (0 : Int) ≤ (i : Int) := by omega
      have hil1 : (i : Int) < xs.length := by omega
      have OL7 := World.ownsRow_lit (base := w6.heap.size + 1) (e := 25) (size := 4) (w6.alloc (Obj.cells #[.int .i64 0, .int .i64 0, .string ⟨#[]⟩, .string ⟨#[]⟩] 25)) #[] 0 l7 (Nat.zero_le _) rfl
      rw [World.size_alloc] at OL7
      have HR7 := Lib.hid (own_alloc HO7.out (Obj.cells #[] 25))
      go_wp2_with (at_builtin; go_loud (refine wpList_append_any rfl (.tmp 51) (.tmp 52) 37 rfl (w6.heap.size + 1) 25 i0 _ 4 48 Tryd.underlying37 hi hz0 hz1 hz2 rfl (by decide) _ _ _ rfl OL7 _ xs.length (xs.flatMap Hd.cells) rfl (Row.of_owns HR7.out) (own_solid HR7.out) (hds_ones xs) (by unfold maxLen; omega) (by omega) (by rw [World.size_alloc]; omega) ?_))
      intro v8 W8 own8 g8
      obtain ⟨gO, cO, rfl⟩ := own_form own8 (by omega)
      have b8 := (own_lt own8 gO rfl).1
      have bL := (own_lt OL7 _ rfl).1
      have X8 : Ext w W8 := own_ext_of (X7.alloc _) OL7 g8 (by omega)
      have l8 := Nat.le_trans l7 (Nat.le_trans ((Ext.refl (w6.alloc (Obj.cells #[.int .i64 0, .int .i64 0, .string ⟨#[]⟩, .string ⟨#[]⟩] 25))).alloc (Obj.cells #[] 25)).size g8.size)
      have HO8 := Lib.hid (own_grown2 HR7.out g8 (fun k hk e => by injection hk with hk; injection e with e; dsimp only at hk e; omega))
      have D8 := (D7.ext ((Ext.refl (w6.alloc (Obj.cells #[.int .i64 0, .int .i64 0, .string ⟨#[]⟩, .string ⟨#[]⟩] 25))).alloc (Obj.cells #[] 25))).grown g8 (fun e => by injection e with e; dsimp only at e; omega)
      have e2 : W8.cell? ⟨g, i * 4 + 2, none⟩ = some (.string xs[i].root) := by rw [HO8.out.cellAt (i * 4 + 2) (by omega)]; exact hd_c2 xs i hilt
      have hzr := (chain_fit HCH.out _ (List.getElem_mem hilt)).1
      have O8 := Lib.hid own8
      clear own8 g8 HR7 OL7 D7 d0' d1'
      go_wp2_with fail
      refine (laws_turned xs[i].root gp cp n0 i1' _ (by omega) D8.1 D8.2.1 D8.2.2 y0 y1).mono ?_
      rintro e W9 ⟨r', rfl, hne, hsz, hle, x9⟩
      have X9 := X8.trans x9
      have l9 := Nat.le_trans l8 x9.size
      have HO9 := Lib.hid (own_ext HO8.out x9)
      have own9 := own_ext O8.out x9
      have f2 : W9.cell? ⟨gO, i * 4 + 2, none⟩ = some (.string xs[i].root) := by rw [own9.cellAt (i * 4 + 2) (by omega)]; simpa using hd_c2 xs i hilt
      have f3 : W9.frozen? ⟨gO, i * 4 + 2, none⟩ = false := own9.frozenAt _
      have S := own9.stored (i * 4 + 2) (.string r')
      have HPE := hd_put (.string r') ⟨xs[i].house, xs[i].epoch, r', xs[i].prev⟩ 2 (by omega) xs i hilt rfl
      rw [HPE] at S
      have OS := Lib.hid S.1
      have GS := S.2
      have hgO : w6.heap.size + 1 ≤ gO := b8
      have X10 : Ext w (W9.setCell ⟨gO, i * 4 + 2, none⟩ (.string r')) := X9.setCell (by dsimp only; omega) _
      have HO10 := Lib.hid (own_grown2 HO9.out GS (fun k hk e => by injection hk with hk; injection e with e; dsimp only at e; omega))
      have l10 := Nat.le_trans l9 GS.size
      clear S GS O8 own9 e2 HO8 HO9
      go_wp2_with fail
      clear f2 f3
      generalize W9.setCell ⟨gO, i * 4 + 2, none⟩ (.string r') = W10 at *
      have hls : i < (xs.set i ⟨xs[i].house, xs[i].epoch, r', xs[i].prev⟩).length := by rw [List.length_set]; exact hilt
      have q0 : W10.cell? ⟨gO, i * 4, none⟩ = some (.int .i64 xs[i].house) := by rw [OS.out.cellAt (i * 4) (by omega)]; have := hd_c0 (xs.set i ⟨xs[i].house, xs[i].epoch, r', xs[i].prev⟩) i hls; rw [List.getElem_set_self] at this; simpa using this
      have q1 : W10.cell? ⟨gO, i * 4 + 1, none⟩ = some (.int .i64 xs[i].epoch) := by rw [OS.out.cellAt (i * 4 + 1) (by omega)]; have := hd_c1 (xs.set i ⟨xs[i].house, xs[i].epoch, r', xs[i].prev⟩) i hls; rw [List.getElem_set_self] at this; simpa using this
      have q2 : W10.cell? ⟨gO, i * 4 + 2, none⟩ = some (.string r') := by rw [OS.out.cellAt (i * 4 + 2) (by omega)]; have := hd_c2 (xs.set i ⟨xs[i].house, xs[i].epoch, r', xs[i].prev⟩) i hls; rw [List.getElem_set_self] at this; simpa using this
      have q3 : W10.cell? ⟨gO, i * 4 + 3, none⟩ = some (.string xs[i].prev) := by rw [OS.out.cellAt (i * 4 + 3) (by omega)]; have := hd_c3 (xs.set i ⟨xs[i].house, xs[i].epoch, r', xs[i].prev⟩) i hls; rw [List.getElem_set_self] at this; simpa using this
      have r0 : W10.cell? ⟨g, i * 4, none⟩ = some (.int .i64 xs[i].house) := by rw [HO10.out.cellAt (i * 4) (by omega)]; exact hd_c0 xs i hilt
      have r1 : W10.cell? ⟨g, i * 4 + 1, none⟩ = some (.int .i64 xs[i].epoch) := by rw [HO10.out.cellAt (i * 4 + 1) (by omega)]; exact hd_c1 xs i hilt
      have r2 : W10.cell? ⟨g, i * 4 + 2, none⟩ = some (.string xs[i].root) := by rw [HO10.out.cellAt (i * 4 + 2) (by omega)]; exact hd_c2 xs i hilt
      have r3 : W10.cell? ⟨g, i * 4 + 3, none⟩ = some (.string xs[i].prev) := by rw [HO10.out.cellAt (i * 4 + 3) (by omega)]; exact hd_c3 xs i hilt
      have HOT := Lib.hid (chain_other (l' := ⟨xs[i].house, xs[i].epoch, r', xs[i].prev⟩) HCH.out hil)
      have HTL := Lib.hid (chain_tail HCH.out (by omega))
      have HOTH : Hds W10 (.slice (some ⟨gO, 0, none⟩) xs.length cO) (xs.set i ⟨xs[i].house, xs[i].epoch, r', xs[i].prev⟩) := by have R := Row.of_owns OS.out; unfold Hds; rw [List.length_set]; simpa using R
      have HTLH : Hds W10 (.slice (some ⟨g, 4, none⟩) (xs.length - 1) (c - 1)) (xs.drop 1) := hds_drop1 (OwnHds.hds HO10.out) (by omega)
      have hcc := (Row.of_owns HO10.out).2
      have hc1 : xs.length ≤ c := by obtain ⟨a9, c9, he, h9, -⟩ := hcc; injection he with e1 e2 e3; omega
      clear hcc OS
      have HLZ := Lib.hid (show (xs.set i ⟨xs[i].house, xs[i].epoch, r', xs[i].prev⟩).length = xs.length from List.length_set)
      have lgO : gO < W10.heap.size := World.block_lt_of_cell? _ _ q0
      have lg : g < W10.heap.size := World.block_lt_of_cell? _ _ r0
      generalize xs.set i ⟨xs[i].house, xs[i].epoch, r', xs[i].prev⟩ = zs at *
      generalize hz : xs[i] = z at *
      have HZ := Lib.hid hz
      clear hz
      cases hb2 : chainOk zs house
      · have HB2 := Lib.hid hb2
        clear hb2
        refine wp_region_held_drew (S := (fun W => W.cell? ⟨gO, i * 4, none⟩ = some (.int .i64 z.house) ∧ W.cell? ⟨gO, i * 4 + 1, none⟩ = some (.int .i64 z.epoch) ∧ W.cell? ⟨gO, i * 4 + 2, none⟩ = some (.string r') ∧ W.cell? ⟨gO, i * 4 + 3, none⟩ = some (.string z.prev) ∧ W.cell? ⟨g, i * 4, none⟩ = some (.int .i64 z.house) ∧ W.cell? ⟨g, i * 4 + 1, none⟩ = some (.int .i64 z.epoch) ∧ W.cell? ⟨g, i * 4 + 2, none⟩ = some (.string z.root) ∧ W.cell? ⟨g, i * 4 + 3, none⟩ = some (.string z.prev))) (by kernel_rfl) (by exact ⟨q0, q1, q2, q3, r0, r1, r2, r3⟩) (fun hHeld => ?_)
        (refine wpAnyH_take (i := 0) (v := ?_) rfl (by kernel_rfl) (by kernel_rfl) (by kernel_rfl) (fun _ _ _ h => h) (Or.inl ⟨by rfl, ?_⟩) (by assumption) ?_; rotate_left; focus (intro w hSw; (try dsimp only at hSw); (try simp only [List.getElem_toArray, List.getElem_cons_zero]); go_simp; try with_reducible rfl)); (try simp only [List.getElem_toArray, List.getElem_cons_zero]); (try simp only [Act.put, List.setIfInBounds_toArray, List.set_cons_zero, List.set_cons_succ])
        (refine wpAnyH_take (i := 1) (v := ?_) rfl (by kernel_rfl) (by kernel_rfl) (by kernel_rfl) (fun _ _ _ h => h) (Or.inl ⟨by rfl, ?_⟩) (by assumption) ?_; rotate_left; focus (intro w hSw; (try dsimp only at hSw); (try simp only [List.getElem_toArray, List.getElem_cons_zero, List.getElem_cons_succ]); go_simp; try with_reducible rfl)); (try simp only [List.getElem_toArray, List.getElem_cons_zero, List.getElem_cons_succ]); (try simp only [Act.put, List.setIfInBounds_toArray, List.set_cons_zero, List.set_cons_succ])
        (refine wpAnyH_ready (rs := [2]) (by kernel_rfl) (by simp) ?_; refine AllReadyH.cons rfl (fun K hK => ?_) AllReadyH.nil; (try simp only [List.getElem_toArray, List.getElem_cons_zero, List.getElem_cons_succ]))
        go_simp
        go_at_call 23
        refine (impl_ChainOk _ zs house _ (HOTH.ext (by repeat (first | (with_reducible first | exact Ext.refl _ | assumption | apply Ext.alloc | apply Ext.drew | apply Ext.drewN | refine Ext.setCell ?_ ?_ _ | refine Ext.trans ?_ (by assumption)) | (show _ ≤ _; first | omega | (dsimp only; omega) | (simp; done) | (simp; omega))))) (by have := HLZ.out; omega) (HT.out.ext (X10.trans (by repeat (first | (with_reducible first | exact Ext.refl _ | assumption | apply Ext.alloc | apply Ext.drew | apply Ext.drewN | refine Ext.setCell ?_ ?_ _ | refine Ext.trans ?_ (by assumption)) | (show _ ≤ _; first | omega | (dsimp only; omega) | (simp; done) | (simp; omega))))))).mono ?_
        rw [HB2.out]
        rintro e wa ⟨rfl, xa⟩
        have ya : Ext W10 wa := ((Ext.refl W10).drew).trans xa
        (try dsimp only)
        refine hK.out _ _ (by exact ⟨(ya.cell _ _ lgO).trans q0, (ya.cell _ _ lgO).trans q1, (ya.cell _ _ lgO).trans q2, (ya.cell _ _ lgO).trans q3, (ya.cell _ _ lg).trans r0, (ya.cell _ _ lg).trans r1, (ya.cell _ _ lg).trans r2, (ya.cell _ _ lg).trans r3⟩) (fun hHeld => ?_)
        clear hK K
        (refine wpAnyH_take (i := 3) (v := ?_) rfl (by kernel_rfl) (by kernel_rfl) (by kernel_rfl) (fun _ _ _ h => h) (Or.inl ⟨by rfl, ?_⟩) (by assumption) ?_; rotate_left; focus (intro w hSw; (try dsimp only at hSw); (try simp only [List.getElem_toArray, List.getElem_cons_zero, List.getElem_cons_succ]); go_simp; try with_reducible rfl)); (try simp only [List.getElem_toArray, List.getElem_cons_zero, List.getElem_cons_succ]); (try simp only [Act.put, List.setIfInBounds_toArray, List.set_cons_zero, List.set_cons_succ])
        (refine wpAnyH_take (i := 4) rfl (by kernel_rfl) (by kernel_rfl) (by kernel_rfl) (fun _ _ _ h => h) (Or.inr ⟨by rfl, rfl⟩) (by assumption) ?_); (try simp only [List.getElem_toArray, List.getElem_cons_zero, List.getElem_cons_succ]); (try simp only [Act.put, List.setIfInBounds_toArray, List.set_cons_zero, List.set_cons_succ])
        (refine wpAnyH_take (i := 5) rfl (by kernel_rfl) (by kernel_rfl) (by kernel_rfl) (fun _ _ _ h => h) (Or.inr ⟨by rfl, rfl⟩) (by assumption) ?_); (try simp only [List.getElem_toArray, List.getElem_cons_zero, List.getElem_cons_succ]); (try simp only [Act.put, List.setIfInBounds_toArray, List.set_cons_zero, List.set_cons_succ])
        (refine wpAnyH_take (i := 6) rfl (by kernel_rfl) (by kernel_rfl) (by kernel_rfl) (fun _ _ _ h => h) (Or.inr ⟨by rfl, rfl⟩) (by assumption) ?_); (try simp only [List.getElem_toArray, List.getElem_cons_zero, List.getElem_cons_succ]); (try simp only [Act.put, List.setIfInBounds_toArray, List.set_cons_zero, List.set_cons_succ])
        (refine wpAnyH_take (i := 7) rfl (by kernel_rfl) (by kernel_rfl) (by kernel_rfl) (fun _ _ _ h => h) (Or.inr ⟨by rfl, rfl⟩) (by assumption) ?_); (try simp only [List.getElem_toArray, List.getElem_cons_zero, List.getElem_cons_succ]); (try simp only [Act.put, List.setIfInBounds_toArray, List.set_cons_zero, List.set_cons_succ])
        (refine wpAnyH_take (i := 8) rfl (by kernel_rfl) (by kernel_rfl) (by kernel_rfl) (fun _ _ _ h => h) (Or.inr ⟨by rfl, rfl⟩) (by assumption) ?_); (try simp only [List.getElem_toArray, List.getElem_cons_zero, List.getElem_cons_succ]); (try simp only [Act.put, List.setIfInBounds_toArray, List.set_cons_zero, List.set_cons_succ])
        (refine wpAnyH_take (i := 9) rfl (by kernel_rfl) (by kernel_rfl) (by kernel_rfl) (fun _ _ _ h => h) (Or.inr ⟨by rfl, rfl⟩) (by assumption) ?_); (try simp only [List.getElem_toArray, List.getElem_cons_zero, List.getElem_cons_succ]); (try simp only [Act.put, List.setIfInBounds_toArray, List.set_cons_zero, List.set_cons_succ])
        (refine wpAnyH_take (i := 10) rfl (by kernel_rfl) (by kernel_rfl) (by kernel_rfl) (fun _ _ _ h => h) (Or.inr ⟨by rfl, rfl⟩) (by assumption) ?_); (try simp only [List.getElem_toArray, List.getElem_cons_zero, List.getElem_cons_succ]); (try simp only [Act.put, List.setIfInBounds_toArray, List.set_cons_zero, List.set_cons_succ])
        (refine wpAnyH_take (i := 11) rfl (by kernel_rfl) (by kernel_rfl) (by kernel_rfl) (fun _ _ _ h => h) (Or.inr ⟨by rfl, rfl⟩) (by assumption) ?_); (try simp only [List.getElem_toArray, List.getElem_cons_zero, List.getElem_cons_succ]); (try simp only [Act.put, List.setIfInBounds_toArray, List.set_cons_zero, List.set_cons_succ])
        (refine wpAnyH_take (i := 12) rfl (by kernel_rfl) (by kernel_rfl) (by kernel_rfl) (fun _ _ _ h => h) (Or.inr ⟨by rfl, rfl⟩) (by assumption) ?_); (try simp only [List.getElem_toArray, List.getElem_cons_zero, List.getElem_cons_succ]); (try simp only [Act.put, List.setIfInBounds_toArray, List.set_cons_zero, List.set_cons_succ])
        (refine wpAnyH_take (i := 13) rfl (by kernel_rfl) (by kernel_rfl) (by kernel_rfl) (fun _ _ _ h => h) (Or.inr ⟨by rfl, rfl⟩) (by assumption) ?_); (try simp only [List.getElem_toArray, List.getElem_cons_zero, List.getElem_cons_succ]); (try simp only [Act.put, List.setIfInBounds_toArray, List.set_cons_zero, List.set_cons_succ])
        (refine wpAnyH_take (i := 14) rfl (by kernel_rfl) (by kernel_rfl) (by kernel_rfl) (fun _ _ _ h => h) (Or.inr ⟨by rfl, rfl⟩) (by assumption) ?_); (try simp only [List.getElem_toArray, List.getElem_cons_zero, List.getElem_cons_succ]); (try simp only [Act.put, List.setIfInBounds_toArray, List.set_cons_zero, List.set_cons_succ])
        (refine wpAnyH_take (i := 15) (v := ?_) rfl (by kernel_rfl) (by kernel_rfl) (by kernel_rfl) (fun _ _ _ h => h) (Or.inl ⟨by rfl, ?_⟩) (by assumption) ?_; rotate_left; focus (intro w hSw; (try dsimp only at hSw); (try simp only [List.getElem_toArray, List.getElem_cons_zero, List.getElem_cons_succ]); go_simp; try with_reducible rfl)); (try simp only [List.getElem_toArray, List.getElem_cons_zero, List.getElem_cons_succ]); (try simp only [Act.put, List.setIfInBounds_toArray, List.set_cons_zero, List.set_cons_succ])
        (refine wpAnyH_take (i := 16) (v := ?_) rfl (by kernel_rfl) (by kernel_rfl) (by kernel_rfl) (fun _ _ _ h => h) (Or.inl ⟨by rfl, ?_⟩) (by assumption) ?_; rotate_left; focus (intro w hSw; (try dsimp only at hSw); (try simp only [List.getElem_toArray, List.getElem_cons_zero, List.getElem_cons_succ]); go_simp; try with_reducible rfl)); (try simp only [List.getElem_toArray, List.getElem_cons_zero, List.getElem_cons_succ]); (try simp only [Act.put, List.setIfInBounds_toArray, List.set_cons_zero, List.set_cons_succ])
        (refine wpAnyH_take (i := 17) (v := ?_) rfl (by kernel_rfl) (by kernel_rfl) (by kernel_rfl) (fun _ _ _ h => h) (Or.inl ⟨by rfl, ?_⟩) (by assumption) ?_; rotate_left; focus (intro w hSw; (try dsimp only at hSw); (try simp only [List.getElem_toArray, List.getElem_cons_zero, List.getElem_cons_succ]); go_simp; try with_reducible rfl)); (try simp only [List.getElem_toArray, List.getElem_cons_zero, List.getElem_cons_succ]); (try simp only [Act.put, List.setIfInBounds_toArray, List.set_cons_zero, List.set_cons_succ])
        (refine wpAnyH_take (i := 18) (v := .slice (some ⟨g, 4, none⟩) (xs.length - 1) (c - 1)) rfl (by kernel_rfl) (by kernel_rfl) (by kernel_rfl) (fun _ _ _ h => h) (Or.inl ⟨by rfl, ?_⟩) (by assumption) ?_; focus (intro w hSw; (try dsimp only at hSw); (try simp only [List.getElem_toArray, List.getElem_cons_zero, List.getElem_cons_succ]); go_simp; rw [if_pos (by omega), if_neg (by omega)])); (try simp only [List.getElem_toArray, List.getElem_cons_zero, List.getElem_cons_succ]); (try simp only [Act.put, List.setIfInBounds_toArray, List.set_cons_zero, List.set_cons_succ])
        (refine wpAnyH_take (i := 19) (v := ?_) rfl (by kernel_rfl) (by kernel_rfl) (by kernel_rfl) (fun _ _ _ h => h) (Or.inl ⟨by rfl, ?_⟩) (by assumption) ?_; rotate_left; focus (intro w hSw; (try dsimp only at hSw); (try simp only [List.getElem_toArray, List.getElem_cons_zero, List.getElem_cons_succ]); go_simp; try with_reducible rfl)); (try simp only [List.getElem_toArray, List.getElem_cons_zero, List.getElem_cons_succ]); (try simp only [Act.put, List.setIfInBounds_toArray, List.set_cons_zero, List.set_cons_succ])
        (refine wpAnyH_ready (rs := [20]) (by kernel_rfl) (by simp) ?_; refine AllReadyH.cons rfl (fun K hK => ?_) AllReadyH.nil; (try simp only [List.getElem_toArray, List.getElem_cons_zero, List.getElem_cons_succ]))
        go_simp
        go_at_call 23
        refine (impl_ChainOk _ (xs.drop 1) house _ (HTLH.ext ya) (by rw [List.length_drop]; omega) (HT.out.ext (X10.trans ya))).mono ?_
        rw [HTL.out]
        rintro e wd ⟨rfl, xd⟩
        have yd : Ext W10 wd := ya.trans xd
        (try dsimp only)
        refine hK.out _ _ (by exact ⟨(yd.cell _ _ lgO).trans q0, (yd.cell _ _ lgO).trans q1, (yd.cell _ _ lgO).trans q2, (yd.cell _ _ lgO).trans q3, (yd.cell _ _ lg).trans r0, (yd.cell _ _ lg).trans r1, (yd.cell _ _ lg).trans r2, (yd.cell _ _ lg).trans r3⟩) (fun hHeld => ?_)
        clear hK K
        (refine wpAnyH_take (i := 21) (v := ?_) rfl (by kernel_rfl) (by kernel_rfl) (by kernel_rfl) (fun _ _ _ h => h) (Or.inl ⟨by rfl, ?_⟩) (by assumption) ?_; rotate_left; focus (intro w hSw; (try dsimp only at hSw); (try simp only [List.getElem_toArray, List.getElem_cons_zero, List.getElem_cons_succ]); go_simp; try with_reducible rfl)); (try simp only [List.getElem_toArray, List.getElem_cons_zero, List.getElem_cons_succ]); (try simp only [Act.put, List.setIfInBounds_toArray, List.set_cons_zero, List.set_cons_succ])
        refine wpAnyH_done (by kernel_rfl) ?_ _
        have X11 := X10.trans yd
        have HO11 := Lib.hid (own_ext HO10.out yd)
        have l11 := Nat.le_trans l10 yd.size
        clear q0 q1 q2 q3 r0 r1 r2 r3
        go_wp2_with fail
        refine wp_region_held_drew (S := fun _ => True) (by kernel_rfl) (by trivial) (fun hHeld => ?_)
        (refine wpAnyH_take (i := 0) (v := ?_) rfl (by kernel_rfl) (by kernel_rfl) (by kernel_rfl) (fun _ _ _ h => h) (Or.inl ⟨by rfl, ?_⟩) (by assumption) ?_; rotate_left; focus (intro w hSw; (try dsimp only at hSw); (try simp only [List.getElem_toArray, List.getElem_cons_zero]); go_simp; try with_reducible rfl)); (try simp only [List.getElem_toArray, List.getElem_cons_zero]); (try simp only [Act.put, List.setIfInBounds_toArray, List.set_cons_zero, List.set_cons_succ])
        (refine wpAnyH_take (i := 1) (v := ?_) rfl (by kernel_rfl) (by kernel_rfl) (by kernel_rfl) (fun _ _ _ h => h) (Or.inl ⟨by rfl, ?_⟩) (by assumption) ?_; rotate_left; focus (intro w hSw; (try dsimp only at hSw); (try simp only [List.getElem_toArray, List.getElem_cons_zero, List.getElem_cons_succ]); go_simp; try with_reducible rfl)); (try simp only [List.getElem_toArray, List.getElem_cons_zero, List.getElem_cons_succ]); (try simp only [Act.put, List.setIfInBounds_toArray, List.set_cons_zero, List.set_cons_succ])
        (refine wpAnyH_take (i := 2) (v := ?_) rfl (by kernel_rfl) (by kernel_rfl) (by kernel_rfl) (fun _ _ _ h => h) (Or.inl ⟨by rfl, ?_⟩) (by assumption) ?_; rotate_left; focus (intro w hSw; (try dsimp only at hSw); (try simp only [List.getElem_toArray, List.getElem_cons_zero, List.getElem_cons_succ]); go_simp; try with_reducible rfl)); (try simp only [List.getElem_toArray, List.getElem_cons_zero, List.getElem_cons_succ]); (try simp only [Act.put, List.setIfInBounds_toArray, List.set_cons_zero, List.set_cons_succ])
        (refine wpAnyH_take (i := 3) rfl (by kernel_rfl) (by kernel_rfl) (by kernel_rfl) (fun _ _ _ h => h) (Or.inr ⟨by rfl, rfl⟩) (by assumption) ?_); (try simp only [List.getElem_toArray, List.getElem_cons_zero, List.getElem_cons_succ]); (try simp only [Act.put, List.setIfInBounds_toArray, List.set_cons_zero, List.set_cons_succ])
        (refine wpAnyH_take (i := 4) rfl (by kernel_rfl) (by kernel_rfl) (by kernel_rfl) (fun _ _ _ h => h) (Or.inr ⟨by rfl, rfl⟩) (by assumption) ?_); (try simp only [List.getElem_toArray, List.getElem_cons_zero, List.getElem_cons_succ]); (try simp only [Act.put, List.setIfInBounds_toArray, List.set_cons_zero, List.set_cons_succ])
        (refine wpAnyH_take (i := 5) rfl (by kernel_rfl) (by kernel_rfl) (by kernel_rfl) (fun _ _ _ h => h) (Or.inr ⟨by rfl, rfl⟩) (by assumption) ?_); (try simp only [List.getElem_toArray, List.getElem_cons_zero, List.getElem_cons_succ]); (try simp only [Act.put, List.setIfInBounds_toArray, List.set_cons_zero, List.set_cons_succ])
        (refine wpAnyH_take (i := 6) rfl (by kernel_rfl) (by kernel_rfl) (by kernel_rfl) (fun _ _ _ h => h) (Or.inr ⟨by rfl, rfl⟩) (by assumption) ?_); (try simp only [List.getElem_toArray, List.getElem_cons_zero, List.getElem_cons_succ]); (try simp only [Act.put, List.setIfInBounds_toArray, List.set_cons_zero, List.set_cons_succ])
        (refine wpAnyH_take (i := 7) rfl (by kernel_rfl) (by kernel_rfl) (by kernel_rfl) (fun _ _ _ h => h) (Or.inr ⟨by rfl, rfl⟩) (by assumption) ?_); (try simp only [List.getElem_toArray, List.getElem_cons_zero, List.getElem_cons_succ]); (try simp only [Act.put, List.setIfInBounds_toArray, List.set_cons_zero, List.set_cons_succ])
        (refine wpAnyH_take (i := 8) rfl (by kernel_rfl) (by kernel_rfl) (by kernel_rfl) (fun _ _ _ h => h) (Or.inr ⟨by rfl, rfl⟩) (by assumption) ?_); (try simp only [List.getElem_toArray, List.getElem_cons_zero, List.getElem_cons_succ]); (try simp only [Act.put, List.setIfInBounds_toArray, List.set_cons_zero, List.set_cons_succ])
        (refine wpAnyH_take (i := 9) rfl (by kernel_rfl) (by kernel_rfl) (by kernel_rfl) (fun _ _ _ h => h) (Or.inr ⟨by rfl, rfl⟩) (by assumption) ?_); (try simp only [List.getElem_toArray, List.getElem_cons_zero, List.getElem_cons_succ]); (try simp only [Act.put, List.setIfInBounds_toArray, List.set_cons_zero, List.set_cons_succ])
        (refine wpAnyH_take (i := 10) rfl (by kernel_rfl) (by kernel_rfl) (by kernel_rfl) (fun _ _ _ h => h) (Or.inr ⟨by rfl, rfl⟩) (by assumption) ?_); (try simp only [List.getElem_toArray, List.getElem_cons_zero, List.getElem_cons_succ]); (try simp only [Act.put, List.setIfInBounds_toArray, List.set_cons_zero, List.set_cons_succ])
        (refine wpAnyH_take (i := 11) rfl (by kernel_rfl) (by kernel_rfl) (by kernel_rfl) (fun _ _ _ h => h) (Or.inr ⟨by rfl, rfl⟩) (by assumption) ?_); (try simp only [List.getElem_toArray, List.getElem_cons_zero, List.getElem_cons_succ]); (try simp only [Act.put, List.setIfInBounds_toArray, List.set_cons_zero, List.set_cons_succ])
        (refine wpAnyH_take (i := 12) rfl (by kernel_rfl) (by kernel_rfl) (by kernel_rfl) (fun _ _ _ h => h) (Or.inr ⟨by rfl, rfl⟩) (by assumption) ?_); (try simp only [List.getElem_toArray, List.getElem_cons_zero, List.getElem_cons_succ]); (try simp only [Act.put, List.setIfInBounds_toArray, List.set_cons_zero, List.set_cons_succ])
        (refine wpAnyH_take (i := 13) rfl (by kernel_rfl) (by kernel_rfl) (by kernel_rfl) (fun _ _ _ h => h) (Or.inr ⟨by rfl, rfl⟩) (by assumption) ?_); (try simp only [List.getElem_toArray, List.getElem_cons_zero, List.getElem_cons_succ]); (try simp only [Act.put, List.setIfInBounds_toArray, List.set_cons_zero, List.set_cons_succ])
        (refine wpAnyH_take (i := 14) rfl (by kernel_rfl) (by kernel_rfl) (by kernel_rfl) (fun _ _ _ h => h) (Or.inr ⟨by rfl, rfl⟩) (by assumption) ?_); (try simp only [List.getElem_toArray, List.getElem_cons_zero, List.getElem_cons_succ]); (try simp only [Act.put, List.setIfInBounds_toArray, List.set_cons_zero, List.set_cons_succ])
        (refine wpAnyH_take (i := 15) rfl (by kernel_rfl) (by kernel_rfl) (by kernel_rfl) (fun _ _ _ h => h) (Or.inr ⟨by rfl, rfl⟩) (by assumption) ?_); (try simp only [List.getElem_toArray, List.getElem_cons_zero, List.getElem_cons_succ]); (try simp only [Act.put, List.setIfInBounds_toArray, List.set_cons_zero, List.set_cons_succ])
        (refine wpAnyH_take (i := 16) rfl (by kernel_rfl) (by kernel_rfl) (by kernel_rfl) (fun _ _ _ h => h) (Or.inr ⟨by rfl, rfl⟩) (by assumption) ?_); (try simp only [List.getElem_toArray, List.getElem_cons_zero, List.getElem_cons_succ]); (try simp only [Act.put, List.setIfInBounds_toArray, List.set_cons_zero, List.set_cons_succ])
        (refine wpAnyH_take (i := 17) (v := ?_) rfl (by kernel_rfl) (by kernel_rfl) (by kernel_rfl) (fun _ _ _ h => h) (Or.inl ⟨by rfl, ?_⟩) (by assumption) ?_; rotate_left; focus (intro w hSw; (try dsimp only at hSw); (try simp only [List.getElem_toArray, List.getElem_cons_zero, List.getElem_cons_succ]); go_simp; try with_reducible rfl)); (try simp only [List.getElem_toArray, List.getElem_cons_zero, List.getElem_cons_succ]); (try simp only [Act.put, List.setIfInBounds_toArray, List.set_cons_zero, List.set_cons_succ])
        (refine wpAnyH_take (i := 18) (v := ?_) rfl (by kernel_rfl) (by kernel_rfl) (by kernel_rfl) (fun _ _ _ h => h) (Or.inl ⟨by rfl, ?_⟩) (by assumption) ?_; rotate_left; focus (intro w hSw; (try dsimp only at hSw); (try simp only [List.getElem_toArray, List.getElem_cons_zero, List.getElem_cons_succ]); go_simp; try with_reducible rfl)); (try simp only [List.getElem_toArray, List.getElem_cons_zero, List.getElem_cons_succ]); (try simp only [Act.put, List.setIfInBounds_toArray, List.set_cons_zero, List.set_cons_succ])
        refine wpAnyH_done (by kernel_rfl) ?_ _
        go_wp2
        go_ret
        exact ⟨rfl, X11.drew⟩
      · have HB2 := Lib.hid hb2
        clear hb2
        have HQ := Lib.hid (HOT.out HB2.out)
        refine wp_region_held_drew (S := (fun W => W.cell? ⟨gO, i * 4, none⟩ = some (.int .i64 z.house) ∧ W.cell? ⟨gO, i * 4 + 1, none⟩ = some (.int .i64 z.epoch) ∧ W.cell? ⟨gO, i * 4 + 2, none⟩ = some (.string r') ∧ W.cell? ⟨gO, i * 4 + 3, none⟩ = some (.string z.prev) ∧ W.cell? ⟨g, i * 4, none⟩ = some (.int .i64 z.house) ∧ W.cell? ⟨g, i * 4 + 1, none⟩ = some (.int .i64 z.epoch) ∧ W.cell? ⟨g, i * 4 + 2, none⟩ = some (.string z.root) ∧ W.cell? ⟨g, i * 4 + 3, none⟩ = some (.string z.prev))) (by kernel_rfl) (by exact ⟨q0, q1, q2, q3, r0, r1, r2, r3⟩) (fun hHeld => ?_)
        (refine wpAnyH_take (i := 0) (v := ?_) rfl (by kernel_rfl) (by kernel_rfl) (by kernel_rfl) (fun _ _ _ h => h) (Or.inl ⟨by rfl, ?_⟩) (by assumption) ?_; rotate_left; focus (intro w hSw; (try dsimp only at hSw); (try simp only [List.getElem_toArray, List.getElem_cons_zero]); go_simp; try with_reducible rfl)); (try simp only [List.getElem_toArray, List.getElem_cons_zero]); (try simp only [Act.put, List.setIfInBounds_toArray, List.set_cons_zero, List.set_cons_succ])
        (refine wpAnyH_take (i := 1) (v := ?_) rfl (by kernel_rfl) (by kernel_rfl) (by kernel_rfl) (fun _ _ _ h => h) (Or.inl ⟨by rfl, ?_⟩) (by assumption) ?_; rotate_left; focus (intro w hSw; (try dsimp only at hSw); (try simp only [List.getElem_toArray, List.getElem_cons_zero, List.getElem_cons_succ]); go_simp; try with_reducible rfl)); (try simp only [List.getElem_toArray, List.getElem_cons_zero, List.getElem_cons_succ]); (try simp only [Act.put, List.setIfInBounds_toArray, List.set_cons_zero, List.set_cons_succ])
        (refine wpAnyH_ready (rs := [2]) (by kernel_rfl) (by simp) ?_; refine AllReadyH.cons rfl (fun K hK => ?_) AllReadyH.nil; (try simp only [List.getElem_toArray, List.getElem_cons_zero, List.getElem_cons_succ]))
        go_simp
        go_at_call 23
        refine (impl_ChainOk _ zs house _ (HOTH.ext (by repeat (first | (with_reducible first | exact Ext.refl _ | assumption | apply Ext.alloc | apply Ext.drew | apply Ext.drewN | refine Ext.setCell ?_ ?_ _ | refine Ext.trans ?_ (by assumption)) | (show _ ≤ _; first | omega | (dsimp only; omega) | (simp; done) | (simp; omega))))) (by have := HLZ.out; omega) (HT.out.ext (X10.trans (by repeat (first | (with_reducible first | exact Ext.refl _ | assumption | apply Ext.alloc | apply Ext.drew | apply Ext.drewN | refine Ext.setCell ?_ ?_ _ | refine Ext.trans ?_ (by assumption)) | (show _ ≤ _; first | omega | (dsimp only; omega) | (simp; done) | (simp; omega))))))).mono ?_
        rw [HB2.out]
        rintro e wa ⟨rfl, xa⟩
        have ya : Ext W10 wa := ((Ext.refl W10).drew).trans xa
        (try dsimp only)
        refine hK.out _ _ (by exact ⟨(ya.cell _ _ lgO).trans q0, (ya.cell _ _ lgO).trans q1, (ya.cell _ _ lgO).trans q2, (ya.cell _ _ lgO).trans q3, (ya.cell _ _ lg).trans r0, (ya.cell _ _ lg).trans r1, (ya.cell _ _ lg).trans r2, (ya.cell _ _ lg).trans r3⟩) (fun hHeld => ?_)
        clear hK K
        (refine wpAnyH_take (i := 3) (v := ?_) rfl (by kernel_rfl) (by kernel_rfl) (by kernel_rfl) (fun _ _ _ h => h) (Or.inl ⟨by rfl, ?_⟩) (by assumption) ?_; rotate_left; focus (intro w hSw; (try dsimp only at hSw); (try simp only [List.getElem_toArray, List.getElem_cons_zero, List.getElem_cons_succ]); go_simp; try with_reducible rfl)); (try simp only [List.getElem_toArray, List.getElem_cons_zero, List.getElem_cons_succ]); (try simp only [Act.put, List.setIfInBounds_toArray, List.set_cons_zero, List.set_cons_succ])
        (refine wpAnyH_take (i := 4) (v := ?_) rfl (by kernel_rfl) (by kernel_rfl) (by kernel_rfl) (fun _ _ _ h => h) (Or.inl ⟨by rfl, ?_⟩) (by assumption) ?_; rotate_left; focus (intro w hSw; (try dsimp only at hSw); (try simp only [List.getElem_toArray, List.getElem_cons_zero, List.getElem_cons_succ]); go_simp; try with_reducible rfl)); (try simp only [List.getElem_toArray, List.getElem_cons_zero, List.getElem_cons_succ]); (try simp only [Act.put, List.setIfInBounds_toArray, List.set_cons_zero, List.set_cons_succ])
        (refine wpAnyH_take (i := 5) (v := ?_) rfl (by kernel_rfl) (by kernel_rfl) (by kernel_rfl) (fun _ _ _ h => h) (Or.inl ⟨by rfl, ?_⟩) (by assumption) ?_; rotate_left; focus (intro w hSw; (try dsimp only at hSw); (try simp only [List.getElem_toArray, List.getElem_cons_zero, List.getElem_cons_succ]); go_simp; try with_reducible rfl)); (try simp only [List.getElem_toArray, List.getElem_cons_zero, List.getElem_cons_succ]); (try simp only [Act.put, List.setIfInBounds_toArray, List.set_cons_zero, List.set_cons_succ])
        (refine wpAnyH_take (i := 6) (v := ?_) rfl (by kernel_rfl) (by kernel_rfl) (by kernel_rfl) (fun _ _ _ h => h) (Or.inl ⟨by rfl, ?_⟩) (by assumption) ?_; rotate_left; focus (intro w hSw; (try dsimp only at hSw); (try simp only [List.getElem_toArray, List.getElem_cons_zero, List.getElem_cons_succ]); go_simp; try with_reducible rfl)); (try simp only [List.getElem_toArray, List.getElem_cons_zero, List.getElem_cons_succ]); (try simp only [Act.put, List.setIfInBounds_toArray, List.set_cons_zero, List.set_cons_succ])
        (refine wpAnyH_take (i := 7) (v := ?_) rfl (by kernel_rfl) (by kernel_rfl) (by kernel_rfl) (fun _ _ _ h => h) (Or.inl ⟨by rfl, ?_⟩) (by assumption) ?_; rotate_left; focus (intro w hSw; (try dsimp only at hSw); (try simp only [List.getElem_toArray, List.getElem_cons_zero, List.getElem_cons_succ]); go_simp; try with_reducible rfl)); (try simp only [List.getElem_toArray, List.getElem_cons_zero, List.getElem_cons_succ]); (try simp only [Act.put, List.setIfInBounds_toArray, List.set_cons_zero, List.set_cons_succ])
        (refine wpAnyH_take (i := 9) (v := ?_) rfl (by kernel_rfl) (by kernel_rfl) (by kernel_rfl) (fun _ _ _ h => h) (Or.inl ⟨by rfl, ?_⟩) (by assumption) ?_; rotate_left; focus (intro w hSw; (try dsimp only at hSw); (try simp only [List.getElem_toArray, List.getElem_cons_zero, List.getElem_cons_succ]); go_simp; try with_reducible rfl)); (try simp only [List.getElem_toArray, List.getElem_cons_zero, List.getElem_cons_succ]); (try simp only [Act.put, List.setIfInBounds_toArray, List.set_cons_zero, List.set_cons_succ])
        (refine wpAnyH_take (i := 10) (v := ?_) rfl (by kernel_rfl) (by kernel_rfl) (by kernel_rfl) (fun _ _ _ h => h) (Or.inl ⟨by rfl, ?_⟩) (by assumption) ?_; rotate_left; focus (intro w hSw; (try dsimp only at hSw); (try simp only [List.getElem_toArray, List.getElem_cons_zero, List.getElem_cons_succ]); go_simp; try with_reducible rfl)); (try simp only [List.getElem_toArray, List.getElem_cons_zero, List.getElem_cons_succ]); (try simp only [Act.put, List.setIfInBounds_toArray, List.set_cons_zero, List.set_cons_succ])
        (refine wpAnyH_take (i := 11) (v := ?_) rfl (by kernel_rfl) (by kernel_rfl) (by kernel_rfl) (fun _ _ _ h => h) (Or.inl ⟨by rfl, ?_⟩) (by assumption) ?_; rotate_left; focus (intro w hSw; (try dsimp only at hSw); (try simp only [List.getElem_toArray, List.getElem_cons_zero, List.getElem_cons_succ]); go_simp; try with_reducible rfl)); (try simp only [List.getElem_toArray, List.getElem_cons_zero, List.getElem_cons_succ]); (try simp only [Act.put, List.setIfInBounds_toArray, List.set_cons_zero, List.set_cons_succ])
        (refine wpAnyH_take (i := 12) (v := ?_) rfl (by kernel_rfl) (by kernel_rfl) (by kernel_rfl) (fun _ _ _ h => h) (Or.inl ⟨by rfl, ?_⟩) (by assumption) ?_; rotate_left; focus (intro w hSw; (try dsimp only at hSw); (try simp only [List.getElem_toArray, List.getElem_cons_zero, List.getElem_cons_succ]); go_simp; try with_reducible rfl)); (try simp only [List.getElem_toArray, List.getElem_cons_zero, List.getElem_cons_succ]); (try simp only [Act.put, List.setIfInBounds_toArray, List.set_cons_zero, List.set_cons_succ])
        (refine wpAnyH_ready (rs := [8]) (by kernel_rfl) (by simp) ?_; refine AllReadyH.cons rfl (fun K hK => ?_) AllReadyH.nil; (try simp only [List.getElem_toArray, List.getElem_cons_zero, List.getElem_cons_succ]))
        go_simp
        go_at_call 21
        refine (spec_HeadHash _ _ _ _ _).mono ?_
        rintro e wb ⟨rfl, xb⟩
        have yb : Ext W10 wb := ya.trans xb
        (try dsimp only)
        refine hK.out _ _ (by exact ⟨(yb.cell _ _ lgO).trans q0, (yb.cell _ _ lgO).trans q1, (yb.cell _ _ lgO).trans q2, (yb.cell _ _ lgO).trans q3, (yb.cell _ _ lg).trans r0, (yb.cell _ _ lg).trans r1, (yb.cell _ _ lg).trans r2, (yb.cell _ _ lg).trans r3⟩) (fun hHeld => ?_)
        clear hK K
        (refine wpAnyH_ready (rs := [13]) (by kernel_rfl) (by simp) ?_; refine AllReadyH.cons rfl (fun K hK => ?_) AllReadyH.nil; (try simp only [List.getElem_toArray, List.getElem_cons_zero, List.getElem_cons_succ]))
        go_simp
        go_at_call 21
        refine (spec_HeadHash _ _ _ _ _).mono ?_
        rw [show headH z.house z.epoch z.root z.prev = headH z.house z.epoch r' z.prev from HQ.out.symm]
        rintro e wc ⟨rfl, xc⟩
        have yc : Ext W10 wc := yb.trans xc
        (try dsimp only)
        refine hK.out _ _ (by exact ⟨(yc.cell _ _ lgO).trans q0, (yc.cell _ _ lgO).trans q1, (yc.cell _ _ lgO).trans q2, (yc.cell _ _ lgO).trans q3, (yc.cell _ _ lg).trans r0, (yc.cell _ _ lg).trans r1, (yc.cell _ _ lg).trans r2, (yc.cell _ _ lg).trans r3⟩) (fun hHeld => ?_)
        clear hK K
        (refine wpAnyH_take (i := 14) (v := .bool false) rfl (by kernel_rfl) (by kernel_rfl) (by kernel_rfl) (fun _ _ _ h => h) (Or.inl ⟨by rfl, ?_⟩) (by assumption) ?_; focus (intro w hSw; (try dsimp only at hSw); (try simp only [List.getElem_toArray, List.getElem_cons_zero, List.getElem_cons_succ]); go_simp; (try simp))); (try simp only [List.getElem_toArray, List.getElem_cons_zero, List.getElem_cons_succ]); (try simp only [Act.put, List.setIfInBounds_toArray, List.set_cons_zero, List.set_cons_succ])
        (refine wpAnyH_take (i := 15) (v := ?_) rfl (by kernel_rfl) (by kernel_rfl) (by kernel_rfl) (fun _ _ _ h => h) (Or.inl ⟨by rfl, ?_⟩) (by assumption) ?_; rotate_left; focus (intro w hSw; (try dsimp only at hSw); (try simp only [List.getElem_toArray, List.getElem_cons_zero, List.getElem_cons_succ]); go_simp; try with_reducible rfl)); (try simp only [List.getElem_toArray, List.getElem_cons_zero, List.getElem_cons_succ]); (try simp only [Act.put, List.setIfInBounds_toArray, List.set_cons_zero, List.set_cons_succ])
        (refine wpAnyH_take (i := 16) (v := ?_) rfl (by kernel_rfl) (by kernel_rfl) (by kernel_rfl) (fun _ _ _ h => h) (Or.inl ⟨by rfl, ?_⟩) (by assumption) ?_; rotate_left; focus (intro w hSw; (try dsimp only at hSw); (try simp only [List.getElem_toArray, List.getElem_cons_zero, List.getElem_cons_succ]); go_simp; try with_reducible rfl)); (try simp only [List.getElem_toArray, List.getElem_cons_zero, List.getElem_cons_succ]); (try simp only [Act.put, List.setIfInBounds_toArray, List.set_cons_zero, List.set_cons_succ])
        (refine wpAnyH_take (i := 17) (v := ?_) rfl (by kernel_rfl) (by kernel_rfl) (by kernel_rfl) (fun _ _ _ h => h) (Or.inl ⟨by rfl, ?_⟩) (by assumption) ?_; rotate_left; focus (intro w hSw; (try dsimp only at hSw); (try simp only [List.getElem_toArray, List.getElem_cons_zero, List.getElem_cons_succ]); go_simp; try with_reducible rfl)); (try simp only [List.getElem_toArray, List.getElem_cons_zero, List.getElem_cons_succ]); (try simp only [Act.put, List.setIfInBounds_toArray, List.set_cons_zero, List.set_cons_succ])
        (refine wpAnyH_take (i := 18) (v := .slice (some ⟨g, 4, none⟩) (xs.length - 1) (c - 1)) rfl (by kernel_rfl) (by kernel_rfl) (by kernel_rfl) (fun _ _ _ h => h) (Or.inl ⟨by rfl, ?_⟩) (by assumption) ?_; focus (intro w hSw; (try dsimp only at hSw); (try simp only [List.getElem_toArray, List.getElem_cons_zero, List.getElem_cons_succ]); go_simp; rw [if_pos (by omega), if_neg (by omega)])); (try simp only [List.getElem_toArray, List.getElem_cons_zero, List.getElem_cons_succ]); (try simp only [Act.put, List.setIfInBounds_toArray, List.set_cons_zero, List.set_cons_succ])
        (refine wpAnyH_take (i := 19) (v := ?_) rfl (by kernel_rfl) (by kernel_rfl) (by kernel_rfl) (fun _ _ _ h => h) (Or.inl ⟨by rfl, ?_⟩) (by assumption) ?_; rotate_left; focus (intro w hSw; (try dsimp only at hSw); (try simp only [List.getElem_toArray, List.getElem_cons_zero, List.getElem_cons_succ]); go_simp; try with_reducible rfl)); (try simp only [List.getElem_toArray, List.getElem_cons_zero, List.getElem_cons_succ]); (try simp only [Act.put, List.setIfInBounds_toArray, List.set_cons_zero, List.set_cons_succ])
        (refine wpAnyH_ready (rs := [20]) (by kernel_rfl) (by simp) ?_; refine AllReadyH.cons rfl (fun K hK => ?_) AllReadyH.nil; (try simp only [List.getElem_toArray, List.getElem_cons_zero, List.getElem_cons_succ]))
        go_simp
        go_at_call 23
        refine (impl_ChainOk _ (xs.drop 1) house _ (HTLH.ext yc) (by rw [List.length_drop]; omega) (HT.out.ext (X10.trans yc))).mono ?_
        rw [HTL.out]
        rintro e wd ⟨rfl, xd⟩
        have yd : Ext W10 wd := yc.trans xd
        (try dsimp only)
        refine hK.out _ _ (by exact ⟨(yd.cell _ _ lgO).trans q0, (yd.cell _ _ lgO).trans q1, (yd.cell _ _ lgO).trans q2, (yd.cell _ _ lgO).trans q3, (yd.cell _ _ lg).trans r0, (yd.cell _ _ lg).trans r1, (yd.cell _ _ lg).trans r2, (yd.cell _ _ lg).trans r3⟩) (fun hHeld => ?_)
        clear hK K
        (refine wpAnyH_take (i := 21) (v := ?_) rfl (by kernel_rfl) (by kernel_rfl) (by kernel_rfl) (fun _ _ _ h => h) (Or.inl ⟨by rfl, ?_⟩) (by assumption) ?_; rotate_left; focus (intro w hSw; (try dsimp only at hSw); (try simp only [List.getElem_toArray, List.getElem_cons_zero, List.getElem_cons_succ]); go_simp; try with_reducible rfl)); (try simp only [List.getElem_toArray, List.getElem_cons_zero, List.getElem_cons_succ]); (try simp only [Act.put, List.setIfInBounds_toArray, List.set_cons_zero, List.set_cons_succ])
        refine wpAnyH_done (by kernel_rfl) ?_ _
        have X11 := X10.trans yd
        have HO11 := Lib.hid (own_ext HO10.out yd)
        have l11 := Nat.le_trans l10 yd.size
        clear q0 q1 q2 q3 r0 r1 r2 r3
        go_wp2_with fail
        refine wp_region_held_drew (S := fun _ => True) (by kernel_rfl) (by trivial) (fun hHeld => ?_)
        (refine wpAnyH_take (i := 0) (v := ?_) rfl (by kernel_rfl) (by kernel_rfl) (by kernel_rfl) (fun _ _ _ h => h) (Or.inl ⟨by rfl, ?_⟩) (by assumption) ?_; rotate_left; focus (intro w hSw; (try dsimp only at hSw); (try simp only [List.getElem_toArray, List.getElem_cons_zero]); go_simp; try with_reducible rfl)); (try simp only [List.getElem_toArray, List.getElem_cons_zero]); (try simp only [Act.put, List.setIfInBounds_toArray, List.set_cons_zero, List.set_cons_succ])
        (refine wpAnyH_take (i := 1) (v := ?_) rfl (by kernel_rfl) (by kernel_rfl) (by kernel_rfl) (fun _ _ _ h => h) (Or.inl ⟨by rfl, ?_⟩) (by assumption) ?_; rotate_left; focus (intro w hSw; (try dsimp only at hSw); (try simp only [List.getElem_toArray, List.getElem_cons_zero, List.getElem_cons_succ]); go_simp; try with_reducible rfl)); (try simp only [List.getElem_toArray, List.getElem_cons_zero, List.getElem_cons_succ]); (try simp only [Act.put, List.setIfInBounds_toArray, List.set_cons_zero, List.set_cons_succ])
        (refine wpAnyH_take (i := 2) (v := ?_) rfl (by kernel_rfl) (by kernel_rfl) (by kernel_rfl) (fun _ _ _ h => h) (Or.inl ⟨by rfl, ?_⟩) (by assumption) ?_; rotate_left; focus (intro w hSw; (try dsimp only at hSw); (try simp only [List.getElem_toArray, List.getElem_cons_zero, List.getElem_cons_succ]); go_simp; try with_reducible rfl)); (try simp only [List.getElem_toArray, List.getElem_cons_zero, List.getElem_cons_succ]); (try simp only [Act.put, List.setIfInBounds_toArray, List.set_cons_zero, List.set_cons_succ])
        (refine wpAnyH_take (i := 3) rfl (by kernel_rfl) (by kernel_rfl) (by kernel_rfl) (fun _ _ _ h => h) (Or.inr ⟨by rfl, rfl⟩) (by assumption) ?_); (try simp only [List.getElem_toArray, List.getElem_cons_zero, List.getElem_cons_succ]); (try simp only [Act.put, List.setIfInBounds_toArray, List.set_cons_zero, List.set_cons_succ])
        (refine wpAnyH_take (i := 4) rfl (by kernel_rfl) (by kernel_rfl) (by kernel_rfl) (fun _ _ _ h => h) (Or.inr ⟨by rfl, rfl⟩) (by assumption) ?_); (try simp only [List.getElem_toArray, List.getElem_cons_zero, List.getElem_cons_succ]); (try simp only [Act.put, List.setIfInBounds_toArray, List.set_cons_zero, List.set_cons_succ])
        (refine wpAnyH_take (i := 5) rfl (by kernel_rfl) (by kernel_rfl) (by kernel_rfl) (fun _ _ _ h => h) (Or.inr ⟨by rfl, rfl⟩) (by assumption) ?_); (try simp only [List.getElem_toArray, List.getElem_cons_zero, List.getElem_cons_succ]); (try simp only [Act.put, List.setIfInBounds_toArray, List.set_cons_zero, List.set_cons_succ])
        (refine wpAnyH_take (i := 6) rfl (by kernel_rfl) (by kernel_rfl) (by kernel_rfl) (fun _ _ _ h => h) (Or.inr ⟨by rfl, rfl⟩) (by assumption) ?_); (try simp only [List.getElem_toArray, List.getElem_cons_zero, List.getElem_cons_succ]); (try simp only [Act.put, List.setIfInBounds_toArray, List.set_cons_zero, List.set_cons_succ])
        (refine wpAnyH_take (i := 7) rfl (by kernel_rfl) (by kernel_rfl) (by kernel_rfl) (fun _ _ _ h => h) (Or.inr ⟨by rfl, rfl⟩) (by assumption) ?_); (try simp only [List.getElem_toArray, List.getElem_cons_zero, List.getElem_cons_succ]); (try simp only [Act.put, List.setIfInBounds_toArray, List.set_cons_zero, List.set_cons_succ])
        (refine wpAnyH_take (i := 8) rfl (by kernel_rfl) (by kernel_rfl) (by kernel_rfl) (fun _ _ _ h => h) (Or.inr ⟨by rfl, rfl⟩) (by assumption) ?_); (try simp only [List.getElem_toArray, List.getElem_cons_zero, List.getElem_cons_succ]); (try simp only [Act.put, List.setIfInBounds_toArray, List.set_cons_zero, List.set_cons_succ])
        (refine wpAnyH_take (i := 9) rfl (by kernel_rfl) (by kernel_rfl) (by kernel_rfl) (fun _ _ _ h => h) (Or.inr ⟨by rfl, rfl⟩) (by assumption) ?_); (try simp only [List.getElem_toArray, List.getElem_cons_zero, List.getElem_cons_succ]); (try simp only [Act.put, List.setIfInBounds_toArray, List.set_cons_zero, List.set_cons_succ])
        (refine wpAnyH_take (i := 10) rfl (by kernel_rfl) (by kernel_rfl) (by kernel_rfl) (fun _ _ _ h => h) (Or.inr ⟨by rfl, rfl⟩) (by assumption) ?_); (try simp only [List.getElem_toArray, List.getElem_cons_zero, List.getElem_cons_succ]); (try simp only [Act.put, List.setIfInBounds_toArray, List.set_cons_zero, List.set_cons_succ])
        (refine wpAnyH_take (i := 11) rfl (by kernel_rfl) (by kernel_rfl) (by kernel_rfl) (fun _ _ _ h => h) (Or.inr ⟨by rfl, rfl⟩) (by assumption) ?_); (try simp only [List.getElem_toArray, List.getElem_cons_zero, List.getElem_cons_succ]); (try simp only [Act.put, List.setIfInBounds_toArray, List.set_cons_zero, List.set_cons_succ])
        (refine wpAnyH_take (i := 12) rfl (by kernel_rfl) (by kernel_rfl) (by kernel_rfl) (fun _ _ _ h => h) (Or.inr ⟨by rfl, rfl⟩) (by assumption) ?_); (try simp only [List.getElem_toArray, List.getElem_cons_zero, List.getElem_cons_succ]); (try simp only [Act.put, List.setIfInBounds_toArray, List.set_cons_zero, List.set_cons_succ])
        (refine wpAnyH_take (i := 13) rfl (by kernel_rfl) (by kernel_rfl) (by kernel_rfl) (fun _ _ _ h => h) (Or.inr ⟨by rfl, rfl⟩) (by assumption) ?_); (try simp only [List.getElem_toArray, List.getElem_cons_zero, List.getElem_cons_succ]); (try simp only [Act.put, List.setIfInBounds_toArray, List.set_cons_zero, List.set_cons_succ])
        (refine wpAnyH_take (i := 14) rfl (by kernel_rfl) (by kernel_rfl) (by kernel_rfl) (fun _ _ _ h => h) (Or.inr ⟨by rfl, rfl⟩) (by assumption) ?_); (try simp only [List.getElem_toArray, List.getElem_cons_zero, List.getElem_cons_succ]); (try simp only [Act.put, List.setIfInBounds_toArray, List.set_cons_zero, List.set_cons_succ])
        (refine wpAnyH_take (i := 15) rfl (by kernel_rfl) (by kernel_rfl) (by kernel_rfl) (fun _ _ _ h => h) (Or.inr ⟨by rfl, rfl⟩) (by assumption) ?_); (try simp only [List.getElem_toArray, List.getElem_cons_zero, List.getElem_cons_succ]); (try simp only [Act.put, List.setIfInBounds_toArray, List.set_cons_zero, List.set_cons_succ])
        (refine wpAnyH_take (i := 16) rfl (by kernel_rfl) (by kernel_rfl) (by kernel_rfl) (fun _ _ _ h => h) (Or.inr ⟨by rfl, rfl⟩) (by assumption) ?_); (try simp only [List.getElem_toArray, List.getElem_cons_zero, List.getElem_cons_succ]); (try simp only [Act.put, List.setIfInBounds_toArray, List.set_cons_zero, List.set_cons_succ])
        (refine wpAnyH_take (i := 17) (v := ?_) rfl (by kernel_rfl) (by kernel_rfl) (by kernel_rfl) (fun _ _ _ h => h) (Or.inl ⟨by rfl, ?_⟩) (by assumption) ?_; rotate_left; focus (intro w hSw; (try dsimp only at hSw); (try simp only [List.getElem_toArray, List.getElem_cons_zero, List.getElem_cons_succ]); go_simp; try with_reducible rfl)); (try simp only [List.getElem_toArray, List.getElem_cons_zero, List.getElem_cons_succ]); (try simp only [Act.put, List.setIfInBounds_toArray, List.set_cons_zero, List.set_cons_succ])
        (refine wpAnyH_take (i := 18) (v := ?_) rfl (by kernel_rfl) (by kernel_rfl) (by kernel_rfl) (fun _ _ _ h => h) (Or.inl ⟨by rfl, ?_⟩) (by assumption) ?_; rotate_left; focus (intro w hSw; (try dsimp only at hSw); (try simp only [List.getElem_toArray, List.getElem_cons_zero, List.getElem_cons_succ]); go_simp; try with_reducible rfl)); (try simp only [List.getElem_toArray, List.getElem_cons_zero, List.getElem_cons_succ]); (try simp only [Act.put, List.setIfInBounds_toArray, List.set_cons_zero, List.set_cons_succ])
        refine wpAnyH_done (by kernel_rfl) ?_ _
        go_wp2
        go_ret
        exact ⟨rfl, X11.drew⟩
end Go.Proofs.YtcinihfjkkaclaaDoor
