/- One operation on a disk: the reference. -/
import Derived.Test.YtckipgijfgeghaaPutF
import Derived.Deep.DeepCutAuto
namespace Go.Proofs.Ytckipgijfgeghaa
open Go.RowKit

set_option maxRecDepth 100000 in
set_option maxHeartbeats 1600000 in
theorem spec_DoAct_some (v : Value) (xs : List Fil) (n t : ByteArray) (k : Nat) (hk : k < xs.length) (hsz : xs[k].text.size + t.size ≤ 20000) (he : fAt xs n = k) (w : World) (h : Fls w v xs) (hs : FilFit xs) (ho : diskOk xs = true) (hn : inB n.size 1 8 = true) (hyo : diskOk (putF xs ⟨xs[k].name, xs[k].text ++ t, xs[k].kept⟩) = true) (hys : FilFit (putF xs ⟨xs[k].name, xs[k].text ++ t, xs[k].kept⟩)) (hb : xs.length ≤ 30) :
    Calls Try.prog 85 #[.agg #[v], .agg #[.int .i64 1, .string n, .string t, .string ⟨#[]⟩]] w fun e w' => ∃ a c, e = .returned (.tuple #[.agg #[.slice a (putF xs ⟨xs[k].name, xs[k].text ++ t, xs[k].kept⟩).length c], .bool true]) ∧ OwnFls w' w.heap.size (.slice a (putF xs ⟨xs[k].name, xs[k].text ++ t, xs[k].kept⟩).length c) (putF xs ⟨xs[k].name, xs[k].text ++ t, xs[k].kept⟩) ∧ Ext w w' := by
  have HE := Lib.hid he
  have HO := Lib.hid ho
  have HYO := Lib.hid hyo
  have HN := Lib.hid hn
  clear he ho hyo hn
  obtain ⟨-, a1, c1, rfl, -, hm1, g1⟩ := id h
  unfold maxLen at hm1
  have P2 := Bx.new w #[.slice a1 xs.length c1] 38
  have P3 := Bx.new (w.alloc (Obj.cells #[.slice a1 xs.length c1] 38)) #[.int .i64 1, .string n, .string t, .string ⟨#[]⟩] 75
  have P4 := Bx.new ((w.alloc (Obj.cells #[.slice a1 xs.length c1] 38)).alloc (Obj.cells #[.int .i64 1, .string n, .string t, .string ⟨#[]⟩] 75)) #[.slice none 0 0] 38
  have X : Ext w (((w.alloc (Obj.cells #[.slice a1 xs.length c1] 38)).alloc (Obj.cells #[.int .i64 1, .string n, .string t, .string ⟨#[]⟩] 75)).alloc (Obj.cells #[.slice none 0 0] 38)) := (((Ext.refl w).alloc _).alloc _).alloc _
  replace P2 := P2.ext (show Ext _ (((w.alloc (Obj.cells #[.slice a1 xs.length c1] 38)).alloc (Obj.cells #[.int .i64 1, .string n, .string t, .string ⟨#[]⟩] 75)).alloc (Obj.cells #[.slice none 0 0] 38)) from ((Ext.refl _).alloc _).alloc _)
  replace P3 := P3.ext (show Ext _ (((w.alloc (Obj.cells #[.slice a1 xs.length c1] 38)).alloc (Obj.cells #[.int .i64 1, .string n, .string t, .string ⟨#[]⟩] 75)).alloc (Obj.cells #[.slice none 0 0] 38)) from (Ext.refl _).alloc _)
  rw [World.size_alloc] at P3
  rw [World.size_alloc, World.size_alloc] at P4
  go_enter Try.func85, Try.ntmps85
  go_wp2_with fail
  generalize ((w.alloc (Obj.cells #[.slice a1 xs.length c1] 38)).alloc (Obj.cells #[.int .i64 1, .string n, .string t, .string ⟨#[]⟩] 75)).alloc (Obj.cells #[.slice none 0 0] 38) = w0 at *
  have z2 := P2.2.1 0 _ rfl
  refine (spec_DiskOk _ xs _ (h.ext X) hs).mono ?_
  rw [HO.out]
  rintro e w1 ⟨rfl, x1⟩
  clear z2
  replace P2 := P2.ext x1
  replace P3 := P3.ext x1
  replace P4 := P4.ext x1
  replace X := X.trans x1
  have z2 := P2.2.1 0 _ rfl
  have z30 := P3.2.1 0 _ rfl
  have z31 := P3.2.1 1 _ rfl
  have z32 := P3.2.1 2 _ rfl
  have z33 := P3.2.1 3 _ rfl
  go_wp2_with fail
  refine (spec_l06Name _ _).mono ?_
  rw [HN.out]
  rintro e w' ⟨rfl, rfl⟩
  go_wp2_with fail
  refine (spec_l06At _ xs n _ (h.ext X)).mono ?_
  rw [HE.out]
  rintro e w3 ⟨rfl, x3⟩
  clear z2 z30 z31 z32 z33
  replace P2 := P2.ext x3
  replace P3 := P3.ext x3
  replace P4 := P4.ext x3
  replace X := X.trans x3
  have z2 := P2.2.1 0 _ rfl
  have z30 := P3.2.1 0 _ rfl
  have z31 := P3.2.1 1 _ rfl
  have z32 := P3.2.1 2 _ rfl
  have z33 := P3.2.1 3 _ rfl
  have P7 := Bx.new w3 #[.string n, .string ⟨#[]⟩, .int .i64 0] 113
  have x4 : Ext w3 (w3.alloc (Obj.cells #[.string n, .string ⟨#[]⟩, .int .i64 0] 113)) := (Ext.refl _).alloc _
  have l4 := P4.1
  replace P2 := P2.ext x4
  replace P3 := P3.ext x4
  replace P4 := P4.ext x4
  replace X := X.trans x4
  have hk0 : decide ((0 : Int) ≤ (k : Int)) = true := by simp
  have k1 : (0 : Int) ≤ k := by omega
  have k2 : (k : Int) < xs.length := by omega
  go_upto_region 5 with (fail)
  generalize w3.alloc (Obj.cells #[.string n, .string ⟨#[]⟩, .int .i64 0] 113) = w4 at *
  generalize w3.heap.size = B7 at *
  clear z2 z30 z31 z32 z33
  have z2 := P2.2.1 0 _ rfl
  have z30 := P3.2.1 0 _ rfl
  have z31 := P3.2.1 1 _ rfl
  have z32 := P3.2.1 2 _ rfl
  have z33 := P3.2.1 3 _ rfl
  rcases g1 with g1 | ⟨b1, o1, rfl, hb1, g1⟩
  · omega
  have e0 : w4.cell? ⟨b1, o1 + k * 3, none⟩ = some (.string xs[k].name) := (X.cell b1 _ hb1).trans (g1 _ _ (fil_c0 xs k hk))
  have e1 : w4.cell? ⟨b1, o1 + k * 3 + 1, none⟩ = some (.string xs[k].text) := (X.cell b1 _ hb1).trans (g1 _ _ (fil_c1 xs k hk))
  have e2 : w4.cell? ⟨b1, o1 + k * 3 + 2, none⟩ = some (.int .i64 xs[k].kept) := (X.cell b1 _ hb1).trans (g1 _ _ (fil_c2 xs k hk))
  clear g1
  have z70 := P7.2.1 0 _ rfl
  have z71 := P7.2.1 1 _ rfl
  have z72 := P7.2.1 2 _ rfl
  have f70 := P7.2.2 0
  have f71 := P7.2.2 1
  have f72 := P7.2.2 2
  have X5 : Ext w (((w4.setCell ⟨B7, 0, none⟩ (.string xs[k].name)).setCell ⟨B7, 1, none⟩ (.string xs[k].text)).setCell ⟨B7, 2, none⟩ (.int .i64 xs[k].kept)) := (((X.setCell (by dsimp only; omega) (.string xs[k].name)).setCell (by dsimp only; omega) (.string xs[k].text)).setCell (by dsimp only; omega) (.int .i64 xs[k].kept))
  have P75 : Bx (((w4.setCell ⟨B7, 0, none⟩ (.string xs[k].name)).setCell ⟨B7, 1, none⟩ (.string xs[k].text)).setCell ⟨B7, 2, none⟩ (.int .i64 xs[k].kept)) B7 [.string xs[k].name, .string xs[k].text, .int .i64 xs[k].kept] := (((P7.set 0 (.string xs[k].name) (by simp)).set 1 (.string xs[k].text) (by simp)).set 2 (.int .i64 xs[k].kept) (by simp))
  have P25 := (((P2.far (c := B7) (by omega) 0 (.string xs[k].name)).far (c := B7) (by omega) 1 (.string xs[k].text)).far (c := B7) (by omega) 2 (.int .i64 xs[k].kept))
  have P35 := (((P3.far (c := B7) (by omega) 0 (.string xs[k].name)).far (c := B7) (by omega) 1 (.string xs[k].text)).far (c := B7) (by omega) 2 (.int .i64 xs[k].kept))
  have P45 := (((P4.far (c := B7) (by omega) 0 (.string xs[k].name)).far (c := B7) (by omega) 1 (.string xs[k].text)).far (c := B7) (by omega) 2 (.int .i64 xs[k].kept))
  clear P7 P2 P3 P4 X
  have X := X5
  have P7 := P75
  have P2 := P25
  have P3 := P35
  have P4 := P45
  clear X5 P75 P25 P35 P45
  go_upto_region 7 with (fail)
  generalize ((w4.setCell ⟨B7, 0, none⟩ (.string xs[k].name)).setCell ⟨B7, 1, none⟩ (.string xs[k].text)).setCell ⟨B7, 2, none⟩ (.int .i64 xs[k].kept) = w5 at *
  clear z2 z30 z31 z32 z33 z70 z71 z72 f70 f71 f72 e0 e1 e2
  have P8 := Bx.new w5 #[.slice none 0 0] 38
  have l7 := P7.1
  have x6 : Ext w5 (w5.alloc (Obj.cells #[.slice none 0 0] 38)) := (Ext.refl _).alloc _
  replace P2 := P2.ext x6
  replace P3 := P3.ext x6
  replace P4 := P4.ext x6
  replace P7 := P7.ext x6
  replace X := X.trans x6
  go_upto_region 9 with (fail)
  generalize w5.alloc (Obj.cells #[.slice none 0 0] 38) = w6 at *
  generalize w5.heap.size = B8 at *
  have z2 := P2.2.1 0 _ rfl
  have z30 := P3.2.1 0 _ rfl
  have z31 := P3.2.1 1 _ rfl
  have z32 := P3.2.1 2 _ rfl
  have z33 := P3.2.1 3 _ rfl
  have z70 := P7.2.1 0 _ rfl
  have z71 := P7.2.1 1 _ rfl
  have z72 := P7.2.1 2 _ rfl
  have f71 := P7.2.2 1
  have f72 := P7.2.2 2
  have hm : ¬ (9223372036854775807 < xs[k].text.size + t.size) := by omega
  have X5 : Ext w (w6.setCell ⟨B7, 1, none⟩ (.string (xs[k].text ++ t))) := X.setCell (by dsimp only; omega) _
  have P75 : Bx (w6.setCell ⟨B7, 1, none⟩ (.string (xs[k].text ++ t))) B7 [.string xs[k].name, .string (xs[k].text ++ t), .int .i64 xs[k].kept] := P7.set 1 (.string (xs[k].text ++ t)) (by simp)
  have P25 := P2.far (c := B7) (by omega) 1 (.string (xs[k].text ++ t))
  have P35 := P3.far (c := B7) (by omega) 1 (.string (xs[k].text ++ t))
  have P45 := P4.far (c := B7) (by omega) 1 (.string (xs[k].text ++ t))
  have P85 := P8.far (c := B7) (by omega) 1 (.string (xs[k].text ++ t))
  clear P7 P2 P3 P4 X P8
  have X := X5
  have P7 := P75
  have P2 := P25
  have P3 := P35
  have P4 := P45
  have P8 := P85
  clear X5 P75 P25 P35 P45 P85
  go_upto_region 11 with (fail)
  generalize w6.setCell ⟨B7, 1, none⟩ (.string (xs[k].text ++ t)) = w7 at *
  clear z2 z30 z31 z32 z33 z70 z71 z72 f71 f72 hm
  have z2 := P2.2.1 0 _ rfl
  have z30 := P3.2.1 0 _ rfl
  have z31 := P3.2.1 1 _ rfl
  have z32 := P3.2.1 2 _ rfl
  have z33 := P3.2.1 3 _ rfl
  have z70 := P7.2.1 0 _ rfl
  have z71 := P7.2.1 1 _ rfl
  have z72 := P7.2.1 2 _ rfl
  go_wp2_with fail
  refine (spec_l06Put _ xs ⟨xs[k].name, xs[k].text ++ t, xs[k].kept⟩ _ (h.ext X) hb).mono ?_
  rintro e w8 ⟨ya, yc, rfl, ow, x8⟩
  have s7 := P8.1
  have s4 := P4.1
  clear z2 z30 z31 z32 z33 z70 z71 z72
  replace P8 := P8.ext x8
  replace P4 := P4.ext x8
  replace X := X.trans x8
  replace P3 := P3.ext x8
  generalize hYS : (putF xs ⟨xs[k].name, xs[k].text ++ t, xs[k].kept⟩) = ys at *
  have HYS := Lib.hid hYS
  clear hYS
  have OW := Lib.hid (own_below ow (p := ⟨B8, 0, none⟩) (u := .slice ya ys.length yc) (by dsimp only; omega))
  have z8 := P8.2.1 0 _ rfl
  have f8 := P8.2.2 0
  have X5 := X.setCell (p := ⟨B8, 0, none⟩) (by dsimp only; omega) (.slice ya ys.length yc)
  have P85 := P8.set 0 (.slice ya ys.length yc) (by simp)
  have P45 := P4.far (c := B8) (by omega) 0 (.slice ya ys.length yc)
  clear ow P8 P4 X
  have X := X5
  have P8 := P85
  have P4 := P45
  clear X5 P85 P45
  go_upto_region 24 with (fail)
  generalize w8.setCell ⟨B8, 0, none⟩ (.slice ya ys.length yc) = w9 at *
  clear z8 f8
  have z8 := P8.2.1 0 _ rfl
  go_wp2_with fail
  refine (spec_DiskOk _ ys _ (Row.of_owns OW.out) hys).mono ?_
  rw [HYO.out]
  rintro e w10 ⟨rfl, x10⟩
  replace P8 := P8.ext x10
  replace P4 := P4.ext x10
  replace X := X.trans x10
  replace OW := Lib.hid (own_ext OW.out x10)
  clear x10 z8
  have z8 := P8.2.1 0 _ rfl
  have z4 := P4.2.1 0 _ rfl
  have f4 := P4.2.2 0
  have XF := X.setCell (p := ⟨w.heap.size + 1 + 1, 0, none⟩) (by dsimp only; omega) (.slice ya ys.length yc)
  have RF := P4.set 0 (.slice ya ys.length yc) (by simp)
  have OF := Lib.hid (own_mono (own_below OW.out (p := ⟨w.heap.size + 1 + 1, 0, none⟩) (u := .slice ya ys.length yc) (by dsimp only; omega)) (show w.heap.size ≤ w7.heap.size by omega))
  go_wp2
  generalize w10.setCell ⟨w.heap.size + 1 + 1, 0, none⟩ (.slice ya ys.length yc) = WF at *
  have k0 := RF.2.1 0 _ rfl
  refine bodyPost_ret (v := .tuple #[.agg #[.slice ya ys.length yc], .bool true]) (by simp [results, Try.results85, go_sem, k0]) rfl ?_
  rw [HYS.out]
  exact ⟨ya, yc, rfl, OF.out, XF⟩

set_option maxRecDepth 100000 in
set_option maxHeartbeats 1600000 in
theorem spec_DoAct_new (v : Value) (xs : List Fil) (n t : ByteArray) (hsz : t.size ≤ 20000) (he : fAt xs n = -1) (w : World) (h : Fls w v xs) (hs : FilFit xs) (ho : diskOk xs = true) (hn : inB n.size 1 8 = true) (hyo : diskOk (putF xs ⟨n, (⟨#[]⟩ : ByteArray) ++ t, 0⟩) = true) (hys : FilFit (putF xs ⟨n, (⟨#[]⟩ : ByteArray) ++ t, 0⟩)) (hb : xs.length ≤ 30) :
    Calls Try.prog 85 #[.agg #[v], .agg #[.int .i64 1, .string n, .string t, .string ⟨#[]⟩]] w fun e w' => ∃ a c, e = .returned (.tuple #[.agg #[.slice a (putF xs ⟨n, (⟨#[]⟩ : ByteArray) ++ t, 0⟩).length c], .bool true]) ∧ OwnFls w' w.heap.size (.slice a (putF xs ⟨n, (⟨#[]⟩ : ByteArray) ++ t, 0⟩).length c) (putF xs ⟨n, (⟨#[]⟩ : ByteArray) ++ t, 0⟩) ∧ Ext w w' := by
  have HE := Lib.hid he
  have HO := Lib.hid ho
  have HYO := Lib.hid hyo
  have HN := Lib.hid hn
  clear he ho hyo hn
  obtain ⟨a1, c1, rfl⟩ := h.form
  have P2 := Bx.new w #[.slice a1 xs.length c1] 38
  have P3 := Bx.new (w.alloc (Obj.cells #[.slice a1 xs.length c1] 38)) #[.int .i64 1, .string n, .string t, .string ⟨#[]⟩] 75
  have P4 := Bx.new ((w.alloc (Obj.cells #[.slice a1 xs.length c1] 38)).alloc (Obj.cells #[.int .i64 1, .string n, .string t, .string ⟨#[]⟩] 75)) #[.slice none 0 0] 38
  have X : Ext w (((w.alloc (Obj.cells #[.slice a1 xs.length c1] 38)).alloc (Obj.cells #[.int .i64 1, .string n, .string t, .string ⟨#[]⟩] 75)).alloc (Obj.cells #[.slice none 0 0] 38)) := (((Ext.refl w).alloc _).alloc _).alloc _
  replace P2 := P2.ext (show Ext _ (((w.alloc (Obj.cells #[.slice a1 xs.length c1] 38)).alloc (Obj.cells #[.int .i64 1, .string n, .string t, .string ⟨#[]⟩] 75)).alloc (Obj.cells #[.slice none 0 0] 38)) from ((Ext.refl _).alloc _).alloc _)
  replace P3 := P3.ext (show Ext _ (((w.alloc (Obj.cells #[.slice a1 xs.length c1] 38)).alloc (Obj.cells #[.int .i64 1, .string n, .string t, .string ⟨#[]⟩] 75)).alloc (Obj.cells #[.slice none 0 0] 38)) from (Ext.refl _).alloc _)
  rw [World.size_alloc] at P3
  rw [World.size_alloc, World.size_alloc] at P4
  go_enter Try.func85, Try.ntmps85
  go_wp2_with fail
  generalize ((w.alloc (Obj.cells #[.slice a1 xs.length c1] 38)).alloc (Obj.cells #[.int .i64 1, .string n, .string t, .string ⟨#[]⟩] 75)).alloc (Obj.cells #[.slice none 0 0] 38) = w0 at *
  have z2 := P2.2.1 0 _ rfl
  refine (spec_DiskOk _ xs _ (h.ext X) hs).mono ?_
  rw [HO.out]
  rintro e w1 ⟨rfl, x1⟩
  clear z2
  replace P2 := P2.ext x1
  replace P3 := P3.ext x1
  replace P4 := P4.ext x1
  replace X := X.trans x1
  have z2 := P2.2.1 0 _ rfl
  have z30 := P3.2.1 0 _ rfl
  have z31 := P3.2.1 1 _ rfl
  have z32 := P3.2.1 2 _ rfl
  have z33 := P3.2.1 3 _ rfl
  go_wp2_with fail
  refine (spec_l06Name _ _).mono ?_
  rw [HN.out]
  rintro e w' ⟨rfl, rfl⟩
  go_wp2_with fail
  refine (spec_l06At _ xs n _ (h.ext X)).mono ?_
  rw [HE.out]
  rintro e w3 ⟨rfl, x3⟩
  clear z2 z30 z31 z32 z33
  replace P2 := P2.ext x3
  replace P3 := P3.ext x3
  replace P4 := P4.ext x3
  replace X := X.trans x3
  have z2 := P2.2.1 0 _ rfl
  have z30 := P3.2.1 0 _ rfl
  have z31 := P3.2.1 1 _ rfl
  have z32 := P3.2.1 2 _ rfl
  have z33 := P3.2.1 3 _ rfl
  have P7 := Bx.new w3 #[.string n, .string ⟨#[]⟩, .int .i64 0] 113
  have x4 : Ext w3 (w3.alloc (Obj.cells #[.string n, .string ⟨#[]⟩, .int .i64 0] 113)) := (Ext.refl _).alloc _
  have l4 := P4.1
  replace P2 := P2.ext x4
  replace P3 := P3.ext x4
  replace P4 := P4.ext x4
  replace X := X.trans x4
  go_upto_region 5 with (fail)
  generalize w3.alloc (Obj.cells #[.string n, .string ⟨#[]⟩, .int .i64 0] 113) = w4 at *
  generalize w3.heap.size = B7 at *
  clear z2 z30 z31 z32 z33
  have z2 := P2.2.1 0 _ rfl
  have z30 := P3.2.1 0 _ rfl
  have z31 := P3.2.1 1 _ rfl
  have z32 := P3.2.1 2 _ rfl
  have z33 := P3.2.1 3 _ rfl
  go_upto_region 7 with (fail)
  generalize w4 = w5 at *
  clear z2 z30 z31 z32 z33
  have P8 := Bx.new w5 #[.slice none 0 0] 38
  have l7 := P7.1
  have x6 : Ext w5 (w5.alloc (Obj.cells #[.slice none 0 0] 38)) := (Ext.refl _).alloc _
  replace P2 := P2.ext x6
  replace P3 := P3.ext x6
  replace P4 := P4.ext x6
  replace P7 := P7.ext x6
  replace X := X.trans x6
  go_upto_region 9 with (fail)
  generalize w5.alloc (Obj.cells #[.slice none 0 0] 38) = w6 at *
  generalize w5.heap.size = B8 at *
  have z2 := P2.2.1 0 _ rfl
  have z30 := P3.2.1 0 _ rfl
  have z31 := P3.2.1 1 _ rfl
  have z32 := P3.2.1 2 _ rfl
  have z33 := P3.2.1 3 _ rfl
  have z70 := P7.2.1 0 _ rfl
  have z71 := P7.2.1 1 _ rfl
  have z72 := P7.2.1 2 _ rfl
  have f71 := P7.2.2 1
  have f72 := P7.2.2 2
  have hm : ¬ (9223372036854775807 < (⟨#[]⟩ : ByteArray).size + t.size) := by have : (⟨#[]⟩ : ByteArray).size = 0 := rfl; omega
  have X5 : Ext w (w6.setCell ⟨B7, 1, none⟩ (.string ((⟨#[]⟩ : ByteArray) ++ t))) := X.setCell (by dsimp only; omega) _
  have P75 : Bx (w6.setCell ⟨B7, 1, none⟩ (.string ((⟨#[]⟩ : ByteArray) ++ t))) B7 [.string n, .string ((⟨#[]⟩ : ByteArray) ++ t), .int .i64 0] := P7.set 1 (.string ((⟨#[]⟩ : ByteArray) ++ t)) (by simp)
  have P25 := P2.far (c := B7) (by omega) 1 (.string ((⟨#[]⟩ : ByteArray) ++ t))
  have P35 := P3.far (c := B7) (by omega) 1 (.string ((⟨#[]⟩ : ByteArray) ++ t))
  have P45 := P4.far (c := B7) (by omega) 1 (.string ((⟨#[]⟩ : ByteArray) ++ t))
  have P85 := P8.far (c := B7) (by omega) 1 (.string ((⟨#[]⟩ : ByteArray) ++ t))
  clear P7 P2 P3 P4 X P8
  have X := X5
  have P7 := P75
  have P2 := P25
  have P3 := P35
  have P4 := P45
  have P8 := P85
  clear X5 P75 P25 P35 P45 P85
  go_upto_region 11 with (fail)
  generalize w6.setCell ⟨B7, 1, none⟩ (.string ((⟨#[]⟩ : ByteArray) ++ t)) = w7 at *
  clear z2 z30 z31 z32 z33 z70 z71 z72 f71 f72 hm
  have z2 := P2.2.1 0 _ rfl
  have z30 := P3.2.1 0 _ rfl
  have z31 := P3.2.1 1 _ rfl
  have z32 := P3.2.1 2 _ rfl
  have z33 := P3.2.1 3 _ rfl
  have z70 := P7.2.1 0 _ rfl
  have z71 := P7.2.1 1 _ rfl
  have z72 := P7.2.1 2 _ rfl
  go_wp2_with fail
  refine (spec_l06Put _ xs ⟨n, (⟨#[]⟩ : ByteArray) ++ t, 0⟩ _ (h.ext X) hb).mono ?_
  rintro e w8 ⟨ya, yc, rfl, ow, x8⟩
  have s7 := P8.1
  have s4 := P4.1
  clear z2 z30 z31 z32 z33 z70 z71 z72
  replace P8 := P8.ext x8
  replace P4 := P4.ext x8
  replace X := X.trans x8
  replace P3 := P3.ext x8
  generalize hYS : (putF xs ⟨n, (⟨#[]⟩ : ByteArray) ++ t, 0⟩) = ys at *
  have HYS := Lib.hid hYS
  clear hYS
  have OW := Lib.hid (own_below ow (p := ⟨B8, 0, none⟩) (u := .slice ya ys.length yc) (by dsimp only; omega))
  have z8 := P8.2.1 0 _ rfl
  have f8 := P8.2.2 0
  have X5 := X.setCell (p := ⟨B8, 0, none⟩) (by dsimp only; omega) (.slice ya ys.length yc)
  have P85 := P8.set 0 (.slice ya ys.length yc) (by simp)
  have P45 := P4.far (c := B8) (by omega) 0 (.slice ya ys.length yc)
  clear ow P8 P4 X
  have X := X5
  have P8 := P85
  have P4 := P45
  clear X5 P85 P45
  go_upto_region 24 with (fail)
  generalize w8.setCell ⟨B8, 0, none⟩ (.slice ya ys.length yc) = w9 at *
  clear z8 f8
  have z8 := P8.2.1 0 _ rfl
  go_wp2_with fail
  refine (spec_DiskOk _ ys _ (Row.of_owns OW.out) hys).mono ?_
  rw [HYO.out]
  rintro e w10 ⟨rfl, x10⟩
  replace P8 := P8.ext x10
  replace P4 := P4.ext x10
  replace X := X.trans x10
  replace OW := Lib.hid (own_ext OW.out x10)
  clear x10 z8
  have z8 := P8.2.1 0 _ rfl
  have z4 := P4.2.1 0 _ rfl
  have f4 := P4.2.2 0
  have XF := X.setCell (p := ⟨w.heap.size + 1 + 1, 0, none⟩) (by dsimp only; omega) (.slice ya ys.length yc)
  have RF := P4.set 0 (.slice ya ys.length yc) (by simp)
  have OF := Lib.hid (own_mono (own_below OW.out (p := ⟨w.heap.size + 1 + 1, 0, none⟩) (u := .slice ya ys.length yc) (by dsimp only; omega)) (show w.heap.size ≤ w7.heap.size by omega))
  go_wp2
  generalize w10.setCell ⟨w.heap.size + 1 + 1, 0, none⟩ (.slice ya ys.length yc) = WF at *
  have k0 := RF.2.1 0 _ rfl
  refine bodyPost_ret (v := .tuple #[.agg #[.slice ya ys.length yc], .bool true]) (by simp [results, Try.results85, go_sem, k0]) rfl ?_
  rw [HYS.out]
  exact ⟨ya, yc, rfl, OF.out, XF⟩

set_option maxRecDepth 100000 in
set_option maxHeartbeats 1600000 in
theorem spec_DoAct_keep (v : Value) (xs : List Fil) (n : ByteArray) (k : Nat) (hk : k < xs.length) (he : fAt xs n = k) (w : World) (h : Fls w v xs) (hs : FilFit xs) (ho : diskOk xs = true) (hn : inB n.size 1 8 = true) (hyo : diskOk (putF xs ⟨xs[k].name, xs[k].text, xs[k].text.size⟩) = true) (hys : FilFit (putF xs ⟨xs[k].name, xs[k].text, xs[k].text.size⟩)) (hb : xs.length ≤ 30) :
    Calls Try.prog 85 #[.agg #[v], .agg #[.int .i64 2, .string n, .string ⟨#[]⟩, .string ⟨#[]⟩]] w fun e w' => ∃ a c, e = .returned (.tuple #[.agg #[.slice a (putF xs ⟨xs[k].name, xs[k].text, xs[k].text.size⟩).length c], .bool true]) ∧ OwnFls w' w.heap.size (.slice a (putF xs ⟨xs[k].name, xs[k].text, xs[k].text.size⟩).length c) (putF xs ⟨xs[k].name, xs[k].text, xs[k].text.size⟩) ∧ Ext w w' := by
  have HE := Lib.hid he
  have HO := Lib.hid ho
  have HYO := Lib.hid hyo
  have HN := Lib.hid hn
  clear he ho hyo hn
  obtain ⟨-, a1, c1, rfl, -, hm1, g1⟩ := id h
  unfold maxLen at hm1
  have P2 := Bx.new w #[.slice a1 xs.length c1] 38
  have P3 := Bx.new (w.alloc (Obj.cells #[.slice a1 xs.length c1] 38)) #[.int .i64 2, .string n, .string ⟨#[]⟩, .string ⟨#[]⟩] 75
  have P4 := Bx.new ((w.alloc (Obj.cells #[.slice a1 xs.length c1] 38)).alloc (Obj.cells #[.int .i64 2, .string n, .string ⟨#[]⟩, .string ⟨#[]⟩] 75)) #[.slice none 0 0] 38
  have X : Ext w (((w.alloc (Obj.cells #[.slice a1 xs.length c1] 38)).alloc (Obj.cells #[.int .i64 2, .string n, .string ⟨#[]⟩, .string ⟨#[]⟩] 75)).alloc (Obj.cells #[.slice none 0 0] 38)) := (((Ext.refl w).alloc _).alloc _).alloc _
  replace P2 := P2.ext (show Ext _ (((w.alloc (Obj.cells #[.slice a1 xs.length c1] 38)).alloc (Obj.cells #[.int .i64 2, .string n, .string ⟨#[]⟩, .string ⟨#[]⟩] 75)).alloc (Obj.cells #[.slice none 0 0] 38)) from ((Ext.refl _).alloc _).alloc _)
  replace P3 := P3.ext (show Ext _ (((w.alloc (Obj.cells #[.slice a1 xs.length c1] 38)).alloc (Obj.cells #[.int .i64 2, .string n, .string ⟨#[]⟩, .string ⟨#[]⟩] 75)).alloc (Obj.cells #[.slice none 0 0] 38)) from (Ext.refl _).alloc _)
  rw [World.size_alloc] at P3
  rw [World.size_alloc, World.size_alloc] at P4
  go_enter Try.func85, Try.ntmps85
  go_wp2_with fail
  generalize ((w.alloc (Obj.cells #[.slice a1 xs.length c1] 38)).alloc (Obj.cells #[.int .i64 2, .string n, .string ⟨#[]⟩, .string ⟨#[]⟩] 75)).alloc (Obj.cells #[.slice none 0 0] 38) = w0 at *
  have z2 := P2.2.1 0 _ rfl
  refine (spec_DiskOk _ xs _ (h.ext X) hs).mono ?_
  rw [HO.out]
  rintro e w1 ⟨rfl, x1⟩
  clear z2
  replace P2 := P2.ext x1
  replace P3 := P3.ext x1
  replace P4 := P4.ext x1
  replace X := X.trans x1
  have z2 := P2.2.1 0 _ rfl
  have z30 := P3.2.1 0 _ rfl
  have z31 := P3.2.1 1 _ rfl
  have z32 := P3.2.1 2 _ rfl
  have z33 := P3.2.1 3 _ rfl
  go_wp2_with fail
  refine (spec_l06Name _ _).mono ?_
  rw [HN.out]
  rintro e w' ⟨rfl, rfl⟩
  go_wp2_with fail
  refine (spec_l06At _ xs n _ (h.ext X)).mono ?_
  rw [HE.out]
  rintro e w3 ⟨rfl, x3⟩
  clear z2 z30 z31 z32 z33
  replace P2 := P2.ext x3
  replace P3 := P3.ext x3
  replace P4 := P4.ext x3
  replace X := X.trans x3
  have z2 := P2.2.1 0 _ rfl
  have z30 := P3.2.1 0 _ rfl
  have z31 := P3.2.1 1 _ rfl
  have z32 := P3.2.1 2 _ rfl
  have z33 := P3.2.1 3 _ rfl
  have P7 := Bx.new w3 #[.string n, .string ⟨#[]⟩, .int .i64 0] 113
  have x4 : Ext w3 (w3.alloc (Obj.cells #[.string n, .string ⟨#[]⟩, .int .i64 0] 113)) := (Ext.refl _).alloc _
  have l4 := P4.1
  replace P2 := P2.ext x4
  replace P3 := P3.ext x4
  replace P4 := P4.ext x4
  replace X := X.trans x4
  have hk0 : decide ((0 : Int) ≤ (k : Int)) = true := by simp
  have k1 : (0 : Int) ≤ k := by omega
  have k2 : (k : Int) < xs.length := by omega
  go_upto_region 5 with (fail)
  generalize w3.alloc (Obj.cells #[.string n, .string ⟨#[]⟩, .int .i64 0] 113) = w4 at *
  generalize w3.heap.size = B7 at *
  clear z2 z30 z31 z32 z33
  have z2 := P2.2.1 0 _ rfl
  have z30 := P3.2.1 0 _ rfl
  have z31 := P3.2.1 1 _ rfl
  have z32 := P3.2.1 2 _ rfl
  have z33 := P3.2.1 3 _ rfl
  rcases g1 with g1 | ⟨b1, o1, rfl, hb1, g1⟩
  · omega
  have e0 : w4.cell? ⟨b1, o1 + k * 3, none⟩ = some (.string xs[k].name) := (X.cell b1 _ hb1).trans (g1 _ _ (fil_c0 xs k hk))
  have e1 : w4.cell? ⟨b1, o1 + k * 3 + 1, none⟩ = some (.string xs[k].text) := (X.cell b1 _ hb1).trans (g1 _ _ (fil_c1 xs k hk))
  have e2 : w4.cell? ⟨b1, o1 + k * 3 + 2, none⟩ = some (.int .i64 xs[k].kept) := (X.cell b1 _ hb1).trans (g1 _ _ (fil_c2 xs k hk))
  clear g1
  have z70 := P7.2.1 0 _ rfl
  have z71 := P7.2.1 1 _ rfl
  have z72 := P7.2.1 2 _ rfl
  have f70 := P7.2.2 0
  have f71 := P7.2.2 1
  have f72 := P7.2.2 2
  have X5 : Ext w (((w4.setCell ⟨B7, 0, none⟩ (.string xs[k].name)).setCell ⟨B7, 1, none⟩ (.string xs[k].text)).setCell ⟨B7, 2, none⟩ (.int .i64 xs[k].kept)) := (((X.setCell (by dsimp only; omega) (.string xs[k].name)).setCell (by dsimp only; omega) (.string xs[k].text)).setCell (by dsimp only; omega) (.int .i64 xs[k].kept))
  have P75 : Bx (((w4.setCell ⟨B7, 0, none⟩ (.string xs[k].name)).setCell ⟨B7, 1, none⟩ (.string xs[k].text)).setCell ⟨B7, 2, none⟩ (.int .i64 xs[k].kept)) B7 [.string xs[k].name, .string xs[k].text, .int .i64 xs[k].kept] := (((P7.set 0 (.string xs[k].name) (by simp)).set 1 (.string xs[k].text) (by simp)).set 2 (.int .i64 xs[k].kept) (by simp))
  have P25 := (((P2.far (c := B7) (by omega) 0 (.string xs[k].name)).far (c := B7) (by omega) 1 (.string xs[k].text)).far (c := B7) (by omega) 2 (.int .i64 xs[k].kept))
  have P35 := (((P3.far (c := B7) (by omega) 0 (.string xs[k].name)).far (c := B7) (by omega) 1 (.string xs[k].text)).far (c := B7) (by omega) 2 (.int .i64 xs[k].kept))
  have P45 := (((P4.far (c := B7) (by omega) 0 (.string xs[k].name)).far (c := B7) (by omega) 1 (.string xs[k].text)).far (c := B7) (by omega) 2 (.int .i64 xs[k].kept))
  clear P7 P2 P3 P4 X
  have X := X5
  have P7 := P75
  have P2 := P25
  have P3 := P35
  have P4 := P45
  clear X5 P75 P25 P35 P45
  go_upto_region 7 with (fail)
  generalize ((w4.setCell ⟨B7, 0, none⟩ (.string xs[k].name)).setCell ⟨B7, 1, none⟩ (.string xs[k].text)).setCell ⟨B7, 2, none⟩ (.int .i64 xs[k].kept) = w5 at *
  clear z2 z30 z31 z32 z33 z70 z71 z72 f70 f71 f72 e0 e1 e2
  have P8 := Bx.new w5 #[.slice none 0 0] 38
  have l7 := P7.1
  have x6 : Ext w5 (w5.alloc (Obj.cells #[.slice none 0 0] 38)) := (Ext.refl _).alloc _
  replace P2 := P2.ext x6
  replace P3 := P3.ext x6
  replace P4 := P4.ext x6
  replace P7 := P7.ext x6
  replace X := X.trans x6
  go_upto_region 9 with (fail)
  generalize w5.alloc (Obj.cells #[.slice none 0 0] 38) = w6 at *
  generalize w5.heap.size = B8 at *
  have z2 := P2.2.1 0 _ rfl
  have z30 := P3.2.1 0 _ rfl
  have z31 := P3.2.1 1 _ rfl
  have z32 := P3.2.1 2 _ rfl
  have z33 := P3.2.1 3 _ rfl
  have z70 := P7.2.1 0 _ rfl
  have z71 := P7.2.1 1 _ rfl
  have z72 := P7.2.1 2 _ rfl
  have f71 := P7.2.2 1
  have f72 := P7.2.2 2
  have X5 : Ext w (w6.setCell ⟨B7, 2, none⟩ (.int .i64 xs[k].text.size)) := X.setCell (by dsimp only; omega) _
  have P75 : Bx (w6.setCell ⟨B7, 2, none⟩ (.int .i64 xs[k].text.size)) B7 [.string xs[k].name, .string xs[k].text, .int .i64 xs[k].text.size] := P7.set 2 (.int .i64 xs[k].text.size) (by simp)
  have P25 := P2.far (c := B7) (by omega) 2 (.int .i64 xs[k].text.size)
  have P35 := P3.far (c := B7) (by omega) 2 (.int .i64 xs[k].text.size)
  have P45 := P4.far (c := B7) (by omega) 2 (.int .i64 xs[k].text.size)
  have P85 := P8.far (c := B7) (by omega) 2 (.int .i64 xs[k].text.size)
  clear P7 P2 P3 P4 X P8
  have X := X5
  have P7 := P75
  have P2 := P25
  have P3 := P35
  have P4 := P45
  have P8 := P85
  clear X5 P75 P25 P35 P45 P85
  go_upto_region 16 with (fail)
  generalize w6.setCell ⟨B7, 2, none⟩ (.int .i64 xs[k].text.size) = w7 at *
  clear z2 z30 z31 z32 z33 z70 z71 z72 f71 f72
  have z2 := P2.2.1 0 _ rfl
  have z30 := P3.2.1 0 _ rfl
  have z31 := P3.2.1 1 _ rfl
  have z32 := P3.2.1 2 _ rfl
  have z33 := P3.2.1 3 _ rfl
  have z70 := P7.2.1 0 _ rfl
  have z71 := P7.2.1 1 _ rfl
  have z72 := P7.2.1 2 _ rfl
  go_wp2_with fail
  refine (spec_l06Put _ xs ⟨xs[k].name, xs[k].text, xs[k].text.size⟩ _ (h.ext X) hb).mono ?_
  rintro e w8 ⟨ya, yc, rfl, ow, x8⟩
  have s7 := P8.1
  have s4 := P4.1
  clear z2 z30 z31 z32 z33 z70 z71 z72
  replace P8 := P8.ext x8
  replace P4 := P4.ext x8
  replace X := X.trans x8
  replace P3 := P3.ext x8
  generalize hYS : (putF xs ⟨xs[k].name, xs[k].text, xs[k].text.size⟩) = ys at *
  have HYS := Lib.hid hYS
  clear hYS
  have OW := Lib.hid (own_below ow (p := ⟨B8, 0, none⟩) (u := .slice ya ys.length yc) (by dsimp only; omega))
  have z8 := P8.2.1 0 _ rfl
  have f8 := P8.2.2 0
  have X5 := X.setCell (p := ⟨B8, 0, none⟩) (by dsimp only; omega) (.slice ya ys.length yc)
  have P85 := P8.set 0 (.slice ya ys.length yc) (by simp)
  have P45 := P4.far (c := B8) (by omega) 0 (.slice ya ys.length yc)
  clear ow P8 P4 X
  have X := X5
  have P8 := P85
  have P4 := P45
  clear X5 P85 P45
  go_upto_region 24 with (fail)
  generalize w8.setCell ⟨B8, 0, none⟩ (.slice ya ys.length yc) = w9 at *
  clear z8 f8
  have z8 := P8.2.1 0 _ rfl
  go_wp2_with fail
  refine (spec_DiskOk _ ys _ (Row.of_owns OW.out) hys).mono ?_
  rw [HYO.out]
  rintro e w10 ⟨rfl, x10⟩
  replace P8 := P8.ext x10
  replace P4 := P4.ext x10
  replace X := X.trans x10
  replace OW := Lib.hid (own_ext OW.out x10)
  clear x10 z8
  have z8 := P8.2.1 0 _ rfl
  have z4 := P4.2.1 0 _ rfl
  have f4 := P4.2.2 0
  have XF := X.setCell (p := ⟨w.heap.size + 1 + 1, 0, none⟩) (by dsimp only; omega) (.slice ya ys.length yc)
  have RF := P4.set 0 (.slice ya ys.length yc) (by simp)
  have OF := Lib.hid (own_mono (own_below OW.out (p := ⟨w.heap.size + 1 + 1, 0, none⟩) (u := .slice ya ys.length yc) (by dsimp only; omega)) (show w.heap.size ≤ w7.heap.size by omega))
  go_wp2
  generalize w10.setCell ⟨w.heap.size + 1 + 1, 0, none⟩ (.slice ya ys.length yc) = WF at *
  have k0 := RF.2.1 0 _ rfl
  refine bodyPost_ret (v := .tuple #[.agg #[.slice ya ys.length yc], .bool true]) (by simp [results, Try.results85, go_sem, k0]) rfl ?_
  rw [HYS.out]
  exact ⟨ya, yc, rfl, OF.out, XF⟩
end Go.Proofs.Ytckipgijfgeghaa
