/- A file that is moved: the program. -/
import Derived.Test.YtckipgijfgeghaaActI
import Derived.Test.YtckipgijfgeghaaWout
import Derived.Deep.RegionHeld3
import Derived.Test.YtckipgijfgeghaaSlc
import Derived.Test.YtckipgijfgeghaaDskP
import Derived.Test.YtckipgijfgeghaaSgO
import Derived.Maps.AppendAt
import Derived.Deep.DeepCutAuto
namespace Go.Proofs.Ytckipgijfgeghaa
open Go.RowKit


set_option maxRecDepth 100000 in
set_option maxHeartbeats 1600000 in
theorem impl_DoAct_move1 (v : Value) (xs : List Fil) (n tn : ByteArray) (T : ByteArray) (k : Nat) (hxs : xs = [⟨n, T, T.size⟩]) (hk : k = 0) (hto : inB tn.size 1 8 = true) (hne : (tn.toList == n.toList) = false) (he : fAt xs n = k) (he2 : fAt xs tn = -1) (he3 : fAt [(⟨n, T, T.size⟩ : Fil)] n = 0) (w : World) (h : Fls w v xs) (hv : Solid v) (hs : FilFit xs) (ho : diskOk xs = true) (hn : inB n.size 1 8 = true) (hyo : diskOk [(⟨tn, T, T.size⟩ : Fil)] = true) (hys : FilFit [(⟨tn, T, T.size⟩ : Fil)]) (hyl : [(⟨tn, T, T.size⟩ : Fil)].length ≤ 2) (hb : xs.length ≤ 30) :
    Calls Try.prog 80 #[.agg #[v], .agg #[.int .i64 3, .string n, .string ⟨#[]⟩, .string tn]] w fun e w' => ∃ a c, e = .returned (.tuple #[.agg #[.slice a [(⟨tn, T, T.size⟩ : Fil)].length c], .bool true]) ∧ OwnFls w' w.heap.size (.slice a [(⟨tn, T, T.size⟩ : Fil)].length c) [(⟨tn, T, T.size⟩ : Fil)] ∧ Ext w w' := by
  have HM := Lib.hid (show [(⟨tn, T, T.size⟩ : Fil)].length = 1 from rfl)
  rw [HM.out] at hyl
  have HE := Lib.hid he
  have HE2 := Lib.hid he2
  have HE3 := Lib.hid he3
  have HTO := Lib.hid hto
  have HXS := Lib.hid hxs
  have hkl : k < xs.length := by rw [hxs]; simp; omega
  have hxk : xs[k] = ⟨n, T, T.size⟩ := by subst hxs hk; rfl
  clear hk
  have HXL := Lib.hid (show xs.length = 1 by rw [hxs]; rfl)
  have hxl : xs.length = 1 := HXL.out
  have HO := Lib.hid ho
  have HYO := Lib.hid hyo
  clear he ho hyo he2 he3 hxs hxl
  obtain ⟨i0, hi, hz0, hz1, hz2⟩ := info_parts infoFil
  obtain ⟨a1, c1, rfl⟩ := h.form
  have P2 := Bx.new w #[.slice a1 xs.length c1] 38
  have P3 := Bx.new (w.alloc (Obj.cells #[.slice a1 xs.length c1] 38)) #[.int .i64 3, .string n, .string ⟨#[]⟩, .string tn] 75
  have P4 := Bx.new ((w.alloc (Obj.cells #[.slice a1 xs.length c1] 38)).alloc (Obj.cells #[.int .i64 3, .string n, .string ⟨#[]⟩, .string tn] 75)) #[.slice none 0 0] 38
  have X : Ext w (((w.alloc (Obj.cells #[.slice a1 xs.length c1] 38)).alloc (Obj.cells #[.int .i64 3, .string n, .string ⟨#[]⟩, .string tn] 75)).alloc (Obj.cells #[.slice none 0 0] 38)) := (((Ext.refl w).alloc _).alloc _).alloc _
  replace P2 := P2.ext (show Ext _ (((w.alloc (Obj.cells #[.slice a1 xs.length c1] 38)).alloc (Obj.cells #[.int .i64 3, .string n, .string ⟨#[]⟩, .string tn] 75)).alloc (Obj.cells #[.slice none 0 0] 38)) from ((Ext.refl _).alloc _).alloc _)
  replace P3 := P3.ext (show Ext _ (((w.alloc (Obj.cells #[.slice a1 xs.length c1] 38)).alloc (Obj.cells #[.int .i64 3, .string n, .string ⟨#[]⟩, .string tn] 75)).alloc (Obj.cells #[.slice none 0 0] 38)) from (Ext.refl _).alloc _)
  rw [World.size_alloc] at P3
  rw [World.size_alloc, World.size_alloc] at P4
  go_enter Try.func80, Try.ntmps80
  go_wp2_with fail
  generalize ((w.alloc (Obj.cells #[.slice a1 xs.length c1] 38)).alloc (Obj.cells #[.int .i64 3, .string n, .string ⟨#[]⟩, .string tn] 75)).alloc (Obj.cells #[.slice none 0 0] 38) = w0 at *
  refine (impl_fileAt _ xs n _ (h.ext X)).mono ?_
  rw [HE.out]
  rintro e w1 ⟨rfl, x1⟩
  replace P2 := P2.ext x1
  replace P3 := P3.ext x1
  replace P4 := P4.ext x1
  replace X := X.trans x1
  clear x1
  have z2 := P2.2.1 0 _ rfl
  have z30 := P3.2.1 0 _ rfl
  have z31 := P3.2.1 1 _ rfl
  have z32 := P3.2.1 2 _ rfl
  have z33 := P3.2.1 3 _ rfl
  go_wp2_with fail
  refine (impl_DiskOk _ xs _ (h.ext X) hs).mono ?_
  rw [HO.out]
  rintro e w2 ⟨rfl, x2⟩
  replace P2 := P2.ext x2
  replace P3 := P3.ext x2
  replace P4 := P4.ext x2
  replace X := X.trans x2
  clear x2 z2 z30 z31 z32 z33
  have z2 := P2.2.1 0 _ rfl
  have z30 := P3.2.1 0 _ rfl
  have z31 := P3.2.1 1 _ rfl
  have z32 := P3.2.1 2 _ rfl
  have z33 := P3.2.1 3 _ rfl
  go_wp2_with fail
  refine (impl_actOk ⟨3, n, ⟨#[]⟩, tn⟩ _ hn (Or.inr (Or.inr ⟨rfl, rfl⟩))).mono ?_
  rintro e w3 ⟨rfl, x3⟩
  replace P2 := P2.ext x3
  replace P3 := P3.ext x3
  replace P4 := P4.ext x3
  replace X := X.trans x3
  clear x3 z2 z30 z31 z32 z33
  have z2 := P2.2.1 0 _ rfl
  have z30 := P3.2.1 0 _ rfl
  have z31 := P3.2.1 1 _ rfl
  have z32 := P3.2.1 2 _ rfl
  have z33 := P3.2.1 3 _ rfl
  have k0 : decide ((k : Int) < 0) = false := by simp
  have k1 : (0 : Int) ≤ k := by omega
  have k2 : (k : Int) < xs.length := by omega
  go_wp2_with fail
  refine (impl_copyDisk _ xs _ (h.ext X) hv hb).mono ?_
  rintro e w4 ⟨oa, oc, rfl, ow, x4⟩
  have XB := x4
  have hBz := x4.size
  have hB2 := P4.1
  replace P2 := P2.ext x4
  replace P3 := P3.ext x4
  replace P4 := P4.ext x4
  replace X := X.trans x4
  generalize hBB : w3.heap.size = B at *
  clear x4 z2 z30 z31 z32 z33
  have OW := Lib.hid (own_alloc ow (Obj.cells #[.slice oa xs.length oc] 38))
  have hlt := own_lt ow
  have P7 := Bx.new w4 #[.slice oa xs.length oc] 38
  have x5 : Ext w4 (w4.alloc (Obj.cells #[.slice oa xs.length oc] 38)) := (Ext.refl _).alloc _
  have hz5 : (w4.alloc (Obj.cells #[.slice oa xs.length oc] 38)).heap.size = w4.heap.size + 1 := World.size_alloc ..
  replace P2 := P2.ext x5
  replace P3 := P3.ext x5
  replace P4 := P4.ext x5
  replace X := X.trans x5
  replace XB := XB.trans x5
  go_upto_region 5 with (fail)
  generalize hW4 : w4.alloc (Obj.cells #[.slice oa xs.length oc] 38) = w5 at *
  have HW4 := Lib.hid hW4
  clear x5 ow hW4
  generalize w4.heap.size = C7 at *
  have HZ5 := Lib.hid hz5
  clear hz5
  have z30 := P3.2.1 0 _ rfl
  have z31 := P3.2.1 1 _ rfl
  have z32 := P3.2.1 2 _ rfl
  have z7 := P7.2.1 0 _ rfl
  have f7 := P7.2.2 0
  obtain ⟨g, cg, hg⟩ := own_form OW.out (by omega)
  injection hg with g1 g2 g3
  subst g1 g3
  clear g2
  have hgC : g ≠ C7 := fun e => by have := (hlt g rfl).2; omega
  have hgB : B ≤ g := (hlt g rfl).1
  have e0 : w5.cell? ⟨g, k * 3, none⟩ = some (.string n) := (OW.out.cellAt (k * 3) (by omega)).trans (by rw [fil_c0 xs k hkl, hxk])
  have e1 : w5.cell? ⟨g, k * 3 + 1, none⟩ = some (.string T) := (OW.out.cellAt (k * 3 + 1) (by omega)).trans (by rw [fil_c1 xs k hkl, hxk])
  have e2 : w5.cell? ⟨g, k * 3 + 2, none⟩ = some (.int .i64 T.size) := (OW.out.cellAt (k * 3 + 2) (by omega)).trans (by rw [fil_c2 xs k hkl, hxk])
  have P8 := Bx.new w5 #[.string n, .string T, .int .i64 T.size] 113
  have x6 : Ext w5 (w5.alloc (Obj.cells #[.string n, .string T, .int .i64 T.size] 113)) := (Ext.refl w5).alloc _
  replace P3 := P3.ext x6
  replace P4 := P4.ext x6
  replace P7 := P7.ext x6
  replace X := X.trans x6
  replace OW := Lib.hid (own_ext OW.out x6)
  clear x6
  go_upto_region 15 with (fail)
  generalize w5.alloc (Obj.cells #[.string n, .string T, .int .i64 T.size] 113) = w6 at *
  clear z30 z31 z32 z7 f7 e0 e1 e2 HW4
  have z31 := P3.2.1 1 _ rfl
  have z33 := P3.2.1 3 _ rfl
  have z81 := P8.2.1 1 _ rfl
  have z82 := P8.2.1 2 _ rfl
  have d1 : ((T.size : Int) != T.size) = false := by simp
  go_wp2_with fail
  refine (impl_isFileName _ _).mono ?_
  rw [HTO.out]
  rintro e w' ⟨rfl, rfl⟩
  have z7 := P7.2.1 0 _ rfl
  have FO := Lib.hid (fls_of OW.out rfl)
  go_wp2_with fail
  refine (impl_fileAt _ xs tn _ FO.out).mono ?_
  rw [HE2.out]
  rintro e w7 ⟨rfl, x7⟩
  replace P3 := P3.ext x7
  replace P4 := P4.ext x7
  replace P7 := P7.ext x7
  replace X := X.trans x7
  replace OW := Lib.hid (own_ext OW.out x7)
  clear x7 z31 z33 z81 z82 P8 FO z7 d1
  have OX9 := Lib.hid (show w7.ownsRow B 113 3 (.slice (some ⟨g, 0, none⟩) 1 oc) 1 ([⟨n, T, T.size⟩].flatMap Fil.cells) by have := OW.out; rw [HXS.out] at this; exact this)
  have P7x : Bx w7 C7 [.slice (some ⟨g, 0, none⟩) 1 oc] := by have := P7; rw [HXL.out] at this; exact this
  clear P7 OW
  have P7 := P7x
  clear P7x
  have hgC9 := hgC
  have hgB9 := hgB
  go_upto_region 20 with (fail)
  refine wp_region_held_drew (S := (fun W => W.cell? ⟨C7, 0, none⟩ = some (.slice (some ⟨g, 0, none⟩) 1 oc) ∧ W.cell? ⟨w.heap.size + 1, 1, none⟩ = some (.string n) ∧ W.cell? ⟨w.heap.size + 1, 3, none⟩ = some (.string tn))) (by kernel_rfl) (by exact ⟨P7.2.1 0 _ rfl, P3.2.1 1 _ rfl, P3.2.1 3 _ rfl⟩) (fun hHeld => ?_)
  have xd : Ext w7 w7.drew := (Ext.refl w7).drew
  replace P3 := P3.ext xd
  replace P4 := P4.ext xd
  replace P7 := P7.ext xd
  replace X := X.trans xd
  replace OX9 := Lib.hid (own_ext OX9.out xd)
  generalize w7.drew = y0 at *
  (refine wpAnyH_take (i := 0) (v := ?_) rfl (by kernel_rfl) (by kernel_rfl) (by kernel_rfl) (fun _ _ _ h => h) (Or.inl ⟨by rfl, ?_⟩) (by assumption) ?_; rotate_left; focus (intro w hSw; (try dsimp only at hSw); (try simp only [zk1, zk2]); go_simp; try with_reducible rfl)); (try simp only [zk1, zk2]); (try simp only [Act.put, zk4, zk5, zk6])
  (refine wpAnyH_take (i := 1) (v := ?_) rfl (by kernel_rfl) (by kernel_rfl) (by kernel_rfl) (fun _ _ _ h => h) (Or.inl ⟨by rfl, ?_⟩) (by assumption) ?_; rotate_left; focus (intro w hSw; (try dsimp only at hSw); (try simp only [zk1, zk2, zk3]); go_simp; try with_reducible rfl)); (try simp only [zk1, zk2, zk3]); (try simp only [Act.put, zk4, zk5, zk6])
  (refine wpAnyH_take (i := 2) (v := ?_) rfl (by kernel_rfl) (by kernel_rfl) (by kernel_rfl) (fun _ _ _ h => h) (Or.inl ⟨by rfl, ?_⟩) (by assumption) ?_; rotate_left; focus (intro w hSw; (try dsimp only at hSw); (try simp only [zk1, zk2, zk3]); go_simp; try with_reducible rfl)); (try simp only [zk1, zk2, zk3]); (try simp only [Act.put, zk4, zk5, zk6])
  (refine wpAnyH_take (i := 3) (v := ?_) rfl (by kernel_rfl) (by kernel_rfl) (by kernel_rfl) (fun _ _ _ h => h) (Or.inl ⟨by rfl, ?_⟩) (by assumption) ?_; rotate_left; focus (intro w hSw; (try dsimp only at hSw); (try simp only [zk1, zk2, zk3]); go_simp; try with_reducible rfl)); (try simp only [zk1, zk2, zk3]); (try simp only [Act.put, zk4, zk5, zk6])
  (refine wpAnyH_take (i := 4) (v := ?_) rfl (by kernel_rfl) (by kernel_rfl) (by kernel_rfl) (fun _ _ _ h => h) (Or.inl ⟨by rfl, ?_⟩) (by assumption) ?_; rotate_left; focus (intro w hSw; (try dsimp only at hSw); (try simp only [zk1, zk2, zk3]); go_simp; try with_reducible rfl)); (try simp only [zk1, zk2, zk3]); (try simp only [Act.put, zk4, zk5, zk6])
  (refine wpAnyH_take (i := 6) (v := ?_) rfl (by kernel_rfl) (by kernel_rfl) (by kernel_rfl) (fun _ _ _ h => h) (Or.inl ⟨by rfl, ?_⟩) (by assumption) ?_; rotate_left; focus (intro w hSw; (try dsimp only at hSw); (try simp only [zk1, zk2, zk3]); go_simp; try with_reducible rfl)); (try simp only [zk1, zk2, zk3]); (try simp only [Act.put, zk4, zk5, zk6])
  (refine wpAnyH_take (i := 7) (v := ?_) rfl (by kernel_rfl) (by kernel_rfl) (by kernel_rfl) (fun _ _ _ h => h) (Or.inl ⟨by rfl, ?_⟩) (by assumption) ?_; rotate_left; focus (intro w hSw; (try dsimp only at hSw); (try simp only [zk1, zk2, zk3]); go_simp; try with_reducible rfl)); (try simp only [zk1, zk2, zk3]); (try simp only [Act.put, zk4, zk5, zk6])
  (refine wpAnyH_ready (rs := [5]) (by kernel_rfl) (by simp) ?_; refine AllReadyH.cons rfl (fun K hK => ?_) AllReadyH.nil; (try simp only [zk1, zk2, zk3]))
  go_simp
  go_at_call 53
  refine (impl_fileAt _ [⟨n, T, T.size⟩] n _ (fls_of OX9.out rfl)).mono ?_
  rw [HE3.out]
  rintro e y1 ⟨rfl, x8⟩
  replace P3 := P3.ext x8
  replace P4 := P4.ext x8
  replace P7 := P7.ext x8
  replace X := X.trans x8
  replace OX9 := Lib.hid (own_ext OX9.out x8)
  (try dsimp only)
  refine hK.out _ _ (by exact ⟨P7.2.1 0 _ rfl, P3.2.1 1 _ rfl, P3.2.1 3 _ rfl⟩) (fun hHeld => ?_)
  clear hK K
  (refine wpAnyH_take (i := 8) (v := ?_) rfl (by kernel_rfl) (by kernel_rfl) (by kernel_rfl) (fun _ _ _ h => h) (Or.inl ⟨by rfl, ?_⟩) (by assumption) ?_; rotate_left; focus (intro w hSw; (try dsimp only at hSw); (try simp only [zk1, zk2, zk3]); go_simp; try with_reducible rfl)); (try simp only [zk1, zk2, zk3]); (try simp only [Act.put, zk4, zk5, zk6])
  (refine wpAnyH_take (i := 9) (v := ?_) rfl (by kernel_rfl) (by kernel_rfl) (by kernel_rfl) (fun _ _ _ h => h) (Or.inl ⟨by rfl, ?_⟩) (by assumption) ?_; rotate_left; focus (intro w hSw; (try dsimp only at hSw); (try simp only [zk1, zk2, zk3]); go_simp; try with_reducible rfl)); (try simp only [zk1, zk2, zk3]); (try simp only [Act.put, zk4, zk5, zk6])
  have n0 : y1.cell? ⟨g, 0, none⟩ = some (.string n) := OX9.out.cellAt 0 (by omega)
  have nf : y1.frozen? ⟨g, 0, none⟩ = false := OX9.out.frozenAt 0
  have S9 := Lib.hid ((OX9.out.stored 0 (.string tn)).1)
  have P3f := P3.far (c := g) (by omega) 0 (.string tn)
  have P4f := P4.far (c := g) (by omega) 0 (.string tn)
  have P7f := P7.far (c := g) hgC9 0 (.string tn)
  have Xf := X.setCell (p := ⟨g, 0, none⟩) (by dsimp only; omega) (.string tn)
  (refine wpAnyH_ready (rs := [10]) (by kernel_rfl) (by simp) ?_; refine AllReadyH.cons rfl (fun K hK => ?_) AllReadyH.nil; (try simp only [zk1, zk2, zk3]))
  go_simp
  clear n0 nf P3 P4 P7 X OX9
  have P3 := P3f
  have P4 := P4f
  have P7 := P7f
  have X := Xf
  clear P3f P4f P7f Xf
  generalize y1.setCell ⟨g, 0, none⟩ (.string tn) = w9 at *
  (try dsimp only)
  refine hK.out _ _ (by exact ⟨P7.2.1 0 _ rfl, P3.2.1 1 _ rfl, P3.2.1 3 _ rfl⟩) (fun hHeld => ?_)
  clear hK K
  refine wpAnyH_done (by kernel_rfl) ?_ _
  have OY := Lib.hid (show w9.ownsRow B 113 3 (.slice (some ⟨g, 0, none⟩) 1 oc) 1 ([(⟨tn, T, T.size⟩ : Fil)].flatMap Fil.cells) from S9.out)
  have FY := Lib.hid (fls_of (ys := [(⟨tn, T, T.size⟩ : Fil)]) OY.out rfl)
  have z30 := P3.2.1 0 _ rfl
  have z7 := P7.2.1 0 _ rfl
  obtain ⟨yc, hyc⟩ : ∃ yc, yc = oc := ⟨_, rfl⟩
  subst hyc
  -- the sort
  go_wp2_with fail
  refine (sort_ok _ _ _ C7 B [(⟨tn, T, T.size⟩ : Fil)] _ OY.out HYO.out HM.out hyl P7 hgC).mono ?_
  rintro e w7 ⟨rfl, x7⟩
  replace P4 := P4.ext x7
  replace P7 := P7.ext x7
  replace X := X.trans x7
  replace OY := Lib.hid (own_ext OY.out x7)
  replace FY := Lib.hid (FY.out.ext x7)
  clear x7
  have z7 := P7.2.1 0 _ rfl
  go_wp2_with fail
  refine (impl_DiskOk _ [(⟨tn, T, T.size⟩ : Fil)] _ FY.out hys).mono ?_
  rw [HYO.out]
  rintro e w8 ⟨rfl, x8⟩
  replace P4 := P4.ext x8
  replace P7 := P7.ext x8
  replace X := X.trans x8
  replace OY := Lib.hid (own_ext OY.out x8)
  clear x8 z7 FY
  have z7 := P7.2.1 0 _ rfl
  have z4 := P4.2.1 0 _ rfl
  have f4 := P4.2.2 0
  have XF := X.setCell (p := ⟨w.heap.size + 1 + 1, 0, none⟩) (by dsimp only; omega) (.slice (some ⟨g, 0, none⟩) 1 yc)
  have RF := P4.set 0 (.slice (some ⟨g, 0, none⟩) 1 yc) (by simp)
  have OF := Lib.hid (own_mono (own_below OY.out (p := ⟨w.heap.size + 1 + 1, 0, none⟩) (u := .slice (some ⟨g, 0, none⟩) 1 yc) (by dsimp only; omega)) (show w.heap.size ≤ B by omega))
  go_wp2
  generalize w8.setCell ⟨w.heap.size + 1 + 1, 0, none⟩ (.slice (some ⟨g, 0, none⟩) 1 yc) = WF at *
  have k0 := RF.2.1 0 _ rfl
  refine bodyPost_ret (v := .tuple #[.agg #[.slice (some ⟨g, 0, none⟩) 1 yc], .bool true]) (by simp [results, Try.results80, go_sem, k0]) rfl ?_
  exact ⟨_, yc, rfl, OF.out, XF⟩

set_option maxRecDepth 100000 in
set_option maxHeartbeats 1600000 in
theorem impl_DoAct_move2 (v : Value) (xs : List Fil) (n tn : ByteArray) (T T0 : ByteArray) (q0 : Int) (k : Nat) (hxs : xs = [⟨tn, T0, q0⟩, ⟨n, T, T.size⟩]) (hk : k = 1) (hto : inB tn.size 1 8 = true) (hne : (tn.toList == n.toList) = false) (he : fAt xs n = k) (he2 : fAt xs tn = 0) (he3 : fAt [(⟨n, T, T.size⟩ : Fil)] n = 0) (w : World) (h : Fls w v xs) (hv : Solid v) (hs : FilFit xs) (ho : diskOk xs = true) (hn : inB n.size 1 8 = true) (hyo : diskOk [(⟨tn, T, T.size⟩ : Fil)] = true) (hys : FilFit [(⟨tn, T, T.size⟩ : Fil)]) (hyl : [(⟨tn, T, T.size⟩ : Fil)].length ≤ 2) (hb : xs.length ≤ 30) :
    Calls Try.prog 80 #[.agg #[v], .agg #[.int .i64 3, .string n, .string ⟨#[]⟩, .string tn]] w fun e w' => ∃ a c, e = .returned (.tuple #[.agg #[.slice a [(⟨tn, T, T.size⟩ : Fil)].length c], .bool true]) ∧ OwnFls w' w.heap.size (.slice a [(⟨tn, T, T.size⟩ : Fil)].length c) [(⟨tn, T, T.size⟩ : Fil)] ∧ Ext w w' := by
  have HM := Lib.hid (show [(⟨tn, T, T.size⟩ : Fil)].length = 1 from rfl)
  rw [HM.out] at hyl
  have HE := Lib.hid he
  have HE2 := Lib.hid he2
  have HE3 := Lib.hid he3
  have HTO := Lib.hid hto
  have HXS := Lib.hid hxs
  have hkl : k < xs.length := by rw [hxs]; simp; omega
  have hxk : xs[k] = ⟨n, T, T.size⟩ := by subst hxs hk; rfl
  clear hk
  have HXL := Lib.hid (show xs.length = 2 by rw [hxs]; rfl)
  have hxl : xs.length = 2 := HXL.out
  have HO := Lib.hid ho
  have HYO := Lib.hid hyo
  clear he ho hyo he2 he3 hxs hxl
  obtain ⟨i0, hi, hz0, hz1, hz2⟩ := info_parts infoFil
  obtain ⟨a1, c1, rfl⟩ := h.form
  have P2 := Bx.new w #[.slice a1 xs.length c1] 38
  have P3 := Bx.new (w.alloc (Obj.cells #[.slice a1 xs.length c1] 38)) #[.int .i64 3, .string n, .string ⟨#[]⟩, .string tn] 75
  have P4 := Bx.new ((w.alloc (Obj.cells #[.slice a1 xs.length c1] 38)).alloc (Obj.cells #[.int .i64 3, .string n, .string ⟨#[]⟩, .string tn] 75)) #[.slice none 0 0] 38
  have X : Ext w (((w.alloc (Obj.cells #[.slice a1 xs.length c1] 38)).alloc (Obj.cells #[.int .i64 3, .string n, .string ⟨#[]⟩, .string tn] 75)).alloc (Obj.cells #[.slice none 0 0] 38)) := (((Ext.refl w).alloc _).alloc _).alloc _
  replace P2 := P2.ext (show Ext _ (((w.alloc (Obj.cells #[.slice a1 xs.length c1] 38)).alloc (Obj.cells #[.int .i64 3, .string n, .string ⟨#[]⟩, .string tn] 75)).alloc (Obj.cells #[.slice none 0 0] 38)) from ((Ext.refl _).alloc _).alloc _)
  replace P3 := P3.ext (show Ext _ (((w.alloc (Obj.cells #[.slice a1 xs.length c1] 38)).alloc (Obj.cells #[.int .i64 3, .string n, .string ⟨#[]⟩, .string tn] 75)).alloc (Obj.cells #[.slice none 0 0] 38)) from (Ext.refl _).alloc _)
  rw [World.size_alloc] at P3
  rw [World.size_alloc, World.size_alloc] at P4
  go_enter Try.func80, Try.ntmps80
  go_wp2_with fail
  generalize ((w.alloc (Obj.cells #[.slice a1 xs.length c1] 38)).alloc (Obj.cells #[.int .i64 3, .string n, .string ⟨#[]⟩, .string tn] 75)).alloc (Obj.cells #[.slice none 0 0] 38) = w0 at *
  refine (impl_fileAt _ xs n _ (h.ext X)).mono ?_
  rw [HE.out]
  rintro e w1 ⟨rfl, x1⟩
  replace P2 := P2.ext x1
  replace P3 := P3.ext x1
  replace P4 := P4.ext x1
  replace X := X.trans x1
  clear x1
  have z2 := P2.2.1 0 _ rfl
  have z30 := P3.2.1 0 _ rfl
  have z31 := P3.2.1 1 _ rfl
  have z32 := P3.2.1 2 _ rfl
  have z33 := P3.2.1 3 _ rfl
  go_wp2_with fail
  refine (impl_DiskOk _ xs _ (h.ext X) hs).mono ?_
  rw [HO.out]
  rintro e w2 ⟨rfl, x2⟩
  replace P2 := P2.ext x2
  replace P3 := P3.ext x2
  replace P4 := P4.ext x2
  replace X := X.trans x2
  clear x2 z2 z30 z31 z32 z33
  have z2 := P2.2.1 0 _ rfl
  have z30 := P3.2.1 0 _ rfl
  have z31 := P3.2.1 1 _ rfl
  have z32 := P3.2.1 2 _ rfl
  have z33 := P3.2.1 3 _ rfl
  go_wp2_with fail
  refine (impl_actOk ⟨3, n, ⟨#[]⟩, tn⟩ _ hn (Or.inr (Or.inr ⟨rfl, rfl⟩))).mono ?_
  rintro e w3 ⟨rfl, x3⟩
  replace P2 := P2.ext x3
  replace P3 := P3.ext x3
  replace P4 := P4.ext x3
  replace X := X.trans x3
  clear x3 z2 z30 z31 z32 z33
  have z2 := P2.2.1 0 _ rfl
  have z30 := P3.2.1 0 _ rfl
  have z31 := P3.2.1 1 _ rfl
  have z32 := P3.2.1 2 _ rfl
  have z33 := P3.2.1 3 _ rfl
  have k0 : decide ((k : Int) < 0) = false := by simp
  have k1 : (0 : Int) ≤ k := by omega
  have k2 : (k : Int) < xs.length := by omega
  go_wp2_with fail
  refine (impl_copyDisk _ xs _ (h.ext X) hv hb).mono ?_
  rintro e w4 ⟨oa, oc, rfl, ow, x4⟩
  have XB := x4
  have hBz := x4.size
  have hB2 := P4.1
  replace P2 := P2.ext x4
  replace P3 := P3.ext x4
  replace P4 := P4.ext x4
  replace X := X.trans x4
  generalize hBB : w3.heap.size = B at *
  clear x4 z2 z30 z31 z32 z33
  have OW := Lib.hid (own_alloc ow (Obj.cells #[.slice oa xs.length oc] 38))
  have hlt := own_lt ow
  have P7 := Bx.new w4 #[.slice oa xs.length oc] 38
  have x5 : Ext w4 (w4.alloc (Obj.cells #[.slice oa xs.length oc] 38)) := (Ext.refl _).alloc _
  have hz5 : (w4.alloc (Obj.cells #[.slice oa xs.length oc] 38)).heap.size = w4.heap.size + 1 := World.size_alloc ..
  replace P2 := P2.ext x5
  replace P3 := P3.ext x5
  replace P4 := P4.ext x5
  replace X := X.trans x5
  replace XB := XB.trans x5
  go_upto_region 5 with (fail)
  generalize hW4 : w4.alloc (Obj.cells #[.slice oa xs.length oc] 38) = w5 at *
  have HW4 := Lib.hid hW4
  clear x5 ow hW4
  generalize w4.heap.size = C7 at *
  have HZ5 := Lib.hid hz5
  clear hz5
  have z30 := P3.2.1 0 _ rfl
  have z31 := P3.2.1 1 _ rfl
  have z32 := P3.2.1 2 _ rfl
  have z7 := P7.2.1 0 _ rfl
  have f7 := P7.2.2 0
  obtain ⟨g, cg, hg⟩ := own_form OW.out (by omega)
  injection hg with g1 g2 g3
  subst g1 g3
  clear g2
  have hgC : g ≠ C7 := fun e => by have := (hlt g rfl).2; omega
  have hgB : B ≤ g := (hlt g rfl).1
  have e0 : w5.cell? ⟨g, k * 3, none⟩ = some (.string n) := (OW.out.cellAt (k * 3) (by omega)).trans (by rw [fil_c0 xs k hkl, hxk])
  have e1 : w5.cell? ⟨g, k * 3 + 1, none⟩ = some (.string T) := (OW.out.cellAt (k * 3 + 1) (by omega)).trans (by rw [fil_c1 xs k hkl, hxk])
  have e2 : w5.cell? ⟨g, k * 3 + 2, none⟩ = some (.int .i64 T.size) := (OW.out.cellAt (k * 3 + 2) (by omega)).trans (by rw [fil_c2 xs k hkl, hxk])
  have P8 := Bx.new w5 #[.string n, .string T, .int .i64 T.size] 113
  have x6 : Ext w5 (w5.alloc (Obj.cells #[.string n, .string T, .int .i64 T.size] 113)) := (Ext.refl w5).alloc _
  replace P3 := P3.ext x6
  replace P4 := P4.ext x6
  replace P7 := P7.ext x6
  replace X := X.trans x6
  replace OW := Lib.hid (own_ext OW.out x6)
  clear x6
  go_upto_region 15 with (fail)
  generalize w5.alloc (Obj.cells #[.string n, .string T, .int .i64 T.size] 113) = w6 at *
  clear z30 z31 z32 z7 f7 e0 e1 e2 HW4
  have z31 := P3.2.1 1 _ rfl
  have z33 := P3.2.1 3 _ rfl
  have z81 := P8.2.1 1 _ rfl
  have z82 := P8.2.1 2 _ rfl
  have d1 : ((T.size : Int) != T.size) = false := by simp
  go_wp2_with fail
  refine (impl_isFileName _ _).mono ?_
  rw [HTO.out]
  rintro e w' ⟨rfl, rfl⟩
  have z7 := P7.2.1 0 _ rfl
  have FO := Lib.hid (fls_of OW.out rfl)
  go_wp2_with fail
  refine (impl_fileAt _ xs tn _ FO.out).mono ?_
  rw [HE2.out]
  rintro e w7 ⟨rfl, x7⟩
  replace P3 := P3.ext x7
  replace P4 := P4.ext x7
  replace P7 := P7.ext x7
  replace X := X.trans x7
  replace OW := Lib.hid (own_ext OW.out x7)
  clear x7 z31 z33 z81 z82 P8 FO z7 d1
  have OX := Lib.hid (show w7.ownsRow B 113 3 (.slice (some ⟨g, 0, none⟩) 2 oc) 2 ([⟨tn, T0, q0⟩, ⟨n, T, T.size⟩].flatMap Fil.cells) by have := OW.out; rw [HXS.out] at this; exact this)
  have P7x : Bx w7 C7 [.slice (some ⟨g, 0, none⟩) 2 oc] := by have := P7; rw [HXL.out] at this; exact this
  clear P7
  go_wp2_with fail
  refine (impl_without C7 g oc B ⟨tn, T0, q0⟩ ⟨n, T, T.size⟩ _ P7x OX.out hgC).mono ?_
  rintro e w8 ⟨rfl, g9, c9, P7, ow9, hgC9, hgB9, hbx, hex⟩
  replace P3 := hbx _ _ (by omega) (by omega) P3
  replace P4 := hbx _ _ (by omega) (by omega) P4
  replace X := hex w (by omega) (by omega) X
  have OX9 := Lib.hid ow9
  clear ow9 hbx hex OX P7x OW
  go_upto_region 20 with (fail)
  refine wp_region_held_drew (S := (fun W => W.cell? ⟨C7, 0, none⟩ = some (.slice (some ⟨g9, 0, none⟩) 1 c9) ∧ W.cell? ⟨w.heap.size + 1, 1, none⟩ = some (.string n) ∧ W.cell? ⟨w.heap.size + 1, 3, none⟩ = some (.string tn))) (by kernel_rfl) (by exact ⟨P7.2.1 0 _ rfl, P3.2.1 1 _ rfl, P3.2.1 3 _ rfl⟩) (fun hHeld => ?_)
  have xd : Ext w8 w8.drew := (Ext.refl w8).drew
  replace P3 := P3.ext xd
  replace P4 := P4.ext xd
  replace P7 := P7.ext xd
  replace X := X.trans xd
  replace OX9 := Lib.hid (own_ext OX9.out xd)
  generalize w8.drew = y0 at *
  (refine wpAnyH_take (i := 0) (v := ?_) rfl (by kernel_rfl) (by kernel_rfl) (by kernel_rfl) (fun _ _ _ h => h) (Or.inl ⟨by rfl, ?_⟩) (by assumption) ?_; rotate_left; focus (intro w hSw; (try dsimp only at hSw); (try simp only [zk1, zk2]); go_simp; try with_reducible rfl)); (try simp only [zk1, zk2]); (try simp only [Act.put, zk4, zk5, zk6])
  (refine wpAnyH_take (i := 1) (v := ?_) rfl (by kernel_rfl) (by kernel_rfl) (by kernel_rfl) (fun _ _ _ h => h) (Or.inl ⟨by rfl, ?_⟩) (by assumption) ?_; rotate_left; focus (intro w hSw; (try dsimp only at hSw); (try simp only [zk1, zk2, zk3]); go_simp; try with_reducible rfl)); (try simp only [zk1, zk2, zk3]); (try simp only [Act.put, zk4, zk5, zk6])
  (refine wpAnyH_take (i := 2) (v := ?_) rfl (by kernel_rfl) (by kernel_rfl) (by kernel_rfl) (fun _ _ _ h => h) (Or.inl ⟨by rfl, ?_⟩) (by assumption) ?_; rotate_left; focus (intro w hSw; (try dsimp only at hSw); (try simp only [zk1, zk2, zk3]); go_simp; try with_reducible rfl)); (try simp only [zk1, zk2, zk3]); (try simp only [Act.put, zk4, zk5, zk6])
  (refine wpAnyH_take (i := 3) (v := ?_) rfl (by kernel_rfl) (by kernel_rfl) (by kernel_rfl) (fun _ _ _ h => h) (Or.inl ⟨by rfl, ?_⟩) (by assumption) ?_; rotate_left; focus (intro w hSw; (try dsimp only at hSw); (try simp only [zk1, zk2, zk3]); go_simp; try with_reducible rfl)); (try simp only [zk1, zk2, zk3]); (try simp only [Act.put, zk4, zk5, zk6])
  (refine wpAnyH_take (i := 4) (v := ?_) rfl (by kernel_rfl) (by kernel_rfl) (by kernel_rfl) (fun _ _ _ h => h) (Or.inl ⟨by rfl, ?_⟩) (by assumption) ?_; rotate_left; focus (intro w hSw; (try dsimp only at hSw); (try simp only [zk1, zk2, zk3]); go_simp; try with_reducible rfl)); (try simp only [zk1, zk2, zk3]); (try simp only [Act.put, zk4, zk5, zk6])
  (refine wpAnyH_take (i := 6) (v := ?_) rfl (by kernel_rfl) (by kernel_rfl) (by kernel_rfl) (fun _ _ _ h => h) (Or.inl ⟨by rfl, ?_⟩) (by assumption) ?_; rotate_left; focus (intro w hSw; (try dsimp only at hSw); (try simp only [zk1, zk2, zk3]); go_simp; try with_reducible rfl)); (try simp only [zk1, zk2, zk3]); (try simp only [Act.put, zk4, zk5, zk6])
  (refine wpAnyH_take (i := 7) (v := ?_) rfl (by kernel_rfl) (by kernel_rfl) (by kernel_rfl) (fun _ _ _ h => h) (Or.inl ⟨by rfl, ?_⟩) (by assumption) ?_; rotate_left; focus (intro w hSw; (try dsimp only at hSw); (try simp only [zk1, zk2, zk3]); go_simp; try with_reducible rfl)); (try simp only [zk1, zk2, zk3]); (try simp only [Act.put, zk4, zk5, zk6])
  (refine wpAnyH_ready (rs := [5]) (by kernel_rfl) (by simp) ?_; refine AllReadyH.cons rfl (fun K hK => ?_) AllReadyH.nil; (try simp only [zk1, zk2, zk3]))
  go_simp
  go_at_call 53
  refine (impl_fileAt _ [⟨n, T, T.size⟩] n _ (fls_of OX9.out rfl)).mono ?_
  rw [HE3.out]
  rintro e y1 ⟨rfl, x8⟩
  replace P3 := P3.ext x8
  replace P4 := P4.ext x8
  replace P7 := P7.ext x8
  replace X := X.trans x8
  replace OX9 := Lib.hid (own_ext OX9.out x8)
  (try dsimp only)
  refine hK.out _ _ (by exact ⟨P7.2.1 0 _ rfl, P3.2.1 1 _ rfl, P3.2.1 3 _ rfl⟩) (fun hHeld => ?_)
  clear hK K
  (refine wpAnyH_take (i := 8) (v := ?_) rfl (by kernel_rfl) (by kernel_rfl) (by kernel_rfl) (fun _ _ _ h => h) (Or.inl ⟨by rfl, ?_⟩) (by assumption) ?_; rotate_left; focus (intro w hSw; (try dsimp only at hSw); (try simp only [zk1, zk2, zk3]); go_simp; try with_reducible rfl)); (try simp only [zk1, zk2, zk3]); (try simp only [Act.put, zk4, zk5, zk6])
  (refine wpAnyH_take (i := 9) (v := ?_) rfl (by kernel_rfl) (by kernel_rfl) (by kernel_rfl) (fun _ _ _ h => h) (Or.inl ⟨by rfl, ?_⟩) (by assumption) ?_; rotate_left; focus (intro w hSw; (try dsimp only at hSw); (try simp only [zk1, zk2, zk3]); go_simp; try with_reducible rfl)); (try simp only [zk1, zk2, zk3]); (try simp only [Act.put, zk4, zk5, zk6])
  have n0 : y1.cell? ⟨g9, 0, none⟩ = some (.string n) := OX9.out.cellAt 0 (by omega)
  have nf : y1.frozen? ⟨g9, 0, none⟩ = false := OX9.out.frozenAt 0
  have S9 := Lib.hid ((OX9.out.stored 0 (.string tn)).1)
  have P3f := P3.far (c := g9) (by omega) 0 (.string tn)
  have P4f := P4.far (c := g9) (by omega) 0 (.string tn)
  have P7f := P7.far (c := g9) hgC9 0 (.string tn)
  have Xf := X.setCell (p := ⟨g9, 0, none⟩) (by dsimp only; omega) (.string tn)
  (refine wpAnyH_ready (rs := [10]) (by kernel_rfl) (by simp) ?_; refine AllReadyH.cons rfl (fun K hK => ?_) AllReadyH.nil; (try simp only [zk1, zk2, zk3]))
  go_simp
  clear n0 nf P3 P4 P7 X OX9
  have P3 := P3f
  have P4 := P4f
  have P7 := P7f
  have X := Xf
  clear P3f P4f P7f Xf
  generalize y1.setCell ⟨g9, 0, none⟩ (.string tn) = w9 at *
  (try dsimp only)
  refine hK.out _ _ (by exact ⟨P7.2.1 0 _ rfl, P3.2.1 1 _ rfl, P3.2.1 3 _ rfl⟩) (fun hHeld => ?_)
  clear hK K
  refine wpAnyH_done (by kernel_rfl) ?_ _
  have OY := Lib.hid (show w9.ownsRow B 113 3 (.slice (some ⟨g9, 0, none⟩) 1 c9) 1 ([(⟨tn, T, T.size⟩ : Fil)].flatMap Fil.cells) from S9.out)
  have FY := Lib.hid (fls_of (ys := [(⟨tn, T, T.size⟩ : Fil)]) OY.out rfl)
  have z30 := P3.2.1 0 _ rfl
  have z7 := P7.2.1 0 _ rfl
  clear hgC hgB
  have hgC := hgC9
  have hgB := hgB9
  obtain ⟨yc, hyc⟩ : ∃ yc, yc = c9 := ⟨_, rfl⟩
  subst hyc
  -- the sort
  go_wp2_with fail
  refine (sort_ok _ _ _ C7 B [(⟨tn, T, T.size⟩ : Fil)] _ OY.out HYO.out HM.out hyl P7 hgC).mono ?_
  rintro e w7 ⟨rfl, x7⟩
  replace P4 := P4.ext x7
  replace P7 := P7.ext x7
  replace X := X.trans x7
  replace OY := Lib.hid (own_ext OY.out x7)
  replace FY := Lib.hid (FY.out.ext x7)
  clear x7
  have z7 := P7.2.1 0 _ rfl
  go_wp2_with fail
  refine (impl_DiskOk _ [(⟨tn, T, T.size⟩ : Fil)] _ FY.out hys).mono ?_
  rw [HYO.out]
  rintro e w8 ⟨rfl, x8⟩
  replace P4 := P4.ext x8
  replace P7 := P7.ext x8
  replace X := X.trans x8
  replace OY := Lib.hid (own_ext OY.out x8)
  clear x8 z7 FY
  have z7 := P7.2.1 0 _ rfl
  have z4 := P4.2.1 0 _ rfl
  have f4 := P4.2.2 0
  have XF := X.setCell (p := ⟨w.heap.size + 1 + 1, 0, none⟩) (by dsimp only; omega) (.slice (some ⟨g9, 0, none⟩) 1 yc)
  have RF := P4.set 0 (.slice (some ⟨g9, 0, none⟩) 1 yc) (by simp)
  have OF := Lib.hid (own_mono (own_below OY.out (p := ⟨w.heap.size + 1 + 1, 0, none⟩) (u := .slice (some ⟨g9, 0, none⟩) 1 yc) (by dsimp only; omega)) (show w.heap.size ≤ B by omega))
  go_wp2
  generalize w8.setCell ⟨w.heap.size + 1 + 1, 0, none⟩ (.slice (some ⟨g9, 0, none⟩) 1 yc) = WF at *
  have k0 := RF.2.1 0 _ rfl
  refine bodyPost_ret (v := .tuple #[.agg #[.slice (some ⟨g9, 0, none⟩) 1 yc], .bool true]) (by simp [results, Try.results80, go_sem, k0]) rfl ?_
  exact ⟨_, yc, rfl, OF.out, XF⟩
end Go.Proofs.Ytckipgijfgeghaa
