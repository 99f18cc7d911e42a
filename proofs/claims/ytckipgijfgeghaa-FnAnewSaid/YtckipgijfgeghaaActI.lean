/- One operation on a disk: the program. -/
import Derived.Test.YtckipgijfgeghaaFilC
import Derived.Test.YtckipgijfgeghaaSlc
import Derived.Test.YtckipgijfgeghaaDskP
import Derived.Test.YtckipgijfgeghaaSgO
import Derived.Maps.AppendAt
import Derived.Deep.DeepCutAuto
namespace Go.Proofs.Ytckipgijfgeghaa
open Go.RowKit

set_option maxHeartbeats 800000 in
theorem impl_actOk (q : ActV) (w : World) (hn : inB q.name.size 1 8 = true) (hq : (q.kind = 1 ∧ q.to_ = ⟨#[]⟩) ∨ (q.kind = 2 ∧ q.to_ = ⟨#[]⟩ ∧ q.text = ⟨#[]⟩) ∨ (q.kind = 3 ∧ q.text = ⟨#[]⟩)) :
    Calls Try.prog 103 #[.agg #[.int .i64 q.kind, .string q.name, .string q.text, .string q.to_]] w fun e w' => e = .returned (.bool true) ∧ Ext w w' := by
  obtain ⟨k, n, t, o⟩ := q
  dsimp only at *
  have HN := Lib.hid hn
  clear hn
  rcases hq with ⟨rfl, rfl⟩ | ⟨rfl, rfl, rfl⟩ | ⟨rfl, rfl⟩
  all_goals go_enter Try.func103, Try.ntmps103
  all_goals go_wp2_with fail
  all_goals refine (impl_in _ _ _ _).mono ?_
  all_goals rintro e w1 ⟨rfl, rfl⟩
  all_goals go_wp2_with fail
  all_goals refine (impl_isFileName _ _).mono ?_
  all_goals rw [HN.out]
  all_goals rintro e w2 ⟨rfl, rfl⟩
  all_goals go_wp2
  all_goals go_ret
  all_goals exact ⟨rfl, (by repeat (first | (with_reducible first | exact Ext.refl _ | assumption | apply Ext.alloc | apply Ext.drew | apply Ext.drewN | refine Ext.setCell ?_ ?_ _ | refine Ext.trans ?_ (by assumption)) | (show _ ≤ _; first | omega | (dsimp only; omega) | (simp; done) | (simp; omega))))⟩

set_option maxRecDepth 100000 in
set_option maxHeartbeats 1600000 in
theorem impl_DoAct_some (v : Value) (xs : List Fil) (n t : ByteArray) (k : Nat) (hk : k < xs.length) (hsz : xs[k].text.size + t.size ≤ 20000) (he : fAt xs n = k) (w : World) (h : Fls w v xs) (hv : Solid v) (hs : FilFit xs) (ho : diskOk xs = true) (hn : inB n.size 1 8 = true) (hyo : diskOk (addAt xs k t) = true) (hys : FilFit (addAt xs k t)) (hyl : (addAt xs k t).length ≤ 2) (hb : xs.length ≤ 30) :
    Calls Try.prog 80 #[.agg #[v], .agg #[.int .i64 1, .string n, .string t, .string ⟨#[]⟩]] w fun e w' => ∃ a c, e = .returned (.tuple #[.agg #[.slice a (addAt xs k t).length c], .bool true]) ∧ OwnFls w' w.heap.size (.slice a (addAt xs k t).length c) (addAt xs k t) ∧ Ext w w' := by
  have HM := Lib.hid (show (addAt xs k t).length = xs.length by simp [addAt])
  rw [HM.out] at hyl
  have HE := Lib.hid he
  have HO := Lib.hid ho
  have HYO := Lib.hid hyo
  clear he ho hyo
  obtain ⟨i0, hi, hz0, hz1, hz2⟩ := info_parts infoFil
  obtain ⟨a1, c1, rfl⟩ := h.form
  have P2 := Bx.new w #[.slice a1 xs.length c1] 38
  have P3 := Bx.new (w.alloc (Obj.cells #[.slice a1 xs.length c1] 38)) #[.int .i64 1, .string n, .string t, .string ⟨#[]⟩] 75
  have P4 := Bx.new ((w.alloc (Obj.cells #[.slice a1 xs.length c1] 38)).alloc (Obj.cells #[.int .i64 1, .string n, .string t, .string ⟨#[]⟩] 75)) #[.slice none 0 0] 38
  have X : Ext w (((w.alloc (Obj.cells #[.slice a1 xs.length c1] 38)).alloc (Obj.cells #[.int .i64 1, .string n, .string t, .string ⟨#[]⟩] 75)).alloc (Obj.cells #[.slice none 0 0] 38)) := (((Ext.refl w).alloc _).alloc _).alloc _
  replace P2 := P2.ext (show Ext _ (((w.alloc (Obj.cells #[.slice a1 xs.length c1] 38)).alloc (Obj.cells #[.int .i64 1, .string n, .string t, .string ⟨#[]⟩] 75)).alloc (Obj.cells #[.slice none 0 0] 38)) from ((Ext.refl _).alloc _).alloc _)
  replace P3 := P3.ext (show Ext _ (((w.alloc (Obj.cells #[.slice a1 xs.length c1] 38)).alloc (Obj.cells #[.int .i64 1, .string n, .string t, .string ⟨#[]⟩] 75)).alloc (Obj.cells #[.slice none 0 0] 38)) from (Ext.refl _).alloc _)
  rw [World.size_alloc] at P3
  rw [World.size_alloc, World.size_alloc] at P4
  go_enter Try.func80, Try.ntmps80
  go_wp2_with fail
  generalize ((w.alloc (Obj.cells #[.slice a1 xs.length c1] 38)).alloc (Obj.cells #[.int .i64 1, .string n, .string t, .string ⟨#[]⟩] 75)).alloc (Obj.cells #[.slice none 0 0] 38) = w0 at *
  refine (impl_fileAt _ xs n _ (h.ext X)).mono ?_
  rw [HE.out]
  rintro e w1 ⟨rfl, x1⟩
  replace P2 := P2.ext x1
  replace P3 := P3.ext x1
  replace P4 := P4.ext x1
  replace X := X.trans x1
  clear x1
  have z2 := P2.2.1 0 _ rfl
  have z30 := P3.2.1 0 _ rfl
  have z31 := P3.2.1 1 _ rfl
  have z32 := P3.2.1 2 _ rfl
  have z33 := P3.2.1 3 _ rfl
  go_wp2_with fail
  refine (impl_DiskOk _ xs _ (h.ext X) hs).mono ?_
  rw [HO.out]
  rintro e w2 ⟨rfl, x2⟩
  replace P2 := P2.ext x2
  replace P3 := P3.ext x2
  replace P4 := P4.ext x2
  replace X := X.trans x2
  clear x2 z2 z30 z31 z32 z33
  have z2 := P2.2.1 0 _ rfl
  have z30 := P3.2.1 0 _ rfl
  have z31 := P3.2.1 1 _ rfl
  have z32 := P3.2.1 2 _ rfl
  have z33 := P3.2.1 3 _ rfl
  go_wp2_with fail
  refine (impl_actOk ⟨1, n, t, ⟨#[]⟩⟩ _ hn (Or.inl ⟨rfl, rfl⟩)).mono ?_
  rintro e w3 ⟨rfl, x3⟩
  replace P2 := P2.ext x3
  replace P3 := P3.ext x3
  replace P4 := P4.ext x3
  replace X := X.trans x3
  clear x3 z2 z30 z31 z32 z33
  have z2 := P2.2.1 0 _ rfl
  have z30 := P3.2.1 0 _ rfl
  have z31 := P3.2.1 1 _ rfl
  have z32 := P3.2.1 2 _ rfl
  have z33 := P3.2.1 3 _ rfl
  have k0 : decide ((k : Int) < 0) = false := by simp
  have k1 : (0 : Int) ≤ k := by omega
  have k2 : (k : Int) < xs.length := by omega
  go_wp2_with fail
  refine (impl_copyDisk _ xs _ (h.ext X) hv hb).mono ?_
  rintro e w4 ⟨oa, oc, rfl, ow, x4⟩
  have XB := x4
  have hBz := x4.size
  have hB2 := P4.1
  replace P2 := P2.ext x4
  replace P3 := P3.ext x4
  replace P4 := P4.ext x4
  replace X := X.trans x4
  generalize hBB : w3.heap.size = B at *
  clear x4 z2 z30 z31 z32 z33
  have OW := Lib.hid (own_alloc ow (Obj.cells #[.slice oa xs.length oc] 38))
  have hlt := own_lt ow
  have P7 := Bx.new w4 #[.slice oa xs.length oc] 38
  have x5 : Ext w4 (w4.alloc (Obj.cells #[.slice oa xs.length oc] 38)) := (Ext.refl _).alloc _
  have hz5 : (w4.alloc (Obj.cells #[.slice oa xs.length oc] 38)).heap.size = w4.heap.size + 1 := World.size_alloc ..
  replace P2 := P2.ext x5
  replace P3 := P3.ext x5
  replace P4 := P4.ext x5
  replace X := X.trans x5
  replace XB := XB.trans x5
  go_upto_region 5 with (fail)
  generalize hW4 : w4.alloc (Obj.cells #[.slice oa xs.length oc] 38) = w5 at *
  have HW4 := Lib.hid hW4
  clear x5 ow hW4
  generalize w4.heap.size = C7 at *
  have HZ5 := Lib.hid hz5
  clear hz5
  have z30 := P3.2.1 0 _ rfl
  have z31 := P3.2.1 1 _ rfl
  have z32 := P3.2.1 2 _ rfl
  have z7 := P7.2.1 0 _ rfl
  have f7 := P7.2.2 0
  obtain ⟨g, cg, hg⟩ := own_form OW.out (by omega)
  injection hg with g1 g2 g3
  subst g1 g3
  clear g2
  have hgC : g ≠ C7 := fun e => by have := (hlt g rfl).2; omega
  have hgB : B ≤ g := (hlt g rfl).1
  have c1' := OW.out.cellAt (k * 3 + 1) (by omega)
  rw [fil_c1 xs k hk] at c1'
  have e7 : w5.cell? ⟨g, k * 3 + 1, none⟩ = some (.string xs[k].text) := c1'
  have ff : ∀ j, w5.frozen? ⟨g, j, none⟩ = false := fun j => OW.out.frozenAt j
  have hm : ¬ (9223372036854775807 < xs[k].text.size + t.size) := by omega
  have S := (OW.out.stored (k * 3 + 1) (.string (xs[k].text ++ t))).1
  rw [addAt_flat xs k t hk] at S
  have xq : ∀ W, Ext W W.drew := fun W => (Ext.refl W).drew
  have OY := Lib.hid (own_drew S)
  have FY := Lib.hid (fls_of (own_drew S) (addAt_len xs k t))
  replace X := (X.setCell (p := ⟨g, k * 3 + 1, none⟩) (by dsimp only; omega) (.string (xs[k].text ++ t))).drew
  have P4' := (P4.far (c := g) (by omega) (k * 3 + 1) (.string (xs[k].text ++ t))).ext (xq _)
  have P7' := (P7.far (c := g) hgC (k * 3 + 1) (.string (xs[k].text ++ t))).ext (xq _)
  have P3' := (P3.far (c := g) (by omega) (k * 3 + 1) (.string (xs[k].text ++ t))).ext (xq _)
  clear S c1' hlt HW4 xq XB
  go_wp2
  go_region
  generalize (w5.setCell ⟨g, k * 3 + 1, none⟩ (.string (xs[k].text ++ t))).drew = w6 at *
  clear P2 P3 P4 P7 e7 ff z30 z31 z32 z7 f7
  have P3 := P3'
  have P4 := P4'
  have P7 := P7'
  clear P3' P4' P7'
  obtain ⟨yc, hyc⟩ : ∃ yc, yc = oc := ⟨_, rfl⟩
  subst hyc
  have z30 := P3.2.1 0 _ rfl
  have z7 := P7.2.1 0 _ rfl
  -- the sort
  go_wp2_with fail
  refine (sort_ok _ _ _ C7 B (addAt xs k t) _ OY.out HYO.out HM.out hyl P7 hgC).mono ?_
  rintro e w7 ⟨rfl, x7⟩
  replace P4 := P4.ext x7
  replace P7 := P7.ext x7
  replace X := X.trans x7
  replace OY := Lib.hid (own_ext OY.out x7)
  replace FY := Lib.hid (FY.out.ext x7)
  clear x7
  have z7 := P7.2.1 0 _ rfl
  go_wp2_with fail
  refine (impl_DiskOk _ (addAt xs k t) _ FY.out hys).mono ?_
  rw [HYO.out]
  rintro e w8 ⟨rfl, x8⟩
  replace P4 := P4.ext x8
  replace P7 := P7.ext x8
  replace X := X.trans x8
  replace OY := Lib.hid (own_ext OY.out x8)
  clear x8 z7 FY
  have z7 := P7.2.1 0 _ rfl
  have z4 := P4.2.1 0 _ rfl
  have f4 := P4.2.2 0
  have XF := X.setCell (p := ⟨w.heap.size + 1 + 1, 0, none⟩) (by dsimp only; omega) (.slice (some ⟨g, 0, none⟩) xs.length yc)
  have RF := P4.set 0 (.slice (some ⟨g, 0, none⟩) xs.length yc) (by simp)
  have OF := Lib.hid (own_mono (own_below OY.out (p := ⟨w.heap.size + 1 + 1, 0, none⟩) (u := .slice (some ⟨g, 0, none⟩) xs.length yc) (by dsimp only; omega)) (show w.heap.size ≤ B by omega))
  go_wp2
  generalize w8.setCell ⟨w.heap.size + 1 + 1, 0, none⟩ (.slice (some ⟨g, 0, none⟩) xs.length yc) = WF at *
  have k0 := RF.2.1 0 _ rfl
  refine bodyPost_ret (v := .tuple #[.agg #[.slice (some ⟨g, 0, none⟩) xs.length yc], .bool true]) (by simp [results, Try.results80, go_sem, k0]) rfl ?_
  refine ⟨some ⟨g, 0, none⟩, yc, by rw [HM.out], ?_, XF⟩
  rw [OwnFls, HM.out]
  exact OF.out

set_option maxRecDepth 100000 in
set_option maxHeartbeats 1600000 in
theorem impl_DoAct_new (v : Value) (xs : List Fil) (n t : ByteArray) (hsz : t.size ≤ 20000) (he : fAt xs n = -1) (w : World) (h : Fls w v xs) (hv : Solid v) (hs : FilFit xs) (ho : diskOk xs = true) (hn : inB n.size 1 8 = true) (hyo : diskOk (addAt (xs ++ [⟨n, ⟨#[]⟩, 0⟩]) xs.length t) = true) (hys : FilFit (addAt (xs ++ [⟨n, ⟨#[]⟩, 0⟩]) xs.length t)) (hyl : (addAt (xs ++ [⟨n, ⟨#[]⟩, 0⟩]) xs.length t).length ≤ 2) (hb : xs.length ≤ 30) :
    Calls Try.prog 80 #[.agg #[v], .agg #[.int .i64 1, .string n, .string t, .string ⟨#[]⟩]] w fun e w' => ∃ a c, e = .returned (.tuple #[.agg #[.slice a (addAt (xs ++ [⟨n, ⟨#[]⟩, 0⟩]) xs.length t).length c], .bool true]) ∧ OwnFls w' w.heap.size (.slice a (addAt (xs ++ [⟨n, ⟨#[]⟩, 0⟩]) xs.length t).length c) (addAt (xs ++ [⟨n, ⟨#[]⟩, 0⟩]) xs.length t) ∧ Ext w w' := by
  have HM := Lib.hid (show (addAt (xs ++ [⟨n, ⟨#[]⟩, 0⟩]) xs.length t).length = (xs.length + 1) by simp [addAt])
  rw [HM.out] at hyl
  have HE := Lib.hid he
  have HO := Lib.hid ho
  have HYO := Lib.hid hyo
  clear he ho hyo
  obtain ⟨i0, hi, hz0, hz1, hz2⟩ := info_parts infoFil
  obtain ⟨a1, c1, rfl⟩ := h.form
  have P2 := Bx.new w #[.slice a1 xs.length c1] 38
  have P3 := Bx.new (w.alloc (Obj.cells #[.slice a1 xs.length c1] 38)) #[.int .i64 1, .string n, .string t, .string ⟨#[]⟩] 75
  have P4 := Bx.new ((w.alloc (Obj.cells #[.slice a1 xs.length c1] 38)).alloc (Obj.cells #[.int .i64 1, .string n, .string t, .string ⟨#[]⟩] 75)) #[.slice none 0 0] 38
  have X : Ext w (((w.alloc (Obj.cells #[.slice a1 xs.length c1] 38)).alloc (Obj.cells #[.int .i64 1, .string n, .string t, .string ⟨#[]⟩] 75)).alloc (Obj.cells #[.slice none 0 0] 38)) := (((Ext.refl w).alloc _).alloc _).alloc _
  replace P2 := P2.ext (show Ext _ (((w.alloc (Obj.cells #[.slice a1 xs.length c1] 38)).alloc (Obj.cells #[.int .i64 1, .string n, .string t, .string ⟨#[]⟩] 75)).alloc (Obj.cells #[.slice none 0 0] 38)) from ((Ext.refl _).alloc _).alloc _)
  replace P3 := P3.ext (show Ext _ (((w.alloc (Obj.cells #[.slice a1 xs.length c1] 38)).alloc (Obj.cells #[.int .i64 1, .string n, .string t, .string ⟨#[]⟩] 75)).alloc (Obj.cells #[.slice none 0 0] 38)) from (Ext.refl _).alloc _)
  rw [World.size_alloc] at P3
  rw [World.size_alloc, World.size_alloc] at P4
  go_enter Try.func80, Try.ntmps80
  go_wp2_with fail
  generalize ((w.alloc (Obj.cells #[.slice a1 xs.length c1] 38)).alloc (Obj.cells #[.int .i64 1, .string n, .string t, .string ⟨#[]⟩] 75)).alloc (Obj.cells #[.slice none 0 0] 38) = w0 at *
  refine (impl_fileAt _ xs n _ (h.ext X)).mono ?_
  rw [HE.out]
  rintro e w1 ⟨rfl, x1⟩
  replace P2 := P2.ext x1
  replace P3 := P3.ext x1
  replace P4 := P4.ext x1
  replace X := X.trans x1
  clear x1
  have z2 := P2.2.1 0 _ rfl
  have z30 := P3.2.1 0 _ rfl
  have z31 := P3.2.1 1 _ rfl
  have z32 := P3.2.1 2 _ rfl
  have z33 := P3.2.1 3 _ rfl
  go_wp2_with fail
  refine (impl_DiskOk _ xs _ (h.ext X) hs).mono ?_
  rw [HO.out]
  rintro e w2 ⟨rfl, x2⟩
  replace P2 := P2.ext x2
  replace P3 := P3.ext x2
  replace P4 := P4.ext x2
  replace X := X.trans x2
  clear x2 z2 z30 z31 z32 z33
  have z2 := P2.2.1 0 _ rfl
  have z30 := P3.2.1 0 _ rfl
  have z31 := P3.2.1 1 _ rfl
  have z32 := P3.2.1 2 _ rfl
  have z33 := P3.2.1 3 _ rfl
  go_wp2_with fail
  refine (impl_actOk ⟨1, n, t, ⟨#[]⟩⟩ _ hn (Or.inl ⟨rfl, rfl⟩)).mono ?_
  rintro e w3 ⟨rfl, x3⟩
  replace P2 := P2.ext x3
  replace P3 := P3.ext x3
  replace P4 := P4.ext x3
  replace X := X.trans x3
  clear x3 z2 z30 z31 z32 z33
  have z2 := P2.2.1 0 _ rfl
  have z30 := P3.2.1 0 _ rfl
  have z31 := P3.2.1 1 _ rfl
  have z32 := P3.2.1 2 _ rfl
  have z33 := P3.2.1 3 _ rfl
  go_wp2_with fail
  refine (impl_copyDisk _ xs _ (h.ext X) hv hb).mono ?_
  rintro e w4 ⟨oa, oc, rfl, ow, x4⟩
  have XB := x4
  have hBz := x4.size
  have hB2 := P4.1
  replace P2 := P2.ext x4
  replace P3 := P3.ext x4
  replace P4 := P4.ext x4
  replace X := X.trans x4
  generalize hBB : w3.heap.size = B at *
  clear x4 z2 z30 z31 z32 z33
  have OW := Lib.hid (own_alloc ow (Obj.cells #[.slice oa xs.length oc] 38))
  have hlt := own_lt ow
  have P7 := Bx.new w4 #[.slice oa xs.length oc] 38
  have x5 : Ext w4 (w4.alloc (Obj.cells #[.slice oa xs.length oc] 38)) := (Ext.refl _).alloc _
  have hz5 : (w4.alloc (Obj.cells #[.slice oa xs.length oc] 38)).heap.size = w4.heap.size + 1 := World.size_alloc ..
  replace P2 := P2.ext x5
  replace P3 := P3.ext x5
  replace P4 := P4.ext x5
  replace X := X.trans x5
  replace XB := XB.trans x5
  go_upto_region 5 with (fail)
  generalize hW4 : w4.alloc (Obj.cells #[.slice oa xs.length oc] 38) = w5 at *
  have HW4 := Lib.hid hW4
  clear x5 ow hW4
  generalize w4.heap.size = C7 at *
  have HZ5 := Lib.hid hz5
  clear hz5
  have z30 := P3.2.1 0 _ rfl
  have z31 := P3.2.1 1 _ rfl
  have z32 := P3.2.1 2 _ rfl
  have z7 := P7.2.1 0 _ rfl
  have f7 := P7.2.2 0
  go_wp2_with (at_builtin; refine wpList_append_own_at _ rfl (.tmp 44) (.tmp 48) 36 rfl B 113 i0 _ 3 40 Try.underlying36 hi hz0 hz1 hz2 rfl (by decide) _ _ _ rfl (own_alloc OW.out _) ⟨w5.heap.size, 0, none⟩ 1 1 [.string n, .string ⟨#[]⟩, .int .i64 0] rfl rfl ?c1 ?c2 ?c3 ?c4 ?c5 ?_)
  case c1 => exact World.news_of_block (heap_alloc_new w5 (Obj.cells #[.string n, .string ⟨#[]⟩, .int .i64 0] 113))
  case c2 => intro u hu; simp at hu; rcases hu with rfl | rfl | rfl <;> rfl
  case c3 => unfold maxLen; omega
  case c4 => omega
  case c5 => have := HZ5.out; rw [World.size_alloc]; omega
  have hz5 := HZ5.out
  intro v' w6 own6 hgrow _ hown
  have x6 : Ext w5 (w5.alloc (Obj.cells #[.string n, .string ⟨#[]⟩, .int .i64 0] 113)) := (Ext.refl _).alloc _
  have hfar : ∀ b, b < B → (Value.slice oa xs.length oc).ownBlock ≠ some b := fun b hb e => by have := (hlt b e).1; omega
  have hf7 : (Value.slice oa xs.length oc).ownBlock ≠ some C7 := fun e => by have := (hlt C7 e).2; omega
  replace P3 := (P3.ext x6).grew hgrow (hfar _ (by omega))
  replace P4 := (P4.ext x6).grew hgrow (hfar _ (by omega))
  replace P7 := (P7.ext x6).grew hgrow hf7
  replace X := own_ext_of (X.trans x6) (own_alloc OW.out _) hgrow (by omega)
  have hne : v'.ownBlock ≠ some C7 := fun e => by
    rcases hown with h1 | h1
    · exact hf7 (h1.symm.trans e)
    · rw [e] at h1; injection h1 with h1; omega
  obtain ⟨g, yc, hg⟩ := own_form own6 (by omega)
  subst hg
  have hgC : g ≠ C7 := fun e => hne (by rw [e]; rfl)
  have hgB : B ≤ g := (own_lt own6 g rfl).1
  rw [show xs.flatMap Fil.cells ++ [Value.string n, .string ⟨#[]⟩, .int .i64 0] = (xs ++ [(⟨n, ⟨#[]⟩, 0⟩ : Fil)]).flatMap Fil.cells by simp [Fil.cells]] at own6
  have hlen : (xs ++ [(⟨n, ⟨#[]⟩, 0⟩ : Fil)]).length = xs.length + 1 := by simp
  have ST := addAt_flat (xs ++ [⟨n, ⟨#[]⟩, 0⟩]) xs.length t (by omega)
  rw [show (xs ++ [(⟨n, ⟨#[]⟩, 0⟩ : Fil)])[xs.length]'(by omega) = ⟨n, ⟨#[]⟩, 0⟩ by simp] at ST
  dsimp only at ST
  have c1' := own6.cellAt (xs.length * 3 + 1) (by omega)
  rw [fil_c1 (xs ++ [(⟨n, ⟨#[]⟩, 0⟩ : Fil)]) xs.length (by omega)] at c1'
  replace X := X.setCell (p := ⟨C7, 0, none⟩) (by dsimp only; omega) (.slice (some ⟨g, 0, none⟩) (xs.length + 1) yc)
  have e7 : (w6.setCell ⟨C7, 0, none⟩ (.slice (some ⟨g, 0, none⟩) (xs.length + 1) yc)).cell? ⟨g, xs.length * 3 + 1, none⟩ = some (.string ⟨#[]⟩) := by
    rw [World.cell?_setCell_other _ _ _ _ (fun e => by injection e with e1; omega)]
    exact c1'.trans (by simp)
  have ff : ∀ j, (w6.setCell ⟨C7, 0, none⟩ (.slice (some ⟨g, 0, none⟩) (xs.length + 1) yc)).frozen? ⟨g, j, none⟩ = false := fun j => by
    have := own6.frozenAt j
    simp [go_sem, this]
  have z7 := P7.2.1 0 _ rfl
  have f7 := P7.2.2 0
  have O6 := Lib.hid (own_far own6 (b := C7) (o := 0) (fun k e e2 => by subst e2; exact hne e) (.slice (some ⟨g, 0, none⟩) (xs.length + 1) yc))
  replace P3 := P3.far (c := C7) (by omega) 0 (.slice (some ⟨g, 0, none⟩) (xs.length + 1) yc)
  replace P4 := P4.far (c := C7) (by omega) 0 (.slice (some ⟨g, 0, none⟩) (xs.length + 1) yc)
  replace P7 := P7.set 0 (.slice (some ⟨g, 0, none⟩) (xs.length + 1) yc) (by simp)
  clear own6 hgrow c1' hown hne HW4 hlt hfar hf7 P2
  go_upto_region 10 with (fail)
  generalize w6.setCell ⟨C7, 0, none⟩ (.slice (some ⟨g, 0, none⟩) (xs.length + 1) yc) = wS at *
  clear z7 f7
  have z30 := P3.2.1 0 _ rfl
  have z32 := P3.2.1 2 _ rfl
  have z7 := P7.2.1 0 _ rfl
  have k1 : (0 : Int) ≤ xs.length := by omega
  have k2 : (xs.length : Int) < (xs.length : Int) + 1 := by omega
  have hm : ¬ (9223372036854775807 < (⟨#[]⟩ : ByteArray).size + t.size) := by have : (⟨#[]⟩ : ByteArray).size = 0 := rfl; omega
  have S := (O6.out.stored (xs.length * 3 + 1) (.string (⟨#[]⟩ ++ t))).1
  rw [ST] at S
  have xq : ∀ W, Ext W W.drew := fun W => (Ext.refl W).drew
  have OY := Lib.hid (own_drew S)
  have FY := Lib.hid (fls_of (own_drew S) (by rw [addAt_len]; exact hlen))
  replace X := (X.setCell (p := ⟨g, xs.length * 3 + 1, none⟩) (by dsimp only; omega) (.string (⟨#[]⟩ ++ t))).drew
  have P4' := (P4.far (c := g) (by omega) (xs.length * 3 + 1) (.string (⟨#[]⟩ ++ t))).ext (xq _)
  have P7' := (P7.far (c := g) hgC (xs.length * 3 + 1) (.string (⟨#[]⟩ ++ t))).ext (xq _)
  have P3' := (P3.far (c := g) (by omega) (xs.length * 3 + 1) (.string (⟨#[]⟩ ++ t))).ext (xq _)
  clear S xq XB ST hlen
  go_wp2
  go_region
  generalize (wS.setCell ⟨g, xs.length * 3 + 1, none⟩ (.string (⟨#[]⟩ ++ t))).drew = wT at *
  clear P3 P4 P7 e7 ff z30 z32 z7
  have P3 := P3'
  have P4 := P4'
  have P7 := P7'
  clear P3' P4' P7'
  have z30 := P3.2.1 0 _ rfl
  have z7 := P7.2.1 0 _ rfl
  -- the sort
  go_wp2_with fail
  refine (sort_ok _ _ _ C7 B (addAt (xs ++ [⟨n, ⟨#[]⟩, 0⟩]) xs.length t) _ OY.out HYO.out HM.out hyl P7 hgC).mono ?_
  rintro e w7 ⟨rfl, x7⟩
  replace P4 := P4.ext x7
  replace P7 := P7.ext x7
  replace X := X.trans x7
  replace OY := Lib.hid (own_ext OY.out x7)
  replace FY := Lib.hid (FY.out.ext x7)
  clear x7
  have z7 := P7.2.1 0 _ rfl
  go_wp2_with fail
  refine (impl_DiskOk _ (addAt (xs ++ [⟨n, ⟨#[]⟩, 0⟩]) xs.length t) _ FY.out hys).mono ?_
  rw [HYO.out]
  rintro e w8 ⟨rfl, x8⟩
  replace P4 := P4.ext x8
  replace P7 := P7.ext x8
  replace X := X.trans x8
  replace OY := Lib.hid (own_ext OY.out x8)
  clear x8 z7 FY
  have z7 := P7.2.1 0 _ rfl
  have z4 := P4.2.1 0 _ rfl
  have f4 := P4.2.2 0
  have XF := X.setCell (p := ⟨w.heap.size + 1 + 1, 0, none⟩) (by dsimp only; omega) (.slice (some ⟨g, 0, none⟩) (xs.length + 1) yc)
  have RF := P4.set 0 (.slice (some ⟨g, 0, none⟩) (xs.length + 1) yc) (by simp)
  have OF := Lib.hid (own_mono (own_below OY.out (p := ⟨w.heap.size + 1 + 1, 0, none⟩) (u := .slice (some ⟨g, 0, none⟩) (xs.length + 1) yc) (by dsimp only; omega)) (show w.heap.size ≤ B by omega))
  go_wp2
  generalize w8.setCell ⟨w.heap.size + 1 + 1, 0, none⟩ (.slice (some ⟨g, 0, none⟩) (xs.length + 1) yc) = WF at *
  have k0 := RF.2.1 0 _ rfl
  refine bodyPost_ret (v := .tuple #[.agg #[.slice (some ⟨g, 0, none⟩) (xs.length + 1) yc], .bool true]) (by simp [results, Try.results80, go_sem, k0]) rfl ?_
  refine ⟨some ⟨g, 0, none⟩, yc, by rw [HM.out], ?_, XF⟩
  rw [OwnFls, HM.out]
  exact OF.out

set_option maxRecDepth 100000 in
set_option maxHeartbeats 1600000 in
theorem impl_DoAct_keep (v : Value) (xs : List Fil) (n : ByteArray) (k : Nat) (hk : k < xs.length) (he : fAt xs n = k) (w : World) (h : Fls w v xs) (hv : Solid v) (hs : FilFit xs) (ho : diskOk xs = true) (hn : inB n.size 1 8 = true) (hyo : diskOk (keepAt xs k) = true) (hys : FilFit (keepAt xs k)) (hyl : (keepAt xs k).length ≤ 2) (hb : xs.length ≤ 30) :
    Calls Try.prog 80 #[.agg #[v], .agg #[.int .i64 2, .string n, .string ⟨#[]⟩, .string ⟨#[]⟩]] w fun e w' => ∃ a c, e = .returned (.tuple #[.agg #[.slice a (keepAt xs k).length c], .bool true]) ∧ OwnFls w' w.heap.size (.slice a (keepAt xs k).length c) (keepAt xs k) ∧ Ext w w' := by
  have HM := Lib.hid (show (keepAt xs k).length = xs.length by simp [keepAt])
  rw [HM.out] at hyl
  have HE := Lib.hid he
  have HO := Lib.hid ho
  have HYO := Lib.hid hyo
  clear he ho hyo
  obtain ⟨i0, hi, hz0, hz1, hz2⟩ := info_parts infoFil
  obtain ⟨a1, c1, rfl⟩ := h.form
  have P2 := Bx.new w #[.slice a1 xs.length c1] 38
  have P3 := Bx.new (w.alloc (Obj.cells #[.slice a1 xs.length c1] 38)) #[.int .i64 2, .string n, .string ⟨#[]⟩, .string ⟨#[]⟩] 75
  have P4 := Bx.new ((w.alloc (Obj.cells #[.slice a1 xs.length c1] 38)).alloc (Obj.cells #[.int .i64 2, .string n, .string ⟨#[]⟩, .string ⟨#[]⟩] 75)) #[.slice none 0 0] 38
  have X : Ext w (((w.alloc (Obj.cells #[.slice a1 xs.length c1] 38)).alloc (Obj.cells #[.int .i64 2, .string n, .string ⟨#[]⟩, .string ⟨#[]⟩] 75)).alloc (Obj.cells #[.slice none 0 0] 38)) := (((Ext.refl w).alloc _).alloc _).alloc _
  replace P2 := P2.ext (show Ext _ (((w.alloc (Obj.cells #[.slice a1 xs.length c1] 38)).alloc (Obj.cells #[.int .i64 2, .string n, .string ⟨#[]⟩, .string ⟨#[]⟩] 75)).alloc (Obj.cells #[.slice none 0 0] 38)) from ((Ext.refl _).alloc _).alloc _)
  replace P3 := P3.ext (show Ext _ (((w.alloc (Obj.cells #[.slice a1 xs.length c1] 38)).alloc (Obj.cells #[.int .i64 2, .string n, .string ⟨#[]⟩, .string ⟨#[]⟩] 75)).alloc (Obj.cells #[.slice none 0 0] 38)) from (Ext.refl _).alloc _)
  rw [World.size_alloc] at P3
  rw [World.size_alloc, World.size_alloc] at P4
  go_enter Try.func80, Try.ntmps80
  go_wp2_with fail
  generalize ((w.alloc (Obj.cells #[.slice a1 xs.length c1] 38)).alloc (Obj.cells #[.int .i64 2, .string n, .string ⟨#[]⟩, .string ⟨#[]⟩] 75)).alloc (Obj.cells #[.slice none 0 0] 38) = w0 at *
  refine (impl_fileAt _ xs n _ (h.ext X)).mono ?_
  rw [HE.out]
  rintro e w1 ⟨rfl, x1⟩
  replace P2 := P2.ext x1
  replace P3 := P3.ext x1
  replace P4 := P4.ext x1
  replace X := X.trans x1
  clear x1
  have z2 := P2.2.1 0 _ rfl
  have z30 := P3.2.1 0 _ rfl
  have z31 := P3.2.1 1 _ rfl
  have z32 := P3.2.1 2 _ rfl
  have z33 := P3.2.1 3 _ rfl
  go_wp2_with fail
  refine (impl_DiskOk _ xs _ (h.ext X) hs).mono ?_
  rw [HO.out]
  rintro e w2 ⟨rfl, x2⟩
  replace P2 := P2.ext x2
  replace P3 := P3.ext x2
  replace P4 := P4.ext x2
  replace X := X.trans x2
  clear x2 z2 z30 z31 z32 z33
  have z2 := P2.2.1 0 _ rfl
  have z30 := P3.2.1 0 _ rfl
  have z31 := P3.2.1 1 _ rfl
  have z32 := P3.2.1 2 _ rfl
  have z33 := P3.2.1 3 _ rfl
  go_wp2_with fail
  refine (impl_actOk ⟨2, n, ⟨#[]⟩, ⟨#[]⟩⟩ _ hn (Or.inr (Or.inl ⟨rfl, rfl, rfl⟩))).mono ?_
  rintro e w3 ⟨rfl, x3⟩
  replace P2 := P2.ext x3
  replace P3 := P3.ext x3
  replace P4 := P4.ext x3
  replace X := X.trans x3
  clear x3 z2 z30 z31 z32 z33
  have z2 := P2.2.1 0 _ rfl
  have z30 := P3.2.1 0 _ rfl
  have z31 := P3.2.1 1 _ rfl
  have z32 := P3.2.1 2 _ rfl
  have z33 := P3.2.1 3 _ rfl
  have k0 : decide ((k : Int) < 0) = false := by simp
  have k1 : (0 : Int) ≤ k := by omega
  have k2 : (k : Int) < xs.length := by omega
  go_wp2_with fail
  refine (impl_copyDisk _ xs _ (h.ext X) hv hb).mono ?_
  rintro e w4 ⟨oa, oc, rfl, ow, x4⟩
  have XB := x4
  have hBz := x4.size
  have hB2 := P4.1
  replace P2 := P2.ext x4
  replace P3 := P3.ext x4
  replace P4 := P4.ext x4
  replace X := X.trans x4
  generalize hBB : w3.heap.size = B at *
  clear x4 z2 z30 z31 z32 z33
  have OW := Lib.hid (own_alloc ow (Obj.cells #[.slice oa xs.length oc] 38))
  have hlt := own_lt ow
  have P7 := Bx.new w4 #[.slice oa xs.length oc] 38
  have x5 : Ext w4 (w4.alloc (Obj.cells #[.slice oa xs.length oc] 38)) := (Ext.refl _).alloc _
  have hz5 : (w4.alloc (Obj.cells #[.slice oa xs.length oc] 38)).heap.size = w4.heap.size + 1 := World.size_alloc ..
  replace P2 := P2.ext x5
  replace P3 := P3.ext x5
  replace P4 := P4.ext x5
  replace X := X.trans x5
  replace XB := XB.trans x5
  go_upto_region 5 with (fail)
  generalize hW4 : w4.alloc (Obj.cells #[.slice oa xs.length oc] 38) = w5 at *
  have HW4 := Lib.hid hW4
  clear x5 ow hW4
  generalize w4.heap.size = C7 at *
  have HZ5 := Lib.hid hz5
  clear hz5
  have z30 := P3.2.1 0 _ rfl
  have z31 := P3.2.1 1 _ rfl
  have z32 := P3.2.1 2 _ rfl
  have z7 := P7.2.1 0 _ rfl
  have f7 := P7.2.2 0
  obtain ⟨g, cg, hg⟩ := own_form OW.out (by omega)
  injection hg with g1 g2 g3
  subst g1 g3
  clear g2
  have hgC : g ≠ C7 := fun e => by have := (hlt g rfl).2; omega
  have hgB : B ≤ g := (hlt g rfl).1
  have c2' := OW.out.cellAt (k * 3 + 2) (by omega)
  rw [fil_c2 xs k hk] at c2'
  have e8 : w5.cell? ⟨g, k * 3 + 2, none⟩ = some (.int .i64 xs[k].kept) := c2'
  have c1' := OW.out.cellAt (k * 3 + 1) (by omega)
  rw [fil_c1 xs k hk] at c1'
  have e7 : w5.cell? ⟨g, k * 3 + 1, none⟩ = some (.string xs[k].text) := c1'
  have ff : ∀ j, w5.frozen? ⟨g, j, none⟩ = false := fun j => OW.out.frozenAt j
  have S := (OW.out.stored (k * 3 + 2) (.int .i64 xs[k].text.size)).1
  rw [keepAt_flat xs k hk] at S
  have xq : ∀ W, Ext W W.drew := fun W => (Ext.refl W).drew
  have OY := Lib.hid (own_drew S)
  have FY := Lib.hid (fls_of (own_drew S) (keepAt_len xs k))
  replace X := (X.setCell (p := ⟨g, k * 3 + 2, none⟩) (by dsimp only; omega) (.int .i64 xs[k].text.size)).drew
  have P4' := (P4.far (c := g) (by omega) (k * 3 + 2) (.int .i64 xs[k].text.size)).ext (xq _)
  have P7' := (P7.far (c := g) hgC (k * 3 + 2) (.int .i64 xs[k].text.size)).ext (xq _)
  have P3' := (P3.far (c := g) (by omega) (k * 3 + 2) (.int .i64 xs[k].text.size)).ext (xq _)
  clear S c1' c2' hlt HW4 xq XB
  go_wp2
  go_region
  generalize (w5.setCell ⟨g, k * 3 + 2, none⟩ (.int .i64 xs[k].text.size)).drew = w6 at *
  clear P2 P3 P4 P7 e7 e8 ff z30 z31 z32 z7 f7
  have P3 := P3'
  have P4 := P4'
  have P7 := P7'
  clear P3' P4' P7'
  obtain ⟨yc, hyc⟩ : ∃ yc, yc = oc := ⟨_, rfl⟩
  subst hyc
  have z30 := P3.2.1 0 _ rfl
  have z7 := P7.2.1 0 _ rfl
  -- the sort
  go_wp2_with fail
  refine (sort_ok _ _ _ C7 B (keepAt xs k) _ OY.out HYO.out HM.out hyl P7 hgC).mono ?_
  rintro e w7 ⟨rfl, x7⟩
  replace P4 := P4.ext x7
  replace P7 := P7.ext x7
  replace X := X.trans x7
  replace OY := Lib.hid (own_ext OY.out x7)
  replace FY := Lib.hid (FY.out.ext x7)
  clear x7
  have z7 := P7.2.1 0 _ rfl
  go_wp2_with fail
  refine (impl_DiskOk _ (keepAt xs k) _ FY.out hys).mono ?_
  rw [HYO.out]
  rintro e w8 ⟨rfl, x8⟩
  replace P4 := P4.ext x8
  replace P7 := P7.ext x8
  replace X := X.trans x8
  replace OY := Lib.hid (own_ext OY.out x8)
  clear x8 z7 FY
  have z7 := P7.2.1 0 _ rfl
  have z4 := P4.2.1 0 _ rfl
  have f4 := P4.2.2 0
  have XF := X.setCell (p := ⟨w.heap.size + 1 + 1, 0, none⟩) (by dsimp only; omega) (.slice (some ⟨g, 0, none⟩) xs.length yc)
  have RF := P4.set 0 (.slice (some ⟨g, 0, none⟩) xs.length yc) (by simp)
  have OF := Lib.hid (own_mono (own_below OY.out (p := ⟨w.heap.size + 1 + 1, 0, none⟩) (u := .slice (some ⟨g, 0, none⟩) xs.length yc) (by dsimp only; omega)) (show w.heap.size ≤ B by omega))
  go_wp2
  generalize w8.setCell ⟨w.heap.size + 1 + 1, 0, none⟩ (.slice (some ⟨g, 0, none⟩) xs.length yc) = WF at *
  have k0 := RF.2.1 0 _ rfl
  refine bodyPost_ret (v := .tuple #[.agg #[.slice (some ⟨g, 0, none⟩) xs.length yc], .bool true]) (by simp [results, Try.results80, go_sem, k0]) rfl ?_
  refine ⟨some ⟨g, 0, none⟩, yc, by rw [HM.out], ?_, XF⟩
  rw [OwnFls, HM.out]
  exact OF.out

end Go.Proofs.Ytckipgijfgeghaa
