/- FnNodes: the walk. -/
import Derived.Test.YtcinihfjkkaclaaDoorCur3
import Derived.Test.YtcinihfjkkaclaaDoorTreeP
import Derived.Test.YtcinihfjkkaclaaDoorNdh
import Derived.Test.YtcinihfjkkaclaaDoorCurA
import Derived.Test.YtcinihfjkkaclaaDoorDrwB
import Derived.Test.YtcinihfjkkaclaaDoorLftA
namespace Go.Proofs.YtcinihfjkkaclaaDoor
open Go.RowKit

theorem pow_wrap : ∀ n : Fin 8, wrap64 (2 ^ n.val) = 2 ^ n.val ∧ (2 : Int) ^ n.val = 2 ^ n.val ∧ (1 ≤ (2 : Int) ^ n.val ∧ (2 : Int) ^ n.val ≤ 128) := by decide +kernel
set_option maxRecDepth 100000 in
set_option maxHeartbeats 3200000 in
theorem laws_FnNodes (v : Value) (bs : List Int) (w : World) (h : Code w w.heap.size v bs) (hT : Tabs w) :
    Calls Tryd.prog 5 #[v] w fun e w' => e = .returned (.bool true) ∧ Ext w w' := by
  have HT := Lib.hid hT
  clear hT
  have HC := Lib.hid h
  obtain ⟨a, cap, rfl, -, -⟩ := id h
  by_cases hb : (1048576 : Int) < bs.length
  · go_enter Tryd.func5, Tryd.ntmps5
    go_wp2_with (go_at_call 10; refine (laws_big _ _ bs _ HC.out).mono ?_; rintro e w' ⟨rfl, rfl⟩)
    go_ret
    exact ⟨rfl, (by repeat (first | (with_reducible first | exact Ext.refl _ | assumption | apply Ext.alloc | apply Ext.drew | apply Ext.drewN | refine Ext.setCell ?_ ?_ _ | refine Ext.trans ?_ (by assumption)) | (show _ ≤ _; first | omega | (dsimp only; omega) | (simp; done) | (simp; omega))))⟩
  · have hl : bs.length ≤ 1048576 := by omega
    clear h
    go_enter Tryd.func5, Tryd.ntmps5
    go_wp2_with fail
    refine (laws_big _ _ bs _ HC.out).mono ?_
    rintro e w' ⟨rfl, rfl⟩
    go_wp2_with fail
    refine (spec_DrawLeaves _ bs _ HC.out hl).mono ?_
    rintro e w1 ⟨xs, xa, xc, rfl, hok, h8, hown, x1⟩
    have HL := Lib.hid (OwnLvs.lvs hown)
    have HK := Lib.hid hok
    have HF := Lib.hid (ok_fit hok)
    have HN := Lib.hid (names_ok hok)
    clear hok hown
    go_wp2_with fail
    refine (spec_DrawPlaces2 _ bs _ (HC.out.ext (Nat.le_refl _) x1 x1.size) hl).mono ?_
    rintro e w3 ⟨ys, gp, cp, rfl, hys, -, hgp, hyc, hcp, x3⟩
    have y0 := hys 0
    have y1 := hys 1
    have d0 := hyc 0 (by omega)
    have d1 := hyc 1 (by omega)
    generalize ys.getD 0 0 = i0 at *
    generalize ys.getD 1 0 = i1 at *
    clear hys hyc
    have X3 := x1.trans x3
    have HL3 := Lib.hid (HL.out.ext x3)
    clear HL
    obtain ⟨lv, hlv⟩ : ∃ n : Nat, i0 % 8 = n := ⟨(i0 % 8).toNat, by omega⟩
    have hl8 : lv < 8 := by omega
    have hl8i : (lv : Int) < 8 := by omega
    obtain ⟨P, hP, hPe, hP1⟩ : ∃ P : Int, wrap64 (2 ^ lv) = P ∧ P = 2 ^ lv ∧ (1 ≤ P ∧ P ≤ 128) := ⟨2 ^ lv, pow_wrap ⟨lv, hl8⟩⟩
    have HPE := Lib.hid hPe
    have hP0 : P ≠ 0 := by omega
    obtain ⟨q, hq⟩ : ∃ q : Int, i1 % P = q := ⟨_, rfl⟩
    have hq0 : 0 ≤ q ∧ q < P := by rw [← hq]; exact ⟨Int.emod_nonneg _ hP0, Int.emod_lt_of_pos _ (by omega)⟩
    clear hPe
    have hlt : (lv : Int).toNat = lv := by omega
    have hpb : 0 ≤ q ∧ q < 2 ^ (lv : Int).toNat := by rw [hlt, ← HPE.out]; exact hq0
    have N1 := nodes_law (l := lv) (p := q) HK.out (by omega) hpb
    have N2 := Lib.hid (nodes_none (l := lv) (p := q) (by omega) hpb)
    have zA := nodeH_le xs ((lv : Int) + 1) (2 * q) 16
    have zB := nodeH_le xs ((lv : Int) + 1) (2 * q + 1) 16
    generalize hA : nodeH xs ((lv : Int) + 1) (2 * q) 16 = A at *
    generalize hB : nodeH xs ((lv : Int) + 1) (2 * q + 1) 16 = B at *
    have HA := Lib.hid hA
    have HB := Lib.hid hB
    have HN1 := Lib.hid N1
    clear hA hB N1 hlt hpb
    go_wp2_with fail
    refine (impl_NodeHash _ xs ((lv : Int) + 1) (2 * q) 16 _ HL3.out HF.out (HT.out.ext X3)).mono ?_
    rw [HA.out]
    rintro e w4 ⟨rfl, x4⟩
    have X4 := X3.trans x4
    have HL4 := Lib.hid (HL3.out.ext x4)
    clear HL3 d0 d1
    go_wp2_with fail
    refine (impl_NodeHash _ xs ((lv : Int) + 1) (2 * q + 1) 16 _ HL4.out HF.out (HT.out.ext X4)).mono ?_
    rw [HB.out]
    rintro e w5 ⟨rfl, x5⟩
    have X5 := X4.trans x5
    have HL5 := Lib.hid (HL4.out.ext x5)
    clear HL4
    go_wp2_with fail
    refine (spec_DrawNodeHash _ bs _ (HC.out.ext (Nat.le_refl _) X5 X5.size) hl).mono ?_
    rintro e w6 ⟨zs, za, zc, zl, zp, zw, rfl, hzf, hzo, x6⟩
    have X6 := X5.trans x6
    have HL6 := Lib.hid (HL5.out.ext x6)
    have HZ6 := Lib.hid (OwnLvs.lvs hzo)
    have HZF := Lib.hid hzf
    clear HL5 hzo hzf
    go_wp2_with fail
    refine (impl_NodeHash _ xs lv q 16 _ HL6.out HF.out (HT.out.ext X6)).mono ?_
    rw [HN1.out]
    rintro e w7 ⟨rfl, x7⟩
    have X7 := X6.trans x7
    have HZ7 := Lib.hid (HZ6.out.ext x7)
    clear HL6 HZ6
    go_wp2_with fail
    refine (spec_TagHash 3 _ [A, B] 16 _ (by exact strs_lit2 _ _ _ _) (fit2 (by unfold maxLen; omega) (by unfold maxLen; omega))).mono ?_
    generalize tagH 3 [A, B] 16 = T at *
    rintro e w8 ⟨rfl, x8⟩
    have e8 : Ext w7 w8 := (by repeat (first | (with_reducible first | exact Ext.refl _ | assumption | apply Ext.alloc | apply Ext.drew | apply Ext.drewN | refine Ext.setCell ?_ ?_ _ | refine Ext.trans ?_ (by assumption)) | (show _ ≤ _; first | omega | (dsimp only; omega) | (simp; done) | (simp; omega))))
    have X8 := X7.trans e8
    have HZ8 := Lib.hid (HZ7.out.ext e8)
    clear HZ7
    go_wp2_with fail
    have e9 : Ext w8 (w8.alloc (Obj.cells #[] 117)) := (by repeat (first | (with_reducible first | exact Ext.refl _ | assumption | apply Ext.alloc | apply Ext.drew | apply Ext.drewN | refine Ext.setCell ?_ ?_ _ | refine Ext.trans ?_ (by assumption)) | (show _ ≤ _; first | omega | (dsimp only; omega) | (simp; done) | (simp; omega))))
    have X9 := X8.trans e9
    have HZ9 := Lib.hid (HZ8.out.ext e9)
    have HE := Lib.hid (Row.of_owns (World.ownsRow_lit (base := w8.heap.size) (e := 117) (size := 2) w8 #[] 0 (Nat.le_refl _) (Nat.zero_le _) rfl))
    refine (impl_NodeHash _ [] lv q 16 _ (by exact HE.out) (fun l hl => by cases hl) (HT.out.ext X9)).mono ?_
    rw [N2.out]
    generalize hM : emptyH lv 16 = M at *
    have HM := Lib.hid hM
    clear hM
    rintro e w10 ⟨rfl, x10⟩
    have X10 := X9.trans x10
    have HZ10 := Lib.hid (HZ9.out.ext x10)
    clear HZ9 HE HZ8
    go_wp2_with fail
    refine (impl_EmptyHash lv 16 _ (HT.out.ext X10)).mono ?_
    rw [HM.out]
    rintro e w11 ⟨rfl, x11⟩
    have X11 := X10.trans x11
    have HZ11 := Lib.hid (HZ10.out.ext x11)
    clear HZ10
    go_wp2_with fail
    refine (impl_NodeHash _ zs zl zp zw _ HZ11.out HZF.out (HT.out.ext X11)).mono ?_
    rintro e w12 ⟨rfl, x12⟩
    have X12 := X11.trans x12
    have HZ12 := Lib.hid (HZ11.out.ext x12)
    clear HZ11
    go_wp2_with fail
    refine (spec_NodeHash _ zs zl zp zw _ HZ12.out HZF.out).mono ?_
    rintro e w13 ⟨rfl, x13⟩
    have X13 := X12.trans x13
    go_wp2
    go_ret
    exact ⟨rfl, X13⟩
end Go.Proofs.YtcinihfjkkaclaaDoor
