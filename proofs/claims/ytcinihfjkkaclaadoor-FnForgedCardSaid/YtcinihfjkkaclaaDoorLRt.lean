/- FnRoots: the walk. -/
import Derived.Test.YtcinihfjkkaclaaDoorCur3
import Derived.Test.YtcinihfjkkaclaaDoorTreeP
import Derived.Test.YtcinihfjkkaclaaDoorCurA
import Derived.Test.YtcinihfjkkaclaaDoorDrwB
import Derived.Test.YtcinihfjkkaclaaDoorLftA
namespace Go.Proofs.YtcinihfjkkaclaaDoor
open Go.RowKit

theorem nodeT_size (xs : List Leaf) (wd : Int) (hw : inB wd 1 32 = true) : ∀ n p, ((nodeT xs wd n p).size : Int) = wd
  | 0, p => cutT_size _ _ hw
  | n + 1, p => by
    rw [node_both, tagH, if_pos (tag_yes rfl (by simp) (fun q hq => by
      simp only [List.mem_cons, List.not_mem_nil, or_false] at hq
      have h1 := nodeT_le xs wd n (2 * p)
      have h2 := nodeT_le xs wd n (2 * p + 1)
      rcases hq with rfl | rfl <;> omega))]
    exact cutT_size _ _ hw
theorem root_size {xs : List Leaf} {wd : Int} (h : leavesOk xs = true) (hw : inB wd 1 32 = true) : ((nodeH xs 0 0 wd).size : Int) = wd := by
  rw [nodeH_yes (l := 0) (p := 0) h rfl rfl hw]
  exact nodeT_size xs wd hw _ _
theorem bkt_fit {xs : List Leaf} {i : Int} (h : leavesOk xs = true) : LeafFit (bktL xs i) := by rw [bkt_bel]; exact ok_fit (belL_ok h 0 i)
theorem bucketH_le (xs : List Leaf) (wd : Int) : (bucketH xs wd).size ≤ 32 := by
  rw [bucketH]
  split
  · exact cutT_le _ _
  · decide
theorem sd_fit (xs : List Leaf) (i l wd : Int) : ∀ s ∈ sdF xs i l wd, s.size ≤ maxLen := by
  intro s hs
  rw [sdF] at hs
  split at hs
  · rw [sdL, List.mem_map] at hs
    obtain ⟨j, -, rfl⟩ := hs
    have := nodeT_le xs wd j (besT i j)
    unfold maxLen; omega
  · cases hs
set_option maxRecDepth 100000 in
set_option maxHeartbeats 3200000 in
theorem laws_FnRoots (v : Value) (bs : List Int) (w : World) (h : Code w w.heap.size v bs) (hT : Tabs w) :
    Calls Tryd.prog 6 #[v] w fun e w' => e = .returned (.bool true) ∧ Ext w w' := by
  have HT := Lib.hid hT
  clear hT
  have HC := Lib.hid h
  obtain ⟨a, cap, rfl, -, -⟩ := id h
  by_cases hb : (1048576 : Int) < bs.length
  · go_enter Tryd.func6, Tryd.ntmps6
    go_wp2_with (go_at_call 10; refine (laws_big _ _ bs _ HC.out).mono ?_; rintro e w' ⟨rfl, rfl⟩)
    go_ret
    exact ⟨rfl, (by repeat (first | (with_reducible first | exact Ext.refl _ | assumption | apply Ext.alloc | apply Ext.drew | apply Ext.drewN | refine Ext.setCell ?_ ?_ _ | refine Ext.trans ?_ (by assumption)) | (show _ ≤ _; first | omega | (dsimp only; omega) | (simp; done) | (simp; omega))))⟩
  · have hl : bs.length ≤ 1048576 := by omega
    clear h
    go_enter Tryd.func6, Tryd.ntmps6
    go_wp2_with fail
    refine (laws_big _ _ bs _ HC.out).mono ?_
    rintro e w' ⟨rfl, rfl⟩
    go_wp2_with fail
    refine (spec_DrawLeaves _ bs _ HC.out hl).mono ?_
    rintro e w1 ⟨xs, xa, xc, rfl, hok, h8, hown, x1⟩
    have HL := Lib.hid (OwnLvs.lvs hown)
    have HK := Lib.hid hok
    have HF := Lib.hid (ok_fit hok)
    have HN := Lib.hid (names_ok hok)
    clear hok hown
    go_wp2_with fail
    refine (spec_DrawName _ bs _ (HC.out.ext (Nat.le_refl _) x1 x1.size) hl).mono ?_
    rintro e w2 ⟨nm, rfl, hnm, x2⟩
    have X2 := x1.trans x2
    have HL2 := Lib.hid (HL.out.ext x2)
    have hn12 := name_12 hnm
    clear hnm HL
    go_wp2_with fail
    refine (spec_DrawPlaces2 _ bs _ (HC.out.ext (Nat.le_refl _) X2 X2.size) hl).mono ?_
    rintro e w3 ⟨ys, gp, cp, rfl, hys, -, hgp, hyc, hcp, x3⟩
    have y0 := hys 0
    have d0 := hyc 0 (by omega)
    generalize ys.getD 0 0 = i0 at *
    clear hys hyc
    have X3 := X2.trans x3
    have HL3 := Lib.hid (HL2.out.ext x3)
    clear HL2
    go_wp2_with fail
    refine (spec_IndexOf nm _ (by omega)).mono ?_
    have hib := idxT_bd nm
    generalize idxT nm = ix at *
    rintro e w4 ⟨rfl, x4⟩
    have X4 := X3.trans x4
    have HL4 := Lib.hid (HL3.out.ext x4)
    clear HL3 d0
    have hwd : 1 ≤ 1 + i0 % 32 ∧ 1 + i0 % 32 ≤ 32 := by omega
    generalize 1 + i0 % 32 = wd at *
    have HW := Lib.hid (show inB wd 1 32 = true from inB_true.2 hwd)
    obtain ⟨q1, q2, q3⟩ := roots_law HK.out hib HW.out
    have HB := Lib.hid (bkt_fit (i := ix) HK.out)
    have HSF := Lib.hid (sd_fit xs ix 0 wd)
    have hrz := root_size HK.out HW.out
    have HHS := Lib.hid (show (bucketH (bktL xs ix) wd).size ≤ 32 from bucketH_le _ _)
    generalize hrE : nodeH xs 0 0 wd = root at *
    generalize hnE : nodeH xs 8 ix wd = nd at *
    generalize hbE : bktL xs ix = bk at *
    have HRE := Lib.hid hrE
    have HNE := Lib.hid hnE
    have HBE := Lib.hid hbE
    clear hrE hnE hbE
    go_wp2_with fail
    refine (impl_SidesOf _ xs ix 0 wd _ HL4.out HF.out (HT.out.ext X4)).mono ?_
    generalize hss : sdF xs ix 0 wd = ss at *
    clear hss
    rintro e w5 ⟨sa, sc, rfl, hso, x5⟩
    have X5 := X4.trans x5
    have HL5 := Lib.hid (HL4.out.ext x5)
    have HS := Lib.hid hso.strs
    have hb8 : ((ss.length : Int) == 8) = true := by rw [q1]; rfl
    have hd8 : decide ((ss.length : Int) = 8) = true := by rw [q1]; rfl
    have Q2 := Lib.hid q2
    have Q3 := Lib.hid q3
    clear q1 q2 q3 hso HL4
    go_wp2_with fail
    refine (spec_BucketOf _ xs ix _ HL5.out HN.out (by omega)).mono ?_
    rw [HBE.out]
    rintro e w6 ⟨ba, bc, rfl, hbo, x6⟩
    have X6 := X5.trans x6
    have HL6 := Lib.hid (HL5.out.ext x6)
    have HS6 := Lib.hid (HS.out.ext x6)
    clear HL5 HS
    go_wp2_with fail
    refine (impl_BucketHash _ bk wd _ (OwnLvs.lvs hbo) HB.out (HT.out.ext X6)).mono ?_
    generalize bucketH bk wd = hs at *
    rintro e w7 ⟨rfl, x7⟩
    have X7 := X6.trans x7
    have HL7 := Lib.hid (HL6.out.ext x7)
    have HS7 := Lib.hid (HS6.out.ext x7)
    clear HL6 HS6 hbo
    go_wp2_with fail
    refine (impl_RootOf _ xs wd _ HL7.out HF.out (HT.out.ext X7)).mono ?_
    rw [HRE.out]
    rintro e w8 ⟨rfl, x8⟩
    have X8 := X7.trans x8
    have HL8 := Lib.hid (HL7.out.ext x8)
    have HS8 := Lib.hid (HS7.out.ext x8)
    have e1 : ((root.size : Int) == wd) = true := by rw [hrz]; exact beq_self_eq_true _
    have e2 : decide ((root.size : Int) = wd) = true := decide_eq_true hrz
    clear HL7 HS7 hrz
    go_wp2_with fail
    refine (impl_FoldUp hs ix 8 _ ss wd _ (by have := HHS.out; unfold maxLen; omega) HS8.out HSF.out (HT.out.ext X8)).mono ?_
    rw [Q2.out]
    rintro e w9 ⟨rfl, x9⟩
    have X9 := X8.trans x9
    have HL9 := Lib.hid (HL8.out.ext x9)
    clear HL8 HS8
    go_wp2_with fail
    refine (spec_RootOf _ xs wd _ HL9.out HF.out).mono ?_
    rw [HRE.out]
    rintro e w10 ⟨rfl, x10⟩
    have X10 := X9.trans x10
    have HL10 := Lib.hid (HL9.out.ext x10)
    clear HL9
    go_wp2_with fail
    refine (impl_NodeHash _ xs 8 ix wd _ HL10.out HF.out (HT.out.ext X10)).mono ?_
    rw [HNE.out, Q3.out]
    rintro e w11 ⟨rfl, x11⟩
    have X11 := X10.trans x11
    go_wp2
    go_ret
    exact ⟨rfl, X11⟩
end Go.Proofs.YtcinihfjkkaclaaDoor
