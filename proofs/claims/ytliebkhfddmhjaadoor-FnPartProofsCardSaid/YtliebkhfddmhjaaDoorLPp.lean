/- FnPartProofs: the walk. -/
import Derived.Test.YtliebkhfddmhjaaDoorPtP
import Derived.Test.YtliebkhfddmhjaaDoorDcm
import Derived.Test.YtliebkhfddmhjaaDoorSm
import Derived.Test.YtliebkhfddmhjaaDoorLRt
import Derived.Test.YtliebkhfddmhjaaDoorLftA
import Derived.Deep.DeepCutAuto
namespace Go.Proofs.YtliebkhfddmhjaaDoor
open Go.RowKit

theorem pl_fit2 {xs : List Leaf} (h : leavesOk xs = true) (n : ByteArray) (l wd : Int) : LeafFit (plB xs n l wd) := by
  unfold plB
  split
  · exact bkt_fit h
  · intro l hl; cases hl
theorem plS_fit2 (xs : List Leaf) (n : ByteArray) (l wd : Int) : ∀ s ∈ plS xs n l wd, s.size ≤ maxLen := by
  unfold plS
  split
  · exact sd_fit _ _ _ _
  · intro s hs; cases hs
theorem prHash_32 (n : ByteArray) (xs : List Leaf) (ss : List ByteArray) (wd : Int) : (prHash n xs ss wd).size ≤ 32 := by
  unfold prHash
  split
  · decide
  · exact cutT_le _ _
set_option maxRecDepth 100000 in
set_option maxHeartbeats 12800000 in
theorem laws_FnPartProofs (v : Value) (bs : List Int) (w : World) (h : Code w w.heap.size v bs) (hT : Tabs w) :
    Calls Tryd.prog 10 #[v] w fun e w' => e = .returned (.bool true) ∧ Ext w w' := by
  have HT := Lib.hid hT
  clear hT
  have HC := Lib.hid h
  obtain ⟨a0, cap, rfl, -, -⟩ := id h
  by_cases hb : (1048576 : Int) < bs.length
  · go_enter Tryd.func10, Tryd.ntmps10
    go_wp2_with (go_at_call 27; refine (laws_big _ _ bs _ HC.out).mono ?_; rintro e w' ⟨rfl, rfl⟩)
    go_ret
    exact ⟨rfl, (by repeat (first | (with_reducible first | exact Ext.refl _ | assumption | apply Ext.alloc | apply Ext.drew | apply Ext.drewN | refine Ext.setCell ?_ ?_ _ | refine Ext.trans ?_ (by assumption)) | (show _ ≤ _; first | omega | (dsimp only; omega) | (simp; done) | (simp; omega))))⟩
  have hl : bs.length ≤ 1048576 := by omega
  clear h
  go_enter Tryd.func10, Tryd.ntmps10
  go_wp2_with fail
  refine (laws_big _ _ bs _ HC.out).mono ?_
  rintro e w' ⟨rfl, rfl⟩
  go_wp2_with fail
  refine (spec_DrawLeaves _ bs _ HC.out hl).mono ?_
  rintro e w1 ⟨xs, la, lc, rfl, hok, hn8, hown, X⟩
  have LL := Lib.hid (OwnLvs.lvs hown)
  have HK := Lib.hid hok
  have HF := Lib.hid (ok_fit hok)
  have HN := Lib.hid (names_ok hok)
  clear hok hown
  go_wp2_with fail
  refine (spec_DrawName _ bs _ (HC.out.ext (Nat.le_refl _) X X.size) hl).mono ?_
  rintro e w2 ⟨n, rfl, hnk, x2⟩
  replace LL := Lib.hid (LL.out.ext x2)
  replace X := X.trans x2
  have hn12 := name_12 hnk
  have HNK := Lib.hid hnk
  clear hnk x2
  go_wp2_with fail
  refine (spec_DrawPlaces2 _ bs _ (HC.out.ext (Nat.le_refl _) X X.size) hl).mono ?_
  rintro e w3 ⟨ys, gp, cp, rfl, hys, -, hgp, hyc, hcp, x3⟩
  replace LL := Lib.hid (LL.out.ext x3)
  replace X := X.trans x3
  have y0 := hys 0
  have d0 := hyc 0 (by omega)
  generalize ys.getD 0 0 = i0 at *
  clear hys hyc x3
  go_wp2_with fail
  have hkd : 0 ≤ i0 % 3 ∧ i0 % 3 ≤ 2 := by omega
  generalize i0 % 3 = kk at *
  obtain ⟨k, rfl⟩ := Int.eq_ofNat_of_zero_le hkd.1
  have hk2 : k ≤ 2 := by omega
  clear d0 hgp hcp y0 hkd
  obtain ⟨l1, l2, l3, l4⟩ := parts_law HK.out HNK.out hk2
  have hpk := shd_ok HK.out k (shardT n k)
  have htf := tops_fit (n := n) HK.out hk2
  have hpl : (shdL xs k (shardT n k)).length ≤ xs.length := pickOn_length _ _ _
  have L1 := Lib.hid l1
  have L2 := Lib.hid l2
  have L3 := Lib.hid l3
  have L4 := Lib.hid l4
  have HTF := Lib.hid htf
  have HPK := Lib.hid hpk
  have HRF := Lib.hid (rts_fit HK.out hk2)
  clear l1 l2 l3 l4 htf hpk
  refine (impl_ShardOf n k _ (by omega) (HT.out.ext X)).mono ?_
  generalize shardT n k = sh at *
  rintro e w4 ⟨rfl, x4⟩
  replace LL := Lib.hid (LL.out.ext x4)
  replace X := X.trans x4
  clear x4
  go_wp2_with fail
  refine (spec_ShardLeaves _ xs k sh _ LL.out HN.out (by omega)).mono ?_
  rintro e w5 ⟨sa, sc, rfl, hown, x5⟩
  replace LL := Lib.hid (LL.out.ext x5)
  replace X := X.trans x5
  have LP := Lib.hid (OwnLvs.lvs hown)
  clear hown x5
  have HPF := Lib.hid (ok_fit HPK.out)
  generalize shdL xs k sh = P0 at *
  go_wp2_with fail
  refine (spec_ProveLeaf _ P0 n k 16 _ LP.out HPF.out (by unfold maxLen; omega)).mono ?_
  rw [L1.out]
  have HBF := Lib.hid (pl_fit2 HPK.out n k 16)
  have HBS := Lib.hid (plS_fit2 P0 n k 16)
  generalize plB P0 n k 16 = pB at *
  generalize plS P0 n k 16 = pS at *
  rintro e w9 ⟨pa, pc, pb, pd, rfl, ho1, ⟨m1, -, -, ho2⟩, x9⟩
  replace LL := Lib.hid (LL.out.ext x9)
  replace X := X.trans x9
  replace LP := Lib.hid (LP.out.ext x9)
  clear x9
  have LB := Lib.hid (OwnLvs.lvs ho1)
  have LS := Lib.hid (OwnStrs.strs ho2)
  clear ho1 ho2 LP
  have e9 : Ext w9 (w9.alloc (Obj.cells #[.slice pa pB.length pc, .slice pb pS.length pd] 83)) := (Ext.refl _).alloc _
  have Q := Bx.new w9 #[.slice pa pB.length pc, .slice pb pS.length pd] 83
  replace LL := Lib.hid (LL.out.ext e9)
  replace X := X.trans e9
  replace LB := Lib.hid (LB.out.ext e9)
  replace LS := Lib.hid (Row.ext LS.out e9)
  go_wp2_with fail
  generalize w9.alloc (Obj.cells #[.slice pa pB.length pc, .slice pb pS.length pd] 83) = w10 at *
  generalize w9.heap.size = B at *
  clear e9
  refine (laws_rootsOf _ xs k _ LL.out HF.out hk2).mono ?_
  generalize rtsN xs k (2 ^ k) = R at *
  rintro e w11 ⟨ra, rc, rfl, ho, x11⟩
  replace LL := Lib.hid (LL.out.ext x11)
  replace X := X.trans x11
  replace LB := Lib.hid (LB.out.ext x11)
  replace LS := Lib.hid (Row.ext LS.out x11)
  replace Q := Q.ext x11
  have LR := Lib.hid (OwnStrs.strs ho)
  clear ho x11
  go_wp2_with fail
  refine (impl_CombineSides _ R sh 16 _ LR.out HRF.out (HT.out.ext X)).mono ?_
  rw [L2.out]
  generalize sidesL R sh 16 = T at *
  rintro e w12 ⟨ta, tc, rfl, ho, x12⟩
  replace LL := Lib.hid (LL.out.ext x12)
  replace X := X.trans x12
  replace LB := Lib.hid (LB.out.ext x12)
  replace LS := Lib.hid (Row.ext LS.out x12)
  replace Q := Q.ext x12
  replace LR := Lib.hid (Row.ext LR.out x12)
  have LT := Lib.hid (OwnStrs.strs ho)
  clear ho x12 LR
  go_wp2_with fail
  refine (spec_DrawCombineSides _ bs _ (HC.out.ext (Nat.le_refl _) X X.size) hl).mono ?_
  rintro e w13 ⟨zs, za, zc, s2, wd, rfl, hzf, hzs, x13⟩
  replace LL := Lib.hid (LL.out.ext x13)
  replace X := X.trans x13
  replace LB := Lib.hid (LB.out.ext x13)
  replace LS := Lib.hid (Row.ext LS.out x13)
  replace Q := Q.ext x13
  replace LT := Lib.hid (Row.ext LT.out x13)
  have LZ := Lib.hid hzs
  have HZ := Lib.hid (show ∀ s ∈ zs, s.size ≤ maxLen from fun s hs => le_max (hzf s hs) (by omega))
  clear hzf hzs x13
  go_wp2_with fail
  refine (impl_CombineSides _ zs s2 wd _ LZ.out HZ.out (HT.out.ext X)).mono ?_
  generalize hU : sidesL zs s2 wd = U at *
  generalize hV : sidesOk zs s2 wd = bv at *
  have HU := Lib.hid hU
  have HV := Lib.hid hV
  clear hU hV
  rintro e w14 ⟨ua, uc, rfl, ho, x14⟩
  replace LL := Lib.hid (LL.out.ext x14)
  replace X := X.trans x14
  replace LB := Lib.hid (LB.out.ext x14)
  replace LS := Lib.hid (Row.ext LS.out x14)
  replace Q := Q.ext x14
  replace LT := Lib.hid (Row.ext LT.out x14)
  replace LZ := Lib.hid (Row.ext LZ.out x14)
  have LU := Lib.hid (OwnStrs.strs ho)
  clear ho x14
  go_wp2_with fail
  refine (spec_CombineSides _ zs s2 wd _ LZ.out HZ.out).mono ?_
  rw [HU.out, HV.out]
  rintro e w15 ⟨va, vc, rfl, ho, x15⟩
  replace LL := Lib.hid (LL.out.ext x15)
  replace X := X.trans x15
  replace LB := Lib.hid (LB.out.ext x15)
  replace LS := Lib.hid (Row.ext LS.out x15)
  replace Q := Q.ext x15
  replace LT := Lib.hid (Row.ext LT.out x15)
  replace LZ := Lib.hid (Row.ext LZ.out x15)
  replace LU := Lib.hid (Row.ext LU.out x15)
  have LV := Lib.hid (OwnStrs.strs ho)
  clear ho x15
  go_wp2_with fail
  refine (impl_CombineRoots _ zs wd _ LZ.out HZ.out (HT.out.ext X)).mono ?_
  generalize hE : combR zs wd = ct at *
  generalize hG : rootsOk zs wd = bg at *
  have HE := Lib.hid hE
  have HG := Lib.hid hG
  clear hE hG
  rintro e w16 ⟨rfl, x16⟩
  replace LL := Lib.hid (LL.out.ext x16)
  replace X := X.trans x16
  replace LB := Lib.hid (LB.out.ext x16)
  replace LS := Lib.hid (Row.ext LS.out x16)
  replace Q := Q.ext x16
  replace LT := Lib.hid (Row.ext LT.out x16)
  replace LZ := Lib.hid (Row.ext LZ.out x16)
  replace LU := Lib.hid (Row.ext LU.out x16)
  replace LV := Lib.hid (Row.ext LV.out x16)
  clear x16
  go_wp2_with fail
  refine (spec_CombineRoots _ zs wd _ LZ.out HZ.out).mono ?_
  rw [HE.out, HG.out]
  rintro e w17 ⟨rfl, x17⟩
  replace LL := Lib.hid (LL.out.ext x17)
  replace X := X.trans x17
  replace LB := Lib.hid (LB.out.ext x17)
  replace LS := Lib.hid (Row.ext LS.out x17)
  replace Q := Q.ext x17
  replace LT := Lib.hid (Row.ext LT.out x17)
  replace LZ := Lib.hid (Row.ext LZ.out x17)
  replace LU := Lib.hid (Row.ext LU.out x17)
  replace LV := Lib.hid (Row.ext LV.out x17)
  clear x17 LZ
  have hq1 : ((T.length : Int) == (k : Int)) = true := by rw [L3.out]; simp
  have hq2 : decide ((T.length : Int) = (k : Int)) = true := decide_eq_true (by rw [L3.out])
  have q0 := Q.2.1 0 _ rfl
  have q1 := Q.2.1 1 _ rfl
  go_wp2_with fail
  refine (spec_ProofHash n _ _ pB pS 16 _ (by unfold maxLen; omega) LB.out HBF.out LS.out HBS.out).mono ?_
  have hph : (prHash n pB pS 16).size ≤ 32 := prHash_32 n pB pS 16
  generalize prHash n pB pS 16 = ph at *
  rintro e w18 ⟨rfl, x18⟩
  replace LL := Lib.hid (LL.out.ext x18)
  replace X := X.trans x18
  replace LB := Lib.hid (LB.out.ext x18)
  replace LS := Lib.hid (Row.ext LS.out x18)
  replace Q := Q.ext x18
  replace LT := Lib.hid (Row.ext LT.out x18)
  replace LU := Lib.hid (Row.ext LU.out x18)
  replace LV := Lib.hid (Row.ext LV.out x18)
  clear x18 q0 q1
  go_wp2_with fail
  refine (spec_IndexOf n _ (by omega)).mono ?_
  generalize idxT n = ix at *
  rintro e w19 ⟨rfl, x19⟩
  replace LL := Lib.hid (LL.out.ext x19)
  replace X := X.trans x19
  replace LB := Lib.hid (LB.out.ext x19)
  replace LS := Lib.hid (Row.ext LS.out x19)
  replace Q := Q.ext x19
  replace LT := Lib.hid (Row.ext LT.out x19)
  replace LU := Lib.hid (Row.ext LU.out x19)
  replace LV := Lib.hid (Row.ext LV.out x19)
  clear x19
  go_wp2_with fail
  refine (spec_FoldUp ph ix k _ T 16 _ (le_max hph (by omega)) LT.out HTF.out).mono ?_
  rw [L4.out]
  generalize hro : nodeH xs 0 0 16 = ro at *
  have HRO := Lib.hid hro
  clear hro
  rintro e w20 ⟨rfl, x20⟩
  replace LL := Lib.hid (LL.out.ext x20)
  replace X := X.trans x20
  replace LB := Lib.hid (LB.out.ext x20)
  replace LS := Lib.hid (Row.ext LS.out x20)
  replace Q := Q.ext x20
  replace LT := Lib.hid (Row.ext LT.out x20)
  replace LU := Lib.hid (Row.ext LU.out x20)
  replace LV := Lib.hid (Row.ext LV.out x20)
  clear x20
  go_wp2_with fail
  refine (spec_RootOf _ xs 16 _ LL.out HF.out).mono ?_
  rw [HRO.out]
  rintro e w21 ⟨rfl, x21⟩
  replace LL := Lib.hid (LL.out.ext x21)
  replace X := X.trans x21
  replace LB := Lib.hid (LB.out.ext x21)
  replace LS := Lib.hid (Row.ext LS.out x21)
  replace Q := Q.ext x21
  replace LT := Lib.hid (Row.ext LT.out x21)
  replace LU := Lib.hid (Row.ext LU.out x21)
  replace LV := Lib.hid (Row.ext LV.out x21)
  clear x21
  have hr1 : (ro.toList == ro.toList) = true := by simp
  have hb1 : (bv == bv) = true := by simp
  have hb2 : (bg == bg) = true := by simp
  have hc1 : (ct.toList == ct.toList) = true := by simp
  go_wp2_with fail
  refine (laws_sameTexts _ _ U U _ LU.out LV.out).mono ?_
  rw [show decide (U = U) = true from decide_eq_true rfl]
  rintro e w22 ⟨rfl, x22⟩
  replace LL := Lib.hid (LL.out.ext x22)
  replace X := X.trans x22
  replace LB := Lib.hid (LB.out.ext x22)
  replace LS := Lib.hid (Row.ext LS.out x22)
  replace Q := Q.ext x22
  replace LT := Lib.hid (Row.ext LT.out x22)
  replace LU := Lib.hid (Row.ext LU.out x22)
  replace LV := Lib.hid (Row.ext LV.out x22)
  go_wp2
  go_ret
  exact ⟨rfl, X⟩
end Go.Proofs.YtliebkhfddmhjaaDoor
