/- FnRootsDiffer: the walk. -/
import Derived.Test.YtliebkhfddmhjaaDoorDfP
import Derived.Test.YtliebkhfddmhjaaDoorDbt
import Derived.Test.YtliebkhfddmhjaaDoorClh
import Derived.Test.YtliebkhfddmhjaaDoorLRt
import Derived.Test.YtliebkhfddmhjaaDoorLftA
import Derived.Deep.DeepCutAuto
namespace Go.Proofs.YtliebkhfddmhjaaDoor
open Go.RowKit

theorem pl_fit {xs : List Leaf} (h : leavesOk xs = true) (n : ByteArray) (l wd : Int) : LeafFit (plB xs n l wd) := by
  unfold plB
  split
  · exact bkt_fit h
  · intro l hl; cases hl
theorem plS_fit (xs : List Leaf) (n : ByteArray) (l wd : Int) : ∀ s ∈ plS xs n l wd, s.size ≤ maxLen := by
  unfold plS
  split
  · exact sd_fit _ _ _ _
  · intro s hs; cases hs
set_option maxRecDepth 100000 in
set_option maxHeartbeats 12800000 in
theorem laws_FnRootsDiffer (v : Value) (bs : List Int) (w : World) (h : Code w w.heap.size v bs) (hT : Tabs w) :
    Calls Tryd.prog 9 #[v] w fun e w' => e = .returned (.bool true) ∧ Ext w w' := by
  have HT := Lib.hid hT
  clear hT
  have HC := Lib.hid h
  obtain ⟨a0, cap, rfl, -, -⟩ := id h
  by_cases hb : (1048576 : Int) < bs.length
  · go_enter Tryd.func9, Tryd.ntmps9
    go_wp2_with (go_at_call 27; refine (laws_big _ _ bs _ HC.out).mono ?_; rintro e w' ⟨rfl, rfl⟩)
    go_ret
    exact ⟨rfl, (by repeat (first | (with_reducible first | exact Ext.refl _ | assumption | apply Ext.alloc | apply Ext.drew | apply Ext.drewN | refine Ext.setCell ?_ ?_ _ | refine Ext.trans ?_ (by assumption)) | (show _ ≤ _; first | omega | (dsimp only; omega) | (simp; done) | (simp; omega))))⟩
  have hl : bs.length ≤ 1048576 := by omega
  clear h
  go_enter Tryd.func9, Tryd.ntmps9
  go_wp2_with fail
  refine (laws_big _ _ bs _ HC.out).mono ?_
  rintro e w' ⟨rfl, rfl⟩
  go_wp2_with fail
  refine (spec_DrawLeaves _ bs _ HC.out hl).mono ?_
  rintro e w1 ⟨xs, la, lc, rfl, hok, hn8, hown, X⟩
  have LL := Lib.hid (OwnLvs.lvs hown)
  have SL := own_solid hown
  have HK := Lib.hid hok
  have HF := Lib.hid (ok_fit hok)
  clear hok hown
  go_wp2_with fail
  refine (spec_DrawName _ bs _ (HC.out.ext (Nat.le_refl _) X X.size) hl).mono ?_
  rintro e w2 ⟨n, rfl, hnk, x2⟩
  replace LL := Lib.hid (LL.out.ext x2)
  replace X := X.trans x2
  have hn12 := name_12 hnk
  have HNK := Lib.hid hnk
  clear hnk x2
  go_wp2_with fail
  refine (spec_DrawPlaces2 _ bs _ (HC.out.ext (Nat.le_refl _) X X.size) hl).mono ?_
  rintro e w3 ⟨ys, gp, cp, rfl, hys, -, hgp, hyc, hcp, x3⟩
  replace LL := Lib.hid (LL.out.ext x3)
  replace X := X.trans x3
  have y0 := hys 0
  have d0 := hyc 0 (by omega)
  generalize ys.getD 0 0 = i0 at *
  clear hys hyc x3
  go_wp2_with fail
  have hwd : 1 ≤ 1 + i0 % 2 ∧ 1 + i0 % 2 ≤ 2 := by omega
  generalize 1 + i0 % 2 = wd at *
  have HW := Lib.hid (show inB wd 1 32 = true from inB_true.2 (by omega))
  clear d0 hgp hcp y0
  have HPW := Lib.hid (putWell_ok HK.out hn8 HNK.out oneV_ok)
  have HYK := Lib.hid (putL_ok (n := n) (u := oneV) HK.out)
  have hyl := putL_le xs n oneV
  have CL := Lib.hid (fun i : Fin 8 => clash_law (u := oneV) (v := valT ++ decS i.val) HK.out hn8 HNK.out oneV_ok (decV_ok i).1 (fun e => (decV_ok i).2.1 e.symm) HW.out)
  refine (spec_LeafPut _ xs n ⟨#[118, 97, 108, 117, 101, 111, 110, 101]⟩ _ LL.out SL HF.out (by unfold maxLen; omega) (by unfold maxLen; decide) (by omega)).mono ?_
  rw [show (⟨#[118, 97, 108, 117, 101, 111, 110, 101]⟩ : ByteArray) = oneV from rfl, HPW.out]
  rintro e w4 ⟨ya, yc, rfl, hown, x4⟩
  replace LL := Lib.hid (LL.out.ext x4)
  replace X := X.trans x4
  have LY := Lib.hid (OwnLvs.lvs hown)
  clear hown x4 HPW
  have HYF := Lib.hid (ok_fit HYK.out)
  generalize putL xs n oneV = yl at *
  go_wp2_with fail
  refine (spec_DrawBucketText _ bs _ (HC.out.ext (Nat.le_refl _) X X.size) hl).mono ?_
  rintro e w5 ⟨zs, za, zc, rfl, hzf, hzl, x5⟩
  replace LL := Lib.hid (LL.out.ext x5)
  replace X := X.trans x5
  replace LY := Lib.hid (LY.out.ext x5)
  have LZ := Lib.hid hzl
  have HZF := Lib.hid hzf
  clear hzl hzf x5
  go_wp2_with fail
  refine (impl_BucketText _ zs _ LZ.out HZF.out).mono ?_
  generalize hbt : bucketTx zs = bt at *
  generalize hbo : leavesOk zs = bo at *
  have HBT := Lib.hid hbt
  have HBO := Lib.hid hbo
  clear hbt hbo
  rintro e w6 ⟨rfl, x6⟩
  replace LL := Lib.hid (LL.out.ext x6)
  replace X := X.trans x6
  replace LY := Lib.hid (LY.out.ext x6)
  replace LZ := Lib.hid (LZ.out.ext x6)
  clear x6
  go_wp2_with fail
  refine (spec_BucketText _ zs _ LZ.out HZF.out).mono ?_
  rw [HBT.out, HBO.out]
  rintro e w7 ⟨rfl, x7⟩
  replace LL := Lib.hid (LL.out.ext x7)
  replace X := X.trans x7
  replace LY := Lib.hid (LY.out.ext x7)
  replace LZ := Lib.hid (LZ.out.ext x7)
  clear x7 LZ
  have hq1 : (bt.toList == bt.toList) = true := by simp
  have hq2 : (bt.toList != bt.toList) = false := by simp
  have hq3 : (bo != bo) = false := by simp
  go_wp2_with fail
  refine (impl_RootOf _ yl wd _ LY.out HYF.out (HT.out.ext X)).mono ?_
  have hrz := root_size HYK.out HW.out
  generalize hrE : nodeH yl 0 0 wd = root at *
  have HRE := Lib.hid hrE
  clear hrE hq1 hq2 hq3
  rintro e w8 ⟨rfl, x8⟩
  replace LL := Lib.hid (LL.out.ext x8)
  replace X := X.trans x8
  replace LY := Lib.hid (LY.out.ext x8)
  clear x8
  go_wp2_with fail
  refine (spec_ProveLeaf _ yl n 0 wd _ LY.out HYF.out (by unfold maxLen; omega)).mono ?_
  generalize hpb : plB yl n 0 wd = pB at *
  generalize hps : plS yl n 0 wd = pS at *
  have HPF := Lib.hid (show LeafFit pB by rw [← hpb]; exact pl_fit HYK.out n 0 wd)
  have HPS := Lib.hid (show ∀ s ∈ pS, s.size ≤ maxLen by rw [← hps]; exact plS_fit yl n 0 wd)
  clear hpb hps
  rintro e w9 ⟨pa, pc, pb, pd, rfl, ho1, ⟨m1, -, -, ho2⟩, x9⟩
  replace LL := Lib.hid (LL.out.ext x9)
  replace X := X.trans x9
  replace LY := Lib.hid (LY.out.ext x9)
  clear x9
  have LP := Lib.hid (OwnLvs.lvs ho1)
  have LS := Lib.hid (OwnStrs.strs ho2)
  clear ho1 ho2
  have e9 : Ext w9 (w9.alloc (Obj.cells #[.slice pa pB.length pc, .slice pb pS.length pd] 83)) := (Ext.refl _).alloc _
  have P := Bx.new w9 #[.slice pa pB.length pc, .slice pb pS.length pd] 83
  replace LL := Lib.hid (LL.out.ext e9)
  replace X := X.trans e9
  replace LY := Lib.hid (LY.out.ext e9)
  replace LP := Lib.hid (LP.out.ext e9)
  replace LS := Lib.hid (Row.ext LS.out e9)
  go_wp2
  generalize w9.alloc (Obj.cells #[.slice pa pB.length pc, .slice pb pS.length pd] 83) = w10 at *
  generalize w9.heap.size = B at *
  clear e9
  go_loopw [16, 17, 18, 19, 20] (fun i _ _ _ _ wr => ∃ k : Nat, k ≤ 8 ∧ i = .int .i64 k ∧ Ext w10 wr) (fun i _ _ _ _ _ => 8 - (intOf i).toNat)
  case atStart => exact ⟨0, by omega, rfl, Ext.refl _⟩
  case round =>
    obtain ⟨k, hk, rfl, XR⟩ := hrel
    replace LL := Lib.hid (LL.out.ext XR)
    replace X := X.trans XR
    replace LY := Lib.hid (LY.out.ext XR)
    replace LP := Lib.hid (LP.out.ext XR)
    replace LS := Lib.hid (Row.ext LS.out XR)
    replace P := P.ext XR
    by_cases hk8 : k < 8
    · have CK := Lib.hid (CL.out ⟨k, hk8⟩)
      have hdz : (decS k).size = 1 := strOfNums_size _
      have hk10 : k < 10 := by omega
      go_wp2_with fail
      refine (spec_Decimal1 k _ hk10).mono ?_
      rintro e w11 ⟨rfl, x11⟩
      replace LL := Lib.hid (LL.out.ext x11)
      replace X := X.trans x11
      replace LY := Lib.hid (LY.out.ext x11)
      replace LP := Lib.hid (LP.out.ext x11)
      replace LS := Lib.hid (Row.ext LS.out x11)
      replace P := P.ext x11
      replace XR := XR.trans x11
      clear x11
      have hvz : (valT ++ decS k).size ≤ 12 := (decV_ok ⟨k, hk8⟩).2.2
      go_wp2_with fail
      rw [show (⟨#[118, 97, 108, 117, 101]⟩ : ByteArray) = valT from rfl]
      (try dsimp only at CK)
      generalize valT ++ decS k = vk at *
      clear hdz hk10
      refine (spec_LeafPut _ xs n vk _ LL.out SL HF.out (by unfold maxLen; omega) (by unfold maxLen; omega) (by omega)).mono ?_
      rintro e w12 ⟨ba, bc, rfl, hown, x12⟩
      replace LL := Lib.hid (LL.out.ext x12)
      replace X := X.trans x12
      replace LY := Lib.hid (LY.out.ext x12)
      replace LP := Lib.hid (LP.out.ext x12)
      replace LS := Lib.hid (Row.ext LS.out x12)
      replace P := P.ext x12
      replace XR := XR.trans x12
      have LB := Lib.hid (OwnLvs.lvs hown)
      have HBK := Lib.hid (putL_ok (n := n) (u := vk) HK.out)
      have HBF := Lib.hid (ok_fit HBK.out)
      clear hown x12
      generalize putL xs n vk = bl at *
      generalize putWell xs n vk = bw at *
      go_wp2_with fail
      refine (impl_RootOf _ bl wd _ LB.out HBF.out (HT.out.ext X)).mono ?_
      generalize hr2 : nodeH bl 0 0 wd = r2 at *
      rintro e w13 ⟨rfl, x13⟩
      replace LL := Lib.hid (LL.out.ext x13)
      replace X := X.trans x13
      replace LY := Lib.hid (LY.out.ext x13)
      replace LP := Lib.hid (LP.out.ext x13)
      replace LS := Lib.hid (Row.ext LS.out x13)
      replace P := P.ext x13
      replace XR := XR.trans x13
      replace LB := Lib.hid (LB.out.ext x13)
      clear x13
      by_cases hq : r2 = root
      · have CT := Lib.hid (CK.out hq)
        have hq1 : (r2.toList == root.toList) = true := by rw [toList_beq]; exact decide_eq_true hq
        have hq2 : (r2.toList != root.toList) = false := by simp only [bne, hq1]; rfl
        clear hq CK
        go_wp2_with fail
        refine (spec_ProveLeaf _ bl n 0 wd _ LB.out HBF.out (by unfold maxLen; omega)).mono ?_
        generalize hpb : plB bl n 0 wd = qB at *
        generalize hps : plS bl n 0 wd = qS at *
        have HQF := Lib.hid (show LeafFit qB by rw [← hpb]; exact pl_fit HBK.out n 0 wd)
        have HQS := Lib.hid (show ∀ s ∈ qS, s.size ≤ maxLen by rw [← hps]; exact plS_fit bl n 0 wd)
        clear hpb hps
        rintro e w14 ⟨qa, qc, qb, qd, rfl, ho1, ⟨m2, -, -, ho2⟩, x14⟩
        replace LL := Lib.hid (LL.out.ext x14)
        replace X := X.trans x14
        replace LY := Lib.hid (LY.out.ext x14)
        replace LP := Lib.hid (LP.out.ext x14)
        replace LS := Lib.hid (Row.ext LS.out x14)
        replace P := P.ext x14
        replace XR := XR.trans x14
        replace LB := Lib.hid (LB.out.ext x14)
        clear x14
        have LQ := Lib.hid (OwnLvs.lvs ho1)
        have LT := Lib.hid (OwnStrs.strs ho2)
        clear ho1 ho2 hq1 hq2
        have e14 : Ext w14 (w14.alloc (Obj.cells #[.slice qa qB.length qc, .slice qb qS.length qd] 83)) := (Ext.refl _).alloc _
        have Q := Bx.new w14 #[.slice qa qB.length qc, .slice qb qS.length qd] 83
        replace LL := Lib.hid (LL.out.ext e14)
        replace X := X.trans e14
        replace LY := Lib.hid (LY.out.ext e14)
        replace LP := Lib.hid (LP.out.ext e14)
        replace LS := Lib.hid (Row.ext LS.out e14)
        replace P := P.ext e14
        replace XR := XR.trans e14
        replace LB := Lib.hid (LB.out.ext e14)
        replace LQ := Lib.hid (LQ.out.ext e14)
        replace LT := Lib.hid (Row.ext LT.out e14)
        skip
        go_upto_region 20 with (fail)
        generalize w14.alloc (Obj.cells #[.slice qa qB.length qc, .slice qb qS.length qd] 83) = w15 at *
        generalize w14.heap.size = D at *
        clear e14
        refine wp_region_held_drew (S := (fun W => W.cell? ⟨B, 0, none⟩ = some (.slice pa pB.length pc) ∧ W.cell? ⟨B, 1, none⟩ = some (.slice pb pS.length pd) ∧ W.cell? ⟨D, 0, none⟩ = some (.slice qa qB.length qc) ∧ W.cell? ⟨D, 1, none⟩ = some (.slice qb qS.length qd))) (by kernel_rfl) (by exact ⟨P.2.1 0 _ rfl, P.2.1 1 _ rfl, Q.2.1 0 _ rfl, Q.2.1 1 _ rfl⟩) (fun hHeld => ?_)
        have xd : Ext w15 w15.drew := (Ext.refl w15).drew
        replace LL := Lib.hid (LL.out.ext xd)
        replace X := X.trans xd
        replace LY := Lib.hid (LY.out.ext xd)
        replace LP := Lib.hid (LP.out.ext xd)
        replace LS := Lib.hid (Row.ext LS.out xd)
        replace P := P.ext xd
        replace XR := XR.trans xd
        replace LB := Lib.hid (LB.out.ext xd)
        replace LQ := Lib.hid (LQ.out.ext xd)
        replace LT := Lib.hid (Row.ext LT.out xd)
        replace Q := Q.ext xd
        generalize w15.drew = w16 at *
        have p0 := P.2.1 0 _ rfl
        have p1 := P.2.1 1 _ rfl
        have q0 := Q.2.1 0 _ rfl
        have q1 := Q.2.1 1 _ rfl
        (refine wpAnyH_take (i := 0) (v := ?_) rfl (by kernel_rfl) (by kernel_rfl) (by kernel_rfl) (fun _ _ _ h => h) (Or.inl ⟨by rfl, ?_⟩) (by assumption) ?_; rotate_left; focus (intro w hSw; (try dsimp only at hSw); (try simp only [List.getElem_toArray, List.getElem_cons_zero]); go_simp; try with_reducible rfl)); (try simp only [List.getElem_toArray, List.getElem_cons_zero]); (try simp only [Act.put, List.setIfInBounds_toArray, List.set_cons_zero, List.set_cons_succ])
        (refine wpAnyH_take (i := 1) (v := ?_) rfl (by kernel_rfl) (by kernel_rfl) (by kernel_rfl) (fun _ _ _ h => h) (Or.inl ⟨by rfl, ?_⟩) (by assumption) ?_; rotate_left; focus (intro w hSw; (try dsimp only at hSw); (try simp only [List.getElem_toArray, List.getElem_cons_zero, List.getElem_cons_succ]); go_simp; try with_reducible rfl)); (try simp only [List.getElem_toArray, List.getElem_cons_zero, List.getElem_cons_succ]); (try simp only [Act.put, List.setIfInBounds_toArray, List.set_cons_zero, List.set_cons_succ])
        (refine wpAnyH_take (i := 2) (v := ?_) rfl (by kernel_rfl) (by kernel_rfl) (by kernel_rfl) (fun _ _ _ h => h) (Or.inl ⟨by rfl, ?_⟩) (by assumption) ?_; rotate_left; focus (intro w hSw; (try dsimp only at hSw); (try simp only [List.getElem_toArray, List.getElem_cons_zero, List.getElem_cons_succ]); go_simp; try with_reducible rfl)); (try simp only [List.getElem_toArray, List.getElem_cons_zero, List.getElem_cons_succ]); (try simp only [Act.put, List.setIfInBounds_toArray, List.set_cons_zero, List.set_cons_succ])
        (refine wpAnyH_take (i := 4) (v := ?_) rfl (by kernel_rfl) (by kernel_rfl) (by kernel_rfl) (fun _ _ _ h => h) (Or.inl ⟨by rfl, ?_⟩) (by assumption) ?_; rotate_left; focus (intro w hSw; (try dsimp only at hSw); (try simp only [List.getElem_toArray, List.getElem_cons_zero, List.getElem_cons_succ]); go_simp; try with_reducible rfl)); (try simp only [List.getElem_toArray, List.getElem_cons_zero, List.getElem_cons_succ]); (try simp only [Act.put, List.setIfInBounds_toArray, List.set_cons_zero, List.set_cons_succ])
        (refine wpAnyH_take (i := 5) (v := ?_) rfl (by kernel_rfl) (by kernel_rfl) (by kernel_rfl) (fun _ _ _ h => h) (Or.inl ⟨by rfl, ?_⟩) (by assumption) ?_; rotate_left; focus (intro w hSw; (try dsimp only at hSw); (try simp only [List.getElem_toArray, List.getElem_cons_zero, List.getElem_cons_succ]); go_simp; try with_reducible rfl)); (try simp only [List.getElem_toArray, List.getElem_cons_zero, List.getElem_cons_succ]); (try simp only [Act.put, List.setIfInBounds_toArray, List.set_cons_zero, List.set_cons_succ])
        (refine wpAnyH_take (i := 6) (v := ?_) rfl (by kernel_rfl) (by kernel_rfl) (by kernel_rfl) (fun _ _ _ h => h) (Or.inl ⟨by rfl, ?_⟩) (by assumption) ?_; rotate_left; focus (intro w hSw; (try dsimp only at hSw); (try simp only [List.getElem_toArray, List.getElem_cons_zero, List.getElem_cons_succ]); go_simp; try with_reducible rfl)); (try simp only [List.getElem_toArray, List.getElem_cons_zero, List.getElem_cons_succ]); (try simp only [Act.put, List.setIfInBounds_toArray, List.set_cons_zero, List.set_cons_succ])
        (refine wpAnyH_take (i := 8) (v := ?_) rfl (by kernel_rfl) (by kernel_rfl) (by kernel_rfl) (fun _ _ _ h => h) (Or.inl ⟨by rfl, ?_⟩) (by assumption) ?_; rotate_left; focus (intro w hSw; (try dsimp only at hSw); (try simp only [List.getElem_toArray, List.getElem_cons_zero, List.getElem_cons_succ]); go_simp; try with_reducible rfl)); (try simp only [List.getElem_toArray, List.getElem_cons_zero, List.getElem_cons_succ]); (try simp only [Act.put, List.setIfInBounds_toArray, List.set_cons_zero, List.set_cons_succ])
        generalize hA : prTexts n pB pS wd = tA at *
        generalize hB2 : prTexts n qB qS wd = tB at *
        have HA := Lib.hid hA
        have HB2 := Lib.hid hB2
        have fA : ∀ s ∈ tA, s.size ≤ 1073741824 := by rw [← hA]; exact prTexts_fit _ _ _ _
        have fB : ∀ s ∈ tB, s.size ≤ 1073741824 := by rw [← hB2]; exact prTexts_fit _ _ _ _
        clear hA hB2
        (refine wpAnyH_ready (rs := [3]) (by kernel_rfl) (by simp) ?_; refine AllReadyH.cons rfl (fun K hK => ?_) AllReadyH.nil; (try simp only [List.getElem_toArray, List.getElem_cons_zero, List.getElem_cons_succ]))
        go_simp
        go_at_call 70
        refine (spec_ProofTexts n _ _ pB pS wd _ (by unfold maxLen; omega) LP.out HPF.out LS.out HPS.out).mono ?_
        rw [HA.out]
        rintro e w17 ⟨ta, tc, rfl, to1, x17⟩
        clear p0 p1 q0 q1
        have TA := Lib.hid (OwnStrs.strs to1)
        clear to1
        replace LL := Lib.hid (LL.out.ext x17)
        replace X := X.trans x17
        replace LY := Lib.hid (LY.out.ext x17)
        replace LP := Lib.hid (LP.out.ext x17)
        replace LS := Lib.hid (Row.ext LS.out x17)
        replace P := P.ext x17
        replace XR := XR.trans x17
        replace LB := Lib.hid (LB.out.ext x17)
        replace LQ := Lib.hid (LQ.out.ext x17)
        replace LT := Lib.hid (Row.ext LT.out x17)
        replace Q := Q.ext x17
        (try dsimp only)
        refine hK.out _ _ (by exact ⟨P.2.1 0 _ rfl, P.2.1 1 _ rfl, Q.2.1 0 _ rfl, Q.2.1 1 _ rfl⟩) (fun hHeld => ?_)
        clear hK K
        (refine wpAnyH_ready (rs := [7]) (by kernel_rfl) (by simp) ?_; refine AllReadyH.cons rfl (fun K hK => ?_) AllReadyH.nil; (try simp only [List.getElem_toArray, List.getElem_cons_zero, List.getElem_cons_succ]))
        go_simp
        go_at_call 70
        refine (spec_ProofTexts n _ _ qB qS wd _ (by unfold maxLen; omega) LQ.out HQF.out LT.out HQS.out).mono ?_
        rw [HB2.out]
        rintro e w18 ⟨tb, td, rfl, to2, x18⟩
        have TB := Lib.hid (OwnStrs.strs to2)
        clear to2
        replace LL := Lib.hid (LL.out.ext x18)
        replace X := X.trans x18
        replace LY := Lib.hid (LY.out.ext x18)
        replace LP := Lib.hid (LP.out.ext x18)
        replace LS := Lib.hid (Row.ext LS.out x18)
        replace P := P.ext x18
        replace XR := XR.trans x18
        replace LB := Lib.hid (LB.out.ext x18)
        replace LQ := Lib.hid (LQ.out.ext x18)
        replace LT := Lib.hid (Row.ext LT.out x18)
        replace Q := Q.ext x18
        replace TA := Lib.hid (Row.ext TA.out x18)
        (try dsimp only)
        refine hK.out _ _ (by exact ⟨P.2.1 0 _ rfl, P.2.1 1 _ rfl, Q.2.1 0 _ rfl, Q.2.1 1 _ rfl⟩) (fun hHeld => ?_)
        clear hK K
        (refine wpAnyH_ready (rs := [9]) (by kernel_rfl) (by simp) ?_; refine AllReadyH.cons rfl (fun K hK => ?_) AllReadyH.nil; (try simp only [List.getElem_toArray, List.getElem_cons_zero, List.getElem_cons_succ]))
        go_simp
        go_at_call 50
        refine (laws_clash _ _ tA tB wd _ TA.out TB.out fA fB).mono ?_
        rw [CT.out]
        rintro e w19 ⟨rfl, x19⟩
        replace LL := Lib.hid (LL.out.ext x19)
        replace X := X.trans x19
        replace LY := Lib.hid (LY.out.ext x19)
        replace LP := Lib.hid (LP.out.ext x19)
        replace LS := Lib.hid (Row.ext LS.out x19)
        replace P := P.ext x19
        replace XR := XR.trans x19
        replace LB := Lib.hid (LB.out.ext x19)
        replace LQ := Lib.hid (LQ.out.ext x19)
        replace LT := Lib.hid (Row.ext LT.out x19)
        replace Q := Q.ext x19
        replace TA := Lib.hid (Row.ext TA.out x19)
        replace TB := Lib.hid (Row.ext TB.out x19)
        (try dsimp only)
        refine hK.out _ _ (by exact ⟨P.2.1 0 _ rfl, P.2.1 1 _ rfl, Q.2.1 0 _ rfl, Q.2.1 1 _ rfl⟩) (fun hHeld => ?_)
        clear hK K
        (refine wpAnyH_take (i := 10) (v := ?_) rfl (by kernel_rfl) (by kernel_rfl) (by kernel_rfl) (fun _ _ _ h => h) (Or.inl ⟨by rfl, ?_⟩) (by assumption) ?_; rotate_left; focus (intro w hSw; (try dsimp only at hSw); (try simp only [List.getElem_toArray, List.getElem_cons_zero, List.getElem_cons_succ]); go_simp; try with_reducible rfl)); (try simp only [List.getElem_toArray, List.getElem_cons_zero, List.getElem_cons_succ]); (try simp only [Act.put, List.setIfInBounds_toArray, List.set_cons_zero, List.set_cons_succ])
        refine wpAnyH_done (by kernel_rfl) ?_ _
        go_wp2
        go_roundw
        case rel => exact ⟨k + 1, by omega, by go_num, XR⟩
        case measure => simp [intOf]; omega
      · have hq1 : (r2.toList == root.toList) = false := by rw [toList_beq]; exact decide_eq_false hq
        have hq2 : (r2.toList != root.toList) = true := by simp only [bne, hq1]; rfl
        clear hq
        go_wp2
        go_roundw
        case rel => exact ⟨k + 1, by omega, by go_num, XR⟩
        case measure => simp [intOf]; omega
    · have hrz2 : ((root.size : Int) == wd) = true := by rw [hrz]; simp
      have hrz3 : decide ((root.size : Int) = wd) = true := decide_eq_true hrz
      go_wp2_with fail
      refine (spec_RootOf _ yl wd _ LY.out HYF.out).mono ?_
      rw [HRE.out]
      rintro e w20 ⟨rfl, x20⟩
      replace LL := Lib.hid (LL.out.ext x20)
      replace X := X.trans x20
      replace LY := Lib.hid (LY.out.ext x20)
      replace LP := Lib.hid (LP.out.ext x20)
      replace LS := Lib.hid (Row.ext LS.out x20)
      replace P := P.ext x20
      replace XR := XR.trans x20
      have hq1 : (root.toList == root.toList) = true := by simp
      go_wp2
      go_ret
      exact ⟨rfl, X⟩
end Go.Proofs.YtliebkhfddmhjaaDoor
