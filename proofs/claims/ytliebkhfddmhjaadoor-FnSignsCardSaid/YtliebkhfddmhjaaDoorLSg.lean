/- FnSigns: the walk. -/
import Derived.Test.YtliebkhfddmhjaaDoorDSdA
import Derived.Test.YtliebkhfddmhjaaDoorLkX
import Derived.Test.YtliebkhfddmhjaaDoorRdA
import Derived.Test.YtliebkhfddmhjaaDoorSm
import Derived.Test.YtliebkhfddmhjaaDoorCurA
import Derived.Test.YtliebkhfddmhjaaDoorLftA
namespace Go.Proofs.YtliebkhfddmhjaaDoor
open Go.RowKit

theorem sig_fit {s : SigV} (h : sigWell s = true) : SigFit s := by
  obtain ⟨h1, h2, h3⟩ := sigWell_fit h
  exact ⟨fun x hx => le_max (h1 x hx) (by omega), fun x hx => le_max (h2 x hx) (by omega), fun x hx => le_max (h3 x hx) (by omega)⟩
theorem sigOk_parts {root text : ByteArray} {s : SigV} (h : sigOkB root text s = true) : sigWell s = true ∧ text.size ≤ 200 ∧ sgRoot text s = root := by
  simp only [sigOkB, Bool.and_eq_true, decide_eq_true_eq] at h
  exact h
theorem sigOk_other {root r2 text : ByteArray} {s : SigV} (h : sigOkB root text s = true) (hne : r2 ≠ root) : sigOkB r2 text s = false := by
  obtain ⟨h1, h2, h3⟩ := sigOk_parts h
  rw [sigOkB, h3, decide_eq_false (p := root = r2) (fun e => hne e.symm)]
  simp
theorem sg_last {root text : ByteArray} {s : SigV} (h : sigOkB root text s = true) : cutT ((sgTexts text s).getD 12 ⟨#[]⟩) 16 = root ∧ ((sgTexts text s).getD 12 ⟨#[]⟩).size ≤ 1073741824 ∧ (sgTexts text s).length = 13 := by
  obtain ⟨h1, h2, h3⟩ := sigOk_parts h
  obtain ⟨-, f2, f3⟩ := sigWell_fit h1
  have hn := (sigWell_true h1).2.2.2.1
  refine ⟨?_, ?_, sgTexts_len h1 h2⟩
  · rw [sgTexts_yes h1 h2, hn]
    have := sgUp_cut (text := text) f2 f3 4 4 (Nat.le_refl _)
    rw [show 8 + 4 = 12 by rfl] at this
    rw [this, ← h3, sgRoot, hn]
  · rw [sgTexts_yes h1 h2, hn]
    exact sgUp_top text s 4
set_option maxRecDepth 100000 in
set_option maxHeartbeats 12800000 in
theorem laws_FnSigns (v : Value) (bs : List Int) (w : World) (h : Code w w.heap.size v bs) (hT : Tabs w) :
    Calls Tryd.prog 5 #[v] w fun e w' => e = .returned (.bool true) ∧ Ext w w' := by
  have HT := Lib.hid hT
  clear hT
  have HC := Lib.hid h
  obtain ⟨a0, cap, rfl, -, -⟩ := id h
  by_cases hb : (1048576 : Int) < bs.length
  · go_enter Tryd.func5, Tryd.ntmps5
    go_wp2_with (go_at_call 27; refine (laws_big _ _ bs _ HC.out).mono ?_; rintro e w' ⟨rfl, rfl⟩)
    go_ret
    exact ⟨rfl, (by repeat (first | (with_reducible first | exact Ext.refl _ | assumption | apply Ext.alloc | apply Ext.drew | apply Ext.drewN | refine Ext.setCell ?_ ?_ _ | refine Ext.trans ?_ (by assumption)) | (show _ ≤ _; first | omega | (dsimp only; omega) | (simp; done) | (simp; omega))))⟩
  have hl : bs.length ≤ 1048576 := by omega
  clear h
  go_enter Tryd.func5, Tryd.ntmps5
  go_wp2_with fail
  refine (laws_big _ _ bs _ HC.out).mono ?_
  rintro e w' ⟨rfl, rfl⟩
  go_wp2_with fail
  refine (spec_DrawSigned _ bs _ HC.out hl).mono ?_
  rintro e w1 ⟨root, text, S, a1, a2, a3, c1, c2, c3, rfl, hr16, ht9, hok, so, x1⟩
  obtain ⟨hw, h200, -⟩ := sigOk_parts hok
  obtain ⟨hcut, hz12, hl13⟩ := sg_last hok
  have HSF := Lib.hid (sig_fit hw)
  have HB1 := Lib.hid (show sigTx S = sigT S by simp [sigTx, hw])
  have HB2 := Lib.hid (sig_back hw).1
  have HB3 := Lib.hid (sig_back hw).2
  have hat := (sigWell_true hw).1.1
  have hsz : (sigT S).size = 321 := by have h := (sig_back hw).1; rw [rdSig, Bool.and_eq_true, decide_eq_true_eq] at h; exact h.1
  have HW := Lib.hid hw
  have HO := Lib.hid hok
  have HCU := Lib.hid hcut
  have HLN := Lib.hid hl13
  have HN := Lib.hid (fun r2 (hne : r2 ≠ root) => sigOk_other hok hne)
  have ht : text.size ≤ maxLen := le_max ht9 (by omega)
  clear hw hok hcut hl13
  have e1 : Ext w1 (w1.alloc (Obj.cells #[.int .i64 S.at_, .slice a1 S.op.length c1, .slice a2 S.sh.length c2, .slice a3 S.si.length c3] 28)) := (Ext.refl _).alloc _
  have P := Bx.new w1 #[.int .i64 S.at_, .slice a1 S.op.length c1, .slice a2 S.sh.length c2, .slice a3 S.si.length c3] 28
  have SO := (so.ext e1).mono (Nat.zero_le _)
  have X := x1.trans e1
  clear so x1
  go_wp2_with fail
  generalize w1.alloc (Obj.cells #[.int .i64 S.at_, .slice a1 S.op.length c1, .slice a2 S.sh.length c2, .slice a3 S.si.length c3] 28) = w2 at *
  generalize w1.heap.size = B at *
  clear e1
  refine wp_region_held_drew (S := (fun W => W.cell? ⟨B, 0, none⟩ = some (.int .i64 S.at_) ∧ W.cell? ⟨B, 1, none⟩ = some (.slice a1 S.op.length c1) ∧ W.cell? ⟨B, 2, none⟩ = some (.slice a2 S.sh.length c2) ∧ W.cell? ⟨B, 3, none⟩ = some (.slice a3 S.si.length c3))) (by kernel_rfl) (by exact ⟨P.2.1 0 _ rfl, P.2.1 1 _ rfl, P.2.1 2 _ rfl, P.2.1 3 _ rfl⟩) (fun hHeld => ?_)
  have xd : Ext w2 w2.drew := (Ext.refl w2).drew
  replace P := P.ext xd
  replace SO := SO.ext xd
  replace X := X.trans xd
  generalize w2.drew = w3 at *
  have p0 := P.2.1 0 _ rfl
  have p1 := P.2.1 1 _ rfl
  have p2 := P.2.1 2 _ rfl
  have p3 := P.2.1 3 _ rfl
  (refine wpAnyH_take (i := 0) (v := ?_) rfl (by kernel_rfl) (by kernel_rfl) (by kernel_rfl) (fun _ _ _ h => h) (Or.inl ⟨by rfl, ?_⟩) (by assumption) ?_; rotate_left; focus (intro w hSw; (try dsimp only at hSw); (try simp only [List.getElem_toArray, List.getElem_cons_zero]); go_simp; try with_reducible rfl)); (try simp only [List.getElem_toArray, List.getElem_cons_zero]); (try simp only [Act.put, List.setIfInBounds_toArray, List.set_cons_zero, List.set_cons_succ])
  (refine wpAnyH_take (i := 1) (v := ?_) rfl (by kernel_rfl) (by kernel_rfl) (by kernel_rfl) (fun _ _ _ h => h) (Or.inl ⟨by rfl, ?_⟩) (by assumption) ?_; rotate_left; focus (intro w hSw; (try dsimp only at hSw); (try simp only [List.getElem_toArray, List.getElem_cons_zero, List.getElem_cons_succ]); go_simp; try with_reducible rfl)); (try simp only [List.getElem_toArray, List.getElem_cons_zero, List.getElem_cons_succ]); (try simp only [Act.put, List.setIfInBounds_toArray, List.set_cons_zero, List.set_cons_succ])
  (refine wpAnyH_take (i := 2) (v := ?_) rfl (by kernel_rfl) (by kernel_rfl) (by kernel_rfl) (fun _ _ _ h => h) (Or.inl ⟨by rfl, ?_⟩) (by assumption) ?_; rotate_left; focus (intro w hSw; (try dsimp only at hSw); (try simp only [List.getElem_toArray, List.getElem_cons_zero, List.getElem_cons_succ]); go_simp; try with_reducible rfl)); (try simp only [List.getElem_toArray, List.getElem_cons_zero, List.getElem_cons_succ]); (try simp only [Act.put, List.setIfInBounds_toArray, List.set_cons_zero, List.set_cons_succ])
  (refine wpAnyH_ready (rs := [3]) (by kernel_rfl) (by simp) ?_; refine AllReadyH.cons rfl (fun K hK => ?_) AllReadyH.nil; (try simp only [List.getElem_toArray, List.getElem_cons_zero, List.getElem_cons_succ]))
  go_simp
  go_at_call 29
  refine (impl_SigOk root text _ _ _ S _ SO.1.strs SO.2.1.strs SO.2.2.1.strs HSF.out ht (HT.out.ext X)).mono ?_
  rw [HO.out]
  rintro e w4 ⟨rfl, x4⟩
  clear p0 p1 p2 p3
  replace P := P.ext x4
  replace SO := SO.ext x4
  replace X := X.trans x4
  (try dsimp only)
  refine hK.out _ _ (by exact ⟨P.2.1 0 _ rfl, P.2.1 1 _ rfl, P.2.1 2 _ rfl, P.2.1 3 _ rfl⟩) (fun hHeld => ?_)
  clear hK K
  (refine wpAnyH_take (i := 4) (v := ?_) rfl (by kernel_rfl) (by kernel_rfl) (by kernel_rfl) (fun _ _ _ h => h) (Or.inl ⟨by rfl, ?_⟩) (by assumption) ?_; rotate_left; focus (intro w hSw; (try dsimp only at hSw); (try simp only [List.getElem_toArray, List.getElem_cons_zero, List.getElem_cons_succ]); go_simp; try with_reducible rfl)); (try simp only [List.getElem_toArray, List.getElem_cons_zero, List.getElem_cons_succ]); (try simp only [Act.put, List.setIfInBounds_toArray, List.set_cons_zero, List.set_cons_succ])
  (refine wpAnyH_take (i := 5) (v := ?_) rfl (by kernel_rfl) (by kernel_rfl) (by kernel_rfl) (fun _ _ _ h => h) (Or.inl ⟨by rfl, ?_⟩) (by assumption) ?_; rotate_left; focus (intro w hSw; (try dsimp only at hSw); (try simp only [List.getElem_toArray, List.getElem_cons_zero, List.getElem_cons_succ]); go_simp; try with_reducible rfl)); (try simp only [List.getElem_toArray, List.getElem_cons_zero, List.getElem_cons_succ]); (try simp only [Act.put, List.setIfInBounds_toArray, List.set_cons_zero, List.set_cons_succ])
  (refine wpAnyH_take (i := 6) (v := ?_) rfl (by kernel_rfl) (by kernel_rfl) (by kernel_rfl) (fun _ _ _ h => h) (Or.inl ⟨by rfl, ?_⟩) (by assumption) ?_; rotate_left; focus (intro w hSw; (try dsimp only at hSw); (try simp only [List.getElem_toArray, List.getElem_cons_zero, List.getElem_cons_succ]); go_simp; try with_reducible rfl)); (try simp only [List.getElem_toArray, List.getElem_cons_zero, List.getElem_cons_succ]); (try simp only [Act.put, List.setIfInBounds_toArray, List.set_cons_zero, List.set_cons_succ])
  (refine wpAnyH_take (i := 7) (v := ?_) rfl (by kernel_rfl) (by kernel_rfl) (by kernel_rfl) (fun _ _ _ h => h) (Or.inl ⟨by rfl, ?_⟩) (by assumption) ?_; rotate_left; focus (intro w hSw; (try dsimp only at hSw); (try simp only [List.getElem_toArray, List.getElem_cons_zero, List.getElem_cons_succ]); go_simp; try with_reducible rfl)); (try simp only [List.getElem_toArray, List.getElem_cons_zero, List.getElem_cons_succ]); (try simp only [Act.put, List.setIfInBounds_toArray, List.set_cons_zero, List.set_cons_succ])
  (refine wpAnyH_take (i := 10) (v := ?_) rfl (by kernel_rfl) (by kernel_rfl) (by kernel_rfl) (fun _ _ _ h => h) (Or.inl ⟨by rfl, ?_⟩) (by assumption) ?_; rotate_left; focus (intro w hSw; (try dsimp only at hSw); (try simp only [List.getElem_toArray, List.getElem_cons_zero, List.getElem_cons_succ]); go_simp; try with_reducible rfl)); (try simp only [List.getElem_toArray, List.getElem_cons_zero, List.getElem_cons_succ]); (try simp only [Act.put, List.setIfInBounds_toArray, List.set_cons_zero, List.set_cons_succ])
  (refine wpAnyH_take (i := 11) (v := ?_) rfl (by kernel_rfl) (by kernel_rfl) (by kernel_rfl) (fun _ _ _ h => h) (Or.inl ⟨by rfl, ?_⟩) (by assumption) ?_; rotate_left; focus (intro w hSw; (try dsimp only at hSw); (try simp only [List.getElem_toArray, List.getElem_cons_zero, List.getElem_cons_succ]); go_simp; try with_reducible rfl)); (try simp only [List.getElem_toArray, List.getElem_cons_zero, List.getElem_cons_succ]); (try simp only [Act.put, List.setIfInBounds_toArray, List.set_cons_zero, List.set_cons_succ])
  (refine wpAnyH_ready (rs := [8]) (by kernel_rfl) (by simp) ?_; refine AllReadyH.cons rfl (fun K hK => ?_) AllReadyH.nil; (try simp only [List.getElem_toArray, List.getElem_cons_zero, List.getElem_cons_succ]))
  go_simp
  go_at_call 31
  refine (spec_DrawPlaces2 _ bs _ (HC.out.ext (Nat.le_refl _) X X.size) hl).mono ?_
  rintro e w5 ⟨ys, pg, pc, rfl, hy, -, hpg, hcell, -, x5⟩
  have y0 := hcell 0 (by omega)
  have y1 := hcell 1 (by omega)
  have b0 := hy 0
  have b1 := hy 1
  clear hcell hy
  replace P := P.ext x5
  replace SO := SO.ext x5
  replace X := X.trans x5
  (try dsimp only)
  refine hK.out _ _ (by exact ⟨P.2.1 0 _ rfl, P.2.1 1 _ rfl, P.2.1 2 _ rfl, P.2.1 3 _ rfl⟩) (fun hHeld => ?_)
  clear hK K
  (refine wpAnyH_ready (rs := [9]) (by kernel_rfl) (by simp) ?_; refine AllReadyH.cons rfl (fun K hK => ?_) AllReadyH.nil; (try simp only [List.getElem_toArray, List.getElem_cons_zero, List.getElem_cons_succ]))
  go_simp
  go_at_call 30
  refine (laws_turned root pg pc _ _ _ (by omega) hpg y0 y1 b0 b1).mono ?_
  rintro e w6 ⟨r2, rfl, hne, -, -, x6⟩
  have HN2 := Lib.hid (HN.out r2 hne)
  clear hne hpg y0 y1 b0 b1 HN
  replace P := P.ext x6
  replace SO := SO.ext x6
  replace X := X.trans x6
  (try dsimp only)
  refine hK.out _ _ (by exact ⟨P.2.1 0 _ rfl, P.2.1 1 _ rfl, P.2.1 2 _ rfl, P.2.1 3 _ rfl⟩) (fun hHeld => ?_)
  clear hK K
  (refine wpAnyH_ready (rs := [12]) (by kernel_rfl) (by simp) ?_; refine AllReadyH.cons rfl (fun K hK => ?_) AllReadyH.nil; (try simp only [List.getElem_toArray, List.getElem_cons_zero, List.getElem_cons_succ]))
  go_simp
  go_at_call 29
  refine (impl_SigOk r2 text _ _ _ S _ SO.1.strs SO.2.1.strs SO.2.2.1.strs HSF.out ht (HT.out.ext X)).mono ?_
  rw [HN2.out]
  rintro e w7 ⟨rfl, x7⟩
  replace P := P.ext x7
  replace SO := SO.ext x7
  replace X := X.trans x7
  (try dsimp only)
  refine hK.out _ _ (by exact ⟨P.2.1 0 _ rfl, P.2.1 1 _ rfl, P.2.1 2 _ rfl, P.2.1 3 _ rfl⟩) (fun hHeld => ?_)
  clear hK K
  (refine wpAnyH_take (i := 13) (v := ?_) rfl (by kernel_rfl) (by kernel_rfl) (by kernel_rfl) (fun _ _ _ h => h) (Or.inl ⟨by rfl, ?_⟩) (by assumption) ?_; rotate_left; focus (intro w hSw; (try dsimp only at hSw); (try simp only [List.getElem_toArray, List.getElem_cons_zero, List.getElem_cons_succ]); go_simp; try with_reducible rfl)); (try simp only [List.getElem_toArray, List.getElem_cons_zero, List.getElem_cons_succ]); (try simp only [Act.put, List.setIfInBounds_toArray, List.set_cons_zero, List.set_cons_succ])
  refine wpAnyH_done (by kernel_rfl) ?_ _
  have p0 := P.2.1 0 _ rfl
  have p1 := P.2.1 1 _ rfl
  have p2 := P.2.1 2 _ rfl
  have p3 := P.2.1 3 _ rfl
  go_wp2_with fail
  refine (impl_SigText _ _ _ S _ SO.1.strs SO.2.1.strs SO.2.2.1.strs HSF.out).mono ?_
  rw [HB1.out, HW.out]
  rintro e w8 ⟨rfl, x8⟩
  clear p0 p1 p2 p3
  replace P := P.ext x8
  replace SO := SO.ext x8
  replace X := X.trans x8
  go_wp2_with fail
  refine (impl_ReadSig (sigT S) _ (by omega)).mono ?_
  rw [HB3.out, HB2.out]
  rintro e w9 ⟨d1, e1, d2, e2, d3, e3, rfl, to, x9⟩
  replace P := P.ext x9
  replace SO := SO.ext x9
  replace X := X.trans x9
  have e9 : Ext w9 (w9.alloc (Obj.cells #[.int .i64 S.at_, .slice d1 S.op.length e1, .slice d2 S.sh.length e2, .slice d3 S.si.length e3] 28)) := (Ext.refl _).alloc _
  have R := Bx.new w9 #[.int .i64 S.at_, .slice d1 S.op.length e1, .slice d2 S.sh.length e2, .slice d3 S.si.length e3] 28
  have TO := (to.ext e9).mono (Nat.zero_le _)
  clear to
  replace P := P.ext e9
  replace SO := SO.ext e9
  replace X := X.trans e9
  have p0 := P.2.1 0 _ rfl
  have p1 := P.2.1 1 _ rfl
  have p2 := P.2.1 2 _ rfl
  have p3 := P.2.1 3 _ rfl
  go_wp2_with fail
  generalize w9.alloc (Obj.cells #[.int .i64 S.at_, .slice d1 S.op.length e1, .slice d2 S.sh.length e2, .slice d3 S.si.length e3] 28) = w10 at *
  generalize w9.heap.size = D at *
  clear e9
  refine (impl_SigTexts text _ _ _ S _ SO.1.strs SO.2.1.strs SO.2.2.1.strs HSF.out ht (HT.out.ext X)).mono ?_
  generalize hL : sgTexts text S = L at *
  have HL := Lib.hid hL
  clear hL
  rintro e w11 ⟨la, lc, rfl, lo, x11⟩
  clear p0 p1 p2 p3
  have HLO := Lib.hid (lo.mono (Nat.zero_le _))
  clear lo
  replace P := P.ext x11
  replace SO := SO.ext x11
  replace X := X.trans x11
  replace R := R.ext x11
  replace TO := TO.ext x11
  have hlb : ((L.length : Int) != 13) = false := by have := HLN.out; simp; omega
  have p0 := P.2.1 0 _ rfl
  have p1 := P.2.1 1 _ rfl
  have p2 := P.2.1 2 _ rfl
  have p3 := P.2.1 3 _ rfl
  go_wp2_with fail
  refine (spec_SigTexts text _ _ _ S _ SO.1.strs SO.2.1.strs SO.2.2.1.strs HSF.out HW.out h200).mono ?_
  rw [HL.out]
  rintro e w12 ⟨lb, ld, rfl, lo2, x12⟩
  clear p0 p1 p2 p3
  have HL2 := Lib.hid (OwnStrs.strs lo2)
  clear lo2
  replace P := P.ext x12
  replace SO := SO.ext x12
  replace X := X.trans x12
  replace R := R.ext x12
  replace TO := TO.ext x12
  replace HLO := Lib.hid (HLO.out.ext x12)
  go_wp2_with fail
  refine (laws_sameTexts _ _ L L _ HLO.out.strs HL2.out).mono ?_
  rw [show decide (L = L) = true from decide_eq_true rfl]
  rintro e w13 ⟨rfl, x13⟩
  replace P := P.ext x13
  replace SO := SO.ext x13
  replace X := X.trans x13
  replace R := R.ext x13
  replace TO := TO.ext x13
  replace HLO := Lib.hid (HLO.out.ext x13)
  obtain ⟨lg, lc2, he⟩ := own_form HLO.out (by have := HLN.out; omega)
  injection he with he1 he2 he3
  subst he1 he3
  clear he2 HL2 hlb
  have dL : w13.cell? ⟨lg, 12, none⟩ = some (.string (L.getD 12 ⟨#[]⟩)) := by rw [HLO.out.cellAt 12 (by have := HLN.out; omega), List.getElem?_map, List.getD_eq_getElem?_getD, List.getElem?_eq_getElem (by have := HLN.out; omega)]; rfl
  have j1 : (0 : Int) ≤ (L.length : Int) - 1 := by have := HLN.out; omega
  have j2 : (L.length : Int) - 1 < L.length := by omega
  have j3 : ((L.length : Int) - 1).toNat = 12 := by have := HLN.out; omega
  generalize L.getD 12 ⟨#[]⟩ = top at *
  go_wp2_with fail
  refine (spec_CutDigest top 16 _ (by omega)).mono ?_
  rw [HCU.out]
  rintro e w14 ⟨rfl, x14⟩
  clear dL j1 j2 j3
  replace P := P.ext x14
  replace SO := SO.ext x14
  replace X := X.trans x14
  replace R := R.ext x14
  replace TO := TO.ext x14
  replace HLO := Lib.hid (HLO.out.ext x14)
  have p0 := P.2.1 0 _ rfl
  have p1 := P.2.1 1 _ rfl
  have p2 := P.2.1 2 _ rfl
  have p3 := P.2.1 3 _ rfl
  have r0 := R.2.1 0 _ rfl
  have r1 := R.2.1 1 _ rfl
  have r2 := R.2.1 2 _ rfl
  have r3 := R.2.1 3 _ rfl
  go_wp2_with fail
  refine (laws_sameSigT _ _ _ _ _ _ S _ TO.1.strs TO.2.1.strs TO.2.2.1.strs SO.1.strs SO.2.1.strs SO.2.2.1.strs).mono ?_
  rintro e w15 ⟨rfl, x15⟩
  clear p0 p1 p2 p3
  skip
  replace P := P.ext x15
  replace SO := SO.ext x15
  replace X := X.trans x15
  replace R := R.ext x15
  replace TO := TO.ext x15
  replace HLO := Lib.hid (HLO.out.ext x15)
  have p0 := P.2.1 0 _ rfl
  have p1 := P.2.1 1 _ rfl
  have p2 := P.2.1 2 _ rfl
  have p3 := P.2.1 3 _ rfl
  go_wp2
  go_ret
  exact ⟨rfl, X⟩
end Go.Proofs.YtliebkhfddmhjaaDoor
