/- WholeText: the program's. -/
import Derived.Test.YtliebkhfddmhjaaWht
namespace Go.Proofs.Ytliebkhfddmhjaa
open Go.RowKit

set_option maxRecDepth 100000 in
set_option maxHeartbeats 12800000 in
theorem impl_WholeText (v1 v2 v3 v4 v5 v6 v7 : Value) (lv : List Leaf) (ss tops : List ByteArray) (hh ep : Int) (r p : ByteArray) (S : SigV) (xs : List StW) (w : World) (h1 : Lvs w v1 lv) (h2 : Strs w v2 ss) (h3 : Strs w v3 tops) (h4 : Strs w v4 S.op) (h5 : Strs w v5 S.sh) (h6 : Strs w v6 S.si) (h7 : Sts w v7 xs) (hf : LeafFit lv) (hs2 : ∀ s ∈ ss, s.size ≤ maxLen) (hs3 : ∀ s ∈ tops, s.size ≤ maxLen) (hS : SigFit S) (hX : ∀ x ∈ xs, SigFit x.s) :
    Calls Try.prog 20 #[.agg #[v1, v2, v3, .int .i64 hh, .int .i64 ep, .string r, .string p, .int .i64 S.at_, v4, v5, v6, v7]] w fun e w' => e = .returned (.tuple #[.string (whTx lv ss tops hh ep r p S (xs.map StW.pure)), .bool (whOk lv ss tops hh ep r p S (xs.map StW.pure))]) ∧ Ext w w' := by
  obtain ⟨b1, c1, rfl⟩ := h1.form
  obtain ⟨b2, c2, rfl⟩ := h2.form
  obtain ⟨b3, c3, rfl⟩ := h3.form
  obtain ⟨b4, c4, rfl⟩ := h4.form
  obtain ⟨b5, c5, rfl⟩ := h5.form
  obtain ⟨b6, c6, rfl⟩ := h6.form
  obtain ⟨b7, c7, rfl⟩ := h7.form
  have za := proofTx_le lv ss
  have zb := sealT_le hh ep r p S
  have P := Bx.new w #[.slice b1 lv.length c1, .slice b2 ss.length c2, .slice b3 tops.length c3, .int .i64 hh, .int .i64 ep, .string r, .string p, .int .i64 S.at_, .slice b4 S.op.length c4, .slice b5 S.sh.length c5, .slice b6 S.si.length c6, .slice b7 xs.length c7] 61
  have X : Ext w (w.alloc (Obj.cells #[.slice b1 lv.length c1, .slice b2 ss.length c2, .slice b3 tops.length c3, .int .i64 hh, .int .i64 ep, .string r, .string p, .int .i64 S.at_, .slice b4 S.op.length c4, .slice b5 S.sh.length c5, .slice b6 S.si.length c6, .slice b7 xs.length c7] 61)) := (Ext.refl w).alloc _
  go_enter Try.func20, Try.ntmps20
  go_wp2_with fail
  generalize w.alloc (Obj.cells #[.slice b1 lv.length c1, .slice b2 ss.length c2, .slice b3 tops.length c3, .int .i64 hh, .int .i64 ep, .string r, .string p, .int .i64 S.at_, .slice b4 S.op.length c4, .slice b5 S.sh.length c5, .slice b6 S.si.length c6, .slice b7 xs.length c7] 61) = W0 at *
  generalize w.heap.size = B at *
  obtain ⟨kp, hkp⟩ : ∃ z, proofWell lv ss 16 = z := ⟨_, rfl⟩
  have KP := Lib.hid hkp
  obtain ⟨ks, hks⟩ : ∃ z, sealOk hh ep r p S = z := ⟨_, rfl⟩
  have KS := Lib.hid hks
  obtain ⟨a, haa⟩ : ∃ z, proofTx lv ss 16 = z := ⟨_, rfl⟩
  have HA := Lib.hid haa
  obtain ⟨b, hbb⟩ : ∃ z, sealT hh ep r p S = z := ⟨_, rfl⟩
  have HB := Lib.hid hbb
  rw [haa] at za
  rw [hbb] at zb
  clear hkp hks haa hbb
  refine (impl_ProofText _ _ lv ss 16 _ (h1.ext X) hf (h2.ext X) hs2).mono ?_
  rw [KP.out, HA.out]
  rintro e w1 ⟨rfl, x1⟩
  replace P := P.ext x1
  replace X := X.trans x1
  have p0 := P.2.1 0 _ rfl
  have p1 := P.2.1 1 _ rfl
  have p2 := P.2.1 2 _ rfl
  have p3 := P.2.1 3 _ rfl
  have p4 := P.2.1 4 _ rfl
  have p5 := P.2.1 5 _ rfl
  have p6 := P.2.1 6 _ rfl
  have p7 := P.2.1 7 _ rfl
  have p8 := P.2.1 8 _ rfl
  have p9 := P.2.1 9 _ rfl
  have p10 := P.2.1 10 _ rfl
  have p11 := P.2.1 11 _ rfl
  go_wp2_with fail
  clear p0 p1 p2 p3 p4 p5 p6 p7 p8 p9 p10 p11
  refine (impl_SealText hh ep r p _ _ _ S _ (h4.ext X) (h5.ext X) (h6.ext X) hS).mono ?_
  rw [KS.out, HB.out]
  rintro e w2 ⟨rfl, x2⟩
  replace P := P.ext x2
  replace X := X.trans x2
  have p0 := P.2.1 0 _ rfl
  have p1 := P.2.1 1 _ rfl
  have p2 := P.2.1 2 _ rfl
  have p3 := P.2.1 3 _ rfl
  have p4 := P.2.1 4 _ rfl
  have p5 := P.2.1 5 _ rfl
  have p6 := P.2.1 6 _ rfl
  have p7 := P.2.1 7 _ rfl
  have p8 := P.2.1 8 _ rfl
  have p9 := P.2.1 9 _ rfl
  have p10 := P.2.1 10 _ rfl
  have p11 := P.2.1 11 _ rfl
  cases kp
  · have hno : whOk lv ss tops hh ep r p S (xs.map StW.pure) = false := by rw [whOk, KP.out]; rfl
    have R := Lib.hid (whTx_no hno)
    have RO := Lib.hid hno
    clear hno
    go_wp2
    go_ret2
    exact ⟨ret_sb R.out.symm RO.out.symm, X⟩
  · cases ks
    · have hno : whOk lv ss tops hh ep r p S (xs.map StW.pure) = false := by rw [whOk, KP.out, KS.out]; rfl
      have R := Lib.hid (whTx_no hno)
      have RO := Lib.hid hno
      clear hno
      go_wp2
      go_ret2
      exact ⟨ret_sb R.out.symm RO.out.symm, X⟩
    · by_cases ht : tops.length ≤ 2
      · have hti : ¬ ((2 : Int) < tops.length) := by omega
        obtain ⟨kw, hkw⟩ : ∃ z, wide tops 16 = z := ⟨_, rfl⟩
        have KW := Lib.hid hkw
        clear hkw
        cases kw
        · have hno : whOk lv ss tops hh ep r p S (xs.map StW.pure) = false := by rw [whOk, KP.out, KS.out, KW.out, decide_eq_true ht]; rfl
          have R := Lib.hid (whTx_no hno)
          have RO := Lib.hid hno
          clear hno
          go_wp2_with (go_at_call 58; refine (impl_haveWidth _ tops _ _ _ (h3.ext X) hs3).mono ?_; rw [show (wide tops 16 && decide ((tops.length : Int) = (tops.length : Int))) = false by rw [KW.out]; simp]; rintro e w' ⟨rfl, rfl⟩)
          go_ret2
          exact ⟨ret_sb R.out.symm RO.out.symm, X⟩
        · by_cases hx3 : xs.length ≤ 3
          · have hxi : ¬ ((3 : Int) < xs.length) := by omega
            have HW := Lib.hid (whOk_parts (lv := lv) (ss := ss) (sts := xs.map StW.pure) KP.out KS.out ht KW.out (by rw [List.length_map]; exact hx3))
            have HSM := Lib.hid (tops_small ht KW.out)
            have HTX := Lib.hid (fun hh2 => whTx_yes (lv := lv) (ss := ss) (tops := tops) (hh := hh) (ep := ep) (r := r) (p := p) (S := S) (sts := xs.map StW.pure) hh2)
            go_upto_region 5 with (go_at_call 58; refine (impl_haveWidth _ tops _ _ _ (h3.ext X) hs3).mono ?_; rw [show (wide tops 16 && decide ((tops.length : Int) = (tops.length : Int))) = true by rw [KW.out]; simp]; rintro e w' ⟨rfl, rfl⟩)
            clear p0 p1 p2 p3 p4 p5 p6 p7 p8 p9 p10 p11
            have z_va := varT_size a.size
            obtain ⟨va, h_va⟩ : ∃ z, varT a.size = z := ⟨_, rfl⟩
            have H_va := Lib.hid h_va
            rw [h_va] at z_va
            clear h_va
            have z_vt := varT_size tops.length
            obtain ⟨vt, h_vt⟩ : ∃ z, varT tops.length = z := ⟨_, rfl⟩
            have H_vt := Lib.hid h_vt
            rw [h_vt] at z_vt
            clear h_vt
            have z_vb := varT_size b.size
            obtain ⟨vb, h_vb⟩ : ∃ z, varT b.size = z := ⟨_, rfl⟩
            have H_vb := Lib.hid h_vb
            rw [h_vb] at z_vb
            clear h_vb
            have z_vs := varT_size xs.length
            obtain ⟨vs, h_vs⟩ : ∃ z, varT xs.length = z := ⟨_, rfl⟩
            have H_vs := Lib.hid h_vs
            rw [h_vs] at z_vs
            clear h_vs
            have zjt : (joinT tops).size ≤ 200 * tops.length := by have := joinOn_size ⟨#[]⟩ HSM.out tops.length (Nat.le_refl _); rw [ba_empty_size] at this; unfold joinT; omega
            obtain ⟨jt, hjt⟩ : ∃ z, joinT tops = z := ⟨_, rfl⟩
            have HJT0 := Lib.hid hjt
            rw [hjt] at zjt
            clear hjt
            have s2 : ¬ (9223372036854775807 < va.size + a.size + vt.size) := by omega
            have s3 : ¬ (9223372036854775807 < va.size + a.size + vt.size + jt.size) := by omega
            have s4 : ¬ (9223372036854775807 < va.size + a.size + vt.size + jt.size + (vb.size + b.size)) := by omega
            have s5 : ¬ (9223372036854775807 < va.size + a.size + vt.size + jt.size + (vb.size + b.size) + vs.size) := by omega
            refine wp_region_held_drew (S := (fun W => W.cell? ⟨B, 2, none⟩ = some (.slice b3 tops.length c3) ∧ W.cell? ⟨B, 11, none⟩ = some (.slice b7 xs.length c7))) (by kernel_rfl) (by exact ⟨P.2.1 2 _ rfl, P.2.1 11 _ rfl⟩) (fun hHeld => ?_)
            have xd : Ext w2 w2.drew := (Ext.refl w2).drew
            replace P := P.ext xd
            replace X := X.trans xd
            generalize w2.drew = w3 at *
            (refine wpAnyH_take (i := 0) (v := ?_) rfl (by kernel_rfl) (by kernel_rfl) (by kernel_rfl) (fun _ _ _ h => h) (Or.inl ⟨by rfl, ?_⟩) (by assumption) ?_; rotate_left; focus (intro w hSw; (try dsimp only at hSw); (try simp only [zk1, zk2]); go_simp; try with_reducible rfl)); (try simp only [zk1, zk2]); (try simp only [Act.put, zk4, zk5, zk6])
            (refine wpAnyH_take (i := 2) (v := ?_) rfl (by kernel_rfl) (by kernel_rfl) (by kernel_rfl) (fun _ _ _ h => h) (Or.inl ⟨by rfl, ?_⟩) (by assumption) ?_; rotate_left; focus (intro w hSw; (try dsimp only at hSw); (try simp only [zk1, zk2, zk3]); go_simp; try with_reducible rfl)); (try simp only [zk1, zk2, zk3]); (try simp only [Act.put, zk4, zk5, zk6])
            (refine wpAnyH_take (i := 3) (v := ?_) rfl (by kernel_rfl) (by kernel_rfl) (by kernel_rfl) (fun _ _ _ h => h) (Or.inl ⟨by rfl, ?_⟩) (by assumption) ?_; rotate_left; focus (intro w hSw; (try dsimp only at hSw); (try simp only [zk1, zk2, zk3]); go_simp; try with_reducible rfl)); (try simp only [zk1, zk2, zk3]); (try simp only [Act.put, zk4, zk5, zk6])
            (refine wpAnyH_take (i := 4) (v := ?_) rfl (by kernel_rfl) (by kernel_rfl) (by kernel_rfl) (fun _ _ _ h => h) (Or.inl ⟨by rfl, ?_⟩) (by assumption) ?_; rotate_left; focus (intro w hSw; (try dsimp only at hSw); (try simp only [zk1, zk2, zk3]); go_simp; try with_reducible rfl)); (try simp only [zk1, zk2, zk3]); (try simp only [Act.put, zk4, zk5, zk6])
            (refine wpAnyH_take (i := 7) (v := ?_) rfl (by kernel_rfl) (by kernel_rfl) (by kernel_rfl) (fun _ _ _ h => h) (Or.inl ⟨by rfl, ?_⟩) (by assumption) ?_; rotate_left; focus (intro w hSw; (try dsimp only at hSw); (try simp only [zk1, zk2, zk3]); go_simp; try with_reducible rfl)); (try simp only [zk1, zk2, zk3]); (try simp only [Act.put, zk4, zk5, zk6])
            (refine wpAnyH_take (i := 8) (v := ?_) rfl (by kernel_rfl) (by kernel_rfl) (by kernel_rfl) (fun _ _ _ h => h) (Or.inl ⟨by rfl, ?_⟩) (by assumption) ?_; rotate_left; focus (intro w hSw; (try dsimp only at hSw); (try simp only [zk1, zk2, zk3]); go_simp; try with_reducible rfl)); (try simp only [zk1, zk2, zk3]); (try simp only [Act.put, zk4, zk5, zk6])
            (refine wpAnyH_take (i := 11) (v := ?_) rfl (by kernel_rfl) (by kernel_rfl) (by kernel_rfl) (fun _ _ _ h => h) (Or.inl ⟨by rfl, ?_⟩) (by assumption) ?_; rotate_left; focus (intro w hSw; (try dsimp only at hSw); (try simp only [zk1, zk2, zk3]); go_simp; try with_reducible rfl)); (try simp only [zk1, zk2, zk3]); (try simp only [Act.put, zk4, zk5, zk6])
            (refine wpAnyH_take (i := 14) (v := ?_) rfl (by kernel_rfl) (by kernel_rfl) (by kernel_rfl) (fun _ _ _ h => h) (Or.inl ⟨by rfl, ?_⟩) (by assumption) ?_; rotate_left; focus (intro w hSw; (try dsimp only at hSw); (try simp only [zk1, zk2, zk3]); go_simp; try with_reducible rfl)); (try simp only [zk1, zk2, zk3]); (try simp only [Act.put, zk4, zk5, zk6])
            (refine wpAnyH_take (i := 15) (v := ?_) rfl (by kernel_rfl) (by kernel_rfl) (by kernel_rfl) (fun _ _ _ h => h) (Or.inl ⟨by rfl, ?_⟩) (by assumption) ?_; rotate_left; focus (intro w hSw; (try dsimp only at hSw); (try simp only [zk1, zk2, zk3]); go_simp; try with_reducible rfl)); (try simp only [zk1, zk2, zk3]); (try simp only [Act.put, zk4, zk5, zk6])
            (refine wpAnyH_take (i := 16) (v := ?_) rfl (by kernel_rfl) (by kernel_rfl) (by kernel_rfl) (fun _ _ _ h => h) (Or.inl ⟨by rfl, ?_⟩) (by assumption) ?_; rotate_left; focus (intro w hSw; (try dsimp only at hSw); (try simp only [zk1, zk2, zk3]); go_simp; try with_reducible rfl)); (try simp only [zk1, zk2, zk3]); (try simp only [Act.put, zk4, zk5, zk6])
            (refine wpAnyH_ready (rs := [1]) (by kernel_rfl) (by simp) ?_; refine AllReadyH.cons rfl (fun K hK => ?_) AllReadyH.nil; (try simp only [zk1, zk2, zk3]))
            go_simp
            go_at_call 59
            refine (impl_shortText a _ (by omega)).mono ?_
            rw [H_va.out]
            rintro e w4 ⟨rfl, x4⟩
            replace P := P.ext x4
            replace X := X.trans x4
            (try dsimp only)
            refine hK.out _ _ (by exact ⟨P.2.1 2 _ rfl, P.2.1 11 _ rfl⟩) (fun hHeld => ?_)
            clear hK K
            (refine wpAnyH_ready (rs := [5]) (by kernel_rfl) (by simp) ?_; refine AllReadyH.cons rfl (fun K hK => ?_) AllReadyH.nil; (try simp only [zk1, zk2, zk3]))
            go_simp
            go_at_call 39
            refine (impl_varText tops.length _ (by omega)).mono ?_
            rw [H_vt.out]
            rintro e w5 ⟨rfl, x5⟩
            replace P := P.ext x5
            replace X := X.trans x5
            (try dsimp only)
            refine hK.out _ _ (by exact ⟨P.2.1 2 _ rfl, P.2.1 11 _ rfl⟩) (fun hHeld => ?_)
            clear hK K
            (refine wpAnyH_take (i := 6) (v := ?_) rfl (by kernel_rfl) (by kernel_rfl) (by kernel_rfl) (fun _ _ _ h => h) (Or.inl ⟨by rfl, ?_⟩) (by assumption) ?_; rotate_left; focus (intro w hSw; (try dsimp only at hSw); (try simp only [zk1, zk2, zk3]); go_simp; try with_reducible rfl)); (try simp only [zk1, zk2, zk3]); (try simp only [Act.put, zk4, zk5, zk6])
            (refine wpAnyH_ready (rs := [9]) (by kernel_rfl) (by simp) ?_; refine AllReadyH.cons rfl (fun K hK => ?_) AllReadyH.nil; (try simp only [zk1, zk2, zk3]))
            go_simp
            go_at_call 60
            refine (impl_joined _ tops _ (h3.ext X) HSM.out).mono ?_
            rw [HJT0.out]
            rintro e w' ⟨rfl, rfl⟩
            (try dsimp only)
            refine hK.out _ _ (by exact ⟨P.2.1 2 _ rfl, P.2.1 11 _ rfl⟩) (fun hHeld => ?_)
            clear hK K
            (refine wpAnyH_take (i := 10) (v := ?_) rfl (by kernel_rfl) (by kernel_rfl) (by kernel_rfl) (fun _ _ _ h => h) (Or.inl ⟨by rfl, ?_⟩) (by assumption) ?_; rotate_left; focus (intro w hSw; (try dsimp only at hSw); (try simp only [zk1, zk2, zk3]); go_simp; try with_reducible rfl)); (try simp only [zk1, zk2, zk3]); (try simp only [Act.put, zk4, zk5, zk6])
            (refine wpAnyH_ready (rs := [12]) (by kernel_rfl) (by simp) ?_; refine AllReadyH.cons rfl (fun K hK => ?_) AllReadyH.nil; (try simp only [zk1, zk2, zk3]))
            go_simp
            go_at_call 59
            refine (impl_shortText b _ (by omega)).mono ?_
            rw [H_vb.out]
            rintro e w7 ⟨rfl, x7⟩
            replace P := P.ext x7
            replace X := X.trans x7
            (try dsimp only)
            refine hK.out _ _ (by exact ⟨P.2.1 2 _ rfl, P.2.1 11 _ rfl⟩) (fun hHeld => ?_)
            clear hK K
            (refine wpAnyH_take (i := 13) (v := ?_) rfl (by kernel_rfl) (by kernel_rfl) (by kernel_rfl) (fun _ _ _ h => h) (Or.inl ⟨by rfl, ?_⟩) (by assumption) ?_; rotate_left; focus (intro w hSw; (try dsimp only at hSw); (try simp only [zk1, zk2, zk3]); go_simp; try with_reducible rfl)); (try simp only [zk1, zk2, zk3]); (try simp only [Act.put, zk4, zk5, zk6])
            (refine wpAnyH_ready (rs := [17]) (by kernel_rfl) (by simp) ?_; refine AllReadyH.cons rfl (fun K hK => ?_) AllReadyH.nil; (try simp only [zk1, zk2, zk3]))
            go_simp
            go_at_call 39
            refine (impl_varText xs.length _ (by omega)).mono ?_
            rw [H_vs.out]
            rintro e w8 ⟨rfl, x8⟩
            replace P := P.ext x8
            replace X := X.trans x8
            (try dsimp only)
            refine hK.out _ _ (by exact ⟨P.2.1 2 _ rfl, P.2.1 11 _ rfl⟩) (fun hHeld => ?_)
            clear hK K
            (refine wpAnyH_take (i := 18) (v := ?_) rfl (by kernel_rfl) (by kernel_rfl) (by kernel_rfl) (fun _ _ _ h => h) (Or.inl ⟨by rfl, ?_⟩) (by assumption) ?_; rotate_left; focus (intro w hSw; (try dsimp only at hSw); (try simp only [zk1, zk2, zk3]); go_simp; try with_reducible rfl)); (try simp only [zk1, zk2, zk3]); (try simp only [Act.put, zk4, zk5, zk6])
            (refine wpAnyH_take (i := 19) (v := ?_) rfl (by kernel_rfl) (by kernel_rfl) (by kernel_rfl) (fun _ _ _ h => h) (Or.inl ⟨by rfl, ?_⟩) (by assumption) ?_; rotate_left; focus (intro w hSw; (try dsimp only at hSw); (try simp only [zk1, zk2, zk3]); go_simp; try with_reducible rfl)); (try simp only [zk1, zk2, zk3]); (try simp only [Act.put, zk4, zk5, zk6])
            refine wpAnyH_done (by kernel_rfl) ?_ _
            have zT3 : (va ++ a ++ vt ++ jt ++ (vb ++ b) ++ vs).size = va.size + a.size + vt.size + jt.size + (vb.size + b.size) + vs.size := by simp only [ByteArray.size_append]
            have HW3 := Lib.hid (show whT a b tops (xs.map StW.pure).length = va ++ a ++ vt ++ jt ++ (vb ++ b) ++ vs by rw [whT, List.length_map, H_va.out, H_vt.out, H_vb.out, H_vs.out, HJT0.out, ← ByteArray.append_assoc])
            obtain ⟨T3, hT3⟩ : ∃ z, va ++ a ++ vt ++ jt ++ (vb ++ b) ++ vs = z := ⟨_, rfl⟩
            rw [hT3] at zT3 HW3
            simp only [hT3]
            clear hT3 s2 s3 s4 s5
            have p0 := P.2.1 0 _ rfl
            have p1 := P.2.1 1 _ rfl
            have p2 := P.2.1 2 _ rfl
            have p3 := P.2.1 3 _ rfl
            have p4 := P.2.1 4 _ rfl
            have p5 := P.2.1 5 _ rfl
            have p6 := P.2.1 6 _ rfl
            have p7 := P.2.1 7 _ rfl
            have p8 := P.2.1 8 _ rfl
            have p9 := P.2.1 9 _ rfl
            have p10 := P.2.1 10 _ rfl
            have p11 := P.2.1 11 _ rfl
            go_wp2_with fail
            clear p0 p1 p2 p3 p4 p5 p6 p7 p8 p9 p10 p11
            go_loopw [8, 74] (fun t i wr => ∃ k : Nat, k ≤ xs.length ∧ i = .int .i64 k ∧ t = .string (stJ T3 ((xs.take k).map StW.pure)) ∧ ((xs.take k).map StW.pure).all stOk = true ∧ Ext w8 wr) (fun _ i _ => xs.length - (intOf i).toNat)
            case atStart => exact ⟨0, Nat.zero_le _, rfl, rfl, rfl, Ext.refl _⟩
            case round =>
              obtain ⟨k, hk, rfl, rfl, hall, hx2⟩ := hrel
              replace P := P.ext hx2
              replace X := X.trans hx2
              have HALL := Lib.hid hall
              clear hall
              by_cases hlt : k < xs.length
              · have hlti : (k : Int) < xs.length := by omega
                obtain ⟨⟨-, a7, c7v, hv7, hc7, hm7, g7⟩, hst7⟩ := h7
                injection hv7 with i1 i2 i3
                subst i1 i3
                rcases g7 with g7 | ⟨q7, o7, rfl, hb7, g7⟩
                · omega
                have e0 : wr.cell? ⟨q7, o7 + k * 5, none⟩ = some (.int .i64 xs[k].by_) := (X.cell q7 _ hb7).trans (g7 _ _ (st_c0 xs k hlt))
                have e1 : wr.cell? ⟨q7, o7 + k * 5 + 1, none⟩ = some (.int .i64 xs[k].s.at_) := (X.cell q7 _ hb7).trans (g7 _ _ (st_c1 xs k hlt))
                have e2 : wr.cell? ⟨q7, o7 + k * 5 + 2, none⟩ = some xs[k].v1 := (X.cell q7 _ hb7).trans (g7 _ _ (st_c2 xs k hlt))
                have e3 : wr.cell? ⟨q7, o7 + k * 5 + 3, none⟩ = some xs[k].v2 := (X.cell q7 _ hb7).trans (g7 _ _ (st_c3 xs k hlt))
                have e4 : wr.cell? ⟨q7, o7 + k * 5 + 4, none⟩ = some xs[k].v3 := (X.cell q7 _ hb7).trans (g7 _ _ (st_c4 xs k hlt))
                obtain ⟨s1, s2, s3⟩ := hst7 xs[k] (List.getElem_mem hlt)
                have hfx := hX xs[k] (List.getElem_mem hlt)
                have HNO := Lib.hid (all_no hlt)
                have HSN := Lib.hid (all_snoc hlt HALL.out)
                have HJT := Lib.hid (stJ_take T3 hlt)
                have zj := stJ_size T3 ((xs.take k).map StW.pure)
                have zl : ((xs.take k).map StW.pure).length ≤ 3 := by rw [List.length_map, List.length_take]; omega
                clear g7 hst7
                generalize xs[k] = x at *
                obtain ⟨xb, xs', xv1, xv2, xv3⟩ := x
                dsimp only [StW.pure] at *
                obtain ⟨a4, c4v, rfl⟩ := s1.form
                obtain ⟨a5, c5v, rfl⟩ := s2.form
                obtain ⟨a6, c6v, rfl⟩ := s3.form
                have zx := sigTx_size xs'
                have HFX := Lib.hid hfx
                skip
                obtain ⟨tk, htk⟩ : ∃ z, stJ T3 (List.map StW.pure (List.take k xs)) = z := ⟨_, rfl⟩
                have HTK := Lib.hid htk
                rw [htk] at zj
                simp only [htk]
                clear htk
                have eb : Ext wr (wr.alloc (Obj.cells #[.int .i64 xb, .int .i64 xs'.at_, .slice a4 xs'.op.length c4v, .slice a5 xs'.sh.length c5v, .slice a6 xs'.si.length c6v] 103)) := (Ext.refl _).alloc _
                have Q := Bx.new wr #[.int .i64 xb, .int .i64 xs'.at_, .slice a4 xs'.op.length c4v, .slice a5 xs'.sh.length c5v, .slice a6 xs'.si.length c6v] 103
                replace P := P.ext eb
                replace X := X.trans eb
                have hx9 := hx2.trans eb
                go_wp2_with fail
                generalize wr.alloc (Obj.cells #[.int .i64 xb, .int .i64 xs'.at_, .slice a4 xs'.op.length c4v, .slice a5 xs'.sh.length c5v, .slice a6 xs'.si.length c6v] 103) = wb at *
                generalize wr.heap.size = D at *
                refine (impl_SigText _ _ _ xs' _ (s1.ext X) (s2.ext X) (s3.ext X) HFX.out).mono ?_
                have HTS := Lib.hid (show stTx (xb, xs') = strOfNums [xb] ++ sigTx xs' from rfl)
                obtain ⟨kx, hkx⟩ : ∃ z, sigWell xs' = z := ⟨_, rfl⟩
                have KX := Lib.hid hkx
                obtain ⟨tx, htx⟩ : ∃ z, sigTx xs' = z := ⟨_, rfl⟩
                have HTX2 := Lib.hid htx
                rw [hkx, htx]
                rw [htx] at zx
                clear hkx htx
                rintro e w9 ⟨rfl, x9⟩
                replace hx9 := hx9.trans x9
                clear e0 e1 e2 e3 e4
                replace P := P.ext x9
                replace X := X.trans x9
                replace Q := Q.ext x9
                have q0 := Q.2.1 0 _ rfl
                have q1 := Q.2.1 1 _ rfl
                have q2 := Q.2.1 2 _ rfl
                have q3 := Q.2.1 3 _ rfl
                have q4 := Q.2.1 4 _ rfl
                cases kx
                · have hno : whOk lv ss tops hh ep r p S (xs.map StW.pure) = false := by rw [HW.out]; exact HNO.out (by rw [stOk, KX.out]; rfl)
                  have R := Lib.hid (whTx_no hno)
                  have RO := Lib.hid hno
                  clear hno
                  go_wp2
                  go_ret2
                  exact ⟨ret_sb R.out.symm RO.out.symm, X⟩
                · cases ki : inB xb 0 2
                  · have hno : whOk lv ss tops hh ep r p S (xs.map StW.pure) = false := by rw [HW.out]; exact HNO.out (by rw [stOk, KX.out, ki]; rfl)
                    have R := Lib.hid (whTx_no hno)
                    have RO := Lib.hid hno
                    clear hno
                    have KI := Lib.hid ki
                    clear ki
                    go_wp2_with (go_at_call 62; refine (impl_isHouse _ _).mono ?_; rw [KI.out]; rintro e w' ⟨rfl, rfl⟩)
                    go_ret2
                    exact ⟨ret_sb R.out.symm RO.out.symm, X⟩
                  · have hxb := inB_true.1 ki
                    have KI := Lib.hid ki
                    clear ki
                    have hm : xb % 256 = xb := by omega
                    have hcv := conv_lit1
                    have z1 : (strOfNums [xb]).size = 1 := strOfNums_size _
                    have HOK := Lib.hid (HSN.out (by rw [stOk, KX.out, KI.out]; rfl))
                    have r1 : ¬ (9223372036854775807 < 1 + tx.size) := by omega
                    have r2 : ¬ (9223372036854775807 < (strOfNums [xb]).size + tx.size) := by omega
                    have r3 : ¬ (9223372036854775807 < tk.size + (1 + tx.size)) := by omega
                    have r4 : ¬ (9223372036854775807 < tk.size + ((strOfNums [xb]).size + tx.size)) := by omega
                    go_wp2_with (go_at_call 62; refine (impl_isHouse _ _).mono ?_; rw [KI.out]; rintro e w' ⟨rfl, rfl⟩)
                    go_roundw
                    case rel => exact ⟨k + 1, by omega, by go_num, by rw [HJT.out, HTK.out, HTS.out, HTX2.out], HOK.out, (by repeat (first | (with_reducible first | exact Ext.refl _ | assumption | apply Ext.alloc | apply Ext.drew | apply Ext.drewN | refine Ext.setCell ?_ ?_ _ | refine Ext.trans ?_ (by assumption)) | (show _ ≤ _; first | omega | (dsimp only; omega) | (simp; done) | (simp; omega))))⟩
                    case measure => simp [intOf]; omega
              · obtain rfl : k = xs.length := by omega
                rw [List.take_length] at HALL
                simp only [List.take_length]
                have hyes : whOk lv ss tops hh ep r p S (xs.map StW.pure) = true := by rw [HW.out]; exact HALL.out
                have R := Lib.hid (HTX.out hyes)
                have RO := Lib.hid hyes
                clear hyes
                go_wp2
                go_ret2
                exact ⟨ret_sb (by rw [R.out, HA.out, HB.out, HW3.out]) RO.out.symm, X⟩
          · have hxi : (3 : Int) < xs.length := by omega
            have hno : whOk lv ss tops hh ep r p S (xs.map StW.pure) = false := by rw [whOk, KP.out, KS.out, KW.out, decide_eq_true ht, List.length_map, decide_eq_false hx3]; rfl
            have R := Lib.hid (whTx_no hno)
            have RO := Lib.hid hno
            clear hno
            go_wp2_with (go_at_call 58; refine (impl_haveWidth _ tops _ _ _ (h3.ext X) hs3).mono ?_; rw [show (wide tops 16 && decide ((tops.length : Int) = (tops.length : Int))) = true by rw [KW.out]; simp]; rintro e w' ⟨rfl, rfl⟩)
            go_ret2
            exact ⟨ret_sb R.out.symm RO.out.symm, X⟩
      · have hti : (2 : Int) < tops.length := by omega
        have hno : whOk lv ss tops hh ep r p S (xs.map StW.pure) = false := by rw [whOk, KP.out, KS.out, decide_eq_false ht]; rfl
        have R := Lib.hid (whTx_no hno)
        have RO := Lib.hid hno
        clear hno
        go_wp2
        go_ret2
        exact ⟨ret_sb R.out.symm RO.out.symm, X⟩
end Go.Proofs.Ytliebkhfddmhjaa
