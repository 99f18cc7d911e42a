/- WholeText: what it is; the reference's. -/
import Derived.Test.YtliebkhfddmhjaaWhl
import Derived.Test.YtliebkhfddmhjaaPText
import Derived.Test.YtliebkhfddmhjaaSeal
import Derived.Deep.RegionHeld3
namespace Go.Proofs.Ytliebkhfddmhjaa
open Go.RowKit

def stOk (x : Int × SigV) : Bool := sigWell x.2 && inB x.1 0 2
def stTx (x : Int × SigV) : ByteArray := strOfNums [x.1] ++ sigTx x.2
def stJ (t : ByteArray) (xs : List (Int × SigV)) : ByteArray := xs.foldl (fun t x => t ++ stTx x) t
theorem stJ_snoc (t : ByteArray) (xs : List (Int × SigV)) (x : Int × SigV) : stJ t (xs ++ [x]) = stJ t xs ++ stTx x := by simp [stJ]
theorem stTx_size (x : Int × SigV) : (stTx x).size ≤ 700001 := by
  rw [stTx, ByteArray.size_append, strOfNums_size]
  have := sigTx_size x.2
  simp
  omega
theorem stJ_le : ∀ (xs : List (Int × SigV)) (t : ByteArray), (stJ t xs).size ≤ t.size + 700001 * xs.length
  | [], t => by simp [stJ]
  | x :: xs, t => by
    have h := stJ_le xs (t ++ stTx x)
    rw [ByteArray.size_append] at h
    have hx := stTx_size x
    show (stJ (t ++ stTx x) xs).size ≤ _
    rw [List.length_cons]
    omega
theorem stJ_size (t : ByteArray) (xs : List (Int × SigV)) : (stJ t xs).size ≤ t.size + 700001 * xs.length := stJ_le xs t
def whOk (lv : List Leaf) (ss tops : List ByteArray) (hh ep : Int) (r p : ByteArray) (S : SigV) (sts : List (Int × SigV)) : Bool := proofWell lv ss 16 && (sealOk hh ep r p S && (decide (tops.length ≤ 2) && (wide tops 16 && (decide (sts.length ≤ 3) && sts.all stOk))))
def whT (a b : ByteArray) (tops : List ByteArray) (m : Nat) : ByteArray := varT a.size ++ a ++ varT tops.length ++ joinT tops ++ varT b.size ++ b ++ varT m
def whTx (lv : List Leaf) (ss tops : List ByteArray) (hh ep : Int) (r p : ByteArray) (S : SigV) (sts : List (Int × SigV)) : ByteArray := if whOk lv ss tops hh ep r p S sts = true then stJ (whT (proofTx lv ss 16) (sealT hh ep r p S) tops sts.length) sts else ⟨#[]⟩
theorem whTx_no {lv : List Leaf} {ss tops : List ByteArray} {hh ep : Int} {r p : ByteArray} {S : SigV} {sts : List (Int × SigV)} (h : whOk lv ss tops hh ep r p S sts = false) : whTx lv ss tops hh ep r p S sts = ⟨#[]⟩ := by rw [whTx, if_neg (by rw [h]; decide)]
theorem whTx_yes {lv : List Leaf} {ss tops : List ByteArray} {hh ep : Int} {r p : ByteArray} {S : SigV} {sts : List (Int × SigV)} (h : whOk lv ss tops hh ep r p S sts = true) : whTx lv ss tops hh ep r p S sts = stJ (whT (proofTx lv ss 16) (sealT hh ep r p S) tops sts.length) sts := by rw [whTx, if_pos h]
theorem proofTx_le (lv : List Leaf) (ss : List ByteArray) : (proofTx lv ss 16).size ≤ 30000 := by
  by_cases h : proofWell lv ss 16 = true
  · rw [show proofTx lv ss 16 = leavesT lv ++ varT ss.length ++ joinT ss by simp [proofTx, h]]
    simp only [proofWell, Bool.and_eq_true, decide_eq_true_eq] at h
    obtain ⟨h1, h2, h3, h4⟩ := h
    have hsm := wide_small (by omega) h3 h4
    have z1 := leavesT_size h1
    have z2 := varT_size ss.length
    have z3 : (joinT ss).size ≤ 200 * ss.length := by have := joinOn_size ⟨#[]⟩ hsm ss.length (Nat.le_refl _); rw [ba_empty_size] at this; unfold joinT; omega
    rw [ByteArray.size_append, ByteArray.size_append]
    omega
  · rw [show proofTx lv ss 16 = ⟨#[]⟩ by simp [proofTx, h]]
    exact Nat.zero_le _
theorem sealT_le (hh ep : Int) (r p : ByteArray) (S : SigV) : (sealT hh ep r p S).size ≤ 800000 := by
  cases h : sealOk hh ep r p S
  · rw [sealT_no h]
    exact Nat.zero_le _
  · rw [sealT_yes h, ByteArray.size_append, ByteArray.size_append]
    have := headText_34 hh ep r p
    have := sigTx_size S
    have := varT_size (headText hh ep r p).size
    omega
theorem tops_small {tops : List ByteArray} (h : tops.length ≤ 2) (hw : wide tops 16 = true) : StrSmall tops := wide_small (by omega) (by decide) hw
theorem all_snoc {xs : List StW} {k : Nat} (h : k < xs.length) (ha : ((xs.take k).map StW.pure).all stOk = true) (hk : stOk xs[k].pure = true) : ((xs.take (k + 1)).map StW.pure).all stOk = true := by
  rw [List.take_succ_eq_append_getElem h, List.map_append, List.all_append, ha, List.map_singleton]
  simpa using hk
theorem all_no {xs : List StW} {k : Nat} (h : k < xs.length) (hk : stOk xs[k].pure = false) : (xs.map StW.pure).all stOk = false := by
  cases ha : (xs.map StW.pure).all stOk
  · rfl
  · have := List.all_eq_true.1 ha xs[k].pure (List.mem_map.2 ⟨xs[k], List.getElem_mem h, rfl⟩)
    rw [hk] at this
    cases this
theorem stJ_take {xs : List StW} {k : Nat} (t : ByteArray) (h : k < xs.length) : stJ t ((xs.take (k + 1)).map StW.pure) = stJ t ((xs.take k).map StW.pure) ++ stTx xs[k].pure := by
  rw [List.take_succ_eq_append_getElem h, List.map_append, List.map_singleton, stJ_snoc]
theorem whOk_parts {lv : List Leaf} {ss tops : List ByteArray} {hh ep : Int} {r p : ByteArray} {S : SigV} {sts : List (Int × SigV)} (h1 : proofWell lv ss 16 = true) (h2 : sealOk hh ep r p S = true) (h3 : tops.length ≤ 2) (h4 : wide tops 16 = true) (h5 : sts.length ≤ 3) : whOk lv ss tops hh ep r p S sts = sts.all stOk := by
  rw [whOk, h1, h2, h4, decide_eq_true h3, decide_eq_true h5]
  rfl
set_option maxRecDepth 100000 in
set_option maxHeartbeats 12800000 in
theorem spec_WholeText (v1 v2 v3 v4 v5 v6 v7 : Value) (lv : List Leaf) (ss tops : List ByteArray) (hh ep : Int) (r p : ByteArray) (S : SigV) (xs : List StW) (w : World) (h1 : Lvs w v1 lv) (h2 : Strs w v2 ss) (h3 : Strs w v3 tops) (h4 : Strs w v4 S.op) (h5 : Strs w v5 S.sh) (h6 : Strs w v6 S.si) (h7 : Sts w v7 xs) (hf : LeafFit lv) (hs2 : ∀ s ∈ ss, s.size ≤ maxLen) (hs3 : ∀ s ∈ tops, s.size ≤ maxLen) (hS : SigFit S) (hX : ∀ x ∈ xs, SigFit x.s) :
    Calls Try.prog 18 #[.agg #[v1, v2, v3, .int .i64 hh, .int .i64 ep, .string r, .string p, .int .i64 S.at_, v4, v5, v6, v7]] w fun e w' => e = .returned (.tuple #[.string (whTx lv ss tops hh ep r p S (xs.map StW.pure)), .bool (whOk lv ss tops hh ep r p S (xs.map StW.pure))]) ∧ Ext w w' := by
  obtain ⟨b1, c1, rfl⟩ := h1.form
  obtain ⟨b2, c2, rfl⟩ := h2.form
  obtain ⟨b3, c3, rfl⟩ := h3.form
  obtain ⟨b4, c4, rfl⟩ := h4.form
  obtain ⟨b5, c5, rfl⟩ := h5.form
  obtain ⟨b6, c6, rfl⟩ := h6.form
  obtain ⟨b7, c7, rfl⟩ := h7.form
  have za := proofTx_le lv ss
  have zb := sealT_le hh ep r p S
  have P := Bx.new w #[.slice b1 lv.length c1, .slice b2 ss.length c2, .slice b3 tops.length c3, .int .i64 hh, .int .i64 ep, .string r, .string p, .int .i64 S.at_, .slice b4 S.op.length c4, .slice b5 S.sh.length c5, .slice b6 S.si.length c6, .slice b7 xs.length c7] 61
  have X : Ext w (w.alloc (Obj.cells #[.slice b1 lv.length c1, .slice b2 ss.length c2, .slice b3 tops.length c3, .int .i64 hh, .int .i64 ep, .string r, .string p, .int .i64 S.at_, .slice b4 S.op.length c4, .slice b5 S.sh.length c5, .slice b6 S.si.length c6, .slice b7 xs.length c7] 61)) := (Ext.refl w).alloc _
  go_enter Try.func18, Try.ntmps18
  go_wp2_with fail
  generalize w.alloc (Obj.cells #[.slice b1 lv.length c1, .slice b2 ss.length c2, .slice b3 tops.length c3, .int .i64 hh, .int .i64 ep, .string r, .string p, .int .i64 S.at_, .slice b4 S.op.length c4, .slice b5 S.sh.length c5, .slice b6 S.si.length c6, .slice b7 xs.length c7] 61) = W0 at *
  generalize w.heap.size = B at *
  obtain ⟨kp, hkp⟩ : ∃ z, proofWell lv ss 16 = z := ⟨_, rfl⟩
  have KP := Lib.hid hkp
  obtain ⟨ks, hks⟩ : ∃ z, sealOk hh ep r p S = z := ⟨_, rfl⟩
  have KS := Lib.hid hks
  obtain ⟨a, haa⟩ : ∃ z, proofTx lv ss 16 = z := ⟨_, rfl⟩
  have HA := Lib.hid haa
  obtain ⟨b, hbb⟩ : ∃ z, sealT hh ep r p S = z := ⟨_, rfl⟩
  have HB := Lib.hid hbb
  rw [haa] at za
  rw [hbb] at zb
  clear hkp hks haa hbb
  refine (spec_ProofText _ _ lv ss 16 _ (h1.ext X) hf (h2.ext X) hs2).mono ?_
  rw [KP.out, HA.out]
  rintro e w1 ⟨rfl, x1⟩
  replace P := P.ext x1
  replace X := X.trans x1
  have p0 := P.2.1 0 _ rfl
  have p1 := P.2.1 1 _ rfl
  have p2 := P.2.1 2 _ rfl
  have p3 := P.2.1 3 _ rfl
  have p4 := P.2.1 4 _ rfl
  have p5 := P.2.1 5 _ rfl
  have p6 := P.2.1 6 _ rfl
  have p7 := P.2.1 7 _ rfl
  have p8 := P.2.1 8 _ rfl
  have p9 := P.2.1 9 _ rfl
  have p10 := P.2.1 10 _ rfl
  have p11 := P.2.1 11 _ rfl
  go_wp2_with fail
  clear p0 p1 p2 p3 p4 p5 p6 p7 p8 p9 p10 p11
  refine (spec_SealText hh ep r p _ _ _ S _ (h4.ext X) (h5.ext X) (h6.ext X) hS).mono ?_
  rw [KS.out, HB.out]
  rintro e w2 ⟨rfl, x2⟩
  replace P := P.ext x2
  replace X := X.trans x2
  have p0 := P.2.1 0 _ rfl
  have p1 := P.2.1 1 _ rfl
  have p2 := P.2.1 2 _ rfl
  have p3 := P.2.1 3 _ rfl
  have p4 := P.2.1 4 _ rfl
  have p5 := P.2.1 5 _ rfl
  have p6 := P.2.1 6 _ rfl
  have p7 := P.2.1 7 _ rfl
  have p8 := P.2.1 8 _ rfl
  have p9 := P.2.1 9 _ rfl
  have p10 := P.2.1 10 _ rfl
  have p11 := P.2.1 11 _ rfl
  cases kp
  · have hno : whOk lv ss tops hh ep r p S (xs.map StW.pure) = false := by rw [whOk, KP.out]; rfl
    have R := Lib.hid (whTx_no hno)
    have RO := Lib.hid hno
    clear hno
    go_wp2
    go_ret2
    exact ⟨ret_sb R.out.symm RO.out.symm, X⟩
  · cases ks
    · have hno : whOk lv ss tops hh ep r p S (xs.map StW.pure) = false := by rw [whOk, KP.out, KS.out]; rfl
      have R := Lib.hid (whTx_no hno)
      have RO := Lib.hid hno
      clear hno
      go_wp2
      go_ret2
      exact ⟨ret_sb R.out.symm RO.out.symm, X⟩
    · by_cases ht : tops.length ≤ 2
      · have hti : ¬ ((2 : Int) < tops.length) := by omega
        obtain ⟨kw, hkw⟩ : ∃ z, wide tops 16 = z := ⟨_, rfl⟩
        have KW := Lib.hid hkw
        clear hkw
        cases kw
        · have hno : whOk lv ss tops hh ep r p S (xs.map StW.pure) = false := by rw [whOk, KP.out, KS.out, KW.out, decide_eq_true ht]; rfl
          have R := Lib.hid (whTx_no hno)
          have RO := Lib.hid hno
          clear hno
          go_wp2_with (go_at_call 48; refine (spec_l11Wide _ tops 16 _ (h3.ext X) hs3).mono ?_; rw [show (wide tops 16 && inB 16 1 32) = false by rw [KW.out]; rfl]; rintro e w' ⟨rfl, rfl⟩)
          go_ret2
          exact ⟨ret_sb R.out.symm RO.out.symm, X⟩
        · by_cases hx3 : xs.length ≤ 3
          · have hxi : ¬ ((3 : Int) < xs.length) := by omega
            have HW := Lib.hid (whOk_parts (lv := lv) (ss := ss) (sts := xs.map StW.pure) KP.out KS.out ht KW.out (by rw [List.length_map]; exact hx3))
            have HSM := Lib.hid (tops_small ht KW.out)
            have HTX := Lib.hid (fun hh2 => whTx_yes (lv := lv) (ss := ss) (tops := tops) (hh := hh) (ep := ep) (r := r) (p := p) (S := S) (sts := xs.map StW.pure) hh2)
            go_upto_region 5 with (go_at_call 48; refine (spec_l11Wide _ tops 16 _ (h3.ext X) hs3).mono ?_; rw [show (wide tops 16 && inB 16 1 32) = true by rw [KW.out]; rfl]; rintro e w' ⟨rfl, rfl⟩)
            clear p0 p1 p2 p3 p4 p5 p6 p7 p8 p9 p10 p11
            have z_va := varT_size a.size
            obtain ⟨va, h_va⟩ : ∃ z, varT a.size = z := ⟨_, rfl⟩
            have H_va := Lib.hid h_va
            rw [h_va] at z_va
            clear h_va
            have z_vt := varT_size tops.length
            obtain ⟨vt, h_vt⟩ : ∃ z, varT tops.length = z := ⟨_, rfl⟩
            have H_vt := Lib.hid h_vt
            rw [h_vt] at z_vt
            clear h_vt
            have z_vb := varT_size b.size
            obtain ⟨vb, h_vb⟩ : ∃ z, varT b.size = z := ⟨_, rfl⟩
            have H_vb := Lib.hid h_vb
            rw [h_vb] at z_vb
            clear h_vb
            have z_vs := varT_size xs.length
            obtain ⟨vs, h_vs⟩ : ∃ z, varT xs.length = z := ⟨_, rfl⟩
            have H_vs := Lib.hid h_vs
            rw [h_vs] at z_vs
            clear h_vs
            have s1 : ¬ (9223372036854775807 < va.size + a.size) := by omega
            have s2 : ¬ (9223372036854775807 < va.size + a.size + vt.size) := by omega
            refine wp_region_held_drew (S := (fun W => W.cell? ⟨B, 2, none⟩ = some (.slice b3 tops.length c3) ∧ W.cell? ⟨B, 11, none⟩ = some (.slice b7 xs.length c7))) (by kernel_rfl) (by exact ⟨P.2.1 2 _ rfl, P.2.1 11 _ rfl⟩) (fun hHeld => ?_)
            have xd : Ext w2 w2.drew := (Ext.refl w2).drew
            replace P := P.ext xd
            replace X := X.trans xd
            generalize w2.drew = w3 at *
            (refine wpAnyH_take (i := 0) (v := ?_) rfl (by kernel_rfl) (by kernel_rfl) (by kernel_rfl) (fun _ _ _ h => h) (Or.inl ⟨by rfl, ?_⟩) (by assumption) ?_; rotate_left; focus (intro w hSw; (try dsimp only at hSw); (try simp only [zk1, zk2]); go_simp; try with_reducible rfl)); (try simp only [zk1, zk2]); (try simp only [Act.put, zk4, zk5, zk6])
            (refine wpAnyH_take (i := 1) (v := ?_) rfl (by kernel_rfl) (by kernel_rfl) (by kernel_rfl) (fun _ _ _ h => h) (Or.inl ⟨by rfl, ?_⟩) (by assumption) ?_; rotate_left; focus (intro w hSw; (try dsimp only at hSw); (try simp only [zk1, zk2, zk3]); go_simp; try with_reducible rfl)); (try simp only [zk1, zk2, zk3]); (try simp only [Act.put, zk4, zk5, zk6])
            (refine wpAnyH_take (i := 3) (v := ?_) rfl (by kernel_rfl) (by kernel_rfl) (by kernel_rfl) (fun _ _ _ h => h) (Or.inl ⟨by rfl, ?_⟩) (by assumption) ?_; rotate_left; focus (intro w hSw; (try dsimp only at hSw); (try simp only [zk1, zk2, zk3]); go_simp; try with_reducible rfl)); (try simp only [zk1, zk2, zk3]); (try simp only [Act.put, zk4, zk5, zk6])
            (refine wpAnyH_take (i := 5) (v := ?_) rfl (by kernel_rfl) (by kernel_rfl) (by kernel_rfl) (fun _ _ _ h => h) (Or.inl ⟨by rfl, ?_⟩) (by assumption) ?_; rotate_left; focus (intro w hSw; (try dsimp only at hSw); (try simp only [zk1, zk2, zk3]); go_simp; try with_reducible rfl)); (try simp only [zk1, zk2, zk3]); (try simp only [Act.put, zk4, zk5, zk6])
            (refine wpAnyH_take (i := 6) (v := ?_) rfl (by kernel_rfl) (by kernel_rfl) (by kernel_rfl) (fun _ _ _ h => h) (Or.inl ⟨by rfl, ?_⟩) (by assumption) ?_; rotate_left; focus (intro w hSw; (try dsimp only at hSw); (try simp only [zk1, zk2, zk3]); go_simp; try with_reducible rfl)); (try simp only [zk1, zk2, zk3]); (try simp only [Act.put, zk4, zk5, zk6])
            (refine wpAnyH_take (i := 7) (v := ?_) rfl (by kernel_rfl) (by kernel_rfl) (by kernel_rfl) (fun _ _ _ h => h) (Or.inl ⟨by rfl, ?_⟩) (by assumption) ?_; rotate_left; focus (intro w hSw; (try dsimp only at hSw); (try simp only [zk1, zk2, zk3]); go_simp; try with_reducible rfl)); (try simp only [zk1, zk2, zk3]); (try simp only [Act.put, zk4, zk5, zk6])
            (refine wpAnyH_ready (rs := [2]) (by kernel_rfl) (by simp) ?_; refine AllReadyH.cons rfl (fun K hK => ?_) AllReadyH.nil; (try simp only [zk1, zk2, zk3]))
            go_simp
            go_at_call 49
            refine (spec_l01Var a.size _ (by omega)).mono ?_
            rw [H_va.out]
            rintro e w4 ⟨rfl, x4⟩
            replace P := P.ext x4
            replace X := X.trans x4
            (try dsimp only)
            refine hK.out _ _ (by exact ⟨P.2.1 2 _ rfl, P.2.1 11 _ rfl⟩) (fun hHeld => ?_)
            clear hK K
            (refine wpAnyH_take (i := 4) (v := ?_) rfl (by kernel_rfl) (by kernel_rfl) (by kernel_rfl) (fun _ _ _ h => h) (Or.inl ⟨by rfl, ?_⟩) (by assumption) ?_; rotate_left; focus (intro w hSw; (try dsimp only at hSw); (try simp only [zk1, zk2, zk3]); go_simp; try with_reducible rfl)); (try simp only [zk1, zk2, zk3]); (try simp only [Act.put, zk4, zk5, zk6])
            (refine wpAnyH_ready (rs := [8]) (by kernel_rfl) (by simp) ?_; refine AllReadyH.cons rfl (fun K hK => ?_) AllReadyH.nil; (try simp only [zk1, zk2, zk3]))
            go_simp
            go_at_call 49
            refine (spec_l01Var tops.length _ (by omega)).mono ?_
            rw [H_vt.out]
            rintro e w5 ⟨rfl, x5⟩
            replace P := P.ext x5
            replace X := X.trans x5
            (try dsimp only)
            refine hK.out _ _ (by exact ⟨P.2.1 2 _ rfl, P.2.1 11 _ rfl⟩) (fun hHeld => ?_)
            clear hK K
            (refine wpAnyH_take (i := 9) (v := ?_) rfl (by kernel_rfl) (by kernel_rfl) (by kernel_rfl) (fun _ _ _ h => h) (Or.inl ⟨by rfl, ?_⟩) (by assumption) ?_; rotate_left; focus (intro w hSw; (try dsimp only at hSw); (try simp only [zk1, zk2, zk3]); go_simp; try with_reducible rfl)); (try simp only [zk1, zk2, zk3]); (try simp only [Act.put, zk4, zk5, zk6])
            (refine wpAnyH_take (i := 10) (v := ?_) rfl (by kernel_rfl) (by kernel_rfl) (by kernel_rfl) (fun _ _ _ h => h) (Or.inl ⟨by rfl, ?_⟩) (by assumption) ?_; rotate_left; focus (intro w hSw; (try dsimp only at hSw); (try simp only [zk1, zk2, zk3]); go_simp; try with_reducible rfl)); (try simp only [zk1, zk2, zk3]); (try simp only [Act.put, zk4, zk5, zk6])
            refine wpAnyH_done (by kernel_rfl) ?_ _
            have zT1 : (va ++ a ++ vt).size = va.size + a.size + vt.size := by rw [ByteArray.size_append, ByteArray.size_append]
            obtain ⟨T1, hT1⟩ : ∃ z, va ++ a ++ vt = z := ⟨_, rfl⟩
            rw [hT1] at zT1
            have HT1 := Lib.hid hT1
            simp only [hT1]
            clear hT1 s1 s2
            have p0 := P.2.1 0 _ rfl
            have p1 := P.2.1 1 _ rfl
            have p2 := P.2.1 2 _ rfl
            have p3 := P.2.1 3 _ rfl
            have p4 := P.2.1 4 _ rfl
            have p5 := P.2.1 5 _ rfl
            have p6 := P.2.1 6 _ rfl
            have p7 := P.2.1 7 _ rfl
            have p8 := P.2.1 8 _ rfl
            have p9 := P.2.1 9 _ rfl
            have p10 := P.2.1 10 _ rfl
            have p11 := P.2.1 11 _ rfl
            go_wp2_with fail
            clear p0 p1 p2 p3 p4 p5 p6 p7 p8 p9 p10 p11
            go_loopw [8, 9] (fun t i wr => ∃ k : Nat, k ≤ tops.length ∧ i = .int .i64 k ∧ t = .string (joinOn T1 tops k) ∧ Ext w5 wr) (fun _ i _ => tops.length - (intOf i).toNat)
            case atStart => exact ⟨0, Nat.zero_le _, rfl, by rw [joinOn_zero], Ext.refl _⟩
            case round =>
              obtain ⟨k, hk, rfl, rfl, hx⟩ := hrel
              replace P := P.ext hx
              replace X := X.trans hx
              have p0 := P.2.1 0 _ rfl
              have p1 := P.2.1 1 _ rfl
              have p2 := P.2.1 2 _ rfl
              have p3 := P.2.1 3 _ rfl
              have p4 := P.2.1 4 _ rfl
              have p5 := P.2.1 5 _ rfl
              have p6 := P.2.1 6 _ rfl
              have p7 := P.2.1 7 _ rfl
              have p8 := P.2.1 8 _ rfl
              have p9 := P.2.1 9 _ rfl
              have p10 := P.2.1 10 _ rfl
              have p11 := P.2.1 11 _ rfl
              by_cases hlt : k < tops.length
              · have hlti : (k : Int) < tops.length := by omega
                obtain ⟨-, a3, c3v, hv3, hc3, hm3, g3⟩ := h3
                injection hv3 with e1 e2 e3
                subst e1 e3
                rcases g3 with g3 | ⟨q3, o3, rfl, hb3, g3⟩
                · omega
                skip
                have e3 : wr.cell? ⟨q3, o3 + k, none⟩ = some (.string tops[k]) := (X.cell q3 _ hb3).trans (g3 k _ (by simp [hlt]))
                have HJ := Lib.hid (joinOn_succ T1 tops k hlt)
                have zk := HSM.out.2 tops[k] (List.getElem_mem hlt)
                have zj := joinOn_size T1 HSM.out k (by omega)
                generalize joinOn T1 tops k = tk at *
                generalize tops[k] = tp at *
                have s1 : ¬ (9223372036854775807 < tk.size + tp.size) := by omega
                go_wp2
                go_roundw
                case rel => exact ⟨k + 1, by omega, by go_num, by rw [HJ.out], hx⟩
                case measure => simp [intOf]; omega
              · obtain rfl : k = tops.length := by omega
                have zj := joinOn_size T1 HSM.out tops.length (Nat.le_refl _)
                have HJA := Lib.hid (joinOn_all T1 tops)
                obtain ⟨T2, hT2⟩ : ∃ z, joinOn T1 tops tops.length = z := ⟨_, rfl⟩
                rw [hT2] at zj
                have HT2 := Lib.hid hT2
                simp only [hT2]
                clear hT2
                go_upto_region 10 with (fail)
                clear p0 p1 p2 p3 p4 p5 p6 p7 p8 p9 p10 p11
                have s1 : ¬ (9223372036854775807 < T2.size + vb.size) := by omega
                have s2 : ¬ (9223372036854775807 < T2.size + vb.size + b.size) := by omega
                have s3 : ¬ (9223372036854775807 < T2.size + vb.size + b.size + vs.size) := by omega
                refine wp_region_held_drew (S := (fun W => W.cell? ⟨B, 2, none⟩ = some (.slice b3 tops.length c3) ∧ W.cell? ⟨B, 11, none⟩ = some (.slice b7 xs.length c7))) (by kernel_rfl) (by exact ⟨P.2.1 2 _ rfl, P.2.1 11 _ rfl⟩) (fun hHeld => ?_)
                have xd : Ext wr wr.drew := (Ext.refl wr).drew
                replace P := P.ext xd
                replace X := X.trans xd
                generalize wr.drew = w6 at *
                (refine wpAnyH_take (i := 0) (v := ?_) rfl (by kernel_rfl) (by kernel_rfl) (by kernel_rfl) (fun _ _ _ h => h) (Or.inl ⟨by rfl, ?_⟩) (by assumption) ?_; rotate_left; focus (intro w hSw; (try dsimp only at hSw); (try simp only [zk1, zk2]); go_simp; try with_reducible rfl)); (try simp only [zk1, zk2]); (try simp only [Act.put, zk4, zk5, zk6])
                (refine wpAnyH_take (i := 1) (v := ?_) rfl (by kernel_rfl) (by kernel_rfl) (by kernel_rfl) (fun _ _ _ h => h) (Or.inl ⟨by rfl, ?_⟩) (by assumption) ?_; rotate_left; focus (intro w hSw; (try dsimp only at hSw); (try simp only [zk1, zk2, zk3]); go_simp; try with_reducible rfl)); (try simp only [zk1, zk2, zk3]); (try simp only [Act.put, zk4, zk5, zk6])
                (refine wpAnyH_take (i := 2) (v := ?_) rfl (by kernel_rfl) (by kernel_rfl) (by kernel_rfl) (fun _ _ _ h => h) (Or.inl ⟨by rfl, ?_⟩) (by assumption) ?_; rotate_left; focus (intro w hSw; (try dsimp only at hSw); (try simp only [zk1, zk2, zk3]); go_simp; try with_reducible rfl)); (try simp only [zk1, zk2, zk3]); (try simp only [Act.put, zk4, zk5, zk6])
                (refine wpAnyH_take (i := 5) (v := ?_) rfl (by kernel_rfl) (by kernel_rfl) (by kernel_rfl) (fun _ _ _ h => h) (Or.inl ⟨by rfl, ?_⟩) (by assumption) ?_; rotate_left; focus (intro w hSw; (try dsimp only at hSw); (try simp only [zk1, zk2, zk3]); go_simp; try with_reducible rfl)); (try simp only [zk1, zk2, zk3]); (try simp only [Act.put, zk4, zk5, zk6])
                (refine wpAnyH_take (i := 7) (v := ?_) rfl (by kernel_rfl) (by kernel_rfl) (by kernel_rfl) (fun _ _ _ h => h) (Or.inl ⟨by rfl, ?_⟩) (by assumption) ?_; rotate_left; focus (intro w hSw; (try dsimp only at hSw); (try simp only [zk1, zk2, zk3]); go_simp; try with_reducible rfl)); (try simp only [zk1, zk2, zk3]); (try simp only [Act.put, zk4, zk5, zk6])
                (refine wpAnyH_take (i := 8) (v := ?_) rfl (by kernel_rfl) (by kernel_rfl) (by kernel_rfl) (fun _ _ _ h => h) (Or.inl ⟨by rfl, ?_⟩) (by assumption) ?_; rotate_left; focus (intro w hSw; (try dsimp only at hSw); (try simp only [zk1, zk2, zk3]); go_simp; try with_reducible rfl)); (try simp only [zk1, zk2, zk3]); (try simp only [Act.put, zk4, zk5, zk6])
                (refine wpAnyH_take (i := 9) (v := ?_) rfl (by kernel_rfl) (by kernel_rfl) (by kernel_rfl) (fun _ _ _ h => h) (Or.inl ⟨by rfl, ?_⟩) (by assumption) ?_; rotate_left; focus (intro w hSw; (try dsimp only at hSw); (try simp only [zk1, zk2, zk3]); go_simp; try with_reducible rfl)); (try simp only [zk1, zk2, zk3]); (try simp only [Act.put, zk4, zk5, zk6])
                (refine wpAnyH_ready (rs := [3]) (by kernel_rfl) (by simp) ?_; refine AllReadyH.cons rfl (fun K hK => ?_) AllReadyH.nil; (try simp only [zk1, zk2, zk3]))
                go_simp
                go_at_call 49
                refine (spec_l01Var b.size _ (by omega)).mono ?_
                rw [H_vb.out]
                rintro e w7 ⟨rfl, x7⟩
                replace P := P.ext x7
                replace X := X.trans x7
                (try dsimp only)
                refine hK.out _ _ (by exact ⟨P.2.1 2 _ rfl, P.2.1 11 _ rfl⟩) (fun hHeld => ?_)
                clear hK K
                (refine wpAnyH_take (i := 4) (v := ?_) rfl (by kernel_rfl) (by kernel_rfl) (by kernel_rfl) (fun _ _ _ h => h) (Or.inl ⟨by rfl, ?_⟩) (by assumption) ?_; rotate_left; focus (intro w hSw; (try dsimp only at hSw); (try simp only [zk1, zk2, zk3]); go_simp; try with_reducible rfl)); (try simp only [zk1, zk2, zk3]); (try simp only [Act.put, zk4, zk5, zk6])
                (refine wpAnyH_take (i := 6) (v := ?_) rfl (by kernel_rfl) (by kernel_rfl) (by kernel_rfl) (fun _ _ _ h => h) (Or.inl ⟨by rfl, ?_⟩) (by assumption) ?_; rotate_left; focus (intro w hSw; (try dsimp only at hSw); (try simp only [zk1, zk2, zk3]); go_simp; try with_reducible rfl)); (try simp only [zk1, zk2, zk3]); (try simp only [Act.put, zk4, zk5, zk6])
                (refine wpAnyH_ready (rs := [10]) (by kernel_rfl) (by simp) ?_; refine AllReadyH.cons rfl (fun K hK => ?_) AllReadyH.nil; (try simp only [zk1, zk2, zk3]))
                go_simp
                go_at_call 49
                refine (spec_l01Var xs.length _ (by omega)).mono ?_
                rw [H_vs.out]
                rintro e w8 ⟨rfl, x8⟩
                replace P := P.ext x8
                replace X := X.trans x8
                (try dsimp only)
                refine hK.out _ _ (by exact ⟨P.2.1 2 _ rfl, P.2.1 11 _ rfl⟩) (fun hHeld => ?_)
                clear hK K
                (refine wpAnyH_take (i := 11) (v := ?_) rfl (by kernel_rfl) (by kernel_rfl) (by kernel_rfl) (fun _ _ _ h => h) (Or.inl ⟨by rfl, ?_⟩) (by assumption) ?_; rotate_left; focus (intro w hSw; (try dsimp only at hSw); (try simp only [zk1, zk2, zk3]); go_simp; try with_reducible rfl)); (try simp only [zk1, zk2, zk3]); (try simp only [Act.put, zk4, zk5, zk6])
                (refine wpAnyH_take (i := 12) (v := ?_) rfl (by kernel_rfl) (by kernel_rfl) (by kernel_rfl) (fun _ _ _ h => h) (Or.inl ⟨by rfl, ?_⟩) (by assumption) ?_; rotate_left; focus (intro w hSw; (try dsimp only at hSw); (try simp only [zk1, zk2, zk3]); go_simp; try with_reducible rfl)); (try simp only [zk1, zk2, zk3]); (try simp only [Act.put, zk4, zk5, zk6])
                refine wpAnyH_done (by kernel_rfl) ?_ _
                have zT3 : (T2 ++ vb ++ b ++ vs).size = T2.size + vb.size + b.size + vs.size := by rw [ByteArray.size_append, ByteArray.size_append, ByteArray.size_append]
                have HW3 := Lib.hid (show whT a b tops (xs.map StW.pure).length = T2 ++ vb ++ b ++ vs by rw [whT, List.length_map, H_va.out, H_vt.out, H_vb.out, H_vs.out, HT1.out, ← HT2.out, HJA.out])
                obtain ⟨T3, hT3⟩ : ∃ z, T2 ++ vb ++ b ++ vs = z := ⟨_, rfl⟩
                rw [hT3] at zT3 HW3
                simp only [hT3]
                clear hT3 s1 s2 s3
                have p0 := P.2.1 0 _ rfl
                have p1 := P.2.1 1 _ rfl
                have p2 := P.2.1 2 _ rfl
                have p3 := P.2.1 3 _ rfl
                have p4 := P.2.1 4 _ rfl
                have p5 := P.2.1 5 _ rfl
                have p6 := P.2.1 6 _ rfl
                have p7 := P.2.1 7 _ rfl
                have p8 := P.2.1 8 _ rfl
                have p9 := P.2.1 9 _ rfl
                have p10 := P.2.1 10 _ rfl
                have p11 := P.2.1 11 _ rfl
                go_wp2_with fail
                clear p0 p1 p2 p3 p4 p5 p6 p7 p8 p9 p10 p11
                go_loopw [8, 10] (fun t i wr => ∃ k : Nat, k ≤ xs.length ∧ i = .int .i64 k ∧ t = .string (stJ T3 ((xs.take k).map StW.pure)) ∧ ((xs.take k).map StW.pure).all stOk = true ∧ Ext w8 wr) (fun _ i _ => xs.length - (intOf i).toNat)
                case atStart => exact ⟨0, Nat.zero_le _, rfl, rfl, rfl, Ext.refl _⟩
                case round =>
                  obtain ⟨k, hk, rfl, rfl, hall, hx2⟩ := hrel
                  replace P := P.ext hx2
                  replace X := X.trans hx2
                  have HALL := Lib.hid hall
                  clear hall
                  have p0 := P.2.1 0 _ rfl
                  have p1 := P.2.1 1 _ rfl
                  have p2 := P.2.1 2 _ rfl
                  have p3 := P.2.1 3 _ rfl
                  have p4 := P.2.1 4 _ rfl
                  have p5 := P.2.1 5 _ rfl
                  have p6 := P.2.1 6 _ rfl
                  have p7 := P.2.1 7 _ rfl
                  have p8 := P.2.1 8 _ rfl
                  have p9 := P.2.1 9 _ rfl
                  have p10 := P.2.1 10 _ rfl
                  have p11 := P.2.1 11 _ rfl
                  by_cases hlt : k < xs.length
                  · have hlti : (k : Int) < xs.length := by omega
                    obtain ⟨⟨-, a7, c7v, hv7, hc7, hm7, g7⟩, hst7⟩ := h7
                    injection hv7 with i1 i2 i3
                    subst i1 i3
                    rcases g7 with g7 | ⟨q7, o7, rfl, hb7, g7⟩
                    · omega
                    have e0 : wr.cell? ⟨q7, o7 + k * 5, none⟩ = some (.int .i64 xs[k].by_) := (X.cell q7 _ hb7).trans (g7 _ _ (st_c0 xs k hlt))
                    have e1 : wr.cell? ⟨q7, o7 + k * 5 + 1, none⟩ = some (.int .i64 xs[k].s.at_) := (X.cell q7 _ hb7).trans (g7 _ _ (st_c1 xs k hlt))
                    have e2 : wr.cell? ⟨q7, o7 + k * 5 + 2, none⟩ = some xs[k].v1 := (X.cell q7 _ hb7).trans (g7 _ _ (st_c2 xs k hlt))
                    have e3 : wr.cell? ⟨q7, o7 + k * 5 + 3, none⟩ = some xs[k].v2 := (X.cell q7 _ hb7).trans (g7 _ _ (st_c3 xs k hlt))
                    have e4 : wr.cell? ⟨q7, o7 + k * 5 + 4, none⟩ = some xs[k].v3 := (X.cell q7 _ hb7).trans (g7 _ _ (st_c4 xs k hlt))
                    obtain ⟨s1, s2, s3⟩ := hst7 xs[k] (List.getElem_mem hlt)
                    have hfx := hX xs[k] (List.getElem_mem hlt)
                    have HNO := Lib.hid (all_no hlt)
                    have HSN := Lib.hid (all_snoc hlt HALL.out)
                    have HJT := Lib.hid (stJ_take T3 hlt)
                    have zj := stJ_size T3 ((xs.take k).map StW.pure)
                    have zl : ((xs.take k).map StW.pure).length ≤ 3 := by rw [List.length_map, List.length_take]; omega
                    clear g7 hst7
                    generalize xs[k] = x at *
                    obtain ⟨xb, xs', xv1, xv2, xv3⟩ := x
                    dsimp only [StW.pure] at *
                    obtain ⟨a4, c4v, rfl⟩ := s1.form
                    obtain ⟨a5, c5v, rfl⟩ := s2.form
                    obtain ⟨a6, c6v, rfl⟩ := s3.form
                    have zx := sigTx_size xs'
                    have HFX := Lib.hid hfx
                    skip
                    obtain ⟨tk, htk⟩ : ∃ z, stJ T3 (List.map StW.pure (List.take k xs)) = z := ⟨_, rfl⟩
                    have HTK := Lib.hid htk
                    rw [htk] at zj
                    simp only [htk]
                    clear htk
                    go_wp2_with fail
                    clear p0 p1 p2 p3 p4 p5 p6 p7 p8 p9 p10 p11
                    refine (spec_SigText _ _ _ xs' _ (s1.ext X) (s2.ext X) (s3.ext X) HFX.out).mono ?_
                    have HTS := Lib.hid (show stTx (xb, xs') = strOfNums [xb] ++ sigTx xs' from rfl)
                    obtain ⟨kx, hkx⟩ : ∃ z, sigWell xs' = z := ⟨_, rfl⟩
                    have KX := Lib.hid hkx
                    obtain ⟨tx, htx⟩ : ∃ z, sigTx xs' = z := ⟨_, rfl⟩
                    have HTX2 := Lib.hid htx
                    rw [hkx, htx]
                    rw [htx] at zx
                    clear hkx htx
                    rintro e w9 ⟨rfl, x9⟩
                    have l7 : q7 < wr.heap.size := Nat.lt_of_lt_of_le hb7 X.size
                    skip
                    skip
                    skip
                    skip
                    replace e0 := (x9.cell _ _ l7).trans e0
                    replace e1 := (x9.cell _ _ l7).trans e1
                    replace e2 := (x9.cell _ _ l7).trans e2
                    replace e3 := (x9.cell _ _ l7).trans e3
                    replace e4 := (x9.cell _ _ l7).trans e4
                    replace P := P.ext x9
                    replace X := X.trans x9
                    have p0 := P.2.1 0 _ rfl
                    have p1 := P.2.1 1 _ rfl
                    have p2 := P.2.1 2 _ rfl
                    have p3 := P.2.1 3 _ rfl
                    have p4 := P.2.1 4 _ rfl
                    have p5 := P.2.1 5 _ rfl
                    have p6 := P.2.1 6 _ rfl
                    have p7 := P.2.1 7 _ rfl
                    have p8 := P.2.1 8 _ rfl
                    have p9 := P.2.1 9 _ rfl
                    have p10 := P.2.1 10 _ rfl
                    have p11 := P.2.1 11 _ rfl
                    cases kx
                    · have hno : whOk lv ss tops hh ep r p S (xs.map StW.pure) = false := by rw [HW.out]; exact HNO.out (by rw [stOk, KX.out]; rfl)
                      have R := Lib.hid (whTx_no hno)
                      have RO := Lib.hid hno
                      clear hno
                      go_wp2
                      go_ret2
                      exact ⟨ret_sb R.out.symm RO.out.symm, X⟩
                    · cases ki : inB xb 0 2
                      · have hno : whOk lv ss tops hh ep r p S (xs.map StW.pure) = false := by rw [HW.out]; exact HNO.out (by rw [stOk, KX.out, ki]; rfl)
                        have R := Lib.hid (whTx_no hno)
                        have RO := Lib.hid hno
                        clear hno
                        have KI := Lib.hid ki
                        clear ki
                        go_wp2_with (go_at_call 51; refine (spec_l01In _ _ _ _).mono ?_; rw [KI.out]; rintro e w' ⟨rfl, rfl⟩)
                        go_ret2
                        exact ⟨ret_sb R.out.symm RO.out.symm, X⟩
                      · have hxb := inB_true.1 ki
                        have KI := Lib.hid ki
                        clear ki
                        have hm : xb % 256 = xb := by omega
                        have hcv := conv_lit1
                        have z1 : (strOfNums [xb]).size = 1 := strOfNums_size _
                        have HOK := Lib.hid (HSN.out (by rw [stOk, KX.out, KI.out]; rfl))
                        have q1 : ¬ (9223372036854775807 < tk.size + 1) := by omega
                        have q2 : ¬ (9223372036854775807 < tk.size + (strOfNums [xb]).size) := by omega
                        have q3 : ¬ (9223372036854775807 < tk.size + 1 + tx.size) := by omega
                        have q4 : ¬ (9223372036854775807 < tk.size + (strOfNums [xb]).size + tx.size) := by omega
                        go_wp2_with (go_at_call 51; refine (spec_l01In _ _ _ _).mono ?_; rw [KI.out]; rintro e w' ⟨rfl, rfl⟩)
                        go_roundw
                        case rel => exact ⟨k + 1, by omega, by go_num, by rw [HJT.out, HTK.out, HTS.out, HTX2.out, ByteArray.append_assoc], HOK.out, by have hx9 := hx2.trans x9; exact (by repeat (first | (with_reducible first | exact Ext.refl _ | assumption | apply Ext.alloc | apply Ext.drew | apply Ext.drewN | refine Ext.setCell ?_ ?_ _ | refine Ext.trans ?_ (by assumption)) | (show _ ≤ _; first | omega | (dsimp only; omega) | (simp; done) | (simp; omega))))⟩
                        case measure => simp [intOf]; omega
                  · obtain rfl : k = xs.length := by omega
                    rw [List.take_length] at HALL
                    simp only [List.take_length]
                    have hyes : whOk lv ss tops hh ep r p S (xs.map StW.pure) = true := by rw [HW.out]; exact HALL.out
                    have R := Lib.hid (HTX.out hyes)
                    have RO := Lib.hid hyes
                    clear hyes
                    go_wp2
                    go_ret2
                    exact ⟨ret_sb (by rw [R.out, HA.out, HB.out, HW3.out]) RO.out.symm, X⟩
          · have hxi : (3 : Int) < xs.length := by omega
            have hno : whOk lv ss tops hh ep r p S (xs.map StW.pure) = false := by rw [whOk, KP.out, KS.out, KW.out, decide_eq_true ht, List.length_map, decide_eq_false hx3]; rfl
            have R := Lib.hid (whTx_no hno)
            have RO := Lib.hid hno
            clear hno
            go_wp2_with (go_at_call 48; refine (spec_l11Wide _ tops 16 _ (h3.ext X) hs3).mono ?_; rw [show (wide tops 16 && inB 16 1 32) = true by rw [KW.out]; rfl]; rintro e w' ⟨rfl, rfl⟩)
            go_ret2
            exact ⟨ret_sb R.out.symm RO.out.symm, X⟩
      · have hti : (2 : Int) < tops.length := by omega
        have hno : whOk lv ss tops hh ep r p S (xs.map StW.pure) = false := by rw [whOk, KP.out, KS.out, decide_eq_false ht]; rfl
        have R := Lib.hid (whTx_no hno)
        have RO := Lib.hid hno
        clear hno
        go_wp2
        go_ret2
        exact ⟨ret_sb R.out.symm RO.out.symm, X⟩
end Go.Proofs.Ytliebkhfddmhjaa
