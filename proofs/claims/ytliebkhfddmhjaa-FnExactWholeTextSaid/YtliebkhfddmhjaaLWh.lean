/- FnExactWholeText: the walk. -/
import Derived.Test.YtliebkhfddmhjaaWhti
import Derived.Deep.RegionHeld3
namespace Go.Proofs.Ytliebkhfddmhjaa
open Go.RowKit

theorem fit_pure {xs ys : List StW} (hp : ys.map StW.pure = xs.map StW.pure) (hX : ∀ x ∈ xs, SigFit x.s) : ∀ y ∈ ys, SigFit y.s := by
  intro y hy
  have h1 : y.pure ∈ xs.map StW.pure := by rw [← hp]; exact List.mem_map.2 ⟨y, hy, rfl⟩
  obtain ⟨x, hx, he⟩ := List.mem_map.1 h1
  have e2 : x.s = y.s := congrArg Prod.snd he
  rw [← e2]
  exact hX x hx
theorem st_bound {xs : List StW} (h : ∀ a ∈ stN xs, a ≤ 1048576) : ∀ x ∈ xs, x.s.op.length ≤ 1099511627776 ∧ x.s.sh.length ≤ 1099511627776 ∧ x.s.si.length ≤ 1099511627776 := by
  intro x hx
  have hm : ∀ a ∈ sigN x.s, a ≤ 1048576 := fun a ha => h a (List.mem_cons_of_mem _ (List.mem_flatMap.2 ⟨x, hx, ha⟩))
  have h1 := hm (strN x.s.op) (by simp [sigN])
  have h2 := hm (strN x.s.sh) (by simp [sigN])
  have h3 := hm (strN x.s.si) (by simp [sigN])
  unfold strN at h1 h2 h3
  omega
set_option maxRecDepth 100000 in
set_option maxHeartbeats 12800000 in
theorem laws_FnExactWholeText (v1 v2 v3 v4 v5 v6 v7 : Value) (lv : List Leaf) (ss tops : List ByteArray) (hh ep : Int) (r p : ByteArray) (S : SigV) (xs : List StW) (w : World) (h1 : Lvs w v1 lv) (h2 : Strs w v2 ss) (h3 : Strs w v3 tops) (h4 : Strs w v4 S.op) (h5 : Strs w v5 S.sh) (h6 : Strs w v6 S.si) (h7 : Sts w v7 xs) (hf : LeafFit lv) (hs2 : ∀ s ∈ ss, s.size ≤ maxLen) (hs3 : ∀ s ∈ tops, s.size ≤ maxLen) (hr : r.size ≤ maxLen) (hp : p.size ≤ maxLen) (hS : SigFit S) (hX : ∀ x ∈ xs, SigFit x.s) :
    Calls Try.prog 5 #[.agg #[v1, v2, v3, .int .i64 hh, .int .i64 ep, .string r, .string p, .int .i64 S.at_, v4, v5, v6, v7]] w fun e w' => e = .returned (.bool true) ∧ Ext w w' := by
  obtain ⟨b1, c1, rfl⟩ := h1.form
  obtain ⟨b2, c2, rfl⟩ := h2.form
  obtain ⟨b3, c3, rfl⟩ := h3.form
  obtain ⟨b4, c4, rfl⟩ := h4.form
  obtain ⟨b5, c5, rfl⟩ := h5.form
  obtain ⟨b6, c6, rfl⟩ := h6.form
  obtain ⟨b7, c7, rfl⟩ := h7.form
  obtain ⟨z, hz⟩ : ∃ z, szw 1048576 (lv.length + leafBytes lv) (ss.length + sizes ss) (strN tops) (sealN r p S) (stN xs) = z := ⟨_, rfl⟩
  have hc := szw_two (lv.length + leafBytes lv) (ss.length + sizes ss) (strN tops) (sealN r p S) (stN xs)
  rw [hz] at hc
  have HZ := Lib.hid hz
  clear hz
  have P := Bx.new w #[.slice b1 lv.length c1, .slice b2 ss.length c2, .slice b3 tops.length c3, .int .i64 hh, .int .i64 ep, .string r, .string p, .int .i64 S.at_, .slice b4 S.op.length c4, .slice b5 S.sh.length c5, .slice b6 S.si.length c6, .slice b7 xs.length c7] 53
  have X : Ext w (w.alloc (Obj.cells #[.slice b1 lv.length c1, .slice b2 ss.length c2, .slice b3 tops.length c3, .int .i64 hh, .int .i64 ep, .string r, .string p, .int .i64 S.at_, .slice b4 S.op.length c4, .slice b5 S.sh.length c5, .slice b6 S.si.length c6, .slice b7 xs.length c7] 53)) := (Ext.refl w).alloc _
  go_enter Try.func5, Try.ntmps5
  go_wp2_with fail
  generalize w.alloc (Obj.cells #[.slice b1 lv.length c1, .slice b2 ss.length c2, .slice b3 tops.length c3, .int .i64 hh, .int .i64 ep, .string r, .string p, .int .i64 S.at_, .slice b4 S.op.length c4, .slice b5 S.sh.length c5, .slice b6 S.si.length c6, .slice b7 xs.length c7] 53) = W0 at *
  generalize w.heap.size = B at *
  refine (laws_szWhole _ _ _ _ _ _ _ lv ss tops hh ep r p S xs 1048576 _ (h1.ext X) (h2.ext X) (h3.ext X) (h4.ext X) (h5.ext X) (h6.ext X) (h7.ext X) hf hs2 hs3 hr hp hS hX ⟨by decide, by decide⟩).mono ?_
  rw [HZ.out]
  rintro e w1 ⟨rfl, x1⟩
  replace P := P.ext x1
  replace X := X.trans x1
  have p0 := P.2.1 0 _ rfl
  have p1 := P.2.1 1 _ rfl
  have p2 := P.2.1 2 _ rfl
  have p3 := P.2.1 3 _ rfl
  have p4 := P.2.1 4 _ rfl
  have p5 := P.2.1 5 _ rfl
  have p6 := P.2.1 6 _ rfl
  have p7 := P.2.1 7 _ rfl
  have p8 := P.2.1 8 _ rfl
  have p9 := P.2.1 9 _ rfl
  have p10 := P.2.1 10 _ rfl
  have p11 := P.2.1 11 _ rfl
  rcases hc with rfl | ⟨hz0, k1, k2, k3, k4, k5⟩
  · go_wp2
    go_ret
    exact ⟨rfl, X⟩
  · have n1 : lv.length ≤ 1099511627776 := by omega
    have n2 : ss.length ≤ 1099511627776 := by omega
    have n3 : tops.length ≤ 1099511627776 := by unfold strN at k3; omega
    have n4 : S.op.length ≤ 1099511627776 := by have := k4 (strN S.op) (by simp [sealN, sigN]); unfold strN at this; omega
    have n5 : S.sh.length ≤ 1099511627776 := by have := k4 (strN S.sh) (by simp [sealN, sigN]); unfold strN at this; omega
    have n6 : S.si.length ≤ 1099511627776 := by have := k4 (strN S.si) (by simp [sealN, sigN]); unfold strN at this; omega
    have n7 : xs.length ≤ 1099511627776 := by have := k5 xs.length (by simp [stN]); omega
    have HN8 := Lib.hid (st_bound k5)
    clear k1 k2 k3 k4 k5
    go_wp2_with fail
    refine (laws_toWhole _ _ _ _ _ _ _ lv ss tops hh ep r p S xs _ (h1.ext X) (h2.ext X) (h3.ext X) (h4.ext X) (h5.ext X) (h6.ext X) (h7.ext X) n1 n2 n3 n4 n5 n6 n7 HN8.out).mono ?_
    rintro e w2 ⟨d1, e1, d2, e2, d3, e3, d4, e4, d5, e5, d6, e6, ys, d7, e7, rfl, shp, sq1, sq2, sq3, sq4, sq5, sq6, sq7, sx⟩
    have sHP := Lib.hid shp
    clear shp
    replace P := P.ext sx
    replace X := X.trans sx
    clear p0 p1 p2 p3 p4 p5 p6 p7 p8 p9 p10 p11
    go_wp2_with fail
    refine (spec_WholeText _ _ _ _ _ _ _ lv ss tops hh ep r p S ys _ sq1 sq2 sq3 sq4 sq5 sq6 sq7 hf hs2 hs3 hS (fit_pure sHP.out hX)).mono ?_
    rw [sHP.out]
    obtain ⟨T, hT⟩ : ∃ z, whTx lv ss tops hh ep r p S (xs.map StW.pure) = z := ⟨_, rfl⟩
    obtain ⟨K, hK⟩ : ∃ z, whOk lv ss tops hh ep r p S (xs.map StW.pure) = z := ⟨_, rfl⟩
    have HTT := Lib.hid hT
    have HKK := Lib.hid hK
    rw [hT, hK]
    clear hT hK
    rintro e w3 ⟨rfl, x3⟩
    replace P := P.ext x3
    replace X := X.trans x3
    have p0 := P.2.1 0 _ rfl
    have p1 := P.2.1 1 _ rfl
    have p2 := P.2.1 2 _ rfl
    have p3 := P.2.1 3 _ rfl
    have p4 := P.2.1 4 _ rfl
    have p5 := P.2.1 5 _ rfl
    have p6 := P.2.1 6 _ rfl
    have p7 := P.2.1 7 _ rfl
    have p8 := P.2.1 8 _ rfl
    have p9 := P.2.1 9 _ rfl
    have p10 := P.2.1 10 _ rfl
    have p11 := P.2.1 11 _ rfl
    go_wp2_with fail
    refine (laws_toWhole _ _ _ _ _ _ _ lv ss tops hh ep r p S xs _ (h1.ext X) (h2.ext X) (h3.ext X) (h4.ext X) (h5.ext X) (h6.ext X) (h7.ext X) n1 n2 n3 n4 n5 n6 n7 HN8.out).mono ?_
    rintro e w4 ⟨f1, g1, f2, g2, f3, g3, f4, g4, f5, g5, f6, g6, zs, f7, g7, rfl, thp, tq1, tq2, tq3, tq4, tq5, tq6, tq7, tx⟩
    have tHP := Lib.hid thp
    clear thp
    replace P := P.ext tx
    replace X := X.trans tx
    have e4 : Ext w4 (w4.alloc (Obj.cells #[.slice f1 lv.length g1, .slice f2 ss.length g2, .slice f3 tops.length g3, .int .i64 hh, .int .i64 ep, .string r, .string p, .int .i64 S.at_, .slice f4 S.op.length g4, .slice f5 S.sh.length g5, .slice f6 S.si.length g6, .slice f7 zs.length g7] 61)) := (Ext.refl _).alloc _
    have Q := Bx.new w4 #[.slice f1 lv.length g1, .slice f2 ss.length g2, .slice f3 tops.length g3, .int .i64 hh, .int .i64 ep, .string r, .string p, .int .i64 S.at_, .slice f4 S.op.length g4, .slice f5 S.sh.length g5, .slice f6 S.si.length g6, .slice f7 zs.length g7] 61
    replace P := P.ext e4
    replace X := X.trans e4
    replace tq1 := tq1.ext e4
    replace tq2 := tq2.ext e4
    replace tq3 := tq3.ext e4
    replace tq4 := tq4.ext e4
    replace tq5 := tq5.ext e4
    replace tq6 := tq6.ext e4
    replace tq7 := tq7.ext e4
    clear p0 p1 p2 p3 p4 p5 p6 p7 p8 p9 p10 p11
    go_wp2_with fail
    generalize w4.alloc (Obj.cells #[.slice f1 lv.length g1, .slice f2 ss.length g2, .slice f3 tops.length g3, .int .i64 hh, .int .i64 ep, .string r, .string p, .int .i64 S.at_, .slice f4 S.op.length g4, .slice f5 S.sh.length g5, .slice f6 S.si.length g6, .slice f7 zs.length g7] 61) = w5 at *
    generalize w4.heap.size = D at *
    clear e4
    refine (impl_WholeText _ _ _ _ _ _ _ lv ss tops hh ep r p S zs _ tq1 tq2 tq3 tq4 tq5 tq6 tq7 hf hs2 hs3 hS (fit_pure tHP.out hX)).mono ?_
    rw [tHP.out, HTT.out, HKK.out]
    rintro e w6 ⟨rfl, x6⟩
    replace P := P.ext x6
    replace X := X.trans x6
    replace Q := Q.ext x6
    replace tq1 := tq1.ext x6
    replace tq2 := tq2.ext x6
    replace tq3 := tq3.ext x6
    replace tq4 := tq4.ext x6
    replace tq5 := tq5.ext x6
    replace tq6 := tq6.ext x6
    replace tq7 := tq7.ext x6
    have bT : (T.toList == T.toList) = true := by simp
    have bN : (T.toList != T.toList) = false := by simp
    cases K
    · go_wp2_with fail
      clear bT bN
      refine wp_region_held_drew (S := (fun W => W.cell? ⟨B, 0, none⟩ = some (.slice b1 lv.length c1) ∧ W.cell? ⟨B, 1, none⟩ = some (.slice b2 ss.length c2) ∧ W.cell? ⟨B, 2, none⟩ = some (.slice b3 tops.length c3) ∧ W.cell? ⟨B, 3, none⟩ = some (.int .i64 hh) ∧ W.cell? ⟨B, 4, none⟩ = some (.int .i64 ep) ∧ W.cell? ⟨B, 5, none⟩ = some (.string r) ∧ W.cell? ⟨B, 6, none⟩ = some (.string p) ∧ W.cell? ⟨B, 7, none⟩ = some (.int .i64 S.at_) ∧ W.cell? ⟨B, 8, none⟩ = some (.slice b4 S.op.length c4) ∧ W.cell? ⟨B, 9, none⟩ = some (.slice b5 S.sh.length c5) ∧ W.cell? ⟨B, 10, none⟩ = some (.slice b6 S.si.length c6) ∧ W.cell? ⟨B, 11, none⟩ = some (.slice b7 xs.length c7) ∧ W.cell? ⟨D, 0, none⟩ = some (.slice f1 lv.length g1) ∧ W.cell? ⟨D, 1, none⟩ = some (.slice f2 ss.length g2) ∧ W.cell? ⟨D, 2, none⟩ = some (.slice f3 tops.length g3) ∧ W.cell? ⟨D, 3, none⟩ = some (.int .i64 hh) ∧ W.cell? ⟨D, 4, none⟩ = some (.int .i64 ep) ∧ W.cell? ⟨D, 5, none⟩ = some (.string r) ∧ W.cell? ⟨D, 6, none⟩ = some (.string p) ∧ W.cell? ⟨D, 7, none⟩ = some (.int .i64 S.at_) ∧ W.cell? ⟨D, 8, none⟩ = some (.slice f4 S.op.length g4) ∧ W.cell? ⟨D, 9, none⟩ = some (.slice f5 S.sh.length g5) ∧ W.cell? ⟨D, 10, none⟩ = some (.slice f6 S.si.length g6) ∧ W.cell? ⟨D, 11, none⟩ = some (.slice f7 zs.length g7))) (by kernel_rfl) (by exact ⟨P.2.1 0 _ rfl, P.2.1 1 _ rfl, P.2.1 2 _ rfl, P.2.1 3 _ rfl, P.2.1 4 _ rfl, P.2.1 5 _ rfl, P.2.1 6 _ rfl, P.2.1 7 _ rfl, P.2.1 8 _ rfl, P.2.1 9 _ rfl, P.2.1 10 _ rfl, P.2.1 11 _ rfl, Q.2.1 0 _ rfl, Q.2.1 1 _ rfl, Q.2.1 2 _ rfl, Q.2.1 3 _ rfl, Q.2.1 4 _ rfl, Q.2.1 5 _ rfl, Q.2.1 6 _ rfl, Q.2.1 7 _ rfl, Q.2.1 8 _ rfl, Q.2.1 9 _ rfl, Q.2.1 10 _ rfl, Q.2.1 11 _ rfl⟩) (fun hHeld => ?_)
      have xd : Ext w6 w6.drew := (Ext.refl w6).drew
      replace P := P.ext xd
      replace X := X.trans xd
      replace Q := Q.ext xd
      replace tq1 := tq1.ext xd
      replace tq2 := tq2.ext xd
      replace tq3 := tq3.ext xd
      replace tq4 := tq4.ext xd
      replace tq5 := tq5.ext xd
      replace tq6 := tq6.ext xd
      replace tq7 := tq7.ext xd
      generalize w6.drew = v0 at *
      (refine wpAnyH_take (i := 0) (v := ?_) rfl (by kernel_rfl) (by kernel_rfl) (by kernel_rfl) (fun _ _ _ h => h) (Or.inl ⟨by rfl, ?_⟩) (by assumption) ?_; rotate_left; focus (intro w hSw; (try dsimp only at hSw); (try simp only [zk1, zk2]); go_simp; try with_reducible rfl)); (try simp only [zk1, zk2]); (try simp only [Act.put, zk4, zk5, zk6])
      (refine wpAnyH_take (i := 1) (v := ?_) rfl (by kernel_rfl) (by kernel_rfl) (by kernel_rfl) (fun _ _ _ h => h) (Or.inl ⟨by rfl, ?_⟩) (by assumption) ?_; rotate_left; focus (intro w hSw; (try dsimp only at hSw); (try simp only [zk1, zk2, zk3]); go_simp; try with_reducible rfl)); (try simp only [zk1, zk2, zk3]); (try simp only [Act.put, zk4, zk5, zk6])
      (refine wpAnyH_ready (rs := [2]) (by kernel_rfl) (by simp) ?_; refine AllReadyH.cons rfl (fun K hK => ?_) AllReadyH.nil; (try simp only [zk1, zk2, zk3]))
      go_simp
      go_at_call 19
      refine (laws_toWhole _ _ _ _ _ _ _ lv ss tops hh ep r p S xs _ (h1.ext X) (h2.ext X) (h3.ext X) (h4.ext X) (h5.ext X) (h6.ext X) (h7.ext X) n1 n2 n3 n4 n5 n6 n7 HN8.out).mono ?_
      rintro e v1 ⟨i1, j1, i2, j2, i3, j3, i4, j4, i5, j5, i6, j6, us, i7, j7, rfl, uhp, uq1, uq2, uq3, uq4, uq5, uq6, uq7, ux⟩
      have uHP := Lib.hid uhp
      clear uhp
      replace P := P.ext ux
      replace X := X.trans ux
      replace Q := Q.ext ux
      replace tq1 := tq1.ext ux
      replace tq2 := tq2.ext ux
      replace tq3 := tq3.ext ux
      replace tq4 := tq4.ext ux
      replace tq5 := tq5.ext ux
      replace tq6 := tq6.ext ux
      replace tq7 := tq7.ext ux
      (try dsimp only)
      refine hK.out _ _ (by exact ⟨P.2.1 0 _ rfl, P.2.1 1 _ rfl, P.2.1 2 _ rfl, P.2.1 3 _ rfl, P.2.1 4 _ rfl, P.2.1 5 _ rfl, P.2.1 6 _ rfl, P.2.1 7 _ rfl, P.2.1 8 _ rfl, P.2.1 9 _ rfl, P.2.1 10 _ rfl, P.2.1 11 _ rfl, Q.2.1 0 _ rfl, Q.2.1 1 _ rfl, Q.2.1 2 _ rfl, Q.2.1 3 _ rfl, Q.2.1 4 _ rfl, Q.2.1 5 _ rfl, Q.2.1 6 _ rfl, Q.2.1 7 _ rfl, Q.2.1 8 _ rfl, Q.2.1 9 _ rfl, Q.2.1 10 _ rfl, Q.2.1 11 _ rfl⟩) (fun hHeld => ?_)
      clear hK K
      (refine wpAnyH_ready (rs := [3]) (by kernel_rfl) (by simp) ?_; refine AllReadyH.cons rfl (fun K hK => ?_) AllReadyH.nil; (try simp only [zk1, zk2, zk3]))
      go_simp
      go_at_call 21
      refine (laws_eqWholeT _ _ _ _ _ _ _ _ _ _ _ _ _ _ lv ss tops hh ep r p S zs us _ tq1 tq2 tq3 tq4 tq5 tq6 tq7 uq1 uq2 uq3 uq4 uq5 uq6 uq7 (tHP.out.trans uHP.out.symm)).mono ?_
      rintro e v2 ⟨rfl, x9⟩
      replace P := P.ext x9
      replace X := X.trans x9
      replace Q := Q.ext x9
      replace tq1 := tq1.ext x9
      replace tq2 := tq2.ext x9
      replace tq3 := tq3.ext x9
      replace tq4 := tq4.ext x9
      replace tq5 := tq5.ext x9
      replace tq6 := tq6.ext x9
      replace tq7 := tq7.ext x9
      (try dsimp only)
      refine hK.out _ _ (by exact ⟨P.2.1 0 _ rfl, P.2.1 1 _ rfl, P.2.1 2 _ rfl, P.2.1 3 _ rfl, P.2.1 4 _ rfl, P.2.1 5 _ rfl, P.2.1 6 _ rfl, P.2.1 7 _ rfl, P.2.1 8 _ rfl, P.2.1 9 _ rfl, P.2.1 10 _ rfl, P.2.1 11 _ rfl, Q.2.1 0 _ rfl, Q.2.1 1 _ rfl, Q.2.1 2 _ rfl, Q.2.1 3 _ rfl, Q.2.1 4 _ rfl, Q.2.1 5 _ rfl, Q.2.1 6 _ rfl, Q.2.1 7 _ rfl, Q.2.1 8 _ rfl, Q.2.1 9 _ rfl, Q.2.1 10 _ rfl, Q.2.1 11 _ rfl⟩) (fun hHeld => ?_)
      clear hK K
      (refine wpAnyH_take (i := 4) (v := ?_) rfl (by kernel_rfl) (by kernel_rfl) (by kernel_rfl) (fun _ _ _ h => h) (Or.inl ⟨by rfl, ?_⟩) (by assumption) ?_; rotate_left; focus (intro w hSw; (try dsimp only at hSw); (try simp only [zk1, zk2, zk3]); go_simp; try with_reducible rfl)); (try simp only [zk1, zk2, zk3]); (try simp only [Act.put, zk4, zk5, zk6])
      refine wpAnyH_done (by kernel_rfl) ?_ _
      go_wp2
      go_ret
      exact ⟨rfl, X⟩
    · go_wp2_with fail
      clear bT bN
      refine wp_region_held_drew (S := (fun W => W.cell? ⟨B, 0, none⟩ = some (.slice b1 lv.length c1) ∧ W.cell? ⟨B, 1, none⟩ = some (.slice b2 ss.length c2) ∧ W.cell? ⟨B, 2, none⟩ = some (.slice b3 tops.length c3) ∧ W.cell? ⟨B, 3, none⟩ = some (.int .i64 hh) ∧ W.cell? ⟨B, 4, none⟩ = some (.int .i64 ep) ∧ W.cell? ⟨B, 5, none⟩ = some (.string r) ∧ W.cell? ⟨B, 6, none⟩ = some (.string p) ∧ W.cell? ⟨B, 7, none⟩ = some (.int .i64 S.at_) ∧ W.cell? ⟨B, 8, none⟩ = some (.slice b4 S.op.length c4) ∧ W.cell? ⟨B, 9, none⟩ = some (.slice b5 S.sh.length c5) ∧ W.cell? ⟨B, 10, none⟩ = some (.slice b6 S.si.length c6) ∧ W.cell? ⟨B, 11, none⟩ = some (.slice b7 xs.length c7) ∧ W.cell? ⟨D, 0, none⟩ = some (.slice f1 lv.length g1) ∧ W.cell? ⟨D, 1, none⟩ = some (.slice f2 ss.length g2) ∧ W.cell? ⟨D, 2, none⟩ = some (.slice f3 tops.length g3) ∧ W.cell? ⟨D, 3, none⟩ = some (.int .i64 hh) ∧ W.cell? ⟨D, 4, none⟩ = some (.int .i64 ep) ∧ W.cell? ⟨D, 5, none⟩ = some (.string r) ∧ W.cell? ⟨D, 6, none⟩ = some (.string p) ∧ W.cell? ⟨D, 7, none⟩ = some (.int .i64 S.at_) ∧ W.cell? ⟨D, 8, none⟩ = some (.slice f4 S.op.length g4) ∧ W.cell? ⟨D, 9, none⟩ = some (.slice f5 S.sh.length g5) ∧ W.cell? ⟨D, 10, none⟩ = some (.slice f6 S.si.length g6) ∧ W.cell? ⟨D, 11, none⟩ = some (.slice f7 zs.length g7))) (by kernel_rfl) (by exact ⟨P.2.1 0 _ rfl, P.2.1 1 _ rfl, P.2.1 2 _ rfl, P.2.1 3 _ rfl, P.2.1 4 _ rfl, P.2.1 5 _ rfl, P.2.1 6 _ rfl, P.2.1 7 _ rfl, P.2.1 8 _ rfl, P.2.1 9 _ rfl, P.2.1 10 _ rfl, P.2.1 11 _ rfl, Q.2.1 0 _ rfl, Q.2.1 1 _ rfl, Q.2.1 2 _ rfl, Q.2.1 3 _ rfl, Q.2.1 4 _ rfl, Q.2.1 5 _ rfl, Q.2.1 6 _ rfl, Q.2.1 7 _ rfl, Q.2.1 8 _ rfl, Q.2.1 9 _ rfl, Q.2.1 10 _ rfl, Q.2.1 11 _ rfl⟩) (fun hHeld => ?_)
      have xd : Ext w6 w6.drew := (Ext.refl w6).drew
      replace P := P.ext xd
      replace X := X.trans xd
      replace Q := Q.ext xd
      replace tq1 := tq1.ext xd
      replace tq2 := tq2.ext xd
      replace tq3 := tq3.ext xd
      replace tq4 := tq4.ext xd
      replace tq5 := tq5.ext xd
      replace tq6 := tq6.ext xd
      replace tq7 := tq7.ext xd
      generalize w6.drew = v0 at *
      (refine wpAnyH_take (i := 0) (v := ?_) rfl (by kernel_rfl) (by kernel_rfl) (by kernel_rfl) (fun _ _ _ h => h) (Or.inl ⟨by rfl, ?_⟩) (by assumption) ?_; rotate_left; focus (intro w hSw; (try dsimp only at hSw); (try simp only [zk1, zk2]); go_simp; try with_reducible rfl)); (try simp only [zk1, zk2]); (try simp only [Act.put, zk4, zk5, zk6])
      (refine wpAnyH_take (i := 1) (v := ?_) rfl (by kernel_rfl) (by kernel_rfl) (by kernel_rfl) (fun _ _ _ h => h) (Or.inl ⟨by rfl, ?_⟩) (by assumption) ?_; rotate_left; focus (intro w hSw; (try dsimp only at hSw); (try simp only [zk1, zk2, zk3]); go_simp; try with_reducible rfl)); (try simp only [zk1, zk2, zk3]); (try simp only [Act.put, zk4, zk5, zk6])
      (refine wpAnyH_ready (rs := [2]) (by kernel_rfl) (by simp) ?_; refine AllReadyH.cons rfl (fun K hK => ?_) AllReadyH.nil; (try simp only [zk1, zk2, zk3]))
      go_simp
      go_at_call 19
      refine (laws_toWhole _ _ _ _ _ _ _ lv ss tops hh ep r p S xs _ (h1.ext X) (h2.ext X) (h3.ext X) (h4.ext X) (h5.ext X) (h6.ext X) (h7.ext X) n1 n2 n3 n4 n5 n6 n7 HN8.out).mono ?_
      rintro e v1 ⟨i1, j1, i2, j2, i3, j3, i4, j4, i5, j5, i6, j6, us, i7, j7, rfl, uhp, uq1, uq2, uq3, uq4, uq5, uq6, uq7, ux⟩
      have uHP := Lib.hid uhp
      clear uhp
      replace P := P.ext ux
      replace X := X.trans ux
      replace Q := Q.ext ux
      replace tq1 := tq1.ext ux
      replace tq2 := tq2.ext ux
      replace tq3 := tq3.ext ux
      replace tq4 := tq4.ext ux
      replace tq5 := tq5.ext ux
      replace tq6 := tq6.ext ux
      replace tq7 := tq7.ext ux
      (try dsimp only)
      refine hK.out _ _ (by exact ⟨P.2.1 0 _ rfl, P.2.1 1 _ rfl, P.2.1 2 _ rfl, P.2.1 3 _ rfl, P.2.1 4 _ rfl, P.2.1 5 _ rfl, P.2.1 6 _ rfl, P.2.1 7 _ rfl, P.2.1 8 _ rfl, P.2.1 9 _ rfl, P.2.1 10 _ rfl, P.2.1 11 _ rfl, Q.2.1 0 _ rfl, Q.2.1 1 _ rfl, Q.2.1 2 _ rfl, Q.2.1 3 _ rfl, Q.2.1 4 _ rfl, Q.2.1 5 _ rfl, Q.2.1 6 _ rfl, Q.2.1 7 _ rfl, Q.2.1 8 _ rfl, Q.2.1 9 _ rfl, Q.2.1 10 _ rfl, Q.2.1 11 _ rfl⟩) (fun hHeld => ?_)
      clear hK K
      (refine wpAnyH_ready (rs := [3]) (by kernel_rfl) (by simp) ?_; refine AllReadyH.cons rfl (fun K hK => ?_) AllReadyH.nil; (try simp only [zk1, zk2, zk3]))
      go_simp
      go_at_call 21
      refine (laws_eqWholeT _ _ _ _ _ _ _ _ _ _ _ _ _ _ lv ss tops hh ep r p S zs us _ tq1 tq2 tq3 tq4 tq5 tq6 tq7 uq1 uq2 uq3 uq4 uq5 uq6 uq7 (tHP.out.trans uHP.out.symm)).mono ?_
      rintro e v2 ⟨rfl, x9⟩
      replace P := P.ext x9
      replace X := X.trans x9
      replace Q := Q.ext x9
      replace tq1 := tq1.ext x9
      replace tq2 := tq2.ext x9
      replace tq3 := tq3.ext x9
      replace tq4 := tq4.ext x9
      replace tq5 := tq5.ext x9
      replace tq6 := tq6.ext x9
      replace tq7 := tq7.ext x9
      (try dsimp only)
      refine hK.out _ _ (by exact ⟨P.2.1 0 _ rfl, P.2.1 1 _ rfl, P.2.1 2 _ rfl, P.2.1 3 _ rfl, P.2.1 4 _ rfl, P.2.1 5 _ rfl, P.2.1 6 _ rfl, P.2.1 7 _ rfl, P.2.1 8 _ rfl, P.2.1 9 _ rfl, P.2.1 10 _ rfl, P.2.1 11 _ rfl, Q.2.1 0 _ rfl, Q.2.1 1 _ rfl, Q.2.1 2 _ rfl, Q.2.1 3 _ rfl, Q.2.1 4 _ rfl, Q.2.1 5 _ rfl, Q.2.1 6 _ rfl, Q.2.1 7 _ rfl, Q.2.1 8 _ rfl, Q.2.1 9 _ rfl, Q.2.1 10 _ rfl, Q.2.1 11 _ rfl⟩) (fun hHeld => ?_)
      clear hK K
      (refine wpAnyH_take (i := 4) (v := ?_) rfl (by kernel_rfl) (by kernel_rfl) (by kernel_rfl) (fun _ _ _ h => h) (Or.inl ⟨by rfl, ?_⟩) (by assumption) ?_; rotate_left; focus (intro w hSw; (try dsimp only at hSw); (try simp only [zk1, zk2, zk3]); go_simp; try with_reducible rfl)); (try simp only [zk1, zk2, zk3]); (try simp only [Act.put, zk4, zk5, zk6])
      refine wpAnyH_done (by kernel_rfl) ?_ _
      go_wp2
      go_ret
      exact ⟨rfl, X⟩
end Go.Proofs.Ytliebkhfddmhjaa
