/- FnExactVerify: the walk. -/
import Derived.Test.YtckipgijfgeghaaGreatDoorVer3
import Derived.Test.YtckipgijfgeghaaGreatDoorLWp
import Derived.Deep.RegionHeld3
namespace Go.Proofs.YtckipgijfgeghaaGreatDoor
open Go.RowKit

theorem szw_any (left : Int) (A B C : Nat) (D E : List Nat) (hl : 0 ≤ left ∧ left ≤ 1048576) : szw left A B C D E = -1 ∨ (0 ≤ szw left A B C D E ∧ A ≤ 1048576 ∧ B ≤ 1048576 ∧ C ≤ 1048576 ∧ (∀ a ∈ D, a ≤ 1048576) ∧ ∀ a ∈ E, a ≤ 1048576) := by
  rcases szp_two left A B hl with h1 | ⟨h1, k1, a1, b1⟩
  · exact Or.inl (by rw [szw, h1]; rfl)
  rcases szr_two' _ C ⟨h1, k1⟩ with h2 | ⟨h2, k2, c2⟩
  · exact Or.inl (by rw [szw, chI_yes _ h1, h2]; rfl)
  rcases szl_two' _ D ⟨h2, k2⟩ with h3 | ⟨h3, k3, d3⟩
  · exact Or.inl (by rw [szw, chI_yes _ h1, chI_yes _ h2, h3]; rfl)
  rcases szl_two' _ E ⟨h3, k3⟩ with h4 | ⟨h4, k4, e4⟩
  · exact Or.inl (by rw [szw, chI_yes _ h1, chI_yes _ h2, chI_yes _ h3, h4]; rfl)
  · exact Or.inr ⟨by rw [szw, chI_yes _ h1, chI_yes _ h2, chI_yes _ h3, chI_yes _ h4]; exact h4, a1, b1, c2, d3, e4⟩
theorem bys_pure {xs ys : List StW} (hp : ys.map StW.pure = xs.map StW.pure) : ys.map StW.by_ = xs.map StW.by_ := by
  have h := congrArg (List.map Prod.fst) hp
  rw [List.map_map, List.map_map] at h
  exact h
def vdP (rs : List ByteArray) (house hh ep : Int) (r p : ByteArray) (x : Int × SigV) : Bool := inB x.1 0 ((rs.length : Int) - 1) && (decide (x.1 ≠ house) && stampOkB (rs.getD x.1.toNat ⟨#[]⟩) hh ep r p x.2)
theorem vdN_map (rs : List ByteArray) (house hh ep : Int) (r p : ByteArray) (xs : List StW) : vdN rs house hh ep r p xs = ((xs.map StW.pure).filter (vdP rs house hh ep r p)).length := by
  rw [vdN, List.filter_map, List.length_map]
  rfl
theorem vdN_pure (rs : List ByteArray) (house hh ep : Int) (r p : ByteArray) {xs ys : List StW} (hp : ys.map StW.pure = xs.map StW.pure) : vdN rs house hh ep r p ys = vdN rs house hh ep r p xs := by rw [vdN_map, vdN_map, hp]
theorem verN_pure (rs : List ByteArray) (kz need house : Int) (name : ByteArray) (epoch : Int) (lv : List Leaf) (ss tops : List ByteArray) (hh ep : Int) (r p : ByteArray) (S : SigV) {xs ys : List StW} (hp : ys.map StW.pure = xs.map StW.pure) : verN rs kz need house name epoch lv ss tops hh ep r p S ys = verN rs kz need house name epoch lv ss tops hh ep r p S xs := by
  rw [verN, verN, bys_pure hp, vdN_pure rs house hh ep r p hp]
set_option maxRecDepth 100000 in
set_option maxHeartbeats 12800000 in
theorem laws_FnExactVerify (v0 : Value) (rs : List ByteArray) (kz need house : Int) (name : ByteArray) (epoch : Int) (v1 v2 v3 v4 v5 v6 v7 : Value) (lv : List Leaf) (ss tops : List ByteArray) (hh ep : Int) (r p : ByteArray) (S : SigV) (xs : List StW) (w : World) (h0 : Strs w v0 rs) (hs0 : ∀ s ∈ rs, s.size ≤ maxLen) (_hnm0 : name.size ≤ maxLen) (h1 : Lvs w v1 lv) (h2 : Strs w v2 ss) (h3 : Strs w v3 tops) (h4 : Strs w v4 S.op) (h5 : Strs w v5 S.sh) (h6 : Strs w v6 S.si) (h7 : Sts w v7 xs) (hf : LeafFit lv) (hs2 : ∀ s ∈ ss, s.size ≤ maxLen) (hs3 : ∀ s ∈ tops, s.size ≤ maxLen) (hr : r.size ≤ maxLen) (hp : p.size ≤ maxLen) (hS : SigFit S) (hX : ∀ x ∈ xs, SigFit x.s) (hT : Tabs w) :
    Calls Tryz.prog 3 #[.agg #[v0, .int .i64 kz, .int .i64 need], .int .i64 house, .string name, .int .i64 epoch, .agg #[v1, v2, v3, .int .i64 hh, .int .i64 ep, .string r, .string p, .int .i64 S.at_, v4, v5, v6, v7]] w fun e w' => e = .returned (.bool true) ∧ Ext w w' := by
  obtain ⟨b0, c0, rfl⟩ := h0.form
  obtain ⟨b1, c1, rfl⟩ := h1.form
  obtain ⟨b2, c2, rfl⟩ := h2.form
  obtain ⟨b3, c3, rfl⟩ := h3.form
  obtain ⟨b4, c4, rfl⟩ := h4.form
  obtain ⟨b5, c5, rfl⟩ := h5.form
  obtain ⟨b6, c6, rfl⟩ := h6.form
  obtain ⟨b7, c7, rfl⟩ := h7.form
  have HT := Lib.hid hT
  clear hT
  have Q : Bx ((w.alloc (Obj.cells #[.slice b0 rs.length c0, .int .i64 kz, .int .i64 need] 24)).alloc (Obj.cells #[.slice b1 lv.length c1, .slice b2 ss.length c2, .slice b3 tops.length c3, .int .i64 hh, .int .i64 ep, .string r, .string p, .int .i64 S.at_, .slice b4 S.op.length c4, .slice b5 S.sh.length c5, .slice b6 S.si.length c6, .slice b7 xs.length c7] 36)) w.heap.size [.slice b0 rs.length c0, .int .i64 kz, .int .i64 need] := (Bx.new w _ _).ext ((Ext.refl _).alloc _)
  have P : Bx ((w.alloc (Obj.cells #[.slice b0 rs.length c0, .int .i64 kz, .int .i64 need] 24)).alloc (Obj.cells #[.slice b1 lv.length c1, .slice b2 ss.length c2, .slice b3 tops.length c3, .int .i64 hh, .int .i64 ep, .string r, .string p, .int .i64 S.at_, .slice b4 S.op.length c4, .slice b5 S.sh.length c5, .slice b6 S.si.length c6, .slice b7 xs.length c7] 36)) (w.heap.size + 1) [.slice b1 lv.length c1, .slice b2 ss.length c2, .slice b3 tops.length c3, .int .i64 hh, .int .i64 ep, .string r, .string p, .int .i64 S.at_, .slice b4 S.op.length c4, .slice b5 S.sh.length c5, .slice b6 S.si.length c6, .slice b7 xs.length c7] := by
    have e := Bx.new (w.alloc (Obj.cells #[.slice b0 rs.length c0, .int .i64 kz, .int .i64 need] 24)) #[.slice b1 lv.length c1, .slice b2 ss.length c2, .slice b3 tops.length c3, .int .i64 hh, .int .i64 ep, .string r, .string p, .int .i64 S.at_, .slice b4 S.op.length c4, .slice b5 S.sh.length c5, .slice b6 S.si.length c6, .slice b7 xs.length c7] 36
    rw [World.size_alloc] at e
    exact e
  have X : Ext w ((w.alloc (Obj.cells #[.slice b0 rs.length c0, .int .i64 kz, .int .i64 need] 24)).alloc (Obj.cells #[.slice b1 lv.length c1, .slice b2 ss.length c2, .slice b3 tops.length c3, .int .i64 hh, .int .i64 ep, .string r, .string p, .int .i64 S.at_, .slice b4 S.op.length c4, .slice b5 S.sh.length c5, .slice b6 S.si.length c6, .slice b7 xs.length c7] 36)) := ((Ext.refl w).alloc _).alloc _
  by_cases hn : (1048576 : Int) < name.size
  · go_enter Tryz.func3, Tryz.ntmps3
    go_wp2
    go_ret
    exact ⟨rfl, X⟩
  · go_enter Tryz.func3, Tryz.ntmps3
    go_wp2_with fail
    generalize (w.alloc (Obj.cells #[.slice b0 rs.length c0, .int .i64 kz, .int .i64 need] 24)).alloc (Obj.cells #[.slice b1 lv.length c1, .slice b2 ss.length c2, .slice b3 tops.length c3, .int .i64 hh, .int .i64 ep, .string r, .string p, .int .i64 S.at_, .slice b4 S.op.length c4, .slice b5 S.sh.length c5, .slice b6 S.si.length c6, .slice b7 xs.length c7] 36) = W0 at *
    obtain ⟨B, hB⟩ : ∃ B, w.heap.size = B := ⟨_, rfl⟩
    rw [hB] at P Q
    simp only [hB]
    clear hB
    have hnm : name.size ≤ maxLen := le_max (show name.size ≤ 1048576 by omega) (by omega)
    have hnm2 : name.size ≤ 1073741824 := by omega
    obtain ⟨z0, hz0⟩ : ∃ z, szr 1048576 (rs.length + sizes rs) = z := ⟨_, rfl⟩
    have hc0 := szr_two' 1048576 (rs.length + sizes rs) ⟨by decide, by decide⟩
    rw [hz0] at hc0
    have HZ0 := Lib.hid hz0
    clear hz0
    refine (laws_szTrust _ rs kz need 1048576 _ (h0.ext X) ⟨by decide, by decide⟩ hs0).mono ?_
    rw [HZ0.out]
    rintro e w1 ⟨rfl, x1⟩
    replace P := P.ext x1
    replace Q := Q.ext x1
    replace X := X.trans x1
    have p0 := P.2.1 0 _ rfl
    have p1 := P.2.1 1 _ rfl
    have p2 := P.2.1 2 _ rfl
    have p3 := P.2.1 3 _ rfl
    have p4 := P.2.1 4 _ rfl
    have p5 := P.2.1 5 _ rfl
    have p6 := P.2.1 6 _ rfl
    have p7 := P.2.1 7 _ rfl
    have p8 := P.2.1 8 _ rfl
    have p9 := P.2.1 9 _ rfl
    have p10 := P.2.1 10 _ rfl
    have p11 := P.2.1 11 _ rfl
    have t0 := Q.2.1 0 _ rfl
    have t1 := Q.2.1 1 _ rfl
    have t2 := Q.2.1 2 _ rfl
    rcases hc0 with rfl | ⟨y0, k0, n0⟩
    · go_wp2
      go_ret
      exact ⟨rfl, X⟩
    · go_wp2_with fail
      clear p0 p1 p2 p3 p4 p5 p6 p7 p8 p9 p10 p11 t0 t1 t2
      obtain ⟨z, hz⟩ : ∃ z, szw z0 (lv.length + leafBytes lv) (ss.length + sizes ss) (strN tops) (sealN r p S) (stN xs) = z := ⟨_, rfl⟩
      have hc := szw_any z0 (lv.length + leafBytes lv) (ss.length + sizes ss) (strN tops) (sealN r p S) (stN xs) ⟨y0, k0⟩
      rw [hz] at hc
      have HZ := Lib.hid hz
      clear hz
      refine (laws_szWhole _ _ _ _ _ _ _ lv ss tops hh ep r p S xs z0 _ (h1.ext X) (h2.ext X) (h3.ext X) (h4.ext X) (h5.ext X) (h6.ext X) (h7.ext X) hf hs2 hs3 hr hp hS hX ⟨y0, k0⟩).mono ?_
      rw [HZ.out]
      rintro e w2 ⟨rfl, x2⟩
      replace P := P.ext x2
      replace Q := Q.ext x2
      replace X := X.trans x2
      have p0 := P.2.1 0 _ rfl
      have p1 := P.2.1 1 _ rfl
      have p2 := P.2.1 2 _ rfl
      have p3 := P.2.1 3 _ rfl
      have p4 := P.2.1 4 _ rfl
      have p5 := P.2.1 5 _ rfl
      have p6 := P.2.1 6 _ rfl
      have p7 := P.2.1 7 _ rfl
      have p8 := P.2.1 8 _ rfl
      have p9 := P.2.1 9 _ rfl
      have p10 := P.2.1 10 _ rfl
      have p11 := P.2.1 11 _ rfl
      have t0 := Q.2.1 0 _ rfl
      have t1 := Q.2.1 1 _ rfl
      have t2 := Q.2.1 2 _ rfl
      rcases hc with rfl | ⟨hz0, k1, k2, k3, k4, k5⟩
      · go_wp2
        go_ret
        exact ⟨rfl, X⟩
      · have nr : rs.length ≤ 1099511627776 := by omega
        have n1 : lv.length ≤ 1099511627776 := by omega
        have n2 : ss.length ≤ 1099511627776 := by omega
        have n3 : tops.length ≤ 1099511627776 := by unfold strN at k3; omega
        have n4 : S.op.length ≤ 1099511627776 := by have := k4 (strN S.op) (by simp [sealN, sigN]); unfold strN at this; omega
        have n5 : S.sh.length ≤ 1099511627776 := by have := k4 (strN S.sh) (by simp [sealN, sigN]); unfold strN at this; omega
        have n6 : S.si.length ≤ 1099511627776 := by have := k4 (strN S.si) (by simp [sealN, sigN]); unfold strN at this; omega
        have n7 : xs.length ≤ 1099511627776 := by have := k5 xs.length (by simp [stN]); omega
        have HN8 := Lib.hid (st_bound k5)
        clear k1 k2 k3 k4 k5
        go_wp2_with fail
        clear p0 p1 p2 p3 p4 p5 p6 p7 p8 p9 p10 p11 t0 t1 t2
        refine wp_region_held_drew (S := (fun W => W.cell? ⟨B, 0, none⟩ = some (.slice b0 rs.length c0) ∧ W.cell? ⟨B, 1, none⟩ = some (.int .i64 kz) ∧ W.cell? ⟨B, 2, none⟩ = some (.int .i64 need) ∧ W.cell? ⟨(B + 1), 0, none⟩ = some (.slice b1 lv.length c1) ∧ W.cell? ⟨(B + 1), 1, none⟩ = some (.slice b2 ss.length c2) ∧ W.cell? ⟨(B + 1), 2, none⟩ = some (.slice b3 tops.length c3) ∧ W.cell? ⟨(B + 1), 3, none⟩ = some (.int .i64 hh) ∧ W.cell? ⟨(B + 1), 4, none⟩ = some (.int .i64 ep) ∧ W.cell? ⟨(B + 1), 5, none⟩ = some (.string r) ∧ W.cell? ⟨(B + 1), 6, none⟩ = some (.string p) ∧ W.cell? ⟨(B + 1), 7, none⟩ = some (.int .i64 S.at_) ∧ W.cell? ⟨(B + 1), 8, none⟩ = some (.slice b4 S.op.length c4) ∧ W.cell? ⟨(B + 1), 9, none⟩ = some (.slice b5 S.sh.length c5) ∧ W.cell? ⟨(B + 1), 10, none⟩ = some (.slice b6 S.si.length c6) ∧ W.cell? ⟨(B + 1), 11, none⟩ = some (.slice b7 xs.length c7))) (by kernel_rfl) (by exact ⟨Q.2.1 0 _ rfl, Q.2.1 1 _ rfl, Q.2.1 2 _ rfl, P.2.1 0 _ rfl, P.2.1 1 _ rfl, P.2.1 2 _ rfl, P.2.1 3 _ rfl, P.2.1 4 _ rfl, P.2.1 5 _ rfl, P.2.1 6 _ rfl, P.2.1 7 _ rfl, P.2.1 8 _ rfl, P.2.1 9 _ rfl, P.2.1 10 _ rfl, P.2.1 11 _ rfl⟩) (fun hHeld => ?_)
        have xd : Ext w2 w2.drew := (Ext.refl w2).drew
        replace P := P.ext xd
        replace Q := Q.ext xd
        replace X := X.trans xd
        generalize w2.drew = w3 at *
        (refine wpAnyH_take (i := 0) (v := ?_) rfl (by kernel_rfl) (by kernel_rfl) (by kernel_rfl) (fun _ _ _ h => h) (Or.inl ⟨by rfl, ?_⟩) (by assumption) ?_; rotate_left; focus (intro w hSw; (try dsimp only at hSw); (try simp only [zk1, zk2]); go_simp; try with_reducible rfl)); (try simp only [zk1, zk2]); (try simp only [Act.put, zk4, zk5, zk6])
        (refine wpAnyH_take (i := 2) (v := ?_) rfl (by kernel_rfl) (by kernel_rfl) (by kernel_rfl) (fun _ _ _ h => h) (Or.inl ⟨by rfl, ?_⟩) (by assumption) ?_; rotate_left; focus (intro w hSw; (try dsimp only at hSw); (try simp only [zk1, zk2, zk3]); go_simp; try with_reducible rfl)); (try simp only [zk1, zk2, zk3]); (try simp only [Act.put, zk4, zk5, zk6])
        (refine wpAnyH_take (i := 3) (v := ?_) rfl (by kernel_rfl) (by kernel_rfl) (by kernel_rfl) (fun _ _ _ h => h) (Or.inl ⟨by rfl, ?_⟩) (by assumption) ?_; rotate_left; focus (intro w hSw; (try dsimp only at hSw); (try simp only [zk1, zk2, zk3]); go_simp; try with_reducible rfl)); (try simp only [zk1, zk2, zk3]); (try simp only [Act.put, zk4, zk5, zk6])
        (refine wpAnyH_take (i := 4) (v := ?_) rfl (by kernel_rfl) (by kernel_rfl) (by kernel_rfl) (fun _ _ _ h => h) (Or.inl ⟨by rfl, ?_⟩) (by assumption) ?_; rotate_left; focus (intro w hSw; (try dsimp only at hSw); (try simp only [zk1, zk2, zk3]); go_simp; try with_reducible rfl)); (try simp only [zk1, zk2, zk3]); (try simp only [Act.put, zk4, zk5, zk6])
        (refine wpAnyH_take (i := 5) (v := ?_) rfl (by kernel_rfl) (by kernel_rfl) (by kernel_rfl) (fun _ _ _ h => h) (Or.inl ⟨by rfl, ?_⟩) (by assumption) ?_; rotate_left; focus (intro w hSw; (try dsimp only at hSw); (try simp only [zk1, zk2, zk3]); go_simp; try with_reducible rfl)); (try simp only [zk1, zk2, zk3]); (try simp only [Act.put, zk4, zk5, zk6])
        (refine wpAnyH_ready (rs := [1]) (by kernel_rfl) (by simp) ?_; refine AllReadyH.cons rfl (fun K hK => ?_) AllReadyH.nil; (try simp only [zk1, zk2, zk3]))
        go_simp
        go_at_call 8
        refine (laws_toTrust _ rs kz need _ (h0.ext X) nr).mono ?_
        rintro e w4 ⟨d0, e0, rfl, tr0, x4⟩
        have sq0 := OwnStrs.strs tr0
        clear tr0
        replace P := P.ext x4
        replace Q := Q.ext x4
        replace X := X.trans x4
        (try dsimp only)
        refine hK.out _ _ (by exact ⟨Q.2.1 0 _ rfl, Q.2.1 1 _ rfl, Q.2.1 2 _ rfl, P.2.1 0 _ rfl, P.2.1 1 _ rfl, P.2.1 2 _ rfl, P.2.1 3 _ rfl, P.2.1 4 _ rfl, P.2.1 5 _ rfl, P.2.1 6 _ rfl, P.2.1 7 _ rfl, P.2.1 8 _ rfl, P.2.1 9 _ rfl, P.2.1 10 _ rfl, P.2.1 11 _ rfl⟩) (fun hHeld => ?_)
        clear hK K
        (refine wpAnyH_ready (rs := [6]) (by kernel_rfl) (by simp) ?_; refine AllReadyH.cons rfl (fun K hK => ?_) AllReadyH.nil; (try simp only [zk1, zk2, zk3]))
        go_simp
        go_at_call 9
        refine (laws_toWhole _ _ _ _ _ _ _ lv ss tops hh ep r p S xs _ (h1.ext X) (h2.ext X) (h3.ext X) (h4.ext X) (h5.ext X) (h6.ext X) (h7.ext X) n1 n2 n3 n4 n5 n6 n7 HN8.out).mono ?_
        rintro e w5 ⟨d1, e1, d2, e2, d3, e3, d4, e4, d5, e5, d6, e6, ys, d7, e7, rfl, shp, sq1, sq2, sq3, sq4, sq5, sq6, sq7, sx⟩
        have sHP := Lib.hid shp
        clear shp
        replace P := P.ext sx
        replace Q := Q.ext sx
        replace X := X.trans sx
        replace sq0 := sq0.ext sx
        (try dsimp only)
        refine hK.out _ _ (by exact ⟨Q.2.1 0 _ rfl, Q.2.1 1 _ rfl, Q.2.1 2 _ rfl, P.2.1 0 _ rfl, P.2.1 1 _ rfl, P.2.1 2 _ rfl, P.2.1 3 _ rfl, P.2.1 4 _ rfl, P.2.1 5 _ rfl, P.2.1 6 _ rfl, P.2.1 7 _ rfl, P.2.1 8 _ rfl, P.2.1 9 _ rfl, P.2.1 10 _ rfl, P.2.1 11 _ rfl⟩) (fun hHeld => ?_)
        clear hK K
        (refine wpAnyH_ready (rs := [7]) (by kernel_rfl) (by simp) ?_; refine AllReadyH.cons rfl (fun K hK => ?_) AllReadyH.nil; (try simp only [zk1, zk2, zk3]))
        go_simp
        go_at_call 7
        refine (spec_Verify _ _ _ _ _ _ _ _ rs kz need house name epoch lv ss tops hh ep r p S ys _ sq0 sq1 sq2 sq3 sq4 sq5 sq6 sq7 hs0 hnm hnm2 hf hs2 hs3 hS (fit_pure sHP.out hX)).mono ?_
        rw [verN_pure rs kz need house name epoch lv ss tops hh ep r p S sHP.out]
        obtain ⟨T, hT⟩ : ∃ z, verT (verN rs kz need house name epoch lv ss tops hh ep r p S xs) (leafVal lv name) = z := ⟨_, rfl⟩
        obtain ⟨KB, hK⟩ : ∃ z, verK (verN rs kz need house name epoch lv ss tops hh ep r p S xs) (leafHas lv name) = z := ⟨_, rfl⟩
        obtain ⟨N, hN⟩ : ∃ z, verN rs kz need house name epoch lv ss tops hh ep r p S xs = z := ⟨_, rfl⟩
        have HTT := Lib.hid hT
        have HKK := Lib.hid hK
        have HNN := Lib.hid hN
        rw [hT, hK, hN]
        clear hT hK hN
        rintro e w6 ⟨rfl, x6⟩
        replace P := P.ext x6
        replace Q := Q.ext x6
        replace X := X.trans x6
        replace sq0 := sq0.ext x6
        (try dsimp only)
        refine hK.out _ _ (by exact ⟨Q.2.1 0 _ rfl, Q.2.1 1 _ rfl, Q.2.1 2 _ rfl, P.2.1 0 _ rfl, P.2.1 1 _ rfl, P.2.1 2 _ rfl, P.2.1 3 _ rfl, P.2.1 4 _ rfl, P.2.1 5 _ rfl, P.2.1 6 _ rfl, P.2.1 7 _ rfl, P.2.1 8 _ rfl, P.2.1 9 _ rfl, P.2.1 10 _ rfl, P.2.1 11 _ rfl⟩) (fun hHeld => ?_)
        clear hK K
        (refine wpAnyH_take (i := 8) (v := ?_) rfl (by kernel_rfl) (by kernel_rfl) (by kernel_rfl) (fun _ _ _ h => h) (Or.inl ⟨by rfl, ?_⟩) (by assumption) ?_; rotate_left; focus (intro w hSw; (try dsimp only at hSw); (try simp only [zk1, zk2, zk3]); go_simp; try with_reducible rfl)); (try simp only [zk1, zk2, zk3]); (try simp only [Act.put, zk4, zk5, zk6])
        (refine wpAnyH_take (i := 9) (v := ?_) rfl (by kernel_rfl) (by kernel_rfl) (by kernel_rfl) (fun _ _ _ h => h) (Or.inl ⟨by rfl, ?_⟩) (by assumption) ?_; rotate_left; focus (intro w hSw; (try dsimp only at hSw); (try simp only [zk1, zk2, zk3]); go_simp; try with_reducible rfl)); (try simp only [zk1, zk2, zk3]); (try simp only [Act.put, zk4, zk5, zk6])
        (refine wpAnyH_take (i := 10) (v := ?_) rfl (by kernel_rfl) (by kernel_rfl) (by kernel_rfl) (fun _ _ _ h => h) (Or.inl ⟨by rfl, ?_⟩) (by assumption) ?_; rotate_left; focus (intro w hSw; (try dsimp only at hSw); (try simp only [zk1, zk2, zk3]); go_simp; try with_reducible rfl)); (try simp only [zk1, zk2, zk3]); (try simp only [Act.put, zk4, zk5, zk6])
        (refine wpAnyH_take (i := 11) (v := ?_) rfl (by kernel_rfl) (by kernel_rfl) (by kernel_rfl) (fun _ _ _ h => h) (Or.inl ⟨by rfl, ?_⟩) (by assumption) ?_; rotate_left; focus (intro w hSw; (try dsimp only at hSw); (try simp only [zk1, zk2, zk3]); go_simp; try with_reducible rfl)); (try simp only [zk1, zk2, zk3]); (try simp only [Act.put, zk4, zk5, zk6])
        (refine wpAnyH_take (i := 12) (v := ?_) rfl (by kernel_rfl) (by kernel_rfl) (by kernel_rfl) (fun _ _ _ h => h) (Or.inl ⟨by rfl, ?_⟩) (by assumption) ?_; rotate_left; focus (intro w hSw; (try dsimp only at hSw); (try simp only [zk1, zk2, zk3]); go_simp; try with_reducible rfl)); (try simp only [zk1, zk2, zk3]); (try simp only [Act.put, zk4, zk5, zk6])
        (refine wpAnyH_take (i := 13) (v := ?_) rfl (by kernel_rfl) (by kernel_rfl) (by kernel_rfl) (fun _ _ _ h => h) (Or.inl ⟨by rfl, ?_⟩) (by assumption) ?_; rotate_left; focus (intro w hSw; (try dsimp only at hSw); (try simp only [zk1, zk2, zk3]); go_simp; try with_reducible rfl)); (try simp only [zk1, zk2, zk3]); (try simp only [Act.put, zk4, zk5, zk6])
        (refine wpAnyH_take (i := 14) (v := ?_) rfl (by kernel_rfl) (by kernel_rfl) (by kernel_rfl) (fun _ _ _ h => h) (Or.inl ⟨by rfl, ?_⟩) (by assumption) ?_; rotate_left; focus (intro w hSw; (try dsimp only at hSw); (try simp only [zk1, zk2, zk3]); go_simp; try with_reducible rfl)); (try simp only [zk1, zk2, zk3]); (try simp only [Act.put, zk4, zk5, zk6])
        refine wpAnyH_done (by kernel_rfl) ?_ _
        clear sq0
        have p0 := P.2.1 0 _ rfl
        have p1 := P.2.1 1 _ rfl
        have p2 := P.2.1 2 _ rfl
        have p3 := P.2.1 3 _ rfl
        have p4 := P.2.1 4 _ rfl
        have p5 := P.2.1 5 _ rfl
        have p6 := P.2.1 6 _ rfl
        have p7 := P.2.1 7 _ rfl
        have p8 := P.2.1 8 _ rfl
        have p9 := P.2.1 9 _ rfl
        have p10 := P.2.1 10 _ rfl
        have p11 := P.2.1 11 _ rfl
        have t0 := Q.2.1 0 _ rfl
        have t1 := Q.2.1 1 _ rfl
        have t2 := Q.2.1 2 _ rfl
        go_wp2_with fail
        clear p0 p1 p2 p3 p4 p5 p6 p7 p8 p9 p10 p11 t0 t1 t2
        refine (laws_toTrust _ rs kz need _ (h0.ext X) nr).mono ?_
        rintro e w7 ⟨f0, g0, rfl, tr1, x7⟩
        have tq0 := OwnStrs.strs tr1
        clear tr1
        replace P := P.ext x7
        replace Q := Q.ext x7
        replace X := X.trans x7
        have e7 : Ext w7 (w7.alloc (Obj.cells #[.slice f0 rs.length g0, .int .i64 kz, .int .i64 need] 41)) := (Ext.refl _).alloc _
        have R := Bx.new w7 #[.slice f0 rs.length g0, .int .i64 kz, .int .i64 need] 41
        replace tq0 := tq0.ext e7
        replace P := P.ext e7
        replace Q := Q.ext e7
        replace X := X.trans e7
        have p0 := P.2.1 0 _ rfl
        have p1 := P.2.1 1 _ rfl
        have p2 := P.2.1 2 _ rfl
        have p3 := P.2.1 3 _ rfl
        have p4 := P.2.1 4 _ rfl
        have p5 := P.2.1 5 _ rfl
        have p6 := P.2.1 6 _ rfl
        have p7 := P.2.1 7 _ rfl
        have p8 := P.2.1 8 _ rfl
        have p9 := P.2.1 9 _ rfl
        have p10 := P.2.1 10 _ rfl
        have p11 := P.2.1 11 _ rfl
        have t0 := Q.2.1 0 _ rfl
        have t1 := Q.2.1 1 _ rfl
        have t2 := Q.2.1 2 _ rfl
        go_wp2_with fail
        clear p0 p1 p2 p3 p4 p5 p6 p7 p8 p9 p10 p11 t0 t1 t2
        generalize w7.alloc (Obj.cells #[.slice f0 rs.length g0, .int .i64 kz, .int .i64 need] 41) = w8 at *
        generalize w7.heap.size = D at *
        clear e7
        refine (laws_toWhole _ _ _ _ _ _ _ lv ss tops hh ep r p S xs _ (h1.ext X) (h2.ext X) (h3.ext X) (h4.ext X) (h5.ext X) (h6.ext X) (h7.ext X) n1 n2 n3 n4 n5 n6 n7 HN8.out).mono ?_
        rintro e w9 ⟨f1, g1, f2, g2, f3, g3, f4, g4, f5, g5, f6, g6, zs, f7, g7, rfl, thp, tq1, tq2, tq3, tq4, tq5, tq6, tq7, tx⟩
        have tHP := Lib.hid thp
        clear thp
        replace P := P.ext tx
        replace Q := Q.ext tx
        replace X := X.trans tx
        replace R := R.ext tx
        replace tq0 := tq0.ext tx
        have e9 : Ext w9 (w9.alloc (Obj.cells #[.slice f1 lv.length g1, .slice f2 ss.length g2, .slice f3 tops.length g3, .int .i64 hh, .int .i64 ep, .string r, .string p, .int .i64 S.at_, .slice f4 S.op.length g4, .slice f5 S.sh.length g5, .slice f6 S.si.length g6, .slice f7 zs.length g7] 52)) := (Ext.refl _).alloc _
        have O := Bx.new w9 #[.slice f1 lv.length g1, .slice f2 ss.length g2, .slice f3 tops.length g3, .int .i64 hh, .int .i64 ep, .string r, .string p, .int .i64 S.at_, .slice f4 S.op.length g4, .slice f5 S.sh.length g5, .slice f6 S.si.length g6, .slice f7 zs.length g7] 52
        replace P := P.ext e9
        replace Q := Q.ext e9
        replace X := X.trans e9
        replace R := R.ext e9
        replace tq0 := tq0.ext e9
        replace tq1 := tq1.ext e9
        replace tq2 := tq2.ext e9
        replace tq3 := tq3.ext e9
        replace tq4 := tq4.ext e9
        replace tq5 := tq5.ext e9
        replace tq6 := tq6.ext e9
        replace tq7 := tq7.ext e9
        have r0 := R.2.1 0 _ rfl
        have r1 := R.2.1 1 _ rfl
        have r2 := R.2.1 2 _ rfl
        have rr0 := (R.2.1 0 _ rfl)
        go_wp2_with fail
        generalize w9.alloc (Obj.cells #[.slice f1 lv.length g1, .slice f2 ss.length g2, .slice f3 tops.length g3, .int .i64 hh, .int .i64 ep, .string r, .string p, .int .i64 S.at_, .slice f4 S.op.length g4, .slice f5 S.sh.length g5, .slice f6 S.si.length g6, .slice f7 zs.length g7] 52) = wa at *
        generalize w9.heap.size = E at *
        clear e9 r0 r1 r2 rr0
        refine (impl_Verify _ _ _ _ _ _ _ _ rs kz need house name epoch lv ss tops hh ep r p S zs _ tq0 tq1 tq2 tq3 tq4 tq5 tq6 tq7 hs0 hnm hnm2 hf hs2 hs3 hS (fit_pure tHP.out hX) (HT.out.ext X)).mono ?_
        rw [verN_pure rs kz need house name epoch lv ss tops hh ep r p S tHP.out, HTT.out, HKK.out, HNN.out]
        rintro e wb ⟨rfl, xb⟩
        replace P := P.ext xb
        replace Q := Q.ext xb
        replace X := X.trans xb
        replace R := R.ext xb
        replace tq0 := tq0.ext xb
        replace O := O.ext xb
        replace tq1 := tq1.ext xb
        replace tq2 := tq2.ext xb
        replace tq3 := tq3.ext xb
        replace tq4 := tq4.ext xb
        replace tq5 := tq5.ext xb
        replace tq6 := tq6.ext xb
        replace tq7 := tq7.ext xb
        have bT : (T.toList == T.toList) = true := by simp
        have bN : (T.toList != T.toList) = false := by simp
        have bI : (N != N) = false := by simp
        cases KB
        · go_wp2_with fail
          clear bT bN bI
          refine wp_region_held_drew (S := (fun W => W.cell? ⟨D, 0, none⟩ = some (.slice f0 rs.length g0) ∧ W.cell? ⟨D, 1, none⟩ = some (.int .i64 kz) ∧ W.cell? ⟨D, 2, none⟩ = some (.int .i64 need) ∧ W.cell? ⟨B, 0, none⟩ = some (.slice b0 rs.length c0) ∧ W.cell? ⟨B, 1, none⟩ = some (.int .i64 kz) ∧ W.cell? ⟨B, 2, none⟩ = some (.int .i64 need))) (by kernel_rfl) (by exact ⟨R.2.1 0 _ rfl, R.2.1 1 _ rfl, R.2.1 2 _ rfl, Q.2.1 0 _ rfl, Q.2.1 1 _ rfl, Q.2.1 2 _ rfl⟩) (fun hHeld => ?_)
          have xd : Ext wb wb.drew := (Ext.refl wb).drew
          replace P := P.ext xd
          replace Q := Q.ext xd
          replace X := X.trans xd
          replace R := R.ext xd
          replace tq0 := tq0.ext xd
          replace O := O.ext xd
          replace tq1 := tq1.ext xd
          replace tq2 := tq2.ext xd
          replace tq3 := tq3.ext xd
          replace tq4 := tq4.ext xd
          replace tq5 := tq5.ext xd
          replace tq6 := tq6.ext xd
          replace tq7 := tq7.ext xd
          generalize wb.drew = wd at *
          (refine wpAnyH_take (i := 0) (v := ?_) rfl (by kernel_rfl) (by kernel_rfl) (by kernel_rfl) (fun _ _ _ h => h) (Or.inl ⟨by rfl, ?_⟩) (by assumption) ?_; rotate_left; focus (intro w hSw; (try dsimp only at hSw); (try simp only [zk1, zk2]); go_simp; try with_reducible rfl)); (try simp only [zk1, zk2]); (try simp only [Act.put, zk4, zk5, zk6])
          (refine wpAnyH_take (i := 1) (v := ?_) rfl (by kernel_rfl) (by kernel_rfl) (by kernel_rfl) (fun _ _ _ h => h) (Or.inl ⟨by rfl, ?_⟩) (by assumption) ?_; rotate_left; focus (intro w hSw; (try dsimp only at hSw); (try simp only [zk1, zk2, zk3]); go_simp; try with_reducible rfl)); (try simp only [zk1, zk2, zk3]); (try simp only [Act.put, zk4, zk5, zk6])
          (refine wpAnyH_ready (rs := [2]) (by kernel_rfl) (by simp) ?_; refine AllReadyH.cons rfl (fun K hK => ?_) AllReadyH.nil; (try simp only [zk1, zk2, zk3]))
          go_simp
          go_at_call 8
          refine (laws_toTrust _ rs kz need _ (h0.ext X) nr).mono ?_
          rintro e we ⟨i0, j0, rfl, tr2, xe⟩
          have uq0 := OwnStrs.strs tr2
          clear tr2
          replace P := P.ext xe
          replace Q := Q.ext xe
          replace X := X.trans xe
          replace R := R.ext xe
          replace tq0 := tq0.ext xe
          replace O := O.ext xe
          replace tq1 := tq1.ext xe
          replace tq2 := tq2.ext xe
          replace tq3 := tq3.ext xe
          replace tq4 := tq4.ext xe
          replace tq5 := tq5.ext xe
          replace tq6 := tq6.ext xe
          replace tq7 := tq7.ext xe
          (try dsimp only)
          refine hK.out _ _ (by exact ⟨R.2.1 0 _ rfl, R.2.1 1 _ rfl, R.2.1 2 _ rfl, Q.2.1 0 _ rfl, Q.2.1 1 _ rfl, Q.2.1 2 _ rfl⟩) (fun hHeld => ?_)
          clear hK K
          (refine wpAnyH_ready (rs := [3]) (by kernel_rfl) (by simp) ?_; refine AllReadyH.cons rfl (fun K hK => ?_) AllReadyH.nil; (try simp only [zk1, zk2, zk3]))
          go_simp
          go_at_call 11
          refine (laws_eqTrust _ _ rs rs kz need kz need _ tq0 uq0).mono ?_
          rw [show (decide (rs = rs) && (decide (kz = kz) && decide (need = need))) = true by simp]
          rintro e wf ⟨rfl, xf⟩
          replace P := P.ext xf
          replace Q := Q.ext xf
          replace X := X.trans xf
          replace R := R.ext xf
          replace tq0 := tq0.ext xf
          replace O := O.ext xf
          replace tq1 := tq1.ext xf
          replace tq2 := tq2.ext xf
          replace tq3 := tq3.ext xf
          replace tq4 := tq4.ext xf
          replace tq5 := tq5.ext xf
          replace tq6 := tq6.ext xf
          replace tq7 := tq7.ext xf
          replace uq0 := uq0.ext xf
          (try dsimp only)
          refine hK.out _ _ (by exact ⟨R.2.1 0 _ rfl, R.2.1 1 _ rfl, R.2.1 2 _ rfl, Q.2.1 0 _ rfl, Q.2.1 1 _ rfl, Q.2.1 2 _ rfl⟩) (fun hHeld => ?_)
          clear hK K
          (refine wpAnyH_take (i := 4) (v := ?_) rfl (by kernel_rfl) (by kernel_rfl) (by kernel_rfl) (fun _ _ _ h => h) (Or.inl ⟨by rfl, ?_⟩) (by assumption) ?_; rotate_left; focus (intro w hSw; (try dsimp only at hSw); (try simp only [zk1, zk2, zk3]); go_simp; try with_reducible rfl)); (try simp only [zk1, zk2, zk3]); (try simp only [Act.put, zk4, zk5, zk6])
          refine wpAnyH_done (by kernel_rfl) ?_ _
          go_wp2_with fail
          refine wp_region_held_drew (S := (fun W => W.cell? ⟨(B + 1), 0, none⟩ = some (.slice b1 lv.length c1) ∧ W.cell? ⟨(B + 1), 1, none⟩ = some (.slice b2 ss.length c2) ∧ W.cell? ⟨(B + 1), 2, none⟩ = some (.slice b3 tops.length c3) ∧ W.cell? ⟨(B + 1), 3, none⟩ = some (.int .i64 hh) ∧ W.cell? ⟨(B + 1), 4, none⟩ = some (.int .i64 ep) ∧ W.cell? ⟨(B + 1), 5, none⟩ = some (.string r) ∧ W.cell? ⟨(B + 1), 6, none⟩ = some (.string p) ∧ W.cell? ⟨(B + 1), 7, none⟩ = some (.int .i64 S.at_) ∧ W.cell? ⟨(B + 1), 8, none⟩ = some (.slice b4 S.op.length c4) ∧ W.cell? ⟨(B + 1), 9, none⟩ = some (.slice b5 S.sh.length c5) ∧ W.cell? ⟨(B + 1), 10, none⟩ = some (.slice b6 S.si.length c6) ∧ W.cell? ⟨(B + 1), 11, none⟩ = some (.slice b7 xs.length c7) ∧ W.cell? ⟨E, 0, none⟩ = some (.slice f1 lv.length g1) ∧ W.cell? ⟨E, 1, none⟩ = some (.slice f2 ss.length g2) ∧ W.cell? ⟨E, 2, none⟩ = some (.slice f3 tops.length g3) ∧ W.cell? ⟨E, 3, none⟩ = some (.int .i64 hh) ∧ W.cell? ⟨E, 4, none⟩ = some (.int .i64 ep) ∧ W.cell? ⟨E, 5, none⟩ = some (.string r) ∧ W.cell? ⟨E, 6, none⟩ = some (.string p) ∧ W.cell? ⟨E, 7, none⟩ = some (.int .i64 S.at_) ∧ W.cell? ⟨E, 8, none⟩ = some (.slice f4 S.op.length g4) ∧ W.cell? ⟨E, 9, none⟩ = some (.slice f5 S.sh.length g5) ∧ W.cell? ⟨E, 10, none⟩ = some (.slice f6 S.si.length g6) ∧ W.cell? ⟨E, 11, none⟩ = some (.slice f7 zs.length g7))) (by kernel_rfl) (by exact ⟨P.2.1 0 _ rfl, P.2.1 1 _ rfl, P.2.1 2 _ rfl, P.2.1 3 _ rfl, P.2.1 4 _ rfl, P.2.1 5 _ rfl, P.2.1 6 _ rfl, P.2.1 7 _ rfl, P.2.1 8 _ rfl, P.2.1 9 _ rfl, P.2.1 10 _ rfl, P.2.1 11 _ rfl, O.2.1 0 _ rfl, O.2.1 1 _ rfl, O.2.1 2 _ rfl, O.2.1 3 _ rfl, O.2.1 4 _ rfl, O.2.1 5 _ rfl, O.2.1 6 _ rfl, O.2.1 7 _ rfl, O.2.1 8 _ rfl, O.2.1 9 _ rfl, O.2.1 10 _ rfl, O.2.1 11 _ rfl⟩) (fun hHeld => ?_)
          have xd : Ext wf wf.drew := (Ext.refl wf).drew
          replace P := P.ext xd
          replace Q := Q.ext xd
          replace X := X.trans xd
          replace R := R.ext xd
          replace tq0 := tq0.ext xd
          replace O := O.ext xd
          replace tq1 := tq1.ext xd
          replace tq2 := tq2.ext xd
          replace tq3 := tq3.ext xd
          replace tq4 := tq4.ext xd
          replace tq5 := tq5.ext xd
          replace tq6 := tq6.ext xd
          replace tq7 := tq7.ext xd
          replace uq0 := uq0.ext xd
          generalize wf.drew = wg at *
          (refine wpAnyH_take (i := 0) (v := ?_) rfl (by kernel_rfl) (by kernel_rfl) (by kernel_rfl) (fun _ _ _ h => h) (Or.inl ⟨by rfl, ?_⟩) (by assumption) ?_; rotate_left; focus (intro w hSw; (try dsimp only at hSw); (try simp only [zk1, zk2]); go_simp; try with_reducible rfl)); (try simp only [zk1, zk2]); (try simp only [Act.put, zk4, zk5, zk6])
          (refine wpAnyH_take (i := 1) (v := ?_) rfl (by kernel_rfl) (by kernel_rfl) (by kernel_rfl) (fun _ _ _ h => h) (Or.inl ⟨by rfl, ?_⟩) (by assumption) ?_; rotate_left; focus (intro w hSw; (try dsimp only at hSw); (try simp only [zk1, zk2, zk3]); go_simp; try with_reducible rfl)); (try simp only [zk1, zk2, zk3]); (try simp only [Act.put, zk4, zk5, zk6])
          (refine wpAnyH_ready (rs := [2]) (by kernel_rfl) (by simp) ?_; refine AllReadyH.cons rfl (fun K hK => ?_) AllReadyH.nil; (try simp only [zk1, zk2, zk3]))
          go_simp
          go_at_call 9
          refine (laws_toWhole _ _ _ _ _ _ _ lv ss tops hh ep r p S xs _ (h1.ext X) (h2.ext X) (h3.ext X) (h4.ext X) (h5.ext X) (h6.ext X) (h7.ext X) n1 n2 n3 n4 n5 n6 n7 HN8.out).mono ?_
          rintro e wh ⟨i1, j1, i2, j2, i3, j3, i4, j4, i5, j5, i6, j6, us, i7, j7, rfl, uhp, uq1, uq2, uq3, uq4, uq5, uq6, uq7, ux⟩
          have uHP := Lib.hid uhp
          clear uhp
          replace P := P.ext ux
          replace Q := Q.ext ux
          replace X := X.trans ux
          replace R := R.ext ux
          replace tq0 := tq0.ext ux
          replace O := O.ext ux
          replace tq1 := tq1.ext ux
          replace tq2 := tq2.ext ux
          replace tq3 := tq3.ext ux
          replace tq4 := tq4.ext ux
          replace tq5 := tq5.ext ux
          replace tq6 := tq6.ext ux
          replace tq7 := tq7.ext ux
          replace uq0 := uq0.ext ux
          (try dsimp only)
          refine hK.out _ _ (by exact ⟨P.2.1 0 _ rfl, P.2.1 1 _ rfl, P.2.1 2 _ rfl, P.2.1 3 _ rfl, P.2.1 4 _ rfl, P.2.1 5 _ rfl, P.2.1 6 _ rfl, P.2.1 7 _ rfl, P.2.1 8 _ rfl, P.2.1 9 _ rfl, P.2.1 10 _ rfl, P.2.1 11 _ rfl, O.2.1 0 _ rfl, O.2.1 1 _ rfl, O.2.1 2 _ rfl, O.2.1 3 _ rfl, O.2.1 4 _ rfl, O.2.1 5 _ rfl, O.2.1 6 _ rfl, O.2.1 7 _ rfl, O.2.1 8 _ rfl, O.2.1 9 _ rfl, O.2.1 10 _ rfl, O.2.1 11 _ rfl⟩) (fun hHeld => ?_)
          clear hK K
          (refine wpAnyH_ready (rs := [3]) (by kernel_rfl) (by simp) ?_; refine AllReadyH.cons rfl (fun K hK => ?_) AllReadyH.nil; (try simp only [zk1, zk2, zk3]))
          go_simp
          go_at_call 12
          refine (laws_eqWholeT _ _ _ _ _ _ _ _ _ _ _ _ _ _ lv ss tops hh ep r p S zs us _ tq1 tq2 tq3 tq4 tq5 tq6 tq7 uq1 uq2 uq3 uq4 uq5 uq6 uq7 (tHP.out.trans uHP.out.symm)).mono ?_
          rintro e wi ⟨rfl, x9⟩
          replace P := P.ext x9
          replace Q := Q.ext x9
          replace X := X.trans x9
          replace R := R.ext x9
          replace tq0 := tq0.ext x9
          replace O := O.ext x9
          replace tq1 := tq1.ext x9
          replace tq2 := tq2.ext x9
          replace tq3 := tq3.ext x9
          replace tq4 := tq4.ext x9
          replace tq5 := tq5.ext x9
          replace tq6 := tq6.ext x9
          replace tq7 := tq7.ext x9
          replace uq0 := uq0.ext x9
          (try dsimp only)
          refine hK.out _ _ (by exact ⟨P.2.1 0 _ rfl, P.2.1 1 _ rfl, P.2.1 2 _ rfl, P.2.1 3 _ rfl, P.2.1 4 _ rfl, P.2.1 5 _ rfl, P.2.1 6 _ rfl, P.2.1 7 _ rfl, P.2.1 8 _ rfl, P.2.1 9 _ rfl, P.2.1 10 _ rfl, P.2.1 11 _ rfl, O.2.1 0 _ rfl, O.2.1 1 _ rfl, O.2.1 2 _ rfl, O.2.1 3 _ rfl, O.2.1 4 _ rfl, O.2.1 5 _ rfl, O.2.1 6 _ rfl, O.2.1 7 _ rfl, O.2.1 8 _ rfl, O.2.1 9 _ rfl, O.2.1 10 _ rfl, O.2.1 11 _ rfl⟩) (fun hHeld => ?_)
          clear hK K
          (refine wpAnyH_take (i := 4) (v := ?_) rfl (by kernel_rfl) (by kernel_rfl) (by kernel_rfl) (fun _ _ _ h => h) (Or.inl ⟨by rfl, ?_⟩) (by assumption) ?_; rotate_left; focus (intro w hSw; (try dsimp only at hSw); (try simp only [zk1, zk2, zk3]); go_simp; try with_reducible rfl)); (try simp only [zk1, zk2, zk3]); (try simp only [Act.put, zk4, zk5, zk6])
          refine wpAnyH_done (by kernel_rfl) ?_ _
          go_wp2
          go_ret
          exact ⟨rfl, X⟩
        · go_wp2_with fail
          clear bT bN bI
          refine wp_region_held_drew (S := (fun W => W.cell? ⟨D, 0, none⟩ = some (.slice f0 rs.length g0) ∧ W.cell? ⟨D, 1, none⟩ = some (.int .i64 kz) ∧ W.cell? ⟨D, 2, none⟩ = some (.int .i64 need) ∧ W.cell? ⟨B, 0, none⟩ = some (.slice b0 rs.length c0) ∧ W.cell? ⟨B, 1, none⟩ = some (.int .i64 kz) ∧ W.cell? ⟨B, 2, none⟩ = some (.int .i64 need))) (by kernel_rfl) (by exact ⟨R.2.1 0 _ rfl, R.2.1 1 _ rfl, R.2.1 2 _ rfl, Q.2.1 0 _ rfl, Q.2.1 1 _ rfl, Q.2.1 2 _ rfl⟩) (fun hHeld => ?_)
          have xd : Ext wb wb.drew := (Ext.refl wb).drew
          replace P := P.ext xd
          replace Q := Q.ext xd
          replace X := X.trans xd
          replace R := R.ext xd
          replace tq0 := tq0.ext xd
          replace O := O.ext xd
          replace tq1 := tq1.ext xd
          replace tq2 := tq2.ext xd
          replace tq3 := tq3.ext xd
          replace tq4 := tq4.ext xd
          replace tq5 := tq5.ext xd
          replace tq6 := tq6.ext xd
          replace tq7 := tq7.ext xd
          generalize wb.drew = wd at *
          (refine wpAnyH_take (i := 0) (v := ?_) rfl (by kernel_rfl) (by kernel_rfl) (by kernel_rfl) (fun _ _ _ h => h) (Or.inl ⟨by rfl, ?_⟩) (by assumption) ?_; rotate_left; focus (intro w hSw; (try dsimp only at hSw); (try simp only [zk1, zk2]); go_simp; try with_reducible rfl)); (try simp only [zk1, zk2]); (try simp only [Act.put, zk4, zk5, zk6])
          (refine wpAnyH_take (i := 1) (v := ?_) rfl (by kernel_rfl) (by kernel_rfl) (by kernel_rfl) (fun _ _ _ h => h) (Or.inl ⟨by rfl, ?_⟩) (by assumption) ?_; rotate_left; focus (intro w hSw; (try dsimp only at hSw); (try simp only [zk1, zk2, zk3]); go_simp; try with_reducible rfl)); (try simp only [zk1, zk2, zk3]); (try simp only [Act.put, zk4, zk5, zk6])
          (refine wpAnyH_ready (rs := [2]) (by kernel_rfl) (by simp) ?_; refine AllReadyH.cons rfl (fun K hK => ?_) AllReadyH.nil; (try simp only [zk1, zk2, zk3]))
          go_simp
          go_at_call 8
          refine (laws_toTrust _ rs kz need _ (h0.ext X) nr).mono ?_
          rintro e we ⟨i0, j0, rfl, tr2, xe⟩
          have uq0 := OwnStrs.strs tr2
          clear tr2
          replace P := P.ext xe
          replace Q := Q.ext xe
          replace X := X.trans xe
          replace R := R.ext xe
          replace tq0 := tq0.ext xe
          replace O := O.ext xe
          replace tq1 := tq1.ext xe
          replace tq2 := tq2.ext xe
          replace tq3 := tq3.ext xe
          replace tq4 := tq4.ext xe
          replace tq5 := tq5.ext xe
          replace tq6 := tq6.ext xe
          replace tq7 := tq7.ext xe
          (try dsimp only)
          refine hK.out _ _ (by exact ⟨R.2.1 0 _ rfl, R.2.1 1 _ rfl, R.2.1 2 _ rfl, Q.2.1 0 _ rfl, Q.2.1 1 _ rfl, Q.2.1 2 _ rfl⟩) (fun hHeld => ?_)
          clear hK K
          (refine wpAnyH_ready (rs := [3]) (by kernel_rfl) (by simp) ?_; refine AllReadyH.cons rfl (fun K hK => ?_) AllReadyH.nil; (try simp only [zk1, zk2, zk3]))
          go_simp
          go_at_call 11
          refine (laws_eqTrust _ _ rs rs kz need kz need _ tq0 uq0).mono ?_
          rw [show (decide (rs = rs) && (decide (kz = kz) && decide (need = need))) = true by simp]
          rintro e wf ⟨rfl, xf⟩
          replace P := P.ext xf
          replace Q := Q.ext xf
          replace X := X.trans xf
          replace R := R.ext xf
          replace tq0 := tq0.ext xf
          replace O := O.ext xf
          replace tq1 := tq1.ext xf
          replace tq2 := tq2.ext xf
          replace tq3 := tq3.ext xf
          replace tq4 := tq4.ext xf
          replace tq5 := tq5.ext xf
          replace tq6 := tq6.ext xf
          replace tq7 := tq7.ext xf
          replace uq0 := uq0.ext xf
          (try dsimp only)
          refine hK.out _ _ (by exact ⟨R.2.1 0 _ rfl, R.2.1 1 _ rfl, R.2.1 2 _ rfl, Q.2.1 0 _ rfl, Q.2.1 1 _ rfl, Q.2.1 2 _ rfl⟩) (fun hHeld => ?_)
          clear hK K
          (refine wpAnyH_take (i := 4) (v := ?_) rfl (by kernel_rfl) (by kernel_rfl) (by kernel_rfl) (fun _ _ _ h => h) (Or.inl ⟨by rfl, ?_⟩) (by assumption) ?_; rotate_left; focus (intro w hSw; (try dsimp only at hSw); (try simp only [zk1, zk2, zk3]); go_simp; try with_reducible rfl)); (try simp only [zk1, zk2, zk3]); (try simp only [Act.put, zk4, zk5, zk6])
          refine wpAnyH_done (by kernel_rfl) ?_ _
          go_wp2_with fail
          refine wp_region_held_drew (S := (fun W => W.cell? ⟨(B + 1), 0, none⟩ = some (.slice b1 lv.length c1) ∧ W.cell? ⟨(B + 1), 1, none⟩ = some (.slice b2 ss.length c2) ∧ W.cell? ⟨(B + 1), 2, none⟩ = some (.slice b3 tops.length c3) ∧ W.cell? ⟨(B + 1), 3, none⟩ = some (.int .i64 hh) ∧ W.cell? ⟨(B + 1), 4, none⟩ = some (.int .i64 ep) ∧ W.cell? ⟨(B + 1), 5, none⟩ = some (.string r) ∧ W.cell? ⟨(B + 1), 6, none⟩ = some (.string p) ∧ W.cell? ⟨(B + 1), 7, none⟩ = some (.int .i64 S.at_) ∧ W.cell? ⟨(B + 1), 8, none⟩ = some (.slice b4 S.op.length c4) ∧ W.cell? ⟨(B + 1), 9, none⟩ = some (.slice b5 S.sh.length c5) ∧ W.cell? ⟨(B + 1), 10, none⟩ = some (.slice b6 S.si.length c6) ∧ W.cell? ⟨(B + 1), 11, none⟩ = some (.slice b7 xs.length c7) ∧ W.cell? ⟨E, 0, none⟩ = some (.slice f1 lv.length g1) ∧ W.cell? ⟨E, 1, none⟩ = some (.slice f2 ss.length g2) ∧ W.cell? ⟨E, 2, none⟩ = some (.slice f3 tops.length g3) ∧ W.cell? ⟨E, 3, none⟩ = some (.int .i64 hh) ∧ W.cell? ⟨E, 4, none⟩ = some (.int .i64 ep) ∧ W.cell? ⟨E, 5, none⟩ = some (.string r) ∧ W.cell? ⟨E, 6, none⟩ = some (.string p) ∧ W.cell? ⟨E, 7, none⟩ = some (.int .i64 S.at_) ∧ W.cell? ⟨E, 8, none⟩ = some (.slice f4 S.op.length g4) ∧ W.cell? ⟨E, 9, none⟩ = some (.slice f5 S.sh.length g5) ∧ W.cell? ⟨E, 10, none⟩ = some (.slice f6 S.si.length g6) ∧ W.cell? ⟨E, 11, none⟩ = some (.slice f7 zs.length g7))) (by kernel_rfl) (by exact ⟨P.2.1 0 _ rfl, P.2.1 1 _ rfl, P.2.1 2 _ rfl, P.2.1 3 _ rfl, P.2.1 4 _ rfl, P.2.1 5 _ rfl, P.2.1 6 _ rfl, P.2.1 7 _ rfl, P.2.1 8 _ rfl, P.2.1 9 _ rfl, P.2.1 10 _ rfl, P.2.1 11 _ rfl, O.2.1 0 _ rfl, O.2.1 1 _ rfl, O.2.1 2 _ rfl, O.2.1 3 _ rfl, O.2.1 4 _ rfl, O.2.1 5 _ rfl, O.2.1 6 _ rfl, O.2.1 7 _ rfl, O.2.1 8 _ rfl, O.2.1 9 _ rfl, O.2.1 10 _ rfl, O.2.1 11 _ rfl⟩) (fun hHeld => ?_)
          have xd : Ext wf wf.drew := (Ext.refl wf).drew
          replace P := P.ext xd
          replace Q := Q.ext xd
          replace X := X.trans xd
          replace R := R.ext xd
          replace tq0 := tq0.ext xd
          replace O := O.ext xd
          replace tq1 := tq1.ext xd
          replace tq2 := tq2.ext xd
          replace tq3 := tq3.ext xd
          replace tq4 := tq4.ext xd
          replace tq5 := tq5.ext xd
          replace tq6 := tq6.ext xd
          replace tq7 := tq7.ext xd
          replace uq0 := uq0.ext xd
          generalize wf.drew = wg at *
          (refine wpAnyH_take (i := 0) (v := ?_) rfl (by kernel_rfl) (by kernel_rfl) (by kernel_rfl) (fun _ _ _ h => h) (Or.inl ⟨by rfl, ?_⟩) (by assumption) ?_; rotate_left; focus (intro w hSw; (try dsimp only at hSw); (try simp only [zk1, zk2]); go_simp; try with_reducible rfl)); (try simp only [zk1, zk2]); (try simp only [Act.put, zk4, zk5, zk6])
          (refine wpAnyH_take (i := 1) (v := ?_) rfl (by kernel_rfl) (by kernel_rfl) (by kernel_rfl) (fun _ _ _ h => h) (Or.inl ⟨by rfl, ?_⟩) (by assumption) ?_; rotate_left; focus (intro w hSw; (try dsimp only at hSw); (try simp only [zk1, zk2, zk3]); go_simp; try with_reducible rfl)); (try simp only [zk1, zk2, zk3]); (try simp only [Act.put, zk4, zk5, zk6])
          (refine wpAnyH_ready (rs := [2]) (by kernel_rfl) (by simp) ?_; refine AllReadyH.cons rfl (fun K hK => ?_) AllReadyH.nil; (try simp only [zk1, zk2, zk3]))
          go_simp
          go_at_call 9
          refine (laws_toWhole _ _ _ _ _ _ _ lv ss tops hh ep r p S xs _ (h1.ext X) (h2.ext X) (h3.ext X) (h4.ext X) (h5.ext X) (h6.ext X) (h7.ext X) n1 n2 n3 n4 n5 n6 n7 HN8.out).mono ?_
          rintro e wh ⟨i1, j1, i2, j2, i3, j3, i4, j4, i5, j5, i6, j6, us, i7, j7, rfl, uhp, uq1, uq2, uq3, uq4, uq5, uq6, uq7, ux⟩
          have uHP := Lib.hid uhp
          clear uhp
          replace P := P.ext ux
          replace Q := Q.ext ux
          replace X := X.trans ux
          replace R := R.ext ux
          replace tq0 := tq0.ext ux
          replace O := O.ext ux
          replace tq1 := tq1.ext ux
          replace tq2 := tq2.ext ux
          replace tq3 := tq3.ext ux
          replace tq4 := tq4.ext ux
          replace tq5 := tq5.ext ux
          replace tq6 := tq6.ext ux
          replace tq7 := tq7.ext ux
          replace uq0 := uq0.ext ux
          (try dsimp only)
          refine hK.out _ _ (by exact ⟨P.2.1 0 _ rfl, P.2.1 1 _ rfl, P.2.1 2 _ rfl, P.2.1 3 _ rfl, P.2.1 4 _ rfl, P.2.1 5 _ rfl, P.2.1 6 _ rfl, P.2.1 7 _ rfl, P.2.1 8 _ rfl, P.2.1 9 _ rfl, P.2.1 10 _ rfl, P.2.1 11 _ rfl, O.2.1 0 _ rfl, O.2.1 1 _ rfl, O.2.1 2 _ rfl, O.2.1 3 _ rfl, O.2.1 4 _ rfl, O.2.1 5 _ rfl, O.2.1 6 _ rfl, O.2.1 7 _ rfl, O.2.1 8 _ rfl, O.2.1 9 _ rfl, O.2.1 10 _ rfl, O.2.1 11 _ rfl⟩) (fun hHeld => ?_)
          clear hK K
          (refine wpAnyH_ready (rs := [3]) (by kernel_rfl) (by simp) ?_; refine AllReadyH.cons rfl (fun K hK => ?_) AllReadyH.nil; (try simp only [zk1, zk2, zk3]))
          go_simp
          go_at_call 12
          refine (laws_eqWholeT _ _ _ _ _ _ _ _ _ _ _ _ _ _ lv ss tops hh ep r p S zs us _ tq1 tq2 tq3 tq4 tq5 tq6 tq7 uq1 uq2 uq3 uq4 uq5 uq6 uq7 (tHP.out.trans uHP.out.symm)).mono ?_
          rintro e wi ⟨rfl, x9⟩
          replace P := P.ext x9
          replace Q := Q.ext x9
          replace X := X.trans x9
          replace R := R.ext x9
          replace tq0 := tq0.ext x9
          replace O := O.ext x9
          replace tq1 := tq1.ext x9
          replace tq2 := tq2.ext x9
          replace tq3 := tq3.ext x9
          replace tq4 := tq4.ext x9
          replace tq5 := tq5.ext x9
          replace tq6 := tq6.ext x9
          replace tq7 := tq7.ext x9
          replace uq0 := uq0.ext x9
          (try dsimp only)
          refine hK.out _ _ (by exact ⟨P.2.1 0 _ rfl, P.2.1 1 _ rfl, P.2.1 2 _ rfl, P.2.1 3 _ rfl, P.2.1 4 _ rfl, P.2.1 5 _ rfl, P.2.1 6 _ rfl, P.2.1 7 _ rfl, P.2.1 8 _ rfl, P.2.1 9 _ rfl, P.2.1 10 _ rfl, P.2.1 11 _ rfl, O.2.1 0 _ rfl, O.2.1 1 _ rfl, O.2.1 2 _ rfl, O.2.1 3 _ rfl, O.2.1 4 _ rfl, O.2.1 5 _ rfl, O.2.1 6 _ rfl, O.2.1 7 _ rfl, O.2.1 8 _ rfl, O.2.1 9 _ rfl, O.2.1 10 _ rfl, O.2.1 11 _ rfl⟩) (fun hHeld => ?_)
          clear hK K
          (refine wpAnyH_take (i := 4) (v := ?_) rfl (by kernel_rfl) (by kernel_rfl) (by kernel_rfl) (fun _ _ _ h => h) (Or.inl ⟨by rfl, ?_⟩) (by assumption) ?_; rotate_left; focus (intro w hSw; (try dsimp only at hSw); (try simp only [zk1, zk2, zk3]); go_simp; try with_reducible rfl)); (try simp only [zk1, zk2, zk3]); (try simp only [Act.put, zk4, zk5, zk6])
          refine wpAnyH_done (by kernel_rfl) ?_ _
          go_wp2
          go_ret
          exact ⟨rfl, X⟩
end Go.Proofs.YtckipgijfgeghaaGreatDoor
