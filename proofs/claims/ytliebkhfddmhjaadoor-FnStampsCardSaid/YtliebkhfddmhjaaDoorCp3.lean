/- The copy of a signature. -/
import Derived.Test.YtliebkhfddmhjaaDoorApp
import Derived.Test.YtliebkhfddmhjaaDoorSgO
import Derived.Deep.RegionHeld3
namespace Go.Proofs.YtliebkhfddmhjaaDoor
open Go.RowKit

theorem strs_one3 (xs : List ByteArray) : ∀ u ∈ xs.map Value.string, u.oneCell' = true := by
  intro u hu
  rw [List.mem_map] at hu
  obtain ⟨s, -, rfl⟩ := hu
  rfl
set_option maxRecDepth 100000 in
set_option maxHeartbeats 12800000 in
theorem spec_l05Copy (v1 v2 v3 : Value) (s : SigV) (w : World) (h1 : Strs w v1 s.op) (h2 : Strs w v2 s.sh) (h3 : Strs w v3 s.si) (k1 : Solid v1) (k2 : Solid v2) (k3 : Solid v3) (n1 : s.op.length ≤ 1000) (n2 : s.sh.length ≤ 1000) (n3 : s.si.length ≤ 1000) :
    Calls Tryd.prog 130 #[.agg #[.int .i64 s.at_, v1, v2, v3]] w fun e w' => ∃ a1 c1 a2 c2 a3 c3, e = .returned (.agg #[.int .i64 s.at_, .slice a1 s.op.length c1, .slice a2 s.sh.length c2, .slice a3 s.si.length c3]) ∧ SigOwn w' w.heap.size (.slice a1 s.op.length c1) (.slice a2 s.sh.length c2) (.slice a3 s.si.length c3) s ∧ Ext w w' := by
  obtain ⟨i0, hi, hz0, hz1, hz2⟩ := info_parts infoString
  have HA := Lib.hid h1
  have HB := Lib.hid h2
  have HC := Lib.hid h3
  have SA := Lib.hid k1
  have SB := Lib.hid k2
  have SC := Lib.hid k3
  obtain ⟨a0, c0, rfl⟩ := h1.form
  obtain ⟨b0, d0, rfl⟩ := h2.form
  obtain ⟨g0, h0, rfl⟩ := h3.form
  clear h1 h2 h3 k1 k2 k3
  go_enter Tryd.func130, Tryd.ntmps130
  go_wp2_with fail
  have P : Bx ((w.alloc (Obj.cells #[.int .i64 s.at_, .slice a0 s.op.length c0, .slice b0 s.sh.length d0, .slice g0 s.si.length h0] 28)).alloc (Obj.cells #[.int .i64 0, .slice none 0 0, .slice none 0 0, .slice none 0 0] 28)).drew w.heap.size [.int .i64 s.at_, .slice a0 s.op.length c0, .slice b0 s.sh.length d0, .slice g0 s.si.length h0] := ((Bx.new w _ _).ext ((Ext.refl _).alloc _)).ext ((Ext.refl _).drew)
  have R : Bx ((w.alloc (Obj.cells #[.int .i64 s.at_, .slice a0 s.op.length c0, .slice b0 s.sh.length d0, .slice g0 s.si.length h0] 28)).alloc (Obj.cells #[.int .i64 0, .slice none 0 0, .slice none 0 0, .slice none 0 0] 28)).drew (w.heap.size + 1) [.int .i64 0, .slice none 0 0, .slice none 0 0, .slice none 0 0] := by
    have e := (Bx.new (w.alloc (Obj.cells #[.int .i64 s.at_, .slice a0 s.op.length c0, .slice b0 s.sh.length d0, .slice g0 s.si.length h0] 28)) #[.int .i64 0, .slice none 0 0, .slice none 0 0, .slice none 0 0] 28).ext ((Ext.refl _).drew)
    rw [World.size_alloc] at e
    exact e
  have X : Ext w ((w.alloc (Obj.cells #[.int .i64 s.at_, .slice a0 s.op.length c0, .slice b0 s.sh.length d0, .slice g0 s.si.length h0] 28)).alloc (Obj.cells #[.int .i64 0, .slice none 0 0, .slice none 0 0, .slice none 0 0] 28)).drew := (((Ext.refl w).alloc _).alloc _).drew
  have l0 : w.heap.size + 2 ≤ ((w.alloc (Obj.cells #[.int .i64 s.at_, .slice a0 s.op.length c0, .slice b0 s.sh.length d0, .slice g0 s.si.length h0] 28)).alloc (Obj.cells #[.int .i64 0, .slice none 0 0, .slice none 0 0, .slice none 0 0] 28)).drew.heap.size := by show _ ≤ ((w.alloc _).alloc _).heap.size; rw [World.size_alloc, World.size_alloc]; omega
  refine wp_region_held_drew (S := fun W => W.cell? ⟨w.heap.size, 0, none⟩ = some (.int .i64 s.at_) ∧ W.cell? ⟨w.heap.size, 1, none⟩ = some (.slice a0 s.op.length c0) ∧ W.cell? ⟨w.heap.size, 2, none⟩ = some (.slice b0 s.sh.length d0) ∧ W.cell? ⟨w.heap.size, 3, none⟩ = some (.slice g0 s.si.length h0)) (by kernel_rfl) (by exact ⟨P.2.1 0 _ rfl, P.2.1 1 _ rfl, P.2.1 2 _ rfl, P.2.1 3 _ rfl⟩) (fun hHeld => ?_)
  generalize ((w.alloc (Obj.cells #[.int .i64 s.at_, .slice a0 s.op.length c0, .slice b0 s.sh.length d0, .slice g0 s.si.length h0] 28)).alloc (Obj.cells #[.int .i64 0, .slice none 0 0, .slice none 0 0, .slice none 0 0] 28)).drew = V0 at *
  (refine wpAnyH_take (i := 0) (v := ?_) rfl (by kernel_rfl) (by kernel_rfl) (by kernel_rfl) (fun _ _ _ h => h) (Or.inl ⟨by rfl, ?_⟩) (by assumption) ?_; rotate_left; focus (intro w hSw; (try dsimp only at hSw); (try simp only [zk1, zk2]); go_simp; try with_reducible rfl)); (try simp only [zk1, zk2]); (try simp only [Act.put, zk4, zk5, zk6])
  (refine wpAnyH_take (i := 1) (v := ?_) rfl (by kernel_rfl) (by kernel_rfl) (by kernel_rfl) (fun _ _ _ h => h) (Or.inl ⟨by rfl, ?_⟩) (by assumption) ?_; rotate_left; focus (intro w hSw; (try dsimp only at hSw); (try simp only [zk1, zk2, zk3]); go_simp; try with_reducible rfl)); (try simp only [zk1, zk2, zk3]); (try simp only [Act.put, zk4, zk5, zk6])
  (refine wpAnyH_take (i := 3) (v := ?_) rfl (by kernel_rfl) (by kernel_rfl) (by kernel_rfl) (fun _ _ _ h => h) (Or.inl ⟨by rfl, ?_⟩) (by assumption) ?_; rotate_left; focus (intro w hSw; (try dsimp only at hSw); (try simp only [zk1, zk2, zk3]); go_simp; try with_reducible rfl)); (try simp only [zk1, zk2, zk3]); (try simp only [Act.put, zk4, zk5, zk6])
  (refine wpAnyH_take (i := 4) (v := ?_) rfl (by kernel_rfl) (by kernel_rfl) (by kernel_rfl) (fun _ _ _ h => h) (Or.inl ⟨by rfl, ?_⟩) (by assumption) ?_; rotate_left; focus (intro w hSw; (try dsimp only at hSw); (try simp only [zk1, zk2, zk3]); go_simp; try with_reducible rfl)); (try simp only [zk1, zk2, zk3]); (try simp only [Act.put, zk4, zk5, zk6])
  (refine wpAnyH_take (i := 7) (v := ?_) rfl (by kernel_rfl) (by kernel_rfl) (by kernel_rfl) (fun _ _ _ h => h) (Or.inl ⟨by rfl, ?_⟩) (by assumption) ?_; rotate_left; focus (intro w hSw; (try dsimp only at hSw); (try simp only [zk1, zk2, zk3]); go_simp; try with_reducible rfl)); (try simp only [zk1, zk2, zk3]); (try simp only [Act.put, zk4, zk5, zk6])
  (refine wpAnyH_take (i := 8) (v := ?_) rfl (by kernel_rfl) (by kernel_rfl) (by kernel_rfl) (fun _ _ _ h => h) (Or.inl ⟨by rfl, ?_⟩) (by assumption) ?_; rotate_left; focus (intro w hSw; (try dsimp only at hSw); (try simp only [zk1, zk2, zk3]); go_simp; try with_reducible rfl)); (try simp only [zk1, zk2, zk3]); (try simp only [Act.put, zk4, zk5, zk6])
  (refine wpAnyH_take (i := 11) (v := ?_) rfl (by kernel_rfl) (by kernel_rfl) (by kernel_rfl) (fun _ _ _ h => h) (Or.inl ⟨by rfl, ?_⟩) (by assumption) ?_; rotate_left; focus (intro w hSw; (try dsimp only at hSw); (try simp only [zk1, zk2, zk3]); go_simp; try with_reducible rfl)); (try simp only [zk1, zk2, zk3]); (try simp only [Act.put, zk4, zk5, zk6])
  (refine wpAnyH_take (i := 12) (v := ?_) rfl (by kernel_rfl) (by kernel_rfl) (by kernel_rfl) (fun _ _ _ h => h) (Or.inl ⟨by rfl, ?_⟩) (by assumption) ?_; rotate_left; focus (intro w hSw; (try dsimp only at hSw); (try simp only [zk1, zk2, zk3]); go_simp; try with_reducible rfl)); (try simp only [zk1, zk2, zk3]); (try simp only [Act.put, zk4, zk5, zk6])
  refine wpAnyH_ready (rs := [2, 6, 10]) (by kernel_rfl) (by simp) ?_
  refine AllReadyH.cons rfl (fun K hK => ?_) (AllReadyH.cons rfl (fun K hK => ?_) (AllReadyH.cons rfl (fun K hK => ?_) (AllReadyH.nil)))
  · (try simp only [zk1, zk2, zk3])
    go_simp
    have eV1 : Ext V0 (V0.alloc (Obj.cells #[] 9)) := (Ext.refl _).alloc _
    have ALV1 := World.ownsRow_lit (base := w.heap.size + 2) (e := 9) (size := 1) V0 #[] 0 (l0) (Nat.zero_le _) rfl
    have XV1 := X.trans eV1
    have PV1 := P.ext eV1
    have RV1 := R.ext eV1
    have lV1 := Nat.le_trans (l0) eV1.size
    generalize V0.alloc (Obj.cells #[] 9) = V1 at *
    (try dsimp only)
    refine hK.out _ _ (by exact ⟨PV1.2.1 0 _ rfl, PV1.2.1 1 _ rfl, PV1.2.1 2 _ rfl, PV1.2.1 3 _ rfl⟩) (fun hHeld => ?_)
    clear hK K
    refine wpAnyH_ready (rs := [5, 6, 10]) (by kernel_rfl) (by simp) ?_
    refine AllReadyH.cons rfl (fun K hK => ?_) (AllReadyH.cons rfl (fun K hK => ?_) (AllReadyH.cons rfl (fun K hK => ?_) (AllReadyH.nil)))
    · refine step_append_any (.tmp 5) (.tmp 7) 22 (by rfl) (by rfl) (w.heap.size + 2) 9 i0 _ 1 16 Tryd.underlying22 hi hz0 hz1 hz2 rfl (by decide) _ _ _ (by rfl) ALV1 _ s.op.length (s.op.map Value.string) (by rfl) (Strs.ext HA.out XV1) SA.out (strs_one3 _) (by unfold maxLen; omega) (by omega) (lV1) ?_
      intro aV2 cV2 V2 AOV2 gV2 atV2
      simp only [Nat.zero_add, List.nil_append] at AOV2 atV2 ⊢
      have bV2 : w.heap.size + 2 ≤ V0.heap.size := (own_lt ALV1 _ rfl).1
      have b2V2 : V0.heap.size < V1.heap.size := (own_lt ALV1 _ rfl).2
      have XV2 : Ext w V2 := own_ext_of XV1 ALV1 gV2 (by omega)
      have PV2 := PV1.grown gV2 (fun e => by injection e with e; dsimp only at e; omega)
      have RV2 := RV1.grown gV2 (fun e => by injection e with e; dsimp only at e; omega)
      have lV2 := Nat.le_trans (lV1) gV2.size
      clear atV2
      (try dsimp only)
      refine hK.out _ _ (by exact ⟨PV2.2.1 0 _ rfl, PV2.2.1 1 _ rfl, PV2.2.1 2 _ rfl, PV2.2.1 3 _ rfl⟩) (fun hHeld => ?_)
      clear hK K
      refine wpAnyH_ready (rs := [6, 10]) (by kernel_rfl) (by simp) ?_
      refine AllReadyH.cons rfl (fun K hK => ?_) (AllReadyH.cons rfl (fun K hK => ?_) (AllReadyH.nil))
      · (try simp only [zk1, zk2, zk3])
        go_simp
        have eV3 : Ext V2 (V2.alloc (Obj.cells #[] 9)) := (Ext.refl _).alloc _
        have BLV3 := World.ownsRow_lit (base := w.heap.size + 2) (e := 9) (size := 1) V2 #[] 0 (lV2) (Nat.zero_le _) rfl
        have XV3 := XV2.trans eV3
        have PV3 := PV2.ext eV3
        have RV3 := RV2.ext eV3
        have lV3 := Nat.le_trans (lV2) eV3.size
        have AOV3 := own_ext AOV2 eV3
        have zABV3 := fun k hk => (own_lt AOV2 k hk).2
        generalize V2.alloc (Obj.cells #[] 9) = V3 at *
        (try dsimp only)
        refine hK.out _ _ (by exact ⟨PV3.2.1 0 _ rfl, PV3.2.1 1 _ rfl, PV3.2.1 2 _ rfl, PV3.2.1 3 _ rfl⟩) (fun hHeld => ?_)
        clear hK K
        refine wpAnyH_ready (rs := [9, 10]) (by kernel_rfl) (by simp) ?_
        refine AllReadyH.cons rfl (fun K hK => ?_) (AllReadyH.cons rfl (fun K hK => ?_) (AllReadyH.nil))
        · refine step_append_any (.tmp 9) (.tmp 11) 22 (by rfl) (by rfl) (w.heap.size + 2) 9 i0 _ 1 16 Tryd.underlying22 hi hz0 hz1 hz2 rfl (by decide) _ _ _ (by rfl) BLV3 _ s.sh.length (s.sh.map Value.string) (by rfl) (Strs.ext HB.out XV3) SB.out (strs_one3 _) (by unfold maxLen; omega) (by omega) (lV3) ?_
          intro aV4 cV4 V4 BOV4 gV4 atV4
          simp only [Nat.zero_add, List.nil_append] at BOV4 atV4 ⊢
          have bV4 : w.heap.size + 2 ≤ V2.heap.size := (own_lt BLV3 _ rfl).1
          have b2V4 : V2.heap.size < V3.heap.size := (own_lt BLV3 _ rfl).2
          have XV4 : Ext w V4 := own_ext_of XV3 BLV3 gV4 (by omega)
          have PV4 := PV3.grown gV4 (fun e => by injection e with e; dsimp only at e; omega)
          have RV4 := RV3.grown gV4 (fun e => by injection e with e; dsimp only at e; omega)
          have lV4 := Nat.le_trans (lV3) gV4.size
          have wAV4 := fun k hk => (own_lt AOV3 k hk).2
          have AOV4 := own_grown2 AOV3 gV4 (fun k hk e => by injection hk with hk; have := zABV3 _ e; dsimp only at hk; omega)
          have fBAV4 : ∀ j, (Value.slice aV4 s.sh.length cV4).ownBlock = some j → ∀ i, ((.slice aV2 s.op.length cV2) : Value).ownBlock = some i → j ≠ i := by intro j hj i hi; have h1 := wAV4 i hi; have h2 := zABV3 i hi; rcases atV4 with e | e <;> (rw [hj] at e; injection e with e; (try dsimp only at e); omega)
          clear atV4
          (try dsimp only)
          refine hK.out _ _ (by exact ⟨PV4.2.1 0 _ rfl, PV4.2.1 1 _ rfl, PV4.2.1 2 _ rfl, PV4.2.1 3 _ rfl⟩) (fun hHeld => ?_)
          clear hK K
          refine wpAnyH_ready (rs := [10]) (by kernel_rfl) (by simp) ?_
          refine AllReadyH.cons rfl (fun K hK => ?_) (AllReadyH.nil)
          (try simp only [zk1, zk2, zk3])
          go_simp
          have eV5 : Ext V4 (V4.alloc (Obj.cells #[] 9)) := (Ext.refl _).alloc _
          have CLV5 := World.ownsRow_lit (base := w.heap.size + 2) (e := 9) (size := 1) V4 #[] 0 (lV4) (Nat.zero_le _) rfl
          have XV5 := XV4.trans eV5
          have PV5 := PV4.ext eV5
          have RV5 := RV4.ext eV5
          have lV5 := Nat.le_trans (lV4) eV5.size
          have AOV5 := own_ext AOV4 eV5
          have zACV5 := fun k hk => (own_lt AOV4 k hk).2
          have BOV5 := own_ext BOV4 eV5
          have zBCV5 := fun k hk => (own_lt BOV4 k hk).2
          generalize V4.alloc (Obj.cells #[] 9) = V5 at *
          (try dsimp only)
          refine hK.out _ _ (by exact ⟨PV5.2.1 0 _ rfl, PV5.2.1 1 _ rfl, PV5.2.1 2 _ rfl, PV5.2.1 3 _ rfl⟩) (fun hHeld => ?_)
          clear hK K
          refine wpAnyH_ready (rs := [13]) (by kernel_rfl) (by simp) ?_
          refine AllReadyH.cons rfl (fun K hK => ?_) (AllReadyH.nil)
          refine step_append_any (.tmp 13) (.tmp 15) 22 (by rfl) (by rfl) (w.heap.size + 2) 9 i0 _ 1 16 Tryd.underlying22 hi hz0 hz1 hz2 rfl (by decide) _ _ _ (by rfl) CLV5 _ s.si.length (s.si.map Value.string) (by rfl) (Strs.ext HC.out XV5) SC.out (strs_one3 _) (by unfold maxLen; omega) (by omega) (lV5) ?_
          intro aV6 cV6 V6 COV6 gV6 atV6
          simp only [Nat.zero_add, List.nil_append] at COV6 atV6 ⊢
          have bV6 : w.heap.size + 2 ≤ V4.heap.size := (own_lt CLV5 _ rfl).1
          have b2V6 : V4.heap.size < V5.heap.size := (own_lt CLV5 _ rfl).2
          have XV6 : Ext w V6 := own_ext_of XV5 CLV5 gV6 (by omega)
          have PV6 := PV5.grown gV6 (fun e => by injection e with e; dsimp only at e; omega)
          have RV6 := RV5.grown gV6 (fun e => by injection e with e; dsimp only at e; omega)
          have lV6 := Nat.le_trans (lV5) gV6.size
          have wAV6 := fun k hk => (own_lt AOV5 k hk).2
          have AOV6 := own_grown2 AOV5 gV6 (fun k hk e => by injection hk with hk; have := zACV5 _ e; dsimp only at hk; omega)
          have fCAV6 : ∀ j, (Value.slice aV6 s.si.length cV6).ownBlock = some j → ∀ i, ((.slice aV2 s.op.length cV2) : Value).ownBlock = some i → j ≠ i := by intro j hj i hi; have h1 := wAV6 i hi; have h2 := zACV5 i hi; rcases atV6 with e | e <;> (rw [hj] at e; injection e with e; (try dsimp only at e); omega)
          have wBV6 := fun k hk => (own_lt BOV5 k hk).2
          have BOV6 := own_grown2 BOV5 gV6 (fun k hk e => by injection hk with hk; have := zBCV5 _ e; dsimp only at hk; omega)
          have fCBV6 : ∀ j, (Value.slice aV6 s.si.length cV6).ownBlock = some j → ∀ i, ((.slice aV4 s.sh.length cV4) : Value).ownBlock = some i → j ≠ i := by intro j hj i hi; have h1 := wBV6 i hi; have h2 := zBCV5 i hi; rcases atV6 with e | e <;> (rw [hj] at e; injection e with e; (try dsimp only at e); omega)
          clear atV6
          (try dsimp only)
          refine hK.out _ _ (by exact ⟨PV6.2.1 0 _ rfl, PV6.2.1 1 _ rfl, PV6.2.1 2 _ rfl, PV6.2.1 3 _ rfl⟩) (fun hHeld => ?_)
          clear hK K
          (refine wpAnyH_take (i := 14) (v := ?_) rfl (by kernel_rfl) (by kernel_rfl) (by kernel_rfl) (fun _ _ _ h => h) (Or.inl ⟨by rfl, ?_⟩) (by assumption) ?_; rotate_left; focus (intro w hSw; (try dsimp only at hSw); (try simp only [zk1, zk2, zk3]); go_simp; try with_reducible rfl)); (try simp only [zk1, zk2, zk3]); (try simp only [Act.put, zk4, zk5, zk6])
          have r0 := RV6.2.1 0 _ rfl
          have r1 := RV6.2.1 1 _ rfl
          have r2 := RV6.2.1 2 _ rfl
          have r3 := RV6.2.1 3 _ rfl
          have f0 := RV6.2.2 0
          have f1 := RV6.2.2 1
          have f2 := RV6.2.2 2
          have f3 := RV6.2.2 3
          have RR := ((((RV6.set 0 (.int .i64 s.at_) (by simp)).set 1 ((.slice aV2 s.op.length cV2)) (by simp)).set 2 ((.slice aV4 s.sh.length cV4)) (by simp)).set 3 ((.slice aV6 s.si.length cV6)) (by simp))
          have PP := ((((PV6.far (c := w.heap.size + 1) (by omega) 0 (.int .i64 s.at_)).far (c := w.heap.size + 1) (by omega) 1 ((.slice aV2 s.op.length cV2))).far (c := w.heap.size + 1) (by omega) 2 ((.slice aV4 s.sh.length cV4))).far (c := w.heap.size + 1) (by omega) 3 ((.slice aV6 s.si.length cV6)))
          have QA := Lib.hid (own_below (own_below (own_below (own_below AOV6 (p := ⟨w.heap.size + 1, 0, none⟩) (u := .int .i64 s.at_) (by dsimp only; omega)) (p := ⟨w.heap.size + 1, 1, none⟩) (u := (.slice aV2 s.op.length cV2)) (by dsimp only; omega)) (p := ⟨w.heap.size + 1, 2, none⟩) (u := (.slice aV4 s.sh.length cV4)) (by dsimp only; omega)) (p := ⟨w.heap.size + 1, 3, none⟩) (u := (.slice aV6 s.si.length cV6)) (by dsimp only; omega))
          have QB := Lib.hid (own_below (own_below (own_below (own_below BOV6 (p := ⟨w.heap.size + 1, 0, none⟩) (u := .int .i64 s.at_) (by dsimp only; omega)) (p := ⟨w.heap.size + 1, 1, none⟩) (u := (.slice aV2 s.op.length cV2)) (by dsimp only; omega)) (p := ⟨w.heap.size + 1, 2, none⟩) (u := (.slice aV4 s.sh.length cV4)) (by dsimp only; omega)) (p := ⟨w.heap.size + 1, 3, none⟩) (u := (.slice aV6 s.si.length cV6)) (by dsimp only; omega))
          have QC := Lib.hid (own_below (own_below (own_below (own_below COV6 (p := ⟨w.heap.size + 1, 0, none⟩) (u := .int .i64 s.at_) (by dsimp only; omega)) (p := ⟨w.heap.size + 1, 1, none⟩) (u := (.slice aV2 s.op.length cV2)) (by dsimp only; omega)) (p := ⟨w.heap.size + 1, 2, none⟩) (u := (.slice aV4 s.sh.length cV4)) (by dsimp only; omega)) (p := ⟨w.heap.size + 1, 3, none⟩) (u := (.slice aV6 s.si.length cV6)) (by dsimp only; omega))
          have XF : Ext w ((((V6.setCell ⟨w.heap.size + 1, 0, none⟩ (.int .i64 s.at_)).setCell ⟨w.heap.size + 1, 1, none⟩ ((.slice aV2 s.op.length cV2))).setCell ⟨w.heap.size + 1, 2, none⟩ ((.slice aV4 s.sh.length cV4))).setCell ⟨w.heap.size + 1, 3, none⟩ ((.slice aV6 s.si.length cV6))) := ((((XV6.setCell (p := ⟨w.heap.size + 1, 0, none⟩) (by dsimp only; omega) (.int .i64 s.at_)).setCell (p := ⟨w.heap.size + 1, 1, none⟩) (by dsimp only; omega) ((.slice aV2 s.op.length cV2))).setCell (p := ⟨w.heap.size + 1, 2, none⟩) (by dsimp only; omega) ((.slice aV4 s.sh.length cV4))).setCell (p := ⟨w.heap.size + 1, 3, none⟩) (by dsimp only; omega) ((.slice aV6 s.si.length cV6)))
          (refine wpAnyH_ready (rs := [15]) (by kernel_rfl) (by simp) ?_; refine AllReadyH.cons rfl (fun K hK => ?_) AllReadyH.nil; (try simp only [zk1, zk2, zk3]))
          go_simp
          generalize (((V6.setCell ⟨w.heap.size + 1, 0, none⟩ (.int .i64 s.at_)).setCell ⟨w.heap.size + 1, 1, none⟩ ((.slice aV2 s.op.length cV2))).setCell ⟨w.heap.size + 1, 2, none⟩ ((.slice aV4 s.sh.length cV4))).setCell ⟨w.heap.size + 1, 3, none⟩ ((.slice aV6 s.si.length cV6)) = WF at *
          (try dsimp only)
          refine hK.out _ _ (by exact ⟨PP.2.1 0 _ rfl, PP.2.1 1 _ rfl, PP.2.1 2 _ rfl, PP.2.1 3 _ rfl⟩) (fun hHeld => ?_)
          clear hK K
          refine wpAnyH_done (by kernel_rfl) ?_ _
          have k0 := RR.2.1 0 _ rfl
          have k1 := RR.2.1 1 _ rfl
          have k2 := RR.2.1 2 _ rfl
          have k3 := RR.2.1 3 _ rfl
          go_wp2
          refine bodyPost_ret (v := .agg #[.int .i64 s.at_, (.slice aV2 s.op.length cV2), (.slice aV4 s.sh.length cV4), (.slice aV6 s.si.length cV6)]) (by simp [results, Tryd.results130, go_sem, k0, k1, k2, k3]) rfl ⟨_, _, _, _, _, _, rfl, ⟨own_mono QA.out (by omega), own_mono QB.out (by omega), own_mono QC.out (by omega), (fun k hk e => fBAV4 k e k hk rfl), (fun k hk e => fCAV6 k e k hk rfl), (fun k hk e => fCBV6 k e k hk rfl)⟩, XF⟩
        · (try simp only [zk1, zk2, zk3])
          go_simp
          have eV7 : Ext V3 (V3.alloc (Obj.cells #[] 9)) := (Ext.refl _).alloc _
          have CLV7 := World.ownsRow_lit (base := w.heap.size + 2) (e := 9) (size := 1) V3 #[] 0 (lV3) (Nat.zero_le _) rfl
          have XV7 := XV3.trans eV7
          have PV7 := PV3.ext eV7
          have RV7 := RV3.ext eV7
          have lV7 := Nat.le_trans (lV3) eV7.size
          have AOV7 := own_ext AOV3 eV7
          have zACV7 := fun k hk => (own_lt AOV3 k hk).2
          have BLV7 := own_ext BLV3 eV7
          have yBCV7 : V2.heap.size < V3.heap.size := (own_lt BLV3 _ rfl).2
          generalize V3.alloc (Obj.cells #[] 9) = V7 at *
          (try dsimp only)
          refine hK.out _ _ (by exact ⟨PV7.2.1 0 _ rfl, PV7.2.1 1 _ rfl, PV7.2.1 2 _ rfl, PV7.2.1 3 _ rfl⟩) (fun hHeld => ?_)
          clear hK K
          refine wpAnyH_ready (rs := [9]) (by kernel_rfl) (by simp) ?_
          refine AllReadyH.cons rfl (fun K hK => ?_) (AllReadyH.nil)
          refine step_append_any (.tmp 9) (.tmp 11) 22 (by rfl) (by rfl) (w.heap.size + 2) 9 i0 _ 1 16 Tryd.underlying22 hi hz0 hz1 hz2 rfl (by decide) _ _ _ (by rfl) BLV7 _ s.sh.length (s.sh.map Value.string) (by rfl) (Strs.ext HB.out XV7) SB.out (strs_one3 _) (by unfold maxLen; omega) (by omega) (lV7) ?_
          intro aV8 cV8 V8 BOV8 gV8 atV8
          simp only [Nat.zero_add, List.nil_append] at BOV8 atV8 ⊢
          have bV8 : w.heap.size + 2 ≤ V2.heap.size := (own_lt BLV7 _ rfl).1
          have b2V8 : V2.heap.size < V7.heap.size := (own_lt BLV7 _ rfl).2
          have XV8 : Ext w V8 := own_ext_of XV7 BLV7 gV8 (by omega)
          have PV8 := PV7.grown gV8 (fun e => by injection e with e; dsimp only at e; omega)
          have RV8 := RV7.grown gV8 (fun e => by injection e with e; dsimp only at e; omega)
          have lV8 := Nat.le_trans (lV7) gV8.size
          have wAV8 := fun k hk => (own_lt AOV7 k hk).2
          have AOV8 := own_grown2 AOV7 gV8 (fun k hk e => by injection hk with hk; have := zABV3 _ e; dsimp only at hk; omega)
          have fBAV8 : ∀ j, (Value.slice aV8 s.sh.length cV8).ownBlock = some j → ∀ i, ((.slice aV2 s.op.length cV2) : Value).ownBlock = some i → j ≠ i := by intro j hj i hi; have h1 := wAV8 i hi; have h2 := zABV3 i hi; rcases atV8 with e | e <;> (rw [hj] at e; injection e with e; (try dsimp only at e); omega)
          have xCV8 : V3.heap.size < V7.heap.size := (own_lt CLV7 _ rfl).2
          have CLV8 := own_grown2 CLV7 gV8 (fun k hk e => by injection hk with hk; injection e with e; dsimp only at hk e; omega)
          have zBCV8 : ∀ k, (Value.slice aV8 s.sh.length cV8).ownBlock = some k → k ≠ V3.heap.size := by intro k hk; rcases atV8 with e | e <;> (rw [hk] at e; injection e with e; (try dsimp only at e); omega)
          clear atV8
          (try dsimp only)
          refine hK.out _ _ (by exact ⟨PV8.2.1 0 _ rfl, PV8.2.1 1 _ rfl, PV8.2.1 2 _ rfl, PV8.2.1 3 _ rfl⟩) (fun hHeld => ?_)
          clear hK K
          refine wpAnyH_ready (rs := [13]) (by kernel_rfl) (by simp) ?_
          refine AllReadyH.cons rfl (fun K hK => ?_) (AllReadyH.nil)
          refine step_append_any (.tmp 13) (.tmp 15) 22 (by rfl) (by rfl) (w.heap.size + 2) 9 i0 _ 1 16 Tryd.underlying22 hi hz0 hz1 hz2 rfl (by decide) _ _ _ (by rfl) CLV8 _ s.si.length (s.si.map Value.string) (by rfl) (Strs.ext HC.out XV8) SC.out (strs_one3 _) (by unfold maxLen; omega) (by omega) (lV8) ?_
          intro aV9 cV9 V9 COV9 gV9 atV9
          simp only [Nat.zero_add, List.nil_append] at COV9 atV9 ⊢
          have bV9 : w.heap.size + 2 ≤ V3.heap.size := (own_lt CLV8 _ rfl).1
          have b2V9 : V3.heap.size < V8.heap.size := (own_lt CLV8 _ rfl).2
          have XV9 : Ext w V9 := own_ext_of XV8 CLV8 gV9 (by omega)
          have PV9 := PV8.grown gV9 (fun e => by injection e with e; dsimp only at e; omega)
          have RV9 := RV8.grown gV9 (fun e => by injection e with e; dsimp only at e; omega)
          have lV9 := Nat.le_trans (lV8) gV9.size
          have wAV9 := fun k hk => (own_lt AOV8 k hk).2
          have AOV9 := own_grown2 AOV8 gV9 (fun k hk e => by injection hk with hk; have := zACV7 _ e; dsimp only at hk; omega)
          have fCAV9 : ∀ j, (Value.slice aV9 s.si.length cV9).ownBlock = some j → ∀ i, ((.slice aV2 s.op.length cV2) : Value).ownBlock = some i → j ≠ i := by intro j hj i hi; have h1 := wAV9 i hi; have h2 := zACV7 i hi; rcases atV9 with e | e <;> (rw [hj] at e; injection e with e; (try dsimp only at e); omega)
          have wBV9 := fun k hk => (own_lt BOV8 k hk).2
          have BOV9 := own_grown2 BOV8 gV9 (fun k hk e => by injection hk with hk; have := zBCV8 _ e; dsimp only at hk; omega)
          have fCBV9 : ∀ j, (Value.slice aV9 s.si.length cV9).ownBlock = some j → ∀ i, ((.slice aV8 s.sh.length cV8) : Value).ownBlock = some i → j ≠ i := by intro j hj i hi; have h1 := wBV9 i hi; have h2 := zBCV8 i hi; rcases atV9 with e | e <;> (rw [hj] at e; injection e with e; (try dsimp only at e); omega)
          clear atV9
          (try dsimp only)
          refine hK.out _ _ (by exact ⟨PV9.2.1 0 _ rfl, PV9.2.1 1 _ rfl, PV9.2.1 2 _ rfl, PV9.2.1 3 _ rfl⟩) (fun hHeld => ?_)
          clear hK K
          (refine wpAnyH_take (i := 14) (v := ?_) rfl (by kernel_rfl) (by kernel_rfl) (by kernel_rfl) (fun _ _ _ h => h) (Or.inl ⟨by rfl, ?_⟩) (by assumption) ?_; rotate_left; focus (intro w hSw; (try dsimp only at hSw); (try simp only [zk1, zk2, zk3]); go_simp; try with_reducible rfl)); (try simp only [zk1, zk2, zk3]); (try simp only [Act.put, zk4, zk5, zk6])
          have r0 := RV9.2.1 0 _ rfl
          have r1 := RV9.2.1 1 _ rfl
          have r2 := RV9.2.1 2 _ rfl
          have r3 := RV9.2.1 3 _ rfl
          have f0 := RV9.2.2 0
          have f1 := RV9.2.2 1
          have f2 := RV9.2.2 2
          have f3 := RV9.2.2 3
          have RR := ((((RV9.set 0 (.int .i64 s.at_) (by simp)).set 1 ((.slice aV2 s.op.length cV2)) (by simp)).set 2 ((.slice aV8 s.sh.length cV8)) (by simp)).set 3 ((.slice aV9 s.si.length cV9)) (by simp))
          have PP := ((((PV9.far (c := w.heap.size + 1) (by omega) 0 (.int .i64 s.at_)).far (c := w.heap.size + 1) (by omega) 1 ((.slice aV2 s.op.length cV2))).far (c := w.heap.size + 1) (by omega) 2 ((.slice aV8 s.sh.length cV8))).far (c := w.heap.size + 1) (by omega) 3 ((.slice aV9 s.si.length cV9)))
          have QA := Lib.hid (own_below (own_below (own_below (own_below AOV9 (p := ⟨w.heap.size + 1, 0, none⟩) (u := .int .i64 s.at_) (by dsimp only; omega)) (p := ⟨w.heap.size + 1, 1, none⟩) (u := (.slice aV2 s.op.length cV2)) (by dsimp only; omega)) (p := ⟨w.heap.size + 1, 2, none⟩) (u := (.slice aV8 s.sh.length cV8)) (by dsimp only; omega)) (p := ⟨w.heap.size + 1, 3, none⟩) (u := (.slice aV9 s.si.length cV9)) (by dsimp only; omega))
          have QB := Lib.hid (own_below (own_below (own_below (own_below BOV9 (p := ⟨w.heap.size + 1, 0, none⟩) (u := .int .i64 s.at_) (by dsimp only; omega)) (p := ⟨w.heap.size + 1, 1, none⟩) (u := (.slice aV2 s.op.length cV2)) (by dsimp only; omega)) (p := ⟨w.heap.size + 1, 2, none⟩) (u := (.slice aV8 s.sh.length cV8)) (by dsimp only; omega)) (p := ⟨w.heap.size + 1, 3, none⟩) (u := (.slice aV9 s.si.length cV9)) (by dsimp only; omega))
          have QC := Lib.hid (own_below (own_below (own_below (own_below COV9 (p := ⟨w.heap.size + 1, 0, none⟩) (u := .int .i64 s.at_) (by dsimp only; omega)) (p := ⟨w.heap.size + 1, 1, none⟩) (u := (.slice aV2 s.op.length cV2)) (by dsimp only; omega)) (p := ⟨w.heap.size + 1, 2, none⟩) (u := (.slice aV8 s.sh.length cV8)) (by dsimp only; omega)) (p := ⟨w.heap.size + 1, 3, none⟩) (u := (.slice aV9 s.si.length cV9)) (by dsimp only; omega))
          have XF : Ext w ((((V9.setCell ⟨w.heap.size + 1, 0, none⟩ (.int .i64 s.at_)).setCell ⟨w.heap.size + 1, 1, none⟩ ((.slice aV2 s.op.length cV2))).setCell ⟨w.heap.size + 1, 2, none⟩ ((.slice aV8 s.sh.length cV8))).setCell ⟨w.heap.size + 1, 3, none⟩ ((.slice aV9 s.si.length cV9))) := ((((XV9.setCell (p := ⟨w.heap.size + 1, 0, none⟩) (by dsimp only; omega) (.int .i64 s.at_)).setCell (p := ⟨w.heap.size + 1, 1, none⟩) (by dsimp only; omega) ((.slice aV2 s.op.length cV2))).setCell (p := ⟨w.heap.size + 1, 2, none⟩) (by dsimp only; omega) ((.slice aV8 s.sh.length cV8))).setCell (p := ⟨w.heap.size + 1, 3, none⟩) (by dsimp only; omega) ((.slice aV9 s.si.length cV9)))
          (refine wpAnyH_ready (rs := [15]) (by kernel_rfl) (by simp) ?_; refine AllReadyH.cons rfl (fun K hK => ?_) AllReadyH.nil; (try simp only [zk1, zk2, zk3]))
          go_simp
          generalize (((V9.setCell ⟨w.heap.size + 1, 0, none⟩ (.int .i64 s.at_)).setCell ⟨w.heap.size + 1, 1, none⟩ ((.slice aV2 s.op.length cV2))).setCell ⟨w.heap.size + 1, 2, none⟩ ((.slice aV8 s.sh.length cV8))).setCell ⟨w.heap.size + 1, 3, none⟩ ((.slice aV9 s.si.length cV9)) = WF at *
          (try dsimp only)
          refine hK.out _ _ (by exact ⟨PP.2.1 0 _ rfl, PP.2.1 1 _ rfl, PP.2.1 2 _ rfl, PP.2.1 3 _ rfl⟩) (fun hHeld => ?_)
          clear hK K
          refine wpAnyH_done (by kernel_rfl) ?_ _
          have k0 := RR.2.1 0 _ rfl
          have k1 := RR.2.1 1 _ rfl
          have k2 := RR.2.1 2 _ rfl
          have k3 := RR.2.1 3 _ rfl
          go_wp2
          refine bodyPost_ret (v := .agg #[.int .i64 s.at_, (.slice aV2 s.op.length cV2), (.slice aV8 s.sh.length cV8), (.slice aV9 s.si.length cV9)]) (by simp [results, Tryd.results130, go_sem, k0, k1, k2, k3]) rfl ⟨_, _, _, _, _, _, rfl, ⟨own_mono QA.out (by omega), own_mono QB.out (by omega), own_mono QC.out (by omega), (fun k hk e => fBAV8 k e k hk rfl), (fun k hk e => fCAV9 k e k hk rfl), (fun k hk e => fCBV9 k e k hk rfl)⟩, XF⟩
      · (try simp only [zk1, zk2, zk3])
        go_simp
        have eV10 : Ext V2 (V2.alloc (Obj.cells #[] 9)) := (Ext.refl _).alloc _
        have CLV10 := World.ownsRow_lit (base := w.heap.size + 2) (e := 9) (size := 1) V2 #[] 0 (lV2) (Nat.zero_le _) rfl
        have XV10 := XV2.trans eV10
        have PV10 := PV2.ext eV10
        have RV10 := RV2.ext eV10
        have lV10 := Nat.le_trans (lV2) eV10.size
        have AOV10 := own_ext AOV2 eV10
        have zACV10 := fun k hk => (own_lt AOV2 k hk).2
        generalize V2.alloc (Obj.cells #[] 9) = V10 at *
        (try dsimp only)
        refine hK.out _ _ (by exact ⟨PV10.2.1 0 _ rfl, PV10.2.1 1 _ rfl, PV10.2.1 2 _ rfl, PV10.2.1 3 _ rfl⟩) (fun hHeld => ?_)
        clear hK K
        refine wpAnyH_ready (rs := [6]) (by kernel_rfl) (by simp) ?_
        refine AllReadyH.cons rfl (fun K hK => ?_) (AllReadyH.nil)
        (try simp only [zk1, zk2, zk3])
        go_simp
        have eV11 : Ext V10 (V10.alloc (Obj.cells #[] 9)) := (Ext.refl _).alloc _
        have BLV11 := World.ownsRow_lit (base := w.heap.size + 2) (e := 9) (size := 1) V10 #[] 0 (lV10) (Nat.zero_le _) rfl
        have XV11 := XV10.trans eV11
        have PV11 := PV10.ext eV11
        have RV11 := RV10.ext eV11
        have lV11 := Nat.le_trans (lV10) eV11.size
        have AOV11 := own_ext AOV10 eV11
        have zABV11 := fun k hk => (own_lt AOV10 k hk).2
        have CLV11 := own_ext CLV10 eV11
        have yCBV11 : V2.heap.size < V10.heap.size := (own_lt CLV10 _ rfl).2
        generalize V10.alloc (Obj.cells #[] 9) = V11 at *
        (try dsimp only)
        refine hK.out _ _ (by exact ⟨PV11.2.1 0 _ rfl, PV11.2.1 1 _ rfl, PV11.2.1 2 _ rfl, PV11.2.1 3 _ rfl⟩) (fun hHeld => ?_)
        clear hK K
        refine wpAnyH_ready (rs := [9]) (by kernel_rfl) (by simp) ?_
        refine AllReadyH.cons rfl (fun K hK => ?_) (AllReadyH.nil)
        refine step_append_any (.tmp 9) (.tmp 11) 22 (by rfl) (by rfl) (w.heap.size + 2) 9 i0 _ 1 16 Tryd.underlying22 hi hz0 hz1 hz2 rfl (by decide) _ _ _ (by rfl) BLV11 _ s.sh.length (s.sh.map Value.string) (by rfl) (Strs.ext HB.out XV11) SB.out (strs_one3 _) (by unfold maxLen; omega) (by omega) (lV11) ?_
        intro aV12 cV12 V12 BOV12 gV12 atV12
        simp only [Nat.zero_add, List.nil_append] at BOV12 atV12 ⊢
        have bV12 : w.heap.size + 2 ≤ V10.heap.size := (own_lt BLV11 _ rfl).1
        have b2V12 : V10.heap.size < V11.heap.size := (own_lt BLV11 _ rfl).2
        have XV12 : Ext w V12 := own_ext_of XV11 BLV11 gV12 (by omega)
        have PV12 := PV11.grown gV12 (fun e => by injection e with e; dsimp only at e; omega)
        have RV12 := RV11.grown gV12 (fun e => by injection e with e; dsimp only at e; omega)
        have lV12 := Nat.le_trans (lV11) gV12.size
        have wAV12 := fun k hk => (own_lt AOV11 k hk).2
        have AOV12 := own_grown2 AOV11 gV12 (fun k hk e => by injection hk with hk; have := zABV11 _ e; dsimp only at hk; omega)
        have fBAV12 : ∀ j, (Value.slice aV12 s.sh.length cV12).ownBlock = some j → ∀ i, ((.slice aV2 s.op.length cV2) : Value).ownBlock = some i → j ≠ i := by intro j hj i hi; have h1 := wAV12 i hi; have h2 := zABV11 i hi; rcases atV12 with e | e <;> (rw [hj] at e; injection e with e; (try dsimp only at e); omega)
        have xCV12 : V2.heap.size < V11.heap.size := (own_lt CLV11 _ rfl).2
        have CLV12 := own_grown2 CLV11 gV12 (fun k hk e => by injection hk with hk; injection e with e; dsimp only at hk e; omega)
        have zBCV12 : ∀ k, (Value.slice aV12 s.sh.length cV12).ownBlock = some k → k ≠ V2.heap.size := by intro k hk; rcases atV12 with e | e <;> (rw [hk] at e; injection e with e; (try dsimp only at e); omega)
        clear atV12
        (try dsimp only)
        refine hK.out _ _ (by exact ⟨PV12.2.1 0 _ rfl, PV12.2.1 1 _ rfl, PV12.2.1 2 _ rfl, PV12.2.1 3 _ rfl⟩) (fun hHeld => ?_)
        clear hK K
        refine wpAnyH_ready (rs := [13]) (by kernel_rfl) (by simp) ?_
        refine AllReadyH.cons rfl (fun K hK => ?_) (AllReadyH.nil)
        refine step_append_any (.tmp 13) (.tmp 15) 22 (by rfl) (by rfl) (w.heap.size + 2) 9 i0 _ 1 16 Tryd.underlying22 hi hz0 hz1 hz2 rfl (by decide) _ _ _ (by rfl) CLV12 _ s.si.length (s.si.map Value.string) (by rfl) (Strs.ext HC.out XV12) SC.out (strs_one3 _) (by unfold maxLen; omega) (by omega) (lV12) ?_
        intro aV13 cV13 V13 COV13 gV13 atV13
        simp only [Nat.zero_add, List.nil_append] at COV13 atV13 ⊢
        have bV13 : w.heap.size + 2 ≤ V2.heap.size := (own_lt CLV12 _ rfl).1
        have b2V13 : V2.heap.size < V12.heap.size := (own_lt CLV12 _ rfl).2
        have XV13 : Ext w V13 := own_ext_of XV12 CLV12 gV13 (by omega)
        have PV13 := PV12.grown gV13 (fun e => by injection e with e; dsimp only at e; omega)
        have RV13 := RV12.grown gV13 (fun e => by injection e with e; dsimp only at e; omega)
        have lV13 := Nat.le_trans (lV12) gV13.size
        have wAV13 := fun k hk => (own_lt AOV12 k hk).2
        have AOV13 := own_grown2 AOV12 gV13 (fun k hk e => by injection hk with hk; have := zACV10 _ e; dsimp only at hk; omega)
        have fCAV13 : ∀ j, (Value.slice aV13 s.si.length cV13).ownBlock = some j → ∀ i, ((.slice aV2 s.op.length cV2) : Value).ownBlock = some i → j ≠ i := by intro j hj i hi; have h1 := wAV13 i hi; have h2 := zACV10 i hi; rcases atV13 with e | e <;> (rw [hj] at e; injection e with e; (try dsimp only at e); omega)
        have wBV13 := fun k hk => (own_lt BOV12 k hk).2
        have BOV13 := own_grown2 BOV12 gV13 (fun k hk e => by injection hk with hk; have := zBCV12 _ e; dsimp only at hk; omega)
        have fCBV13 : ∀ j, (Value.slice aV13 s.si.length cV13).ownBlock = some j → ∀ i, ((.slice aV12 s.sh.length cV12) : Value).ownBlock = some i → j ≠ i := by intro j hj i hi; have h1 := wBV13 i hi; have h2 := zBCV12 i hi; rcases atV13 with e | e <;> (rw [hj] at e; injection e with e; (try dsimp only at e); omega)
        clear atV13
        (try dsimp only)
        refine hK.out _ _ (by exact ⟨PV13.2.1 0 _ rfl, PV13.2.1 1 _ rfl, PV13.2.1 2 _ rfl, PV13.2.1 3 _ rfl⟩) (fun hHeld => ?_)
        clear hK K
        (refine wpAnyH_take (i := 14) (v := ?_) rfl (by kernel_rfl) (by kernel_rfl) (by kernel_rfl) (fun _ _ _ h => h) (Or.inl ⟨by rfl, ?_⟩) (by assumption) ?_; rotate_left; focus (intro w hSw; (try dsimp only at hSw); (try simp only [zk1, zk2, zk3]); go_simp; try with_reducible rfl)); (try simp only [zk1, zk2, zk3]); (try simp only [Act.put, zk4, zk5, zk6])
        have r0 := RV13.2.1 0 _ rfl
        have r1 := RV13.2.1 1 _ rfl
        have r2 := RV13.2.1 2 _ rfl
        have r3 := RV13.2.1 3 _ rfl
        have f0 := RV13.2.2 0
        have f1 := RV13.2.2 1
        have f2 := RV13.2.2 2
        have f3 := RV13.2.2 3
        have RR := ((((RV13.set 0 (.int .i64 s.at_) (by simp)).set 1 ((.slice aV2 s.op.length cV2)) (by simp)).set 2 ((.slice aV12 s.sh.length cV12)) (by simp)).set 3 ((.slice aV13 s.si.length cV13)) (by simp))
        have PP := ((((PV13.far (c := w.heap.size + 1) (by omega) 0 (.int .i64 s.at_)).far (c := w.heap.size + 1) (by omega) 1 ((.slice aV2 s.op.length cV2))).far (c := w.heap.size + 1) (by omega) 2 ((.slice aV12 s.sh.length cV12))).far (c := w.heap.size + 1) (by omega) 3 ((.slice aV13 s.si.length cV13)))
        have QA := Lib.hid (own_below (own_below (own_below (own_below AOV13 (p := ⟨w.heap.size + 1, 0, none⟩) (u := .int .i64 s.at_) (by dsimp only; omega)) (p := ⟨w.heap.size + 1, 1, none⟩) (u := (.slice aV2 s.op.length cV2)) (by dsimp only; omega)) (p := ⟨w.heap.size + 1, 2, none⟩) (u := (.slice aV12 s.sh.length cV12)) (by dsimp only; omega)) (p := ⟨w.heap.size + 1, 3, none⟩) (u := (.slice aV13 s.si.length cV13)) (by dsimp only; omega))
        have QB := Lib.hid (own_below (own_below (own_below (own_below BOV13 (p := ⟨w.heap.size + 1, 0, none⟩) (u := .int .i64 s.at_) (by dsimp only; omega)) (p := ⟨w.heap.size + 1, 1, none⟩) (u := (.slice aV2 s.op.length cV2)) (by dsimp only; omega)) (p := ⟨w.heap.size + 1, 2, none⟩) (u := (.slice aV12 s.sh.length cV12)) (by dsimp only; omega)) (p := ⟨w.heap.size + 1, 3, none⟩) (u := (.slice aV13 s.si.length cV13)) (by dsimp only; omega))
        have QC := Lib.hid (own_below (own_below (own_below (own_below COV13 (p := ⟨w.heap.size + 1, 0, none⟩) (u := .int .i64 s.at_) (by dsimp only; omega)) (p := ⟨w.heap.size + 1, 1, none⟩) (u := (.slice aV2 s.op.length cV2)) (by dsimp only; omega)) (p := ⟨w.heap.size + 1, 2, none⟩) (u := (.slice aV12 s.sh.length cV12)) (by dsimp only; omega)) (p := ⟨w.heap.size + 1, 3, none⟩) (u := (.slice aV13 s.si.length cV13)) (by dsimp only; omega))
        have XF : Ext w ((((V13.setCell ⟨w.heap.size + 1, 0, none⟩ (.int .i64 s.at_)).setCell ⟨w.heap.size + 1, 1, none⟩ ((.slice aV2 s.op.length cV2))).setCell ⟨w.heap.size + 1, 2, none⟩ ((.slice aV12 s.sh.length cV12))).setCell ⟨w.heap.size + 1, 3, none⟩ ((.slice aV13 s.si.length cV13))) := ((((XV13.setCell (p := ⟨w.heap.size + 1, 0, none⟩) (by dsimp only; omega) (.int .i64 s.at_)).setCell (p := ⟨w.heap.size + 1, 1, none⟩) (by dsimp only; omega) ((.slice aV2 s.op.length cV2))).setCell (p := ⟨w.heap.size + 1, 2, none⟩) (by dsimp only; omega) ((.slice aV12 s.sh.length cV12))).setCell (p := ⟨w.heap.size + 1, 3, none⟩) (by dsimp only; omega) ((.slice aV13 s.si.length cV13)))
        (refine wpAnyH_ready (rs := [15]) (by kernel_rfl) (by simp) ?_; refine AllReadyH.cons rfl (fun K hK => ?_) AllReadyH.nil; (try simp only [zk1, zk2, zk3]))
        go_simp
        generalize (((V13.setCell ⟨w.heap.size + 1, 0, none⟩ (.int .i64 s.at_)).setCell ⟨w.heap.size + 1, 1, none⟩ ((.slice aV2 s.op.length cV2))).setCell ⟨w.heap.size + 1, 2, none⟩ ((.slice aV12 s.sh.length cV12))).setCell ⟨w.heap.size + 1, 3, none⟩ ((.slice aV13 s.si.length cV13)) = WF at *
        (try dsimp only)
        refine hK.out _ _ (by exact ⟨PP.2.1 0 _ rfl, PP.2.1 1 _ rfl, PP.2.1 2 _ rfl, PP.2.1 3 _ rfl⟩) (fun hHeld => ?_)
        clear hK K
        refine wpAnyH_done (by kernel_rfl) ?_ _
        have k0 := RR.2.1 0 _ rfl
        have k1 := RR.2.1 1 _ rfl
        have k2 := RR.2.1 2 _ rfl
        have k3 := RR.2.1 3 _ rfl
        go_wp2
        refine bodyPost_ret (v := .agg #[.int .i64 s.at_, (.slice aV2 s.op.length cV2), (.slice aV12 s.sh.length cV12), (.slice aV13 s.si.length cV13)]) (by simp [results, Tryd.results130, go_sem, k0, k1, k2, k3]) rfl ⟨_, _, _, _, _, _, rfl, ⟨own_mono QA.out (by omega), own_mono QB.out (by omega), own_mono QC.out (by omega), (fun k hk e => fBAV12 k e k hk rfl), (fun k hk e => fCAV13 k e k hk rfl), (fun k hk e => fCBV13 k e k hk rfl)⟩, XF⟩
    · (try simp only [zk1, zk2, zk3])
      go_simp
      have eV14 : Ext V1 (V1.alloc (Obj.cells #[] 9)) := (Ext.refl _).alloc _
      have BLV14 := World.ownsRow_lit (base := w.heap.size + 2) (e := 9) (size := 1) V1 #[] 0 (lV1) (Nat.zero_le _) rfl
      have XV14 := XV1.trans eV14
      have PV14 := PV1.ext eV14
      have RV14 := RV1.ext eV14
      have lV14 := Nat.le_trans (lV1) eV14.size
      have ALV14 := own_ext ALV1 eV14
      have yABV14 : V0.heap.size < V1.heap.size := (own_lt ALV1 _ rfl).2
      generalize V1.alloc (Obj.cells #[] 9) = V14 at *
      (try dsimp only)
      refine hK.out _ _ (by exact ⟨PV14.2.1 0 _ rfl, PV14.2.1 1 _ rfl, PV14.2.1 2 _ rfl, PV14.2.1 3 _ rfl⟩) (fun hHeld => ?_)
      clear hK K
      refine wpAnyH_ready (rs := [5, 10]) (by kernel_rfl) (by simp) ?_
      refine AllReadyH.cons rfl (fun K hK => ?_) (AllReadyH.cons rfl (fun K hK => ?_) (AllReadyH.nil))
      · refine step_append_any (.tmp 5) (.tmp 7) 22 (by rfl) (by rfl) (w.heap.size + 2) 9 i0 _ 1 16 Tryd.underlying22 hi hz0 hz1 hz2 rfl (by decide) _ _ _ (by rfl) ALV14 _ s.op.length (s.op.map Value.string) (by rfl) (Strs.ext HA.out XV14) SA.out (strs_one3 _) (by unfold maxLen; omega) (by omega) (lV14) ?_
        intro aV15 cV15 V15 AOV15 gV15 atV15
        simp only [Nat.zero_add, List.nil_append] at AOV15 atV15 ⊢
        have bV15 : w.heap.size + 2 ≤ V0.heap.size := (own_lt ALV14 _ rfl).1
        have b2V15 : V0.heap.size < V14.heap.size := (own_lt ALV14 _ rfl).2
        have XV15 : Ext w V15 := own_ext_of XV14 ALV14 gV15 (by omega)
        have PV15 := PV14.grown gV15 (fun e => by injection e with e; dsimp only at e; omega)
        have RV15 := RV14.grown gV15 (fun e => by injection e with e; dsimp only at e; omega)
        have lV15 := Nat.le_trans (lV14) gV15.size
        have xBV15 : V1.heap.size < V14.heap.size := (own_lt BLV14 _ rfl).2
        have BLV15 := own_grown2 BLV14 gV15 (fun k hk e => by injection hk with hk; injection e with e; dsimp only at hk e; omega)
        have zABV15 : ∀ k, (Value.slice aV15 s.op.length cV15).ownBlock = some k → k ≠ V1.heap.size := by intro k hk; rcases atV15 with e | e <;> (rw [hk] at e; injection e with e; (try dsimp only at e); omega)
        clear atV15
        (try dsimp only)
        refine hK.out _ _ (by exact ⟨PV15.2.1 0 _ rfl, PV15.2.1 1 _ rfl, PV15.2.1 2 _ rfl, PV15.2.1 3 _ rfl⟩) (fun hHeld => ?_)
        clear hK K
        refine wpAnyH_ready (rs := [9, 10]) (by kernel_rfl) (by simp) ?_
        refine AllReadyH.cons rfl (fun K hK => ?_) (AllReadyH.cons rfl (fun K hK => ?_) (AllReadyH.nil))
        · refine step_append_any (.tmp 9) (.tmp 11) 22 (by rfl) (by rfl) (w.heap.size + 2) 9 i0 _ 1 16 Tryd.underlying22 hi hz0 hz1 hz2 rfl (by decide) _ _ _ (by rfl) BLV15 _ s.sh.length (s.sh.map Value.string) (by rfl) (Strs.ext HB.out XV15) SB.out (strs_one3 _) (by unfold maxLen; omega) (by omega) (lV15) ?_
          intro aV16 cV16 V16 BOV16 gV16 atV16
          simp only [Nat.zero_add, List.nil_append] at BOV16 atV16 ⊢
          have bV16 : w.heap.size + 2 ≤ V1.heap.size := (own_lt BLV15 _ rfl).1
          have b2V16 : V1.heap.size < V15.heap.size := (own_lt BLV15 _ rfl).2
          have XV16 : Ext w V16 := own_ext_of XV15 BLV15 gV16 (by omega)
          have PV16 := PV15.grown gV16 (fun e => by injection e with e; dsimp only at e; omega)
          have RV16 := RV15.grown gV16 (fun e => by injection e with e; dsimp only at e; omega)
          have lV16 := Nat.le_trans (lV15) gV16.size
          have wAV16 := fun k hk => (own_lt AOV15 k hk).2
          have AOV16 := own_grown2 AOV15 gV16 (fun k hk e => by injection hk with hk; have := zABV15 _ e; dsimp only at hk; omega)
          have fBAV16 : ∀ j, (Value.slice aV16 s.sh.length cV16).ownBlock = some j → ∀ i, ((.slice aV15 s.op.length cV15) : Value).ownBlock = some i → j ≠ i := by intro j hj i hi; have h1 := wAV16 i hi; have h2 := zABV15 i hi; rcases atV16 with e | e <;> (rw [hj] at e; injection e with e; (try dsimp only at e); omega)
          clear atV16
          (try dsimp only)
          refine hK.out _ _ (by exact ⟨PV16.2.1 0 _ rfl, PV16.2.1 1 _ rfl, PV16.2.1 2 _ rfl, PV16.2.1 3 _ rfl⟩) (fun hHeld => ?_)
          clear hK K
          refine wpAnyH_ready (rs := [10]) (by kernel_rfl) (by simp) ?_
          refine AllReadyH.cons rfl (fun K hK => ?_) (AllReadyH.nil)
          (try simp only [zk1, zk2, zk3])
          go_simp
          have eV17 : Ext V16 (V16.alloc (Obj.cells #[] 9)) := (Ext.refl _).alloc _
          have CLV17 := World.ownsRow_lit (base := w.heap.size + 2) (e := 9) (size := 1) V16 #[] 0 (lV16) (Nat.zero_le _) rfl
          have XV17 := XV16.trans eV17
          have PV17 := PV16.ext eV17
          have RV17 := RV16.ext eV17
          have lV17 := Nat.le_trans (lV16) eV17.size
          have AOV17 := own_ext AOV16 eV17
          have zACV17 := fun k hk => (own_lt AOV16 k hk).2
          have BOV17 := own_ext BOV16 eV17
          have zBCV17 := fun k hk => (own_lt BOV16 k hk).2
          generalize V16.alloc (Obj.cells #[] 9) = V17 at *
          (try dsimp only)
          refine hK.out _ _ (by exact ⟨PV17.2.1 0 _ rfl, PV17.2.1 1 _ rfl, PV17.2.1 2 _ rfl, PV17.2.1 3 _ rfl⟩) (fun hHeld => ?_)
          clear hK K
          refine wpAnyH_ready (rs := [13]) (by kernel_rfl) (by simp) ?_
          refine AllReadyH.cons rfl (fun K hK => ?_) (AllReadyH.nil)
          refine step_append_any (.tmp 13) (.tmp 15) 22 (by rfl) (by rfl) (w.heap.size + 2) 9 i0 _ 1 16 Tryd.underlying22 hi hz0 hz1 hz2 rfl (by decide) _ _ _ (by rfl) CLV17 _ s.si.length (s.si.map Value.string) (by rfl) (Strs.ext HC.out XV17) SC.out (strs_one3 _) (by unfold maxLen; omega) (by omega) (lV17) ?_
          intro aV18 cV18 V18 COV18 gV18 atV18
          simp only [Nat.zero_add, List.nil_append] at COV18 atV18 ⊢
          have bV18 : w.heap.size + 2 ≤ V16.heap.size := (own_lt CLV17 _ rfl).1
          have b2V18 : V16.heap.size < V17.heap.size := (own_lt CLV17 _ rfl).2
          have XV18 : Ext w V18 := own_ext_of XV17 CLV17 gV18 (by omega)
          have PV18 := PV17.grown gV18 (fun e => by injection e with e; dsimp only at e; omega)
          have RV18 := RV17.grown gV18 (fun e => by injection e with e; dsimp only at e; omega)
          have lV18 := Nat.le_trans (lV17) gV18.size
          have wAV18 := fun k hk => (own_lt AOV17 k hk).2
          have AOV18 := own_grown2 AOV17 gV18 (fun k hk e => by injection hk with hk; have := zACV17 _ e; dsimp only at hk; omega)
          have fCAV18 : ∀ j, (Value.slice aV18 s.si.length cV18).ownBlock = some j → ∀ i, ((.slice aV15 s.op.length cV15) : Value).ownBlock = some i → j ≠ i := by intro j hj i hi; have h1 := wAV18 i hi; have h2 := zACV17 i hi; rcases atV18 with e | e <;> (rw [hj] at e; injection e with e; (try dsimp only at e); omega)
          have wBV18 := fun k hk => (own_lt BOV17 k hk).2
          have BOV18 := own_grown2 BOV17 gV18 (fun k hk e => by injection hk with hk; have := zBCV17 _ e; dsimp only at hk; omega)
          have fCBV18 : ∀ j, (Value.slice aV18 s.si.length cV18).ownBlock = some j → ∀ i, ((.slice aV16 s.sh.length cV16) : Value).ownBlock = some i → j ≠ i := by intro j hj i hi; have h1 := wBV18 i hi; have h2 := zBCV17 i hi; rcases atV18 with e | e <;> (rw [hj] at e; injection e with e; (try dsimp only at e); omega)
          clear atV18
          (try dsimp only)
          refine hK.out _ _ (by exact ⟨PV18.2.1 0 _ rfl, PV18.2.1 1 _ rfl, PV18.2.1 2 _ rfl, PV18.2.1 3 _ rfl⟩) (fun hHeld => ?_)
          clear hK K
          (refine wpAnyH_take (i := 14) (v := ?_) rfl (by kernel_rfl) (by kernel_rfl) (by kernel_rfl) (fun _ _ _ h => h) (Or.inl ⟨by rfl, ?_⟩) (by assumption) ?_; rotate_left; focus (intro w hSw; (try dsimp only at hSw); (try simp only [zk1, zk2, zk3]); go_simp; try with_reducible rfl)); (try simp only [zk1, zk2, zk3]); (try simp only [Act.put, zk4, zk5, zk6])
          have r0 := RV18.2.1 0 _ rfl
          have r1 := RV18.2.1 1 _ rfl
          have r2 := RV18.2.1 2 _ rfl
          have r3 := RV18.2.1 3 _ rfl
          have f0 := RV18.2.2 0
          have f1 := RV18.2.2 1
          have f2 := RV18.2.2 2
          have f3 := RV18.2.2 3
          have RR := ((((RV18.set 0 (.int .i64 s.at_) (by simp)).set 1 ((.slice aV15 s.op.length cV15)) (by simp)).set 2 ((.slice aV16 s.sh.length cV16)) (by simp)).set 3 ((.slice aV18 s.si.length cV18)) (by simp))
          have PP := ((((PV18.far (c := w.heap.size + 1) (by omega) 0 (.int .i64 s.at_)).far (c := w.heap.size + 1) (by omega) 1 ((.slice aV15 s.op.length cV15))).far (c := w.heap.size + 1) (by omega) 2 ((.slice aV16 s.sh.length cV16))).far (c := w.heap.size + 1) (by omega) 3 ((.slice aV18 s.si.length cV18)))
          have QA := Lib.hid (own_below (own_below (own_below (own_below AOV18 (p := ⟨w.heap.size + 1, 0, none⟩) (u := .int .i64 s.at_) (by dsimp only; omega)) (p := ⟨w.heap.size + 1, 1, none⟩) (u := (.slice aV15 s.op.length cV15)) (by dsimp only; omega)) (p := ⟨w.heap.size + 1, 2, none⟩) (u := (.slice aV16 s.sh.length cV16)) (by dsimp only; omega)) (p := ⟨w.heap.size + 1, 3, none⟩) (u := (.slice aV18 s.si.length cV18)) (by dsimp only; omega))
          have QB := Lib.hid (own_below (own_below (own_below (own_below BOV18 (p := ⟨w.heap.size + 1, 0, none⟩) (u := .int .i64 s.at_) (by dsimp only; omega)) (p := ⟨w.heap.size + 1, 1, none⟩) (u := (.slice aV15 s.op.length cV15)) (by dsimp only; omega)) (p := ⟨w.heap.size + 1, 2, none⟩) (u := (.slice aV16 s.sh.length cV16)) (by dsimp only; omega)) (p := ⟨w.heap.size + 1, 3, none⟩) (u := (.slice aV18 s.si.length cV18)) (by dsimp only; omega))
          have QC := Lib.hid (own_below (own_below (own_below (own_below COV18 (p := ⟨w.heap.size + 1, 0, none⟩) (u := .int .i64 s.at_) (by dsimp only; omega)) (p := ⟨w.heap.size + 1, 1, none⟩) (u := (.slice aV15 s.op.length cV15)) (by dsimp only; omega)) (p := ⟨w.heap.size + 1, 2, none⟩) (u := (.slice aV16 s.sh.length cV16)) (by dsimp only; omega)) (p := ⟨w.heap.size + 1, 3, none⟩) (u := (.slice aV18 s.si.length cV18)) (by dsimp only; omega))
          have XF : Ext w ((((V18.setCell ⟨w.heap.size + 1, 0, none⟩ (.int .i64 s.at_)).setCell ⟨w.heap.size + 1, 1, none⟩ ((.slice aV15 s.op.length cV15))).setCell ⟨w.heap.size + 1, 2, none⟩ ((.slice aV16 s.sh.length cV16))).setCell ⟨w.heap.size + 1, 3, none⟩ ((.slice aV18 s.si.length cV18))) := ((((XV18.setCell (p := ⟨w.heap.size + 1, 0, none⟩) (by dsimp only; omega) (.int .i64 s.at_)).setCell (p := ⟨w.heap.size + 1, 1, none⟩) (by dsimp only; omega) ((.slice aV15 s.op.length cV15))).setCell (p := ⟨w.heap.size + 1, 2, none⟩) (by dsimp only; omega) ((.slice aV16 s.sh.length cV16))).setCell (p := ⟨w.heap.size + 1, 3, none⟩) (by dsimp only; omega) ((.slice aV18 s.si.length cV18)))
          (refine wpAnyH_ready (rs := [15]) (by kernel_rfl) (by simp) ?_; refine AllReadyH.cons rfl (fun K hK => ?_) AllReadyH.nil; (try simp only [zk1, zk2, zk3]))
          go_simp
          generalize (((V18.setCell ⟨w.heap.size + 1, 0, none⟩ (.int .i64 s.at_)).setCell ⟨w.heap.size + 1, 1, none⟩ ((.slice aV15 s.op.length cV15))).setCell ⟨w.heap.size + 1, 2, none⟩ ((.slice aV16 s.sh.length cV16))).setCell ⟨w.heap.size + 1, 3, none⟩ ((.slice aV18 s.si.length cV18)) = WF at *
          (try dsimp only)
          refine hK.out _ _ (by exact ⟨PP.2.1 0 _ rfl, PP.2.1 1 _ rfl, PP.2.1 2 _ rfl, PP.2.1 3 _ rfl⟩) (fun hHeld => ?_)
          clear hK K
          refine wpAnyH_done (by kernel_rfl) ?_ _
          have k0 := RR.2.1 0 _ rfl
          have k1 := RR.2.1 1 _ rfl
          have k2 := RR.2.1 2 _ rfl
          have k3 := RR.2.1 3 _ rfl
          go_wp2
          refine bodyPost_ret (v := .agg #[.int .i64 s.at_, (.slice aV15 s.op.length cV15), (.slice aV16 s.sh.length cV16), (.slice aV18 s.si.length cV18)]) (by simp [results, Tryd.results130, go_sem, k0, k1, k2, k3]) rfl ⟨_, _, _, _, _, _, rfl, ⟨own_mono QA.out (by omega), own_mono QB.out (by omega), own_mono QC.out (by omega), (fun k hk e => fBAV16 k e k hk rfl), (fun k hk e => fCAV18 k e k hk rfl), (fun k hk e => fCBV18 k e k hk rfl)⟩, XF⟩
        · (try simp only [zk1, zk2, zk3])
          go_simp
          have eV19 : Ext V15 (V15.alloc (Obj.cells #[] 9)) := (Ext.refl _).alloc _
          have CLV19 := World.ownsRow_lit (base := w.heap.size + 2) (e := 9) (size := 1) V15 #[] 0 (lV15) (Nat.zero_le _) rfl
          have XV19 := XV15.trans eV19
          have PV19 := PV15.ext eV19
          have RV19 := RV15.ext eV19
          have lV19 := Nat.le_trans (lV15) eV19.size
          have AOV19 := own_ext AOV15 eV19
          have zACV19 := fun k hk => (own_lt AOV15 k hk).2
          have BLV19 := own_ext BLV15 eV19
          have yBCV19 : V1.heap.size < V15.heap.size := (own_lt BLV15 _ rfl).2
          generalize V15.alloc (Obj.cells #[] 9) = V19 at *
          (try dsimp only)
          refine hK.out _ _ (by exact ⟨PV19.2.1 0 _ rfl, PV19.2.1 1 _ rfl, PV19.2.1 2 _ rfl, PV19.2.1 3 _ rfl⟩) (fun hHeld => ?_)
          clear hK K
          refine wpAnyH_ready (rs := [9]) (by kernel_rfl) (by simp) ?_
          refine AllReadyH.cons rfl (fun K hK => ?_) (AllReadyH.nil)
          refine step_append_any (.tmp 9) (.tmp 11) 22 (by rfl) (by rfl) (w.heap.size + 2) 9 i0 _ 1 16 Tryd.underlying22 hi hz0 hz1 hz2 rfl (by decide) _ _ _ (by rfl) BLV19 _ s.sh.length (s.sh.map Value.string) (by rfl) (Strs.ext HB.out XV19) SB.out (strs_one3 _) (by unfold maxLen; omega) (by omega) (lV19) ?_
          intro aV20 cV20 V20 BOV20 gV20 atV20
          simp only [Nat.zero_add, List.nil_append] at BOV20 atV20 ⊢
          have bV20 : w.heap.size + 2 ≤ V1.heap.size := (own_lt BLV19 _ rfl).1
          have b2V20 : V1.heap.size < V19.heap.size := (own_lt BLV19 _ rfl).2
          have XV20 : Ext w V20 := own_ext_of XV19 BLV19 gV20 (by omega)
          have PV20 := PV19.grown gV20 (fun e => by injection e with e; dsimp only at e; omega)
          have RV20 := RV19.grown gV20 (fun e => by injection e with e; dsimp only at e; omega)
          have lV20 := Nat.le_trans (lV19) gV20.size
          have wAV20 := fun k hk => (own_lt AOV19 k hk).2
          have AOV20 := own_grown2 AOV19 gV20 (fun k hk e => by injection hk with hk; have := zABV15 _ e; dsimp only at hk; omega)
          have fBAV20 : ∀ j, (Value.slice aV20 s.sh.length cV20).ownBlock = some j → ∀ i, ((.slice aV15 s.op.length cV15) : Value).ownBlock = some i → j ≠ i := by intro j hj i hi; have h1 := wAV20 i hi; have h2 := zABV15 i hi; rcases atV20 with e | e <;> (rw [hj] at e; injection e with e; (try dsimp only at e); omega)
          have xCV20 : V15.heap.size < V19.heap.size := (own_lt CLV19 _ rfl).2
          have CLV20 := own_grown2 CLV19 gV20 (fun k hk e => by injection hk with hk; injection e with e; dsimp only at hk e; omega)
          have zBCV20 : ∀ k, (Value.slice aV20 s.sh.length cV20).ownBlock = some k → k ≠ V15.heap.size := by intro k hk; rcases atV20 with e | e <;> (rw [hk] at e; injection e with e; (try dsimp only at e); omega)
          clear atV20
          (try dsimp only)
          refine hK.out _ _ (by exact ⟨PV20.2.1 0 _ rfl, PV20.2.1 1 _ rfl, PV20.2.1 2 _ rfl, PV20.2.1 3 _ rfl⟩) (fun hHeld => ?_)
          clear hK K
          refine wpAnyH_ready (rs := [13]) (by kernel_rfl) (by simp) ?_
          refine AllReadyH.cons rfl (fun K hK => ?_) (AllReadyH.nil)
          refine step_append_any (.tmp 13) (.tmp 15) 22 (by rfl) (by rfl) (w.heap.size + 2) 9 i0 _ 1 16 Tryd.underlying22 hi hz0 hz1 hz2 rfl (by decide) _ _ _ (by rfl) CLV20 _ s.si.length (s.si.map Value.string) (by rfl) (Strs.ext HC.out XV20) SC.out (strs_one3 _) (by unfold maxLen; omega) (by omega) (lV20) ?_
          intro aV21 cV21 V21 COV21 gV21 atV21
          simp only [Nat.zero_add, List.nil_append] at COV21 atV21 ⊢
          have bV21 : w.heap.size + 2 ≤ V15.heap.size := (own_lt CLV20 _ rfl).1
          have b2V21 : V15.heap.size < V20.heap.size := (own_lt CLV20 _ rfl).2
          have XV21 : Ext w V21 := own_ext_of XV20 CLV20 gV21 (by omega)
          have PV21 := PV20.grown gV21 (fun e => by injection e with e; dsimp only at e; omega)
          have RV21 := RV20.grown gV21 (fun e => by injection e with e; dsimp only at e; omega)
          have lV21 := Nat.le_trans (lV20) gV21.size
          have wAV21 := fun k hk => (own_lt AOV20 k hk).2
          have AOV21 := own_grown2 AOV20 gV21 (fun k hk e => by injection hk with hk; have := zACV19 _ e; dsimp only at hk; omega)
          have fCAV21 : ∀ j, (Value.slice aV21 s.si.length cV21).ownBlock = some j → ∀ i, ((.slice aV15 s.op.length cV15) : Value).ownBlock = some i → j ≠ i := by intro j hj i hi; have h1 := wAV21 i hi; have h2 := zACV19 i hi; rcases atV21 with e | e <;> (rw [hj] at e; injection e with e; (try dsimp only at e); omega)
          have wBV21 := fun k hk => (own_lt BOV20 k hk).2
          have BOV21 := own_grown2 BOV20 gV21 (fun k hk e => by injection hk with hk; have := zBCV20 _ e; dsimp only at hk; omega)
          have fCBV21 : ∀ j, (Value.slice aV21 s.si.length cV21).ownBlock = some j → ∀ i, ((.slice aV20 s.sh.length cV20) : Value).ownBlock = some i → j ≠ i := by intro j hj i hi; have h1 := wBV21 i hi; have h2 := zBCV20 i hi; rcases atV21 with e | e <;> (rw [hj] at e; injection e with e; (try dsimp only at e); omega)
          clear atV21
          (try dsimp only)
          refine hK.out _ _ (by exact ⟨PV21.2.1 0 _ rfl, PV21.2.1 1 _ rfl, PV21.2.1 2 _ rfl, PV21.2.1 3 _ rfl⟩) (fun hHeld => ?_)
          clear hK K
          (refine wpAnyH_take (i := 14) (v := ?_) rfl (by kernel_rfl) (by kernel_rfl) (by kernel_rfl) (fun _ _ _ h => h) (Or.inl ⟨by rfl, ?_⟩) (by assumption) ?_; rotate_left; focus (intro w hSw; (try dsimp only at hSw); (try simp only [zk1, zk2, zk3]); go_simp; try with_reducible rfl)); (try simp only [zk1, zk2, zk3]); (try simp only [Act.put, zk4, zk5, zk6])
          have r0 := RV21.2.1 0 _ rfl
          have r1 := RV21.2.1 1 _ rfl
          have r2 := RV21.2.1 2 _ rfl
          have r3 := RV21.2.1 3 _ rfl
          have f0 := RV21.2.2 0
          have f1 := RV21.2.2 1
          have f2 := RV21.2.2 2
          have f3 := RV21.2.2 3
          have RR := ((((RV21.set 0 (.int .i64 s.at_) (by simp)).set 1 ((.slice aV15 s.op.length cV15)) (by simp)).set 2 ((.slice aV20 s.sh.length cV20)) (by simp)).set 3 ((.slice aV21 s.si.length cV21)) (by simp))
          have PP := ((((PV21.far (c := w.heap.size + 1) (by omega) 0 (.int .i64 s.at_)).far (c := w.heap.size + 1) (by omega) 1 ((.slice aV15 s.op.length cV15))).far (c := w.heap.size + 1) (by omega) 2 ((.slice aV20 s.sh.length cV20))).far (c := w.heap.size + 1) (by omega) 3 ((.slice aV21 s.si.length cV21)))
          have QA := Lib.hid (own_below (own_below (own_below (own_below AOV21 (p := ⟨w.heap.size + 1, 0, none⟩) (u := .int .i64 s.at_) (by dsimp only; omega)) (p := ⟨w.heap.size + 1, 1, none⟩) (u := (.slice aV15 s.op.length cV15)) (by dsimp only; omega)) (p := ⟨w.heap.size + 1, 2, none⟩) (u := (.slice aV20 s.sh.length cV20)) (by dsimp only; omega)) (p := ⟨w.heap.size + 1, 3, none⟩) (u := (.slice aV21 s.si.length cV21)) (by dsimp only; omega))
          have QB := Lib.hid (own_below (own_below (own_below (own_below BOV21 (p := ⟨w.heap.size + 1, 0, none⟩) (u := .int .i64 s.at_) (by dsimp only; omega)) (p := ⟨w.heap.size + 1, 1, none⟩) (u := (.slice aV15 s.op.length cV15)) (by dsimp only; omega)) (p := ⟨w.heap.size + 1, 2, none⟩) (u := (.slice aV20 s.sh.length cV20)) (by dsimp only; omega)) (p := ⟨w.heap.size + 1, 3, none⟩) (u := (.slice aV21 s.si.length cV21)) (by dsimp only; omega))
          have QC := Lib.hid (own_below (own_below (own_below (own_below COV21 (p := ⟨w.heap.size + 1, 0, none⟩) (u := .int .i64 s.at_) (by dsimp only; omega)) (p := ⟨w.heap.size + 1, 1, none⟩) (u := (.slice aV15 s.op.length cV15)) (by dsimp only; omega)) (p := ⟨w.heap.size + 1, 2, none⟩) (u := (.slice aV20 s.sh.length cV20)) (by dsimp only; omega)) (p := ⟨w.heap.size + 1, 3, none⟩) (u := (.slice aV21 s.si.length cV21)) (by dsimp only; omega))
          have XF : Ext w ((((V21.setCell ⟨w.heap.size + 1, 0, none⟩ (.int .i64 s.at_)).setCell ⟨w.heap.size + 1, 1, none⟩ ((.slice aV15 s.op.length cV15))).setCell ⟨w.heap.size + 1, 2, none⟩ ((.slice aV20 s.sh.length cV20))).setCell ⟨w.heap.size + 1, 3, none⟩ ((.slice aV21 s.si.length cV21))) := ((((XV21.setCell (p := ⟨w.heap.size + 1, 0, none⟩) (by dsimp only; omega) (.int .i64 s.at_)).setCell (p := ⟨w.heap.size + 1, 1, none⟩) (by dsimp only; omega) ((.slice aV15 s.op.length cV15))).setCell (p := ⟨w.heap.size + 1, 2, none⟩) (by dsimp only; omega) ((.slice aV20 s.sh.length cV20))).setCell (p := ⟨w.heap.size + 1, 3, none⟩) (by dsimp only; omega) ((.slice aV21 s.si.length cV21)))
          (refine wpAnyH_ready (rs := [15]) (by kernel_rfl) (by simp) ?_; refine AllReadyH.cons rfl (fun K hK => ?_) AllReadyH.nil; (try simp only [zk1, zk2, zk3]))
          go_simp
          generalize (((V21.setCell ⟨w.heap.size + 1, 0, none⟩ (.int .i64 s.at_)).setCell ⟨w.heap.size + 1, 1, none⟩ ((.slice aV15 s.op.length cV15))).setCell ⟨w.heap.size + 1, 2, none⟩ ((.slice aV20 s.sh.length cV20))).setCell ⟨w.heap.size + 1, 3, none⟩ ((.slice aV21 s.si.length cV21)) = WF at *
          (try dsimp only)
          refine hK.out _ _ (by exact ⟨PP.2.1 0 _ rfl, PP.2.1 1 _ rfl, PP.2.1 2 _ rfl, PP.2.1 3 _ rfl⟩) (fun hHeld => ?_)
          clear hK K
          refine wpAnyH_done (by kernel_rfl) ?_ _
          have k0 := RR.2.1 0 _ rfl
          have k1 := RR.2.1 1 _ rfl
          have k2 := RR.2.1 2 _ rfl
          have k3 := RR.2.1 3 _ rfl
          go_wp2
          refine bodyPost_ret (v := .agg #[.int .i64 s.at_, (.slice aV15 s.op.length cV15), (.slice aV20 s.sh.length cV20), (.slice aV21 s.si.length cV21)]) (by simp [results, Tryd.results130, go_sem, k0, k1, k2, k3]) rfl ⟨_, _, _, _, _, _, rfl, ⟨own_mono QA.out (by omega), own_mono QB.out (by omega), own_mono QC.out (by omega), (fun k hk e => fBAV20 k e k hk rfl), (fun k hk e => fCAV21 k e k hk rfl), (fun k hk e => fCBV21 k e k hk rfl)⟩, XF⟩
      · (try simp only [zk1, zk2, zk3])
        go_simp
        have eV22 : Ext V14 (V14.alloc (Obj.cells #[] 9)) := (Ext.refl _).alloc _
        have CLV22 := World.ownsRow_lit (base := w.heap.size + 2) (e := 9) (size := 1) V14 #[] 0 (lV14) (Nat.zero_le _) rfl
        have XV22 := XV14.trans eV22
        have PV22 := PV14.ext eV22
        have RV22 := RV14.ext eV22
        have lV22 := Nat.le_trans (lV14) eV22.size
        have ALV22 := own_ext ALV14 eV22
        have yACV22 : V0.heap.size < V14.heap.size := (own_lt ALV14 _ rfl).2
        have BLV22 := own_ext BLV14 eV22
        have yBCV22 : V1.heap.size < V14.heap.size := (own_lt BLV14 _ rfl).2
        generalize V14.alloc (Obj.cells #[] 9) = V22 at *
        (try dsimp only)
        refine hK.out _ _ (by exact ⟨PV22.2.1 0 _ rfl, PV22.2.1 1 _ rfl, PV22.2.1 2 _ rfl, PV22.2.1 3 _ rfl⟩) (fun hHeld => ?_)
        clear hK K
        refine wpAnyH_ready (rs := [5]) (by kernel_rfl) (by simp) ?_
        refine AllReadyH.cons rfl (fun K hK => ?_) (AllReadyH.nil)
        refine step_append_any (.tmp 5) (.tmp 7) 22 (by rfl) (by rfl) (w.heap.size + 2) 9 i0 _ 1 16 Tryd.underlying22 hi hz0 hz1 hz2 rfl (by decide) _ _ _ (by rfl) ALV22 _ s.op.length (s.op.map Value.string) (by rfl) (Strs.ext HA.out XV22) SA.out (strs_one3 _) (by unfold maxLen; omega) (by omega) (lV22) ?_
        intro aV23 cV23 V23 AOV23 gV23 atV23
        simp only [Nat.zero_add, List.nil_append] at AOV23 atV23 ⊢
        have bV23 : w.heap.size + 2 ≤ V0.heap.size := (own_lt ALV22 _ rfl).1
        have b2V23 : V0.heap.size < V22.heap.size := (own_lt ALV22 _ rfl).2
        have XV23 : Ext w V23 := own_ext_of XV22 ALV22 gV23 (by omega)
        have PV23 := PV22.grown gV23 (fun e => by injection e with e; dsimp only at e; omega)
        have RV23 := RV22.grown gV23 (fun e => by injection e with e; dsimp only at e; omega)
        have lV23 := Nat.le_trans (lV22) gV23.size
        have xBV23 : V1.heap.size < V22.heap.size := (own_lt BLV22 _ rfl).2
        have BLV23 := own_grown2 BLV22 gV23 (fun k hk e => by injection hk with hk; injection e with e; dsimp only at hk e; omega)
        have zABV23 : ∀ k, (Value.slice aV23 s.op.length cV23).ownBlock = some k → k ≠ V1.heap.size := by intro k hk; rcases atV23 with e | e <;> (rw [hk] at e; injection e with e; (try dsimp only at e); omega)
        have xCV23 : V14.heap.size < V22.heap.size := (own_lt CLV22 _ rfl).2
        have CLV23 := own_grown2 CLV22 gV23 (fun k hk e => by injection hk with hk; injection e with e; dsimp only at hk e; omega)
        have zACV23 : ∀ k, (Value.slice aV23 s.op.length cV23).ownBlock = some k → k ≠ V14.heap.size := by intro k hk; rcases atV23 with e | e <;> (rw [hk] at e; injection e with e; (try dsimp only at e); omega)
        clear atV23
        (try dsimp only)
        refine hK.out _ _ (by exact ⟨PV23.2.1 0 _ rfl, PV23.2.1 1 _ rfl, PV23.2.1 2 _ rfl, PV23.2.1 3 _ rfl⟩) (fun hHeld => ?_)
        clear hK K
        refine wpAnyH_ready (rs := [9]) (by kernel_rfl) (by simp) ?_
        refine AllReadyH.cons rfl (fun K hK => ?_) (AllReadyH.nil)
        refine step_append_any (.tmp 9) (.tmp 11) 22 (by rfl) (by rfl) (w.heap.size + 2) 9 i0 _ 1 16 Tryd.underlying22 hi hz0 hz1 hz2 rfl (by decide) _ _ _ (by rfl) BLV23 _ s.sh.length (s.sh.map Value.string) (by rfl) (Strs.ext HB.out XV23) SB.out (strs_one3 _) (by unfold maxLen; omega) (by omega) (lV23) ?_
        intro aV24 cV24 V24 BOV24 gV24 atV24
        simp only [Nat.zero_add, List.nil_append] at BOV24 atV24 ⊢
        have bV24 : w.heap.size + 2 ≤ V1.heap.size := (own_lt BLV23 _ rfl).1
        have b2V24 : V1.heap.size < V23.heap.size := (own_lt BLV23 _ rfl).2
        have XV24 : Ext w V24 := own_ext_of XV23 BLV23 gV24 (by omega)
        have PV24 := PV23.grown gV24 (fun e => by injection e with e; dsimp only at e; omega)
        have RV24 := RV23.grown gV24 (fun e => by injection e with e; dsimp only at e; omega)
        have lV24 := Nat.le_trans (lV23) gV24.size
        have wAV24 := fun k hk => (own_lt AOV23 k hk).2
        have AOV24 := own_grown2 AOV23 gV24 (fun k hk e => by injection hk with hk; have := zABV23 _ e; dsimp only at hk; omega)
        have fBAV24 : ∀ j, (Value.slice aV24 s.sh.length cV24).ownBlock = some j → ∀ i, ((.slice aV23 s.op.length cV23) : Value).ownBlock = some i → j ≠ i := by intro j hj i hi; have h1 := wAV24 i hi; have h2 := zABV23 i hi; rcases atV24 with e | e <;> (rw [hj] at e; injection e with e; (try dsimp only at e); omega)
        have xCV24 : V14.heap.size < V23.heap.size := (own_lt CLV23 _ rfl).2
        have CLV24 := own_grown2 CLV23 gV24 (fun k hk e => by injection hk with hk; injection e with e; dsimp only at hk e; omega)
        have zBCV24 : ∀ k, (Value.slice aV24 s.sh.length cV24).ownBlock = some k → k ≠ V14.heap.size := by intro k hk; rcases atV24 with e | e <;> (rw [hk] at e; injection e with e; (try dsimp only at e); omega)
        clear atV24
        (try dsimp only)
        refine hK.out _ _ (by exact ⟨PV24.2.1 0 _ rfl, PV24.2.1 1 _ rfl, PV24.2.1 2 _ rfl, PV24.2.1 3 _ rfl⟩) (fun hHeld => ?_)
        clear hK K
        refine wpAnyH_ready (rs := [13]) (by kernel_rfl) (by simp) ?_
        refine AllReadyH.cons rfl (fun K hK => ?_) (AllReadyH.nil)
        refine step_append_any (.tmp 13) (.tmp 15) 22 (by rfl) (by rfl) (w.heap.size + 2) 9 i0 _ 1 16 Tryd.underlying22 hi hz0 hz1 hz2 rfl (by decide) _ _ _ (by rfl) CLV24 _ s.si.length (s.si.map Value.string) (by rfl) (Strs.ext HC.out XV24) SC.out (strs_one3 _) (by unfold maxLen; omega) (by omega) (lV24) ?_
        intro aV25 cV25 V25 COV25 gV25 atV25
        simp only [Nat.zero_add, List.nil_append] at COV25 atV25 ⊢
        have bV25 : w.heap.size + 2 ≤ V14.heap.size := (own_lt CLV24 _ rfl).1
        have b2V25 : V14.heap.size < V24.heap.size := (own_lt CLV24 _ rfl).2
        have XV25 : Ext w V25 := own_ext_of XV24 CLV24 gV25 (by omega)
        have PV25 := PV24.grown gV25 (fun e => by injection e with e; dsimp only at e; omega)
        have RV25 := RV24.grown gV25 (fun e => by injection e with e; dsimp only at e; omega)
        have lV25 := Nat.le_trans (lV24) gV25.size
        have wAV25 := fun k hk => (own_lt AOV24 k hk).2
        have AOV25 := own_grown2 AOV24 gV25 (fun k hk e => by injection hk with hk; have := zACV23 _ e; dsimp only at hk; omega)
        have fCAV25 : ∀ j, (Value.slice aV25 s.si.length cV25).ownBlock = some j → ∀ i, ((.slice aV23 s.op.length cV23) : Value).ownBlock = some i → j ≠ i := by intro j hj i hi; have h1 := wAV25 i hi; have h2 := zACV23 i hi; rcases atV25 with e | e <;> (rw [hj] at e; injection e with e; (try dsimp only at e); omega)
        have wBV25 := fun k hk => (own_lt BOV24 k hk).2
        have BOV25 := own_grown2 BOV24 gV25 (fun k hk e => by injection hk with hk; have := zBCV24 _ e; dsimp only at hk; omega)
        have fCBV25 : ∀ j, (Value.slice aV25 s.si.length cV25).ownBlock = some j → ∀ i, ((.slice aV24 s.sh.length cV24) : Value).ownBlock = some i → j ≠ i := by intro j hj i hi; have h1 := wBV25 i hi; have h2 := zBCV24 i hi; rcases atV25 with e | e <;> (rw [hj] at e; injection e with e; (try dsimp only at e); omega)
        clear atV25
        (try dsimp only)
        refine hK.out _ _ (by exact ⟨PV25.2.1 0 _ rfl, PV25.2.1 1 _ rfl, PV25.2.1 2 _ rfl, PV25.2.1 3 _ rfl⟩) (fun hHeld => ?_)
        clear hK K
        (refine wpAnyH_take (i := 14) (v := ?_) rfl (by kernel_rfl) (by kernel_rfl) (by kernel_rfl) (fun _ _ _ h => h) (Or.inl ⟨by rfl, ?_⟩) (by assumption) ?_; rotate_left; focus (intro w hSw; (try dsimp only at hSw); (try simp only [zk1, zk2, zk3]); go_simp; try with_reducible rfl)); (try simp only [zk1, zk2, zk3]); (try simp only [Act.put, zk4, zk5, zk6])
        have r0 := RV25.2.1 0 _ rfl
        have r1 := RV25.2.1 1 _ rfl
        have r2 := RV25.2.1 2 _ rfl
        have r3 := RV25.2.1 3 _ rfl
        have f0 := RV25.2.2 0
        have f1 := RV25.2.2 1
        have f2 := RV25.2.2 2
        have f3 := RV25.2.2 3
        have RR := ((((RV25.set 0 (.int .i64 s.at_) (by simp)).set 1 ((.slice aV23 s.op.length cV23)) (by simp)).set 2 ((.slice aV24 s.sh.length cV24)) (by simp)).set 3 ((.slice aV25 s.si.length cV25)) (by simp))
        have PP := ((((PV25.far (c := w.heap.size + 1) (by omega) 0 (.int .i64 s.at_)).far (c := w.heap.size + 1) (by omega) 1 ((.slice aV23 s.op.length cV23))).far (c := w.heap.size + 1) (by omega) 2 ((.slice aV24 s.sh.length cV24))).far (c := w.heap.size + 1) (by omega) 3 ((.slice aV25 s.si.length cV25)))
        have QA := Lib.hid (own_below (own_below (own_below (own_below AOV25 (p := ⟨w.heap.size + 1, 0, none⟩) (u := .int .i64 s.at_) (by dsimp only; omega)) (p := ⟨w.heap.size + 1, 1, none⟩) (u := (.slice aV23 s.op.length cV23)) (by dsimp only; omega)) (p := ⟨w.heap.size + 1, 2, none⟩) (u := (.slice aV24 s.sh.length cV24)) (by dsimp only; omega)) (p := ⟨w.heap.size + 1, 3, none⟩) (u := (.slice aV25 s.si.length cV25)) (by dsimp only; omega))
        have QB := Lib.hid (own_below (own_below (own_below (own_below BOV25 (p := ⟨w.heap.size + 1, 0, none⟩) (u := .int .i64 s.at_) (by dsimp only; omega)) (p := ⟨w.heap.size + 1, 1, none⟩) (u := (.slice aV23 s.op.length cV23)) (by dsimp only; omega)) (p := ⟨w.heap.size + 1, 2, none⟩) (u := (.slice aV24 s.sh.length cV24)) (by dsimp only; omega)) (p := ⟨w.heap.size + 1, 3, none⟩) (u := (.slice aV25 s.si.length cV25)) (by dsimp only; omega))
        have QC := Lib.hid (own_below (own_below (own_below (own_below COV25 (p := ⟨w.heap.size + 1, 0, none⟩) (u := .int .i64 s.at_) (by dsimp only; omega)) (p := ⟨w.heap.size + 1, 1, none⟩) (u := (.slice aV23 s.op.length cV23)) (by dsimp only; omega)) (p := ⟨w.heap.size + 1, 2, none⟩) (u := (.slice aV24 s.sh.length cV24)) (by dsimp only; omega)) (p := ⟨w.heap.size + 1, 3, none⟩) (u := (.slice aV25 s.si.length cV25)) (by dsimp only; omega))
        have XF : Ext w ((((V25.setCell ⟨w.heap.size + 1, 0, none⟩ (.int .i64 s.at_)).setCell ⟨w.heap.size + 1, 1, none⟩ ((.slice aV23 s.op.length cV23))).setCell ⟨w.heap.size + 1, 2, none⟩ ((.slice aV24 s.sh.length cV24))).setCell ⟨w.heap.size + 1, 3, none⟩ ((.slice aV25 s.si.length cV25))) := ((((XV25.setCell (p := ⟨w.heap.size + 1, 0, none⟩) (by dsimp only; omega) (.int .i64 s.at_)).setCell (p := ⟨w.heap.size + 1, 1, none⟩) (by dsimp only; omega) ((.slice aV23 s.op.length cV23))).setCell (p := ⟨w.heap.size + 1, 2, none⟩) (by dsimp only; omega) ((.slice aV24 s.sh.length cV24))).setCell (p := ⟨w.heap.size + 1, 3, none⟩) (by dsimp only; omega) ((.slice aV25 s.si.length cV25)))
        (refine wpAnyH_ready (rs := [15]) (by kernel_rfl) (by simp) ?_; refine AllReadyH.cons rfl (fun K hK => ?_) AllReadyH.nil; (try simp only [zk1, zk2, zk3]))
        go_simp
        generalize (((V25.setCell ⟨w.heap.size + 1, 0, none⟩ (.int .i64 s.at_)).setCell ⟨w.heap.size + 1, 1, none⟩ ((.slice aV23 s.op.length cV23))).setCell ⟨w.heap.size + 1, 2, none⟩ ((.slice aV24 s.sh.length cV24))).setCell ⟨w.heap.size + 1, 3, none⟩ ((.slice aV25 s.si.length cV25)) = WF at *
        (try dsimp only)
        refine hK.out _ _ (by exact ⟨PP.2.1 0 _ rfl, PP.2.1 1 _ rfl, PP.2.1 2 _ rfl, PP.2.1 3 _ rfl⟩) (fun hHeld => ?_)
        clear hK K
        refine wpAnyH_done (by kernel_rfl) ?_ _
        have k0 := RR.2.1 0 _ rfl
        have k1 := RR.2.1 1 _ rfl
        have k2 := RR.2.1 2 _ rfl
        have k3 := RR.2.1 3 _ rfl
        go_wp2
        refine bodyPost_ret (v := .agg #[.int .i64 s.at_, (.slice aV23 s.op.length cV23), (.slice aV24 s.sh.length cV24), (.slice aV25 s.si.length cV25)]) (by simp [results, Tryd.results130, go_sem, k0, k1, k2, k3]) rfl ⟨_, _, _, _, _, _, rfl, ⟨own_mono QA.out (by omega), own_mono QB.out (by omega), own_mono QC.out (by omega), (fun k hk e => fBAV24 k e k hk rfl), (fun k hk e => fCAV25 k e k hk rfl), (fun k hk e => fCBV25 k e k hk rfl)⟩, XF⟩
    · (try simp only [zk1, zk2, zk3])
      go_simp
      have eV26 : Ext V1 (V1.alloc (Obj.cells #[] 9)) := (Ext.refl _).alloc _
      have CLV26 := World.ownsRow_lit (base := w.heap.size + 2) (e := 9) (size := 1) V1 #[] 0 (lV1) (Nat.zero_le _) rfl
      have XV26 := XV1.trans eV26
      have PV26 := PV1.ext eV26
      have RV26 := RV1.ext eV26
      have lV26 := Nat.le_trans (lV1) eV26.size
      have ALV26 := own_ext ALV1 eV26
      have yACV26 : V0.heap.size < V1.heap.size := (own_lt ALV1 _ rfl).2
      generalize V1.alloc (Obj.cells #[] 9) = V26 at *
      (try dsimp only)
      refine hK.out _ _ (by exact ⟨PV26.2.1 0 _ rfl, PV26.2.1 1 _ rfl, PV26.2.1 2 _ rfl, PV26.2.1 3 _ rfl⟩) (fun hHeld => ?_)
      clear hK K
      refine wpAnyH_ready (rs := [5, 6]) (by kernel_rfl) (by simp) ?_
      refine AllReadyH.cons rfl (fun K hK => ?_) (AllReadyH.cons rfl (fun K hK => ?_) (AllReadyH.nil))
      · refine step_append_any (.tmp 5) (.tmp 7) 22 (by rfl) (by rfl) (w.heap.size + 2) 9 i0 _ 1 16 Tryd.underlying22 hi hz0 hz1 hz2 rfl (by decide) _ _ _ (by rfl) ALV26 _ s.op.length (s.op.map Value.string) (by rfl) (Strs.ext HA.out XV26) SA.out (strs_one3 _) (by unfold maxLen; omega) (by omega) (lV26) ?_
        intro aV27 cV27 V27 AOV27 gV27 atV27
        simp only [Nat.zero_add, List.nil_append] at AOV27 atV27 ⊢
        have bV27 : w.heap.size + 2 ≤ V0.heap.size := (own_lt ALV26 _ rfl).1
        have b2V27 : V0.heap.size < V26.heap.size := (own_lt ALV26 _ rfl).2
        have XV27 : Ext w V27 := own_ext_of XV26 ALV26 gV27 (by omega)
        have PV27 := PV26.grown gV27 (fun e => by injection e with e; dsimp only at e; omega)
        have RV27 := RV26.grown gV27 (fun e => by injection e with e; dsimp only at e; omega)
        have lV27 := Nat.le_trans (lV26) gV27.size
        have xCV27 : V1.heap.size < V26.heap.size := (own_lt CLV26 _ rfl).2
        have CLV27 := own_grown2 CLV26 gV27 (fun k hk e => by injection hk with hk; injection e with e; dsimp only at hk e; omega)
        have zACV27 : ∀ k, (Value.slice aV27 s.op.length cV27).ownBlock = some k → k ≠ V1.heap.size := by intro k hk; rcases atV27 with e | e <;> (rw [hk] at e; injection e with e; (try dsimp only at e); omega)
        clear atV27
        (try dsimp only)
        refine hK.out _ _ (by exact ⟨PV27.2.1 0 _ rfl, PV27.2.1 1 _ rfl, PV27.2.1 2 _ rfl, PV27.2.1 3 _ rfl⟩) (fun hHeld => ?_)
        clear hK K
        refine wpAnyH_ready (rs := [6]) (by kernel_rfl) (by simp) ?_
        refine AllReadyH.cons rfl (fun K hK => ?_) (AllReadyH.nil)
        (try simp only [zk1, zk2, zk3])
        go_simp
        have eV28 : Ext V27 (V27.alloc (Obj.cells #[] 9)) := (Ext.refl _).alloc _
        have BLV28 := World.ownsRow_lit (base := w.heap.size + 2) (e := 9) (size := 1) V27 #[] 0 (lV27) (Nat.zero_le _) rfl
        have XV28 := XV27.trans eV28
        have PV28 := PV27.ext eV28
        have RV28 := RV27.ext eV28
        have lV28 := Nat.le_trans (lV27) eV28.size
        have AOV28 := own_ext AOV27 eV28
        have zABV28 := fun k hk => (own_lt AOV27 k hk).2
        have CLV28 := own_ext CLV27 eV28
        have yCBV28 : V1.heap.size < V27.heap.size := (own_lt CLV27 _ rfl).2
        generalize V27.alloc (Obj.cells #[] 9) = V28 at *
        (try dsimp only)
        refine hK.out _ _ (by exact ⟨PV28.2.1 0 _ rfl, PV28.2.1 1 _ rfl, PV28.2.1 2 _ rfl, PV28.2.1 3 _ rfl⟩) (fun hHeld => ?_)
        clear hK K
        refine wpAnyH_ready (rs := [9]) (by kernel_rfl) (by simp) ?_
        refine AllReadyH.cons rfl (fun K hK => ?_) (AllReadyH.nil)
        refine step_append_any (.tmp 9) (.tmp 11) 22 (by rfl) (by rfl) (w.heap.size + 2) 9 i0 _ 1 16 Tryd.underlying22 hi hz0 hz1 hz2 rfl (by decide) _ _ _ (by rfl) BLV28 _ s.sh.length (s.sh.map Value.string) (by rfl) (Strs.ext HB.out XV28) SB.out (strs_one3 _) (by unfold maxLen; omega) (by omega) (lV28) ?_
        intro aV29 cV29 V29 BOV29 gV29 atV29
        simp only [Nat.zero_add, List.nil_append] at BOV29 atV29 ⊢
        have bV29 : w.heap.size + 2 ≤ V27.heap.size := (own_lt BLV28 _ rfl).1
        have b2V29 : V27.heap.size < V28.heap.size := (own_lt BLV28 _ rfl).2
        have XV29 : Ext w V29 := own_ext_of XV28 BLV28 gV29 (by omega)
        have PV29 := PV28.grown gV29 (fun e => by injection e with e; dsimp only at e; omega)
        have RV29 := RV28.grown gV29 (fun e => by injection e with e; dsimp only at e; omega)
        have lV29 := Nat.le_trans (lV28) gV29.size
        have wAV29 := fun k hk => (own_lt AOV28 k hk).2
        have AOV29 := own_grown2 AOV28 gV29 (fun k hk e => by injection hk with hk; have := zABV28 _ e; dsimp only at hk; omega)
        have fBAV29 : ∀ j, (Value.slice aV29 s.sh.length cV29).ownBlock = some j → ∀ i, ((.slice aV27 s.op.length cV27) : Value).ownBlock = some i → j ≠ i := by intro j hj i hi; have h1 := wAV29 i hi; have h2 := zABV28 i hi; rcases atV29 with e | e <;> (rw [hj] at e; injection e with e; (try dsimp only at e); omega)
        have xCV29 : V1.heap.size < V28.heap.size := (own_lt CLV28 _ rfl).2
        have CLV29 := own_grown2 CLV28 gV29 (fun k hk e => by injection hk with hk; injection e with e; dsimp only at hk e; omega)
        have zBCV29 : ∀ k, (Value.slice aV29 s.sh.length cV29).ownBlock = some k → k ≠ V1.heap.size := by intro k hk; rcases atV29 with e | e <;> (rw [hk] at e; injection e with e; (try dsimp only at e); omega)
        clear atV29
        (try dsimp only)
        refine hK.out _ _ (by exact ⟨PV29.2.1 0 _ rfl, PV29.2.1 1 _ rfl, PV29.2.1 2 _ rfl, PV29.2.1 3 _ rfl⟩) (fun hHeld => ?_)
        clear hK K
        refine wpAnyH_ready (rs := [13]) (by kernel_rfl) (by simp) ?_
        refine AllReadyH.cons rfl (fun K hK => ?_) (AllReadyH.nil)
        refine step_append_any (.tmp 13) (.tmp 15) 22 (by rfl) (by rfl) (w.heap.size + 2) 9 i0 _ 1 16 Tryd.underlying22 hi hz0 hz1 hz2 rfl (by decide) _ _ _ (by rfl) CLV29 _ s.si.length (s.si.map Value.string) (by rfl) (Strs.ext HC.out XV29) SC.out (strs_one3 _) (by unfold maxLen; omega) (by omega) (lV29) ?_
        intro aV30 cV30 V30 COV30 gV30 atV30
        simp only [Nat.zero_add, List.nil_append] at COV30 atV30 ⊢
        have bV30 : w.heap.size + 2 ≤ V1.heap.size := (own_lt CLV29 _ rfl).1
        have b2V30 : V1.heap.size < V29.heap.size := (own_lt CLV29 _ rfl).2
        have XV30 : Ext w V30 := own_ext_of XV29 CLV29 gV30 (by omega)
        have PV30 := PV29.grown gV30 (fun e => by injection e with e; dsimp only at e; omega)
        have RV30 := RV29.grown gV30 (fun e => by injection e with e; dsimp only at e; omega)
        have lV30 := Nat.le_trans (lV29) gV30.size
        have wAV30 := fun k hk => (own_lt AOV29 k hk).2
        have AOV30 := own_grown2 AOV29 gV30 (fun k hk e => by injection hk with hk; have := zACV27 _ e; dsimp only at hk; omega)
        have fCAV30 : ∀ j, (Value.slice aV30 s.si.length cV30).ownBlock = some j → ∀ i, ((.slice aV27 s.op.length cV27) : Value).ownBlock = some i → j ≠ i := by intro j hj i hi; have h1 := wAV30 i hi; have h2 := zACV27 i hi; rcases atV30 with e | e <;> (rw [hj] at e; injection e with e; (try dsimp only at e); omega)
        have wBV30 := fun k hk => (own_lt BOV29 k hk).2
        have BOV30 := own_grown2 BOV29 gV30 (fun k hk e => by injection hk with hk; have := zBCV29 _ e; dsimp only at hk; omega)
        have fCBV30 : ∀ j, (Value.slice aV30 s.si.length cV30).ownBlock = some j → ∀ i, ((.slice aV29 s.sh.length cV29) : Value).ownBlock = some i → j ≠ i := by intro j hj i hi; have h1 := wBV30 i hi; have h2 := zBCV29 i hi; rcases atV30 with e | e <;> (rw [hj] at e; injection e with e; (try dsimp only at e); omega)
        clear atV30
        (try dsimp only)
        refine hK.out _ _ (by exact ⟨PV30.2.1 0 _ rfl, PV30.2.1 1 _ rfl, PV30.2.1 2 _ rfl, PV30.2.1 3 _ rfl⟩) (fun hHeld => ?_)
        clear hK K
        (refine wpAnyH_take (i := 14) (v := ?_) rfl (by kernel_rfl) (by kernel_rfl) (by kernel_rfl) (fun _ _ _ h => h) (Or.inl ⟨by rfl, ?_⟩) (by assumption) ?_; rotate_left; focus (intro w hSw; (try dsimp only at hSw); (try simp only [zk1, zk2, zk3]); go_simp; try with_reducible rfl)); (try simp only [zk1, zk2, zk3]); (try simp only [Act.put, zk4, zk5, zk6])
        have r0 := RV30.2.1 0 _ rfl
        have r1 := RV30.2.1 1 _ rfl
        have r2 := RV30.2.1 2 _ rfl
        have r3 := RV30.2.1 3 _ rfl
        have f0 := RV30.2.2 0
        have f1 := RV30.2.2 1
        have f2 := RV30.2.2 2
        have f3 := RV30.2.2 3
        have RR := ((((RV30.set 0 (.int .i64 s.at_) (by simp)).set 1 ((.slice aV27 s.op.length cV27)) (by simp)).set 2 ((.slice aV29 s.sh.length cV29)) (by simp)).set 3 ((.slice aV30 s.si.length cV30)) (by simp))
        have PP := ((((PV30.far (c := w.heap.size + 1) (by omega) 0 (.int .i64 s.at_)).far (c := w.heap.size + 1) (by omega) 1 ((.slice aV27 s.op.length cV27))).far (c := w.heap.size + 1) (by omega) 2 ((.slice aV29 s.sh.length cV29))).far (c := w.heap.size + 1) (by omega) 3 ((.slice aV30 s.si.length cV30)))
        have QA := Lib.hid (own_below (own_below (own_below (own_below AOV30 (p := ⟨w.heap.size + 1, 0, none⟩) (u := .int .i64 s.at_) (by dsimp only; omega)) (p := ⟨w.heap.size + 1, 1, none⟩) (u := (.slice aV27 s.op.length cV27)) (by dsimp only; omega)) (p := ⟨w.heap.size + 1, 2, none⟩) (u := (.slice aV29 s.sh.length cV29)) (by dsimp only; omega)) (p := ⟨w.heap.size + 1, 3, none⟩) (u := (.slice aV30 s.si.length cV30)) (by dsimp only; omega))
        have QB := Lib.hid (own_below (own_below (own_below (own_below BOV30 (p := ⟨w.heap.size + 1, 0, none⟩) (u := .int .i64 s.at_) (by dsimp only; omega)) (p := ⟨w.heap.size + 1, 1, none⟩) (u := (.slice aV27 s.op.length cV27)) (by dsimp only; omega)) (p := ⟨w.heap.size + 1, 2, none⟩) (u := (.slice aV29 s.sh.length cV29)) (by dsimp only; omega)) (p := ⟨w.heap.size + 1, 3, none⟩) (u := (.slice aV30 s.si.length cV30)) (by dsimp only; omega))
        have QC := Lib.hid (own_below (own_below (own_below (own_below COV30 (p := ⟨w.heap.size + 1, 0, none⟩) (u := .int .i64 s.at_) (by dsimp only; omega)) (p := ⟨w.heap.size + 1, 1, none⟩) (u := (.slice aV27 s.op.length cV27)) (by dsimp only; omega)) (p := ⟨w.heap.size + 1, 2, none⟩) (u := (.slice aV29 s.sh.length cV29)) (by dsimp only; omega)) (p := ⟨w.heap.size + 1, 3, none⟩) (u := (.slice aV30 s.si.length cV30)) (by dsimp only; omega))
        have XF : Ext w ((((V30.setCell ⟨w.heap.size + 1, 0, none⟩ (.int .i64 s.at_)).setCell ⟨w.heap.size + 1, 1, none⟩ ((.slice aV27 s.op.length cV27))).setCell ⟨w.heap.size + 1, 2, none⟩ ((.slice aV29 s.sh.length cV29))).setCell ⟨w.heap.size + 1, 3, none⟩ ((.slice aV30 s.si.length cV30))) := ((((XV30.setCell (p := ⟨w.heap.size + 1, 0, none⟩) (by dsimp only; omega) (.int .i64 s.at_)).setCell (p := ⟨w.heap.size + 1, 1, none⟩) (by dsimp only; omega) ((.slice aV27 s.op.length cV27))).setCell (p := ⟨w.heap.size + 1, 2, none⟩) (by dsimp only; omega) ((.slice aV29 s.sh.length cV29))).setCell (p := ⟨w.heap.size + 1, 3, none⟩) (by dsimp only; omega) ((.slice aV30 s.si.length cV30)))
        (refine wpAnyH_ready (rs := [15]) (by kernel_rfl) (by simp) ?_; refine AllReadyH.cons rfl (fun K hK => ?_) AllReadyH.nil; (try simp only [zk1, zk2, zk3]))
        go_simp
        generalize (((V30.setCell ⟨w.heap.size + 1, 0, none⟩ (.int .i64 s.at_)).setCell ⟨w.heap.size + 1, 1, none⟩ ((.slice aV27 s.op.length cV27))).setCell ⟨w.heap.size + 1, 2, none⟩ ((.slice aV29 s.sh.length cV29))).setCell ⟨w.heap.size + 1, 3, none⟩ ((.slice aV30 s.si.length cV30)) = WF at *
        (try dsimp only)
        refine hK.out _ _ (by exact ⟨PP.2.1 0 _ rfl, PP.2.1 1 _ rfl, PP.2.1 2 _ rfl, PP.2.1 3 _ rfl⟩) (fun hHeld => ?_)
        clear hK K
        refine wpAnyH_done (by kernel_rfl) ?_ _
        have k0 := RR.2.1 0 _ rfl
        have k1 := RR.2.1 1 _ rfl
        have k2 := RR.2.1 2 _ rfl
        have k3 := RR.2.1 3 _ rfl
        go_wp2
        refine bodyPost_ret (v := .agg #[.int .i64 s.at_, (.slice aV27 s.op.length cV27), (.slice aV29 s.sh.length cV29), (.slice aV30 s.si.length cV30)]) (by simp [results, Tryd.results130, go_sem, k0, k1, k2, k3]) rfl ⟨_, _, _, _, _, _, rfl, ⟨own_mono QA.out (by omega), own_mono QB.out (by omega), own_mono QC.out (by omega), (fun k hk e => fBAV29 k e k hk rfl), (fun k hk e => fCAV30 k e k hk rfl), (fun k hk e => fCBV30 k e k hk rfl)⟩, XF⟩
      · (try simp only [zk1, zk2, zk3])
        go_simp
        have eV31 : Ext V26 (V26.alloc (Obj.cells #[] 9)) := (Ext.refl _).alloc _
        have BLV31 := World.ownsRow_lit (base := w.heap.size + 2) (e := 9) (size := 1) V26 #[] 0 (lV26) (Nat.zero_le _) rfl
        have XV31 := XV26.trans eV31
        have PV31 := PV26.ext eV31
        have RV31 := RV26.ext eV31
        have lV31 := Nat.le_trans (lV26) eV31.size
        have ALV31 := own_ext ALV26 eV31
        have yABV31 : V0.heap.size < V26.heap.size := (own_lt ALV26 _ rfl).2
        have CLV31 := own_ext CLV26 eV31
        have yCBV31 : V1.heap.size < V26.heap.size := (own_lt CLV26 _ rfl).2
        generalize V26.alloc (Obj.cells #[] 9) = V31 at *
        (try dsimp only)
        refine hK.out _ _ (by exact ⟨PV31.2.1 0 _ rfl, PV31.2.1 1 _ rfl, PV31.2.1 2 _ rfl, PV31.2.1 3 _ rfl⟩) (fun hHeld => ?_)
        clear hK K
        refine wpAnyH_ready (rs := [5]) (by kernel_rfl) (by simp) ?_
        refine AllReadyH.cons rfl (fun K hK => ?_) (AllReadyH.nil)
        refine step_append_any (.tmp 5) (.tmp 7) 22 (by rfl) (by rfl) (w.heap.size + 2) 9 i0 _ 1 16 Tryd.underlying22 hi hz0 hz1 hz2 rfl (by decide) _ _ _ (by rfl) ALV31 _ s.op.length (s.op.map Value.string) (by rfl) (Strs.ext HA.out XV31) SA.out (strs_one3 _) (by unfold maxLen; omega) (by omega) (lV31) ?_
        intro aV32 cV32 V32 AOV32 gV32 atV32
        simp only [Nat.zero_add, List.nil_append] at AOV32 atV32 ⊢
        have bV32 : w.heap.size + 2 ≤ V0.heap.size := (own_lt ALV31 _ rfl).1
        have b2V32 : V0.heap.size < V31.heap.size := (own_lt ALV31 _ rfl).2
        have XV32 : Ext w V32 := own_ext_of XV31 ALV31 gV32 (by omega)
        have PV32 := PV31.grown gV32 (fun e => by injection e with e; dsimp only at e; omega)
        have RV32 := RV31.grown gV32 (fun e => by injection e with e; dsimp only at e; omega)
        have lV32 := Nat.le_trans (lV31) gV32.size
        have xBV32 : V26.heap.size < V31.heap.size := (own_lt BLV31 _ rfl).2
        have BLV32 := own_grown2 BLV31 gV32 (fun k hk e => by injection hk with hk; injection e with e; dsimp only at hk e; omega)
        have zABV32 : ∀ k, (Value.slice aV32 s.op.length cV32).ownBlock = some k → k ≠ V26.heap.size := by intro k hk; rcases atV32 with e | e <;> (rw [hk] at e; injection e with e; (try dsimp only at e); omega)
        have xCV32 : V1.heap.size < V31.heap.size := (own_lt CLV31 _ rfl).2
        have CLV32 := own_grown2 CLV31 gV32 (fun k hk e => by injection hk with hk; injection e with e; dsimp only at hk e; omega)
        have zACV32 : ∀ k, (Value.slice aV32 s.op.length cV32).ownBlock = some k → k ≠ V1.heap.size := by intro k hk; rcases atV32 with e | e <;> (rw [hk] at e; injection e with e; (try dsimp only at e); omega)
        clear atV32
        (try dsimp only)
        refine hK.out _ _ (by exact ⟨PV32.2.1 0 _ rfl, PV32.2.1 1 _ rfl, PV32.2.1 2 _ rfl, PV32.2.1 3 _ rfl⟩) (fun hHeld => ?_)
        clear hK K
        refine wpAnyH_ready (rs := [9]) (by kernel_rfl) (by simp) ?_
        refine AllReadyH.cons rfl (fun K hK => ?_) (AllReadyH.nil)
        refine step_append_any (.tmp 9) (.tmp 11) 22 (by rfl) (by rfl) (w.heap.size + 2) 9 i0 _ 1 16 Tryd.underlying22 hi hz0 hz1 hz2 rfl (by decide) _ _ _ (by rfl) BLV32 _ s.sh.length (s.sh.map Value.string) (by rfl) (Strs.ext HB.out XV32) SB.out (strs_one3 _) (by unfold maxLen; omega) (by omega) (lV32) ?_
        intro aV33 cV33 V33 BOV33 gV33 atV33
        simp only [Nat.zero_add, List.nil_append] at BOV33 atV33 ⊢
        have bV33 : w.heap.size + 2 ≤ V26.heap.size := (own_lt BLV32 _ rfl).1
        have b2V33 : V26.heap.size < V32.heap.size := (own_lt BLV32 _ rfl).2
        have XV33 : Ext w V33 := own_ext_of XV32 BLV32 gV33 (by omega)
        have PV33 := PV32.grown gV33 (fun e => by injection e with e; dsimp only at e; omega)
        have RV33 := RV32.grown gV33 (fun e => by injection e with e; dsimp only at e; omega)
        have lV33 := Nat.le_trans (lV32) gV33.size
        have wAV33 := fun k hk => (own_lt AOV32 k hk).2
        have AOV33 := own_grown2 AOV32 gV33 (fun k hk e => by injection hk with hk; have := zABV32 _ e; dsimp only at hk; omega)
        have fBAV33 : ∀ j, (Value.slice aV33 s.sh.length cV33).ownBlock = some j → ∀ i, ((.slice aV32 s.op.length cV32) : Value).ownBlock = some i → j ≠ i := by intro j hj i hi; have h1 := wAV33 i hi; have h2 := zABV32 i hi; rcases atV33 with e | e <;> (rw [hj] at e; injection e with e; (try dsimp only at e); omega)
        have xCV33 : V1.heap.size < V32.heap.size := (own_lt CLV32 _ rfl).2
        have CLV33 := own_grown2 CLV32 gV33 (fun k hk e => by injection hk with hk; injection e with e; dsimp only at hk e; omega)
        have zBCV33 : ∀ k, (Value.slice aV33 s.sh.length cV33).ownBlock = some k → k ≠ V1.heap.size := by intro k hk; rcases atV33 with e | e <;> (rw [hk] at e; injection e with e; (try dsimp only at e); omega)
        clear atV33
        (try dsimp only)
        refine hK.out _ _ (by exact ⟨PV33.2.1 0 _ rfl, PV33.2.1 1 _ rfl, PV33.2.1 2 _ rfl, PV33.2.1 3 _ rfl⟩) (fun hHeld => ?_)
        clear hK K
        refine wpAnyH_ready (rs := [13]) (by kernel_rfl) (by simp) ?_
        refine AllReadyH.cons rfl (fun K hK => ?_) (AllReadyH.nil)
        refine step_append_any (.tmp 13) (.tmp 15) 22 (by rfl) (by rfl) (w.heap.size + 2) 9 i0 _ 1 16 Tryd.underlying22 hi hz0 hz1 hz2 rfl (by decide) _ _ _ (by rfl) CLV33 _ s.si.length (s.si.map Value.string) (by rfl) (Strs.ext HC.out XV33) SC.out (strs_one3 _) (by unfold maxLen; omega) (by omega) (lV33) ?_
        intro aV34 cV34 V34 COV34 gV34 atV34
        simp only [Nat.zero_add, List.nil_append] at COV34 atV34 ⊢
        have bV34 : w.heap.size + 2 ≤ V1.heap.size := (own_lt CLV33 _ rfl).1
        have b2V34 : V1.heap.size < V33.heap.size := (own_lt CLV33 _ rfl).2
        have XV34 : Ext w V34 := own_ext_of XV33 CLV33 gV34 (by omega)
        have PV34 := PV33.grown gV34 (fun e => by injection e with e; dsimp only at e; omega)
        have RV34 := RV33.grown gV34 (fun e => by injection e with e; dsimp only at e; omega)
        have lV34 := Nat.le_trans (lV33) gV34.size
        have wAV34 := fun k hk => (own_lt AOV33 k hk).2
        have AOV34 := own_grown2 AOV33 gV34 (fun k hk e => by injection hk with hk; have := zACV32 _ e; dsimp only at hk; omega)
        have fCAV34 : ∀ j, (Value.slice aV34 s.si.length cV34).ownBlock = some j → ∀ i, ((.slice aV32 s.op.length cV32) : Value).ownBlock = some i → j ≠ i := by intro j hj i hi; have h1 := wAV34 i hi; have h2 := zACV32 i hi; rcases atV34 with e | e <;> (rw [hj] at e; injection e with e; (try dsimp only at e); omega)
        have wBV34 := fun k hk => (own_lt BOV33 k hk).2
        have BOV34 := own_grown2 BOV33 gV34 (fun k hk e => by injection hk with hk; have := zBCV33 _ e; dsimp only at hk; omega)
        have fCBV34 : ∀ j, (Value.slice aV34 s.si.length cV34).ownBlock = some j → ∀ i, ((.slice aV33 s.sh.length cV33) : Value).ownBlock = some i → j ≠ i := by intro j hj i hi; have h1 := wBV34 i hi; have h2 := zBCV33 i hi; rcases atV34 with e | e <;> (rw [hj] at e; injection e with e; (try dsimp only at e); omega)
        clear atV34
        (try dsimp only)
        refine hK.out _ _ (by exact ⟨PV34.2.1 0 _ rfl, PV34.2.1 1 _ rfl, PV34.2.1 2 _ rfl, PV34.2.1 3 _ rfl⟩) (fun hHeld => ?_)
        clear hK K
        (refine wpAnyH_take (i := 14) (v := ?_) rfl (by kernel_rfl) (by kernel_rfl) (by kernel_rfl) (fun _ _ _ h => h) (Or.inl ⟨by rfl, ?_⟩) (by assumption) ?_; rotate_left; focus (intro w hSw; (try dsimp only at hSw); (try simp only [zk1, zk2, zk3]); go_simp; try with_reducible rfl)); (try simp only [zk1, zk2, zk3]); (try simp only [Act.put, zk4, zk5, zk6])
        have r0 := RV34.2.1 0 _ rfl
        have r1 := RV34.2.1 1 _ rfl
        have r2 := RV34.2.1 2 _ rfl
        have r3 := RV34.2.1 3 _ rfl
        have f0 := RV34.2.2 0
        have f1 := RV34.2.2 1
        have f2 := RV34.2.2 2
        have f3 := RV34.2.2 3
        have RR := ((((RV34.set 0 (.int .i64 s.at_) (by simp)).set 1 ((.slice aV32 s.op.length cV32)) (by simp)).set 2 ((.slice aV33 s.sh.length cV33)) (by simp)).set 3 ((.slice aV34 s.si.length cV34)) (by simp))
        have PP := ((((PV34.far (c := w.heap.size + 1) (by omega) 0 (.int .i64 s.at_)).far (c := w.heap.size + 1) (by omega) 1 ((.slice aV32 s.op.length cV32))).far (c := w.heap.size + 1) (by omega) 2 ((.slice aV33 s.sh.length cV33))).far (c := w.heap.size + 1) (by omega) 3 ((.slice aV34 s.si.length cV34)))
        have QA := Lib.hid (own_below (own_below (own_below (own_below AOV34 (p := ⟨w.heap.size + 1, 0, none⟩) (u := .int .i64 s.at_) (by dsimp only; omega)) (p := ⟨w.heap.size + 1, 1, none⟩) (u := (.slice aV32 s.op.length cV32)) (by dsimp only; omega)) (p := ⟨w.heap.size + 1, 2, none⟩) (u := (.slice aV33 s.sh.length cV33)) (by dsimp only; omega)) (p := ⟨w.heap.size + 1, 3, none⟩) (u := (.slice aV34 s.si.length cV34)) (by dsimp only; omega))
        have QB := Lib.hid (own_below (own_below (own_below (own_below BOV34 (p := ⟨w.heap.size + 1, 0, none⟩) (u := .int .i64 s.at_) (by dsimp only; omega)) (p := ⟨w.heap.size + 1, 1, none⟩) (u := (.slice aV32 s.op.length cV32)) (by dsimp only; omega)) (p := ⟨w.heap.size + 1, 2, none⟩) (u := (.slice aV33 s.sh.length cV33)) (by dsimp only; omega)) (p := ⟨w.heap.size + 1, 3, none⟩) (u := (.slice aV34 s.si.length cV34)) (by dsimp only; omega))
        have QC := Lib.hid (own_below (own_below (own_below (own_below COV34 (p := ⟨w.heap.size + 1, 0, none⟩) (u := .int .i64 s.at_) (by dsimp only; omega)) (p := ⟨w.heap.size + 1, 1, none⟩) (u := (.slice aV32 s.op.length cV32)) (by dsimp only; omega)) (p := ⟨w.heap.size + 1, 2, none⟩) (u := (.slice aV33 s.sh.length cV33)) (by dsimp only; omega)) (p := ⟨w.heap.size + 1, 3, none⟩) (u := (.slice aV34 s.si.length cV34)) (by dsimp only; omega))
        have XF : Ext w ((((V34.setCell ⟨w.heap.size + 1, 0, none⟩ (.int .i64 s.at_)).setCell ⟨w.heap.size + 1, 1, none⟩ ((.slice aV32 s.op.length cV32))).setCell ⟨w.heap.size + 1, 2, none⟩ ((.slice aV33 s.sh.length cV33))).setCell ⟨w.heap.size + 1, 3, none⟩ ((.slice aV34 s.si.length cV34))) := ((((XV34.setCell (p := ⟨w.heap.size + 1, 0, none⟩) (by dsimp only; omega) (.int .i64 s.at_)).setCell (p := ⟨w.heap.size + 1, 1, none⟩) (by dsimp only; omega) ((.slice aV32 s.op.length cV32))).setCell (p := ⟨w.heap.size + 1, 2, none⟩) (by dsimp only; omega) ((.slice aV33 s.sh.length cV33))).setCell (p := ⟨w.heap.size + 1, 3, none⟩) (by dsimp only; omega) ((.slice aV34 s.si.length cV34)))
        (refine wpAnyH_ready (rs := [15]) (by kernel_rfl) (by simp) ?_; refine AllReadyH.cons rfl (fun K hK => ?_) AllReadyH.nil; (try simp only [zk1, zk2, zk3]))
        go_simp
        generalize (((V34.setCell ⟨w.heap.size + 1, 0, none⟩ (.int .i64 s.at_)).setCell ⟨w.heap.size + 1, 1, none⟩ ((.slice aV32 s.op.length cV32))).setCell ⟨w.heap.size + 1, 2, none⟩ ((.slice aV33 s.sh.length cV33))).setCell ⟨w.heap.size + 1, 3, none⟩ ((.slice aV34 s.si.length cV34)) = WF at *
        (try dsimp only)
        refine hK.out _ _ (by exact ⟨PP.2.1 0 _ rfl, PP.2.1 1 _ rfl, PP.2.1 2 _ rfl, PP.2.1 3 _ rfl⟩) (fun hHeld => ?_)
        clear hK K
        refine wpAnyH_done (by kernel_rfl) ?_ _
        have k0 := RR.2.1 0 _ rfl
        have k1 := RR.2.1 1 _ rfl
        have k2 := RR.2.1 2 _ rfl
        have k3 := RR.2.1 3 _ rfl
        go_wp2
        refine bodyPost_ret (v := .agg #[.int .i64 s.at_, (.slice aV32 s.op.length cV32), (.slice aV33 s.sh.length cV33), (.slice aV34 s.si.length cV34)]) (by simp [results, Tryd.results130, go_sem, k0, k1, k2, k3]) rfl ⟨_, _, _, _, _, _, rfl, ⟨own_mono QA.out (by omega), own_mono QB.out (by omega), own_mono QC.out (by omega), (fun k hk e => fBAV33 k e k hk rfl), (fun k hk e => fCAV34 k e k hk rfl), (fun k hk e => fCBV34 k e k hk rfl)⟩, XF⟩
  · (try simp only [zk1, zk2, zk3])
    go_simp
    have eV35 : Ext V0 (V0.alloc (Obj.cells #[] 9)) := (Ext.refl _).alloc _
    have BLV35 := World.ownsRow_lit (base := w.heap.size + 2) (e := 9) (size := 1) V0 #[] 0 (l0) (Nat.zero_le _) rfl
    have XV35 := X.trans eV35
    have PV35 := P.ext eV35
    have RV35 := R.ext eV35
    have lV35 := Nat.le_trans (l0) eV35.size
    generalize V0.alloc (Obj.cells #[] 9) = V35 at *
    (try dsimp only)
    refine hK.out _ _ (by exact ⟨PV35.2.1 0 _ rfl, PV35.2.1 1 _ rfl, PV35.2.1 2 _ rfl, PV35.2.1 3 _ rfl⟩) (fun hHeld => ?_)
    clear hK K
    refine wpAnyH_ready (rs := [2, 10]) (by kernel_rfl) (by simp) ?_
    refine AllReadyH.cons rfl (fun K hK => ?_) (AllReadyH.cons rfl (fun K hK => ?_) (AllReadyH.nil))
    · (try simp only [zk1, zk2, zk3])
      go_simp
      have eV36 : Ext V35 (V35.alloc (Obj.cells #[] 9)) := (Ext.refl _).alloc _
      have ALV36 := World.ownsRow_lit (base := w.heap.size + 2) (e := 9) (size := 1) V35 #[] 0 (lV35) (Nat.zero_le _) rfl
      have XV36 := XV35.trans eV36
      have PV36 := PV35.ext eV36
      have RV36 := RV35.ext eV36
      have lV36 := Nat.le_trans (lV35) eV36.size
      have BLV36 := own_ext BLV35 eV36
      have yBAV36 : V0.heap.size < V35.heap.size := (own_lt BLV35 _ rfl).2
      generalize V35.alloc (Obj.cells #[] 9) = V36 at *
      (try dsimp only)
      refine hK.out _ _ (by exact ⟨PV36.2.1 0 _ rfl, PV36.2.1 1 _ rfl, PV36.2.1 2 _ rfl, PV36.2.1 3 _ rfl⟩) (fun hHeld => ?_)
      clear hK K
      refine wpAnyH_ready (rs := [5, 10]) (by kernel_rfl) (by simp) ?_
      refine AllReadyH.cons rfl (fun K hK => ?_) (AllReadyH.cons rfl (fun K hK => ?_) (AllReadyH.nil))
      · refine step_append_any (.tmp 5) (.tmp 7) 22 (by rfl) (by rfl) (w.heap.size + 2) 9 i0 _ 1 16 Tryd.underlying22 hi hz0 hz1 hz2 rfl (by decide) _ _ _ (by rfl) ALV36 _ s.op.length (s.op.map Value.string) (by rfl) (Strs.ext HA.out XV36) SA.out (strs_one3 _) (by unfold maxLen; omega) (by omega) (lV36) ?_
        intro aV37 cV37 V37 AOV37 gV37 atV37
        simp only [Nat.zero_add, List.nil_append] at AOV37 atV37 ⊢
        have bV37 : w.heap.size + 2 ≤ V35.heap.size := (own_lt ALV36 _ rfl).1
        have b2V37 : V35.heap.size < V36.heap.size := (own_lt ALV36 _ rfl).2
        have XV37 : Ext w V37 := own_ext_of XV36 ALV36 gV37 (by omega)
        have PV37 := PV36.grown gV37 (fun e => by injection e with e; dsimp only at e; omega)
        have RV37 := RV36.grown gV37 (fun e => by injection e with e; dsimp only at e; omega)
        have lV37 := Nat.le_trans (lV36) gV37.size
        have xBV37 : V0.heap.size < V36.heap.size := (own_lt BLV36 _ rfl).2
        have BLV37 := own_grown2 BLV36 gV37 (fun k hk e => by injection hk with hk; injection e with e; dsimp only at hk e; omega)
        have zABV37 : ∀ k, (Value.slice aV37 s.op.length cV37).ownBlock = some k → k ≠ V0.heap.size := by intro k hk; rcases atV37 with e | e <;> (rw [hk] at e; injection e with e; (try dsimp only at e); omega)
        clear atV37
        (try dsimp only)
        refine hK.out _ _ (by exact ⟨PV37.2.1 0 _ rfl, PV37.2.1 1 _ rfl, PV37.2.1 2 _ rfl, PV37.2.1 3 _ rfl⟩) (fun hHeld => ?_)
        clear hK K
        refine wpAnyH_ready (rs := [9, 10]) (by kernel_rfl) (by simp) ?_
        refine AllReadyH.cons rfl (fun K hK => ?_) (AllReadyH.cons rfl (fun K hK => ?_) (AllReadyH.nil))
        · refine step_append_any (.tmp 9) (.tmp 11) 22 (by rfl) (by rfl) (w.heap.size + 2) 9 i0 _ 1 16 Tryd.underlying22 hi hz0 hz1 hz2 rfl (by decide) _ _ _ (by rfl) BLV37 _ s.sh.length (s.sh.map Value.string) (by rfl) (Strs.ext HB.out XV37) SB.out (strs_one3 _) (by unfold maxLen; omega) (by omega) (lV37) ?_
          intro aV38 cV38 V38 BOV38 gV38 atV38
          simp only [Nat.zero_add, List.nil_append] at BOV38 atV38 ⊢
          have bV38 : w.heap.size + 2 ≤ V0.heap.size := (own_lt BLV37 _ rfl).1
          have b2V38 : V0.heap.size < V37.heap.size := (own_lt BLV37 _ rfl).2
          have XV38 : Ext w V38 := own_ext_of XV37 BLV37 gV38 (by omega)
          have PV38 := PV37.grown gV38 (fun e => by injection e with e; dsimp only at e; omega)
          have RV38 := RV37.grown gV38 (fun e => by injection e with e; dsimp only at e; omega)
          have lV38 := Nat.le_trans (lV37) gV38.size
          have wAV38 := fun k hk => (own_lt AOV37 k hk).2
          have AOV38 := own_grown2 AOV37 gV38 (fun k hk e => by injection hk with hk; have := zABV37 _ e; dsimp only at hk; omega)
          have fBAV38 : ∀ j, (Value.slice aV38 s.sh.length cV38).ownBlock = some j → ∀ i, ((.slice aV37 s.op.length cV37) : Value).ownBlock = some i → j ≠ i := by intro j hj i hi; have h1 := wAV38 i hi; have h2 := zABV37 i hi; rcases atV38 with e | e <;> (rw [hj] at e; injection e with e; (try dsimp only at e); omega)
          clear atV38
          (try dsimp only)
          refine hK.out _ _ (by exact ⟨PV38.2.1 0 _ rfl, PV38.2.1 1 _ rfl, PV38.2.1 2 _ rfl, PV38.2.1 3 _ rfl⟩) (fun hHeld => ?_)
          clear hK K
          refine wpAnyH_ready (rs := [10]) (by kernel_rfl) (by simp) ?_
          refine AllReadyH.cons rfl (fun K hK => ?_) (AllReadyH.nil)
          (try simp only [zk1, zk2, zk3])
          go_simp
          have eV39 : Ext V38 (V38.alloc (Obj.cells #[] 9)) := (Ext.refl _).alloc _
          have CLV39 := World.ownsRow_lit (base := w.heap.size + 2) (e := 9) (size := 1) V38 #[] 0 (lV38) (Nat.zero_le _) rfl
          have XV39 := XV38.trans eV39
          have PV39 := PV38.ext eV39
          have RV39 := RV38.ext eV39
          have lV39 := Nat.le_trans (lV38) eV39.size
          have AOV39 := own_ext AOV38 eV39
          have zACV39 := fun k hk => (own_lt AOV38 k hk).2
          have BOV39 := own_ext BOV38 eV39
          have zBCV39 := fun k hk => (own_lt BOV38 k hk).2
          generalize V38.alloc (Obj.cells #[] 9) = V39 at *
          (try dsimp only)
          refine hK.out _ _ (by exact ⟨PV39.2.1 0 _ rfl, PV39.2.1 1 _ rfl, PV39.2.1 2 _ rfl, PV39.2.1 3 _ rfl⟩) (fun hHeld => ?_)
          clear hK K
          refine wpAnyH_ready (rs := [13]) (by kernel_rfl) (by simp) ?_
          refine AllReadyH.cons rfl (fun K hK => ?_) (AllReadyH.nil)
          refine step_append_any (.tmp 13) (.tmp 15) 22 (by rfl) (by rfl) (w.heap.size + 2) 9 i0 _ 1 16 Tryd.underlying22 hi hz0 hz1 hz2 rfl (by decide) _ _ _ (by rfl) CLV39 _ s.si.length (s.si.map Value.string) (by rfl) (Strs.ext HC.out XV39) SC.out (strs_one3 _) (by unfold maxLen; omega) (by omega) (lV39) ?_
          intro aV40 cV40 V40 COV40 gV40 atV40
          simp only [Nat.zero_add, List.nil_append] at COV40 atV40 ⊢
          have bV40 : w.heap.size + 2 ≤ V38.heap.size := (own_lt CLV39 _ rfl).1
          have b2V40 : V38.heap.size < V39.heap.size := (own_lt CLV39 _ rfl).2
          have XV40 : Ext w V40 := own_ext_of XV39 CLV39 gV40 (by omega)
          have PV40 := PV39.grown gV40 (fun e => by injection e with e; dsimp only at e; omega)
          have RV40 := RV39.grown gV40 (fun e => by injection e with e; dsimp only at e; omega)
          have lV40 := Nat.le_trans (lV39) gV40.size
          have wAV40 := fun k hk => (own_lt AOV39 k hk).2
          have AOV40 := own_grown2 AOV39 gV40 (fun k hk e => by injection hk with hk; have := zACV39 _ e; dsimp only at hk; omega)
          have fCAV40 : ∀ j, (Value.slice aV40 s.si.length cV40).ownBlock = some j → ∀ i, ((.slice aV37 s.op.length cV37) : Value).ownBlock = some i → j ≠ i := by intro j hj i hi; have h1 := wAV40 i hi; have h2 := zACV39 i hi; rcases atV40 with e | e <;> (rw [hj] at e; injection e with e; (try dsimp only at e); omega)
          have wBV40 := fun k hk => (own_lt BOV39 k hk).2
          have BOV40 := own_grown2 BOV39 gV40 (fun k hk e => by injection hk with hk; have := zBCV39 _ e; dsimp only at hk; omega)
          have fCBV40 : ∀ j, (Value.slice aV40 s.si.length cV40).ownBlock = some j → ∀ i, ((.slice aV38 s.sh.length cV38) : Value).ownBlock = some i → j ≠ i := by intro j hj i hi; have h1 := wBV40 i hi; have h2 := zBCV39 i hi; rcases atV40 with e | e <;> (rw [hj] at e; injection e with e; (try dsimp only at e); omega)
          clear atV40
          (try dsimp only)
          refine hK.out _ _ (by exact ⟨PV40.2.1 0 _ rfl, PV40.2.1 1 _ rfl, PV40.2.1 2 _ rfl, PV40.2.1 3 _ rfl⟩) (fun hHeld => ?_)
          clear hK K
          (refine wpAnyH_take (i := 14) (v := ?_) rfl (by kernel_rfl) (by kernel_rfl) (by kernel_rfl) (fun _ _ _ h => h) (Or.inl ⟨by rfl, ?_⟩) (by assumption) ?_; rotate_left; focus (intro w hSw; (try dsimp only at hSw); (try simp only [zk1, zk2, zk3]); go_simp; try with_reducible rfl)); (try simp only [zk1, zk2, zk3]); (try simp only [Act.put, zk4, zk5, zk6])
          have r0 := RV40.2.1 0 _ rfl
          have r1 := RV40.2.1 1 _ rfl
          have r2 := RV40.2.1 2 _ rfl
          have r3 := RV40.2.1 3 _ rfl
          have f0 := RV40.2.2 0
          have f1 := RV40.2.2 1
          have f2 := RV40.2.2 2
          have f3 := RV40.2.2 3
          have RR := ((((RV40.set 0 (.int .i64 s.at_) (by simp)).set 1 ((.slice aV37 s.op.length cV37)) (by simp)).set 2 ((.slice aV38 s.sh.length cV38)) (by simp)).set 3 ((.slice aV40 s.si.length cV40)) (by simp))
          have PP := ((((PV40.far (c := w.heap.size + 1) (by omega) 0 (.int .i64 s.at_)).far (c := w.heap.size + 1) (by omega) 1 ((.slice aV37 s.op.length cV37))).far (c := w.heap.size + 1) (by omega) 2 ((.slice aV38 s.sh.length cV38))).far (c := w.heap.size + 1) (by omega) 3 ((.slice aV40 s.si.length cV40)))
          have QA := Lib.hid (own_below (own_below (own_below (own_below AOV40 (p := ⟨w.heap.size + 1, 0, none⟩) (u := .int .i64 s.at_) (by dsimp only; omega)) (p := ⟨w.heap.size + 1, 1, none⟩) (u := (.slice aV37 s.op.length cV37)) (by dsimp only; omega)) (p := ⟨w.heap.size + 1, 2, none⟩) (u := (.slice aV38 s.sh.length cV38)) (by dsimp only; omega)) (p := ⟨w.heap.size + 1, 3, none⟩) (u := (.slice aV40 s.si.length cV40)) (by dsimp only; omega))
          have QB := Lib.hid (own_below (own_below (own_below (own_below BOV40 (p := ⟨w.heap.size + 1, 0, none⟩) (u := .int .i64 s.at_) (by dsimp only; omega)) (p := ⟨w.heap.size + 1, 1, none⟩) (u := (.slice aV37 s.op.length cV37)) (by dsimp only; omega)) (p := ⟨w.heap.size + 1, 2, none⟩) (u := (.slice aV38 s.sh.length cV38)) (by dsimp only; omega)) (p := ⟨w.heap.size + 1, 3, none⟩) (u := (.slice aV40 s.si.length cV40)) (by dsimp only; omega))
          have QC := Lib.hid (own_below (own_below (own_below (own_below COV40 (p := ⟨w.heap.size + 1, 0, none⟩) (u := .int .i64 s.at_) (by dsimp only; omega)) (p := ⟨w.heap.size + 1, 1, none⟩) (u := (.slice aV37 s.op.length cV37)) (by dsimp only; omega)) (p := ⟨w.heap.size + 1, 2, none⟩) (u := (.slice aV38 s.sh.length cV38)) (by dsimp only; omega)) (p := ⟨w.heap.size + 1, 3, none⟩) (u := (.slice aV40 s.si.length cV40)) (by dsimp only; omega))
          have XF : Ext w ((((V40.setCell ⟨w.heap.size + 1, 0, none⟩ (.int .i64 s.at_)).setCell ⟨w.heap.size + 1, 1, none⟩ ((.slice aV37 s.op.length cV37))).setCell ⟨w.heap.size + 1, 2, none⟩ ((.slice aV38 s.sh.length cV38))).setCell ⟨w.heap.size + 1, 3, none⟩ ((.slice aV40 s.si.length cV40))) := ((((XV40.setCell (p := ⟨w.heap.size + 1, 0, none⟩) (by dsimp only; omega) (.int .i64 s.at_)).setCell (p := ⟨w.heap.size + 1, 1, none⟩) (by dsimp only; omega) ((.slice aV37 s.op.length cV37))).setCell (p := ⟨w.heap.size + 1, 2, none⟩) (by dsimp only; omega) ((.slice aV38 s.sh.length cV38))).setCell (p := ⟨w.heap.size + 1, 3, none⟩) (by dsimp only; omega) ((.slice aV40 s.si.length cV40)))
          (refine wpAnyH_ready (rs := [15]) (by kernel_rfl) (by simp) ?_; refine AllReadyH.cons rfl (fun K hK => ?_) AllReadyH.nil; (try simp only [zk1, zk2, zk3]))
          go_simp
          generalize (((V40.setCell ⟨w.heap.size + 1, 0, none⟩ (.int .i64 s.at_)).setCell ⟨w.heap.size + 1, 1, none⟩ ((.slice aV37 s.op.length cV37))).setCell ⟨w.heap.size + 1, 2, none⟩ ((.slice aV38 s.sh.length cV38))).setCell ⟨w.heap.size + 1, 3, none⟩ ((.slice aV40 s.si.length cV40)) = WF at *
          (try dsimp only)
          refine hK.out _ _ (by exact ⟨PP.2.1 0 _ rfl, PP.2.1 1 _ rfl, PP.2.1 2 _ rfl, PP.2.1 3 _ rfl⟩) (fun hHeld => ?_)
          clear hK K
          refine wpAnyH_done (by kernel_rfl) ?_ _
          have k0 := RR.2.1 0 _ rfl
          have k1 := RR.2.1 1 _ rfl
          have k2 := RR.2.1 2 _ rfl
          have k3 := RR.2.1 3 _ rfl
          go_wp2
          refine bodyPost_ret (v := .agg #[.int .i64 s.at_, (.slice aV37 s.op.length cV37), (.slice aV38 s.sh.length cV38), (.slice aV40 s.si.length cV40)]) (by simp [results, Tryd.results130, go_sem, k0, k1, k2, k3]) rfl ⟨_, _, _, _, _, _, rfl, ⟨own_mono QA.out (by omega), own_mono QB.out (by omega), own_mono QC.out (by omega), (fun k hk e => fBAV38 k e k hk rfl), (fun k hk e => fCAV40 k e k hk rfl), (fun k hk e => fCBV40 k e k hk rfl)⟩, XF⟩
        · (try simp only [zk1, zk2, zk3])
          go_simp
          have eV41 : Ext V37 (V37.alloc (Obj.cells #[] 9)) := (Ext.refl _).alloc _
          have CLV41 := World.ownsRow_lit (base := w.heap.size + 2) (e := 9) (size := 1) V37 #[] 0 (lV37) (Nat.zero_le _) rfl
          have XV41 := XV37.trans eV41
          have PV41 := PV37.ext eV41
          have RV41 := RV37.ext eV41
          have lV41 := Nat.le_trans (lV37) eV41.size
          have AOV41 := own_ext AOV37 eV41
          have zACV41 := fun k hk => (own_lt AOV37 k hk).2
          have BLV41 := own_ext BLV37 eV41
          have yBCV41 : V0.heap.size < V37.heap.size := (own_lt BLV37 _ rfl).2
          generalize V37.alloc (Obj.cells #[] 9) = V41 at *
          (try dsimp only)
          refine hK.out _ _ (by exact ⟨PV41.2.1 0 _ rfl, PV41.2.1 1 _ rfl, PV41.2.1 2 _ rfl, PV41.2.1 3 _ rfl⟩) (fun hHeld => ?_)
          clear hK K
          refine wpAnyH_ready (rs := [9]) (by kernel_rfl) (by simp) ?_
          refine AllReadyH.cons rfl (fun K hK => ?_) (AllReadyH.nil)
          refine step_append_any (.tmp 9) (.tmp 11) 22 (by rfl) (by rfl) (w.heap.size + 2) 9 i0 _ 1 16 Tryd.underlying22 hi hz0 hz1 hz2 rfl (by decide) _ _ _ (by rfl) BLV41 _ s.sh.length (s.sh.map Value.string) (by rfl) (Strs.ext HB.out XV41) SB.out (strs_one3 _) (by unfold maxLen; omega) (by omega) (lV41) ?_
          intro aV42 cV42 V42 BOV42 gV42 atV42
          simp only [Nat.zero_add, List.nil_append] at BOV42 atV42 ⊢
          have bV42 : w.heap.size + 2 ≤ V0.heap.size := (own_lt BLV41 _ rfl).1
          have b2V42 : V0.heap.size < V41.heap.size := (own_lt BLV41 _ rfl).2
          have XV42 : Ext w V42 := own_ext_of XV41 BLV41 gV42 (by omega)
          have PV42 := PV41.grown gV42 (fun e => by injection e with e; dsimp only at e; omega)
          have RV42 := RV41.grown gV42 (fun e => by injection e with e; dsimp only at e; omega)
          have lV42 := Nat.le_trans (lV41) gV42.size
          have wAV42 := fun k hk => (own_lt AOV41 k hk).2
          have AOV42 := own_grown2 AOV41 gV42 (fun k hk e => by injection hk with hk; have := zABV37 _ e; dsimp only at hk; omega)
          have fBAV42 : ∀ j, (Value.slice aV42 s.sh.length cV42).ownBlock = some j → ∀ i, ((.slice aV37 s.op.length cV37) : Value).ownBlock = some i → j ≠ i := by intro j hj i hi; have h1 := wAV42 i hi; have h2 := zABV37 i hi; rcases atV42 with e | e <;> (rw [hj] at e; injection e with e; (try dsimp only at e); omega)
          have xCV42 : V37.heap.size < V41.heap.size := (own_lt CLV41 _ rfl).2
          have CLV42 := own_grown2 CLV41 gV42 (fun k hk e => by injection hk with hk; injection e with e; dsimp only at hk e; omega)
          have zBCV42 : ∀ k, (Value.slice aV42 s.sh.length cV42).ownBlock = some k → k ≠ V37.heap.size := by intro k hk; rcases atV42 with e | e <;> (rw [hk] at e; injection e with e; (try dsimp only at e); omega)
          clear atV42
          (try dsimp only)
          refine hK.out _ _ (by exact ⟨PV42.2.1 0 _ rfl, PV42.2.1 1 _ rfl, PV42.2.1 2 _ rfl, PV42.2.1 3 _ rfl⟩) (fun hHeld => ?_)
          clear hK K
          refine wpAnyH_ready (rs := [13]) (by kernel_rfl) (by simp) ?_
          refine AllReadyH.cons rfl (fun K hK => ?_) (AllReadyH.nil)
          refine step_append_any (.tmp 13) (.tmp 15) 22 (by rfl) (by rfl) (w.heap.size + 2) 9 i0 _ 1 16 Tryd.underlying22 hi hz0 hz1 hz2 rfl (by decide) _ _ _ (by rfl) CLV42 _ s.si.length (s.si.map Value.string) (by rfl) (Strs.ext HC.out XV42) SC.out (strs_one3 _) (by unfold maxLen; omega) (by omega) (lV42) ?_
          intro aV43 cV43 V43 COV43 gV43 atV43
          simp only [Nat.zero_add, List.nil_append] at COV43 atV43 ⊢
          have bV43 : w.heap.size + 2 ≤ V37.heap.size := (own_lt CLV42 _ rfl).1
          have b2V43 : V37.heap.size < V42.heap.size := (own_lt CLV42 _ rfl).2
          have XV43 : Ext w V43 := own_ext_of XV42 CLV42 gV43 (by omega)
          have PV43 := PV42.grown gV43 (fun e => by injection e with e; dsimp only at e; omega)
          have RV43 := RV42.grown gV43 (fun e => by injection e with e; dsimp only at e; omega)
          have lV43 := Nat.le_trans (lV42) gV43.size
          have wAV43 := fun k hk => (own_lt AOV42 k hk).2
          have AOV43 := own_grown2 AOV42 gV43 (fun k hk e => by injection hk with hk; have := zACV41 _ e; dsimp only at hk; omega)
          have fCAV43 : ∀ j, (Value.slice aV43 s.si.length cV43).ownBlock = some j → ∀ i, ((.slice aV37 s.op.length cV37) : Value).ownBlock = some i → j ≠ i := by intro j hj i hi; have h1 := wAV43 i hi; have h2 := zACV41 i hi; rcases atV43 with e | e <;> (rw [hj] at e; injection e with e; (try dsimp only at e); omega)
          have wBV43 := fun k hk => (own_lt BOV42 k hk).2
          have BOV43 := own_grown2 BOV42 gV43 (fun k hk e => by injection hk with hk; have := zBCV42 _ e; dsimp only at hk; omega)
          have fCBV43 : ∀ j, (Value.slice aV43 s.si.length cV43).ownBlock = some j → ∀ i, ((.slice aV42 s.sh.length cV42) : Value).ownBlock = some i → j ≠ i := by intro j hj i hi; have h1 := wBV43 i hi; have h2 := zBCV42 i hi; rcases atV43 with e | e <;> (rw [hj] at e; injection e with e; (try dsimp only at e); omega)
          clear atV43
          (try dsimp only)
          refine hK.out _ _ (by exact ⟨PV43.2.1 0 _ rfl, PV43.2.1 1 _ rfl, PV43.2.1 2 _ rfl, PV43.2.1 3 _ rfl⟩) (fun hHeld => ?_)
          clear hK K
          (refine wpAnyH_take (i := 14) (v := ?_) rfl (by kernel_rfl) (by kernel_rfl) (by kernel_rfl) (fun _ _ _ h => h) (Or.inl ⟨by rfl, ?_⟩) (by assumption) ?_; rotate_left; focus (intro w hSw; (try dsimp only at hSw); (try simp only [zk1, zk2, zk3]); go_simp; try with_reducible rfl)); (try simp only [zk1, zk2, zk3]); (try simp only [Act.put, zk4, zk5, zk6])
          have r0 := RV43.2.1 0 _ rfl
          have r1 := RV43.2.1 1 _ rfl
          have r2 := RV43.2.1 2 _ rfl
          have r3 := RV43.2.1 3 _ rfl
          have f0 := RV43.2.2 0
          have f1 := RV43.2.2 1
          have f2 := RV43.2.2 2
          have f3 := RV43.2.2 3
          have RR := ((((RV43.set 0 (.int .i64 s.at_) (by simp)).set 1 ((.slice aV37 s.op.length cV37)) (by simp)).set 2 ((.slice aV42 s.sh.length cV42)) (by simp)).set 3 ((.slice aV43 s.si.length cV43)) (by simp))
          have PP := ((((PV43.far (c := w.heap.size + 1) (by omega) 0 (.int .i64 s.at_)).far (c := w.heap.size + 1) (by omega) 1 ((.slice aV37 s.op.length cV37))).far (c := w.heap.size + 1) (by omega) 2 ((.slice aV42 s.sh.length cV42))).far (c := w.heap.size + 1) (by omega) 3 ((.slice aV43 s.si.length cV43)))
          have QA := Lib.hid (own_below (own_below (own_below (own_below AOV43 (p := ⟨w.heap.size + 1, 0, none⟩) (u := .int .i64 s.at_) (by dsimp only; omega)) (p := ⟨w.heap.size + 1, 1, none⟩) (u := (.slice aV37 s.op.length cV37)) (by dsimp only; omega)) (p := ⟨w.heap.size + 1, 2, none⟩) (u := (.slice aV42 s.sh.length cV42)) (by dsimp only; omega)) (p := ⟨w.heap.size + 1, 3, none⟩) (u := (.slice aV43 s.si.length cV43)) (by dsimp only; omega))
          have QB := Lib.hid (own_below (own_below (own_below (own_below BOV43 (p := ⟨w.heap.size + 1, 0, none⟩) (u := .int .i64 s.at_) (by dsimp only; omega)) (p := ⟨w.heap.size + 1, 1, none⟩) (u := (.slice aV37 s.op.length cV37)) (by dsimp only; omega)) (p := ⟨w.heap.size + 1, 2, none⟩) (u := (.slice aV42 s.sh.length cV42)) (by dsimp only; omega)) (p := ⟨w.heap.size + 1, 3, none⟩) (u := (.slice aV43 s.si.length cV43)) (by dsimp only; omega))
          have QC := Lib.hid (own_below (own_below (own_below (own_below COV43 (p := ⟨w.heap.size + 1, 0, none⟩) (u := .int .i64 s.at_) (by dsimp only; omega)) (p := ⟨w.heap.size + 1, 1, none⟩) (u := (.slice aV37 s.op.length cV37)) (by dsimp only; omega)) (p := ⟨w.heap.size + 1, 2, none⟩) (u := (.slice aV42 s.sh.length cV42)) (by dsimp only; omega)) (p := ⟨w.heap.size + 1, 3, none⟩) (u := (.slice aV43 s.si.length cV43)) (by dsimp only; omega))
          have XF : Ext w ((((V43.setCell ⟨w.heap.size + 1, 0, none⟩ (.int .i64 s.at_)).setCell ⟨w.heap.size + 1, 1, none⟩ ((.slice aV37 s.op.length cV37))).setCell ⟨w.heap.size + 1, 2, none⟩ ((.slice aV42 s.sh.length cV42))).setCell ⟨w.heap.size + 1, 3, none⟩ ((.slice aV43 s.si.length cV43))) := ((((XV43.setCell (p := ⟨w.heap.size + 1, 0, none⟩) (by dsimp only; omega) (.int .i64 s.at_)).setCell (p := ⟨w.heap.size + 1, 1, none⟩) (by dsimp only; omega) ((.slice aV37 s.op.length cV37))).setCell (p := ⟨w.heap.size + 1, 2, none⟩) (by dsimp only; omega) ((.slice aV42 s.sh.length cV42))).setCell (p := ⟨w.heap.size + 1, 3, none⟩) (by dsimp only; omega) ((.slice aV43 s.si.length cV43)))
          (refine wpAnyH_ready (rs := [15]) (by kernel_rfl) (by simp) ?_; refine AllReadyH.cons rfl (fun K hK => ?_) AllReadyH.nil; (try simp only [zk1, zk2, zk3]))
          go_simp
          generalize (((V43.setCell ⟨w.heap.size + 1, 0, none⟩ (.int .i64 s.at_)).setCell ⟨w.heap.size + 1, 1, none⟩ ((.slice aV37 s.op.length cV37))).setCell ⟨w.heap.size + 1, 2, none⟩ ((.slice aV42 s.sh.length cV42))).setCell ⟨w.heap.size + 1, 3, none⟩ ((.slice aV43 s.si.length cV43)) = WF at *
          (try dsimp only)
          refine hK.out _ _ (by exact ⟨PP.2.1 0 _ rfl, PP.2.1 1 _ rfl, PP.2.1 2 _ rfl, PP.2.1 3 _ rfl⟩) (fun hHeld => ?_)
          clear hK K
          refine wpAnyH_done (by kernel_rfl) ?_ _
          have k0 := RR.2.1 0 _ rfl
          have k1 := RR.2.1 1 _ rfl
          have k2 := RR.2.1 2 _ rfl
          have k3 := RR.2.1 3 _ rfl
          go_wp2
          refine bodyPost_ret (v := .agg #[.int .i64 s.at_, (.slice aV37 s.op.length cV37), (.slice aV42 s.sh.length cV42), (.slice aV43 s.si.length cV43)]) (by simp [results, Tryd.results130, go_sem, k0, k1, k2, k3]) rfl ⟨_, _, _, _, _, _, rfl, ⟨own_mono QA.out (by omega), own_mono QB.out (by omega), own_mono QC.out (by omega), (fun k hk e => fBAV42 k e k hk rfl), (fun k hk e => fCAV43 k e k hk rfl), (fun k hk e => fCBV43 k e k hk rfl)⟩, XF⟩
      · (try simp only [zk1, zk2, zk3])
        go_simp
        have eV44 : Ext V36 (V36.alloc (Obj.cells #[] 9)) := (Ext.refl _).alloc _
        have CLV44 := World.ownsRow_lit (base := w.heap.size + 2) (e := 9) (size := 1) V36 #[] 0 (lV36) (Nat.zero_le _) rfl
        have XV44 := XV36.trans eV44
        have PV44 := PV36.ext eV44
        have RV44 := RV36.ext eV44
        have lV44 := Nat.le_trans (lV36) eV44.size
        have ALV44 := own_ext ALV36 eV44
        have yACV44 : V35.heap.size < V36.heap.size := (own_lt ALV36 _ rfl).2
        have BLV44 := own_ext BLV36 eV44
        have yBCV44 : V0.heap.size < V36.heap.size := (own_lt BLV36 _ rfl).2
        generalize V36.alloc (Obj.cells #[] 9) = V44 at *
        (try dsimp only)
        refine hK.out _ _ (by exact ⟨PV44.2.1 0 _ rfl, PV44.2.1 1 _ rfl, PV44.2.1 2 _ rfl, PV44.2.1 3 _ rfl⟩) (fun hHeld => ?_)
        clear hK K
        refine wpAnyH_ready (rs := [5]) (by kernel_rfl) (by simp) ?_
        refine AllReadyH.cons rfl (fun K hK => ?_) (AllReadyH.nil)
        refine step_append_any (.tmp 5) (.tmp 7) 22 (by rfl) (by rfl) (w.heap.size + 2) 9 i0 _ 1 16 Tryd.underlying22 hi hz0 hz1 hz2 rfl (by decide) _ _ _ (by rfl) ALV44 _ s.op.length (s.op.map Value.string) (by rfl) (Strs.ext HA.out XV44) SA.out (strs_one3 _) (by unfold maxLen; omega) (by omega) (lV44) ?_
        intro aV45 cV45 V45 AOV45 gV45 atV45
        simp only [Nat.zero_add, List.nil_append] at AOV45 atV45 ⊢
        have bV45 : w.heap.size + 2 ≤ V35.heap.size := (own_lt ALV44 _ rfl).1
        have b2V45 : V35.heap.size < V44.heap.size := (own_lt ALV44 _ rfl).2
        have XV45 : Ext w V45 := own_ext_of XV44 ALV44 gV45 (by omega)
        have PV45 := PV44.grown gV45 (fun e => by injection e with e; dsimp only at e; omega)
        have RV45 := RV44.grown gV45 (fun e => by injection e with e; dsimp only at e; omega)
        have lV45 := Nat.le_trans (lV44) gV45.size
        have xBV45 : V0.heap.size < V44.heap.size := (own_lt BLV44 _ rfl).2
        have BLV45 := own_grown2 BLV44 gV45 (fun k hk e => by injection hk with hk; injection e with e; dsimp only at hk e; omega)
        have zABV45 : ∀ k, (Value.slice aV45 s.op.length cV45).ownBlock = some k → k ≠ V0.heap.size := by intro k hk; rcases atV45 with e | e <;> (rw [hk] at e; injection e with e; (try dsimp only at e); omega)
        have xCV45 : V36.heap.size < V44.heap.size := (own_lt CLV44 _ rfl).2
        have CLV45 := own_grown2 CLV44 gV45 (fun k hk e => by injection hk with hk; injection e with e; dsimp only at hk e; omega)
        have zACV45 : ∀ k, (Value.slice aV45 s.op.length cV45).ownBlock = some k → k ≠ V36.heap.size := by intro k hk; rcases atV45 with e | e <;> (rw [hk] at e; injection e with e; (try dsimp only at e); omega)
        clear atV45
        (try dsimp only)
        refine hK.out _ _ (by exact ⟨PV45.2.1 0 _ rfl, PV45.2.1 1 _ rfl, PV45.2.1 2 _ rfl, PV45.2.1 3 _ rfl⟩) (fun hHeld => ?_)
        clear hK K
        refine wpAnyH_ready (rs := [9]) (by kernel_rfl) (by simp) ?_
        refine AllReadyH.cons rfl (fun K hK => ?_) (AllReadyH.nil)
        refine step_append_any (.tmp 9) (.tmp 11) 22 (by rfl) (by rfl) (w.heap.size + 2) 9 i0 _ 1 16 Tryd.underlying22 hi hz0 hz1 hz2 rfl (by decide) _ _ _ (by rfl) BLV45 _ s.sh.length (s.sh.map Value.string) (by rfl) (Strs.ext HB.out XV45) SB.out (strs_one3 _) (by unfold maxLen; omega) (by omega) (lV45) ?_
        intro aV46 cV46 V46 BOV46 gV46 atV46
        simp only [Nat.zero_add, List.nil_append] at BOV46 atV46 ⊢
        have bV46 : w.heap.size + 2 ≤ V0.heap.size := (own_lt BLV45 _ rfl).1
        have b2V46 : V0.heap.size < V45.heap.size := (own_lt BLV45 _ rfl).2
        have XV46 : Ext w V46 := own_ext_of XV45 BLV45 gV46 (by omega)
        have PV46 := PV45.grown gV46 (fun e => by injection e with e; dsimp only at e; omega)
        have RV46 := RV45.grown gV46 (fun e => by injection e with e; dsimp only at e; omega)
        have lV46 := Nat.le_trans (lV45) gV46.size
        have wAV46 := fun k hk => (own_lt AOV45 k hk).2
        have AOV46 := own_grown2 AOV45 gV46 (fun k hk e => by injection hk with hk; have := zABV45 _ e; dsimp only at hk; omega)
        have fBAV46 : ∀ j, (Value.slice aV46 s.sh.length cV46).ownBlock = some j → ∀ i, ((.slice aV45 s.op.length cV45) : Value).ownBlock = some i → j ≠ i := by intro j hj i hi; have h1 := wAV46 i hi; have h2 := zABV45 i hi; rcases atV46 with e | e <;> (rw [hj] at e; injection e with e; (try dsimp only at e); omega)
        have xCV46 : V36.heap.size < V45.heap.size := (own_lt CLV45 _ rfl).2
        have CLV46 := own_grown2 CLV45 gV46 (fun k hk e => by injection hk with hk; injection e with e; dsimp only at hk e; omega)
        have zBCV46 : ∀ k, (Value.slice aV46 s.sh.length cV46).ownBlock = some k → k ≠ V36.heap.size := by intro k hk; rcases atV46 with e | e <;> (rw [hk] at e; injection e with e; (try dsimp only at e); omega)
        clear atV46
        (try dsimp only)
        refine hK.out _ _ (by exact ⟨PV46.2.1 0 _ rfl, PV46.2.1 1 _ rfl, PV46.2.1 2 _ rfl, PV46.2.1 3 _ rfl⟩) (fun hHeld => ?_)
        clear hK K
        refine wpAnyH_ready (rs := [13]) (by kernel_rfl) (by simp) ?_
        refine AllReadyH.cons rfl (fun K hK => ?_) (AllReadyH.nil)
        refine step_append_any (.tmp 13) (.tmp 15) 22 (by rfl) (by rfl) (w.heap.size + 2) 9 i0 _ 1 16 Tryd.underlying22 hi hz0 hz1 hz2 rfl (by decide) _ _ _ (by rfl) CLV46 _ s.si.length (s.si.map Value.string) (by rfl) (Strs.ext HC.out XV46) SC.out (strs_one3 _) (by unfold maxLen; omega) (by omega) (lV46) ?_
        intro aV47 cV47 V47 COV47 gV47 atV47
        simp only [Nat.zero_add, List.nil_append] at COV47 atV47 ⊢
        have bV47 : w.heap.size + 2 ≤ V36.heap.size := (own_lt CLV46 _ rfl).1
        have b2V47 : V36.heap.size < V46.heap.size := (own_lt CLV46 _ rfl).2
        have XV47 : Ext w V47 := own_ext_of XV46 CLV46 gV47 (by omega)
        have PV47 := PV46.grown gV47 (fun e => by injection e with e; dsimp only at e; omega)
        have RV47 := RV46.grown gV47 (fun e => by injection e with e; dsimp only at e; omega)
        have lV47 := Nat.le_trans (lV46) gV47.size
        have wAV47 := fun k hk => (own_lt AOV46 k hk).2
        have AOV47 := own_grown2 AOV46 gV47 (fun k hk e => by injection hk with hk; have := zACV45 _ e; dsimp only at hk; omega)
        have fCAV47 : ∀ j, (Value.slice aV47 s.si.length cV47).ownBlock = some j → ∀ i, ((.slice aV45 s.op.length cV45) : Value).ownBlock = some i → j ≠ i := by intro j hj i hi; have h1 := wAV47 i hi; have h2 := zACV45 i hi; rcases atV47 with e | e <;> (rw [hj] at e; injection e with e; (try dsimp only at e); omega)
        have wBV47 := fun k hk => (own_lt BOV46 k hk).2
        have BOV47 := own_grown2 BOV46 gV47 (fun k hk e => by injection hk with hk; have := zBCV46 _ e; dsimp only at hk; omega)
        have fCBV47 : ∀ j, (Value.slice aV47 s.si.length cV47).ownBlock = some j → ∀ i, ((.slice aV46 s.sh.length cV46) : Value).ownBlock = some i → j ≠ i := by intro j hj i hi; have h1 := wBV47 i hi; have h2 := zBCV46 i hi; rcases atV47 with e | e <;> (rw [hj] at e; injection e with e; (try dsimp only at e); omega)
        clear atV47
        (try dsimp only)
        refine hK.out _ _ (by exact ⟨PV47.2.1 0 _ rfl, PV47.2.1 1 _ rfl, PV47.2.1 2 _ rfl, PV47.2.1 3 _ rfl⟩) (fun hHeld => ?_)
        clear hK K
        (refine wpAnyH_take (i := 14) (v := ?_) rfl (by kernel_rfl) (by kernel_rfl) (by kernel_rfl) (fun _ _ _ h => h) (Or.inl ⟨by rfl, ?_⟩) (by assumption) ?_; rotate_left; focus (intro w hSw; (try dsimp only at hSw); (try simp only [zk1, zk2, zk3]); go_simp; try with_reducible rfl)); (try simp only [zk1, zk2, zk3]); (try simp only [Act.put, zk4, zk5, zk6])
        have r0 := RV47.2.1 0 _ rfl
        have r1 := RV47.2.1 1 _ rfl
        have r2 := RV47.2.1 2 _ rfl
        have r3 := RV47.2.1 3 _ rfl
        have f0 := RV47.2.2 0
        have f1 := RV47.2.2 1
        have f2 := RV47.2.2 2
        have f3 := RV47.2.2 3
        have RR := ((((RV47.set 0 (.int .i64 s.at_) (by simp)).set 1 ((.slice aV45 s.op.length cV45)) (by simp)).set 2 ((.slice aV46 s.sh.length cV46)) (by simp)).set 3 ((.slice aV47 s.si.length cV47)) (by simp))
        have PP := ((((PV47.far (c := w.heap.size + 1) (by omega) 0 (.int .i64 s.at_)).far (c := w.heap.size + 1) (by omega) 1 ((.slice aV45 s.op.length cV45))).far (c := w.heap.size + 1) (by omega) 2 ((.slice aV46 s.sh.length cV46))).far (c := w.heap.size + 1) (by omega) 3 ((.slice aV47 s.si.length cV47)))
        have QA := Lib.hid (own_below (own_below (own_below (own_below AOV47 (p := ⟨w.heap.size + 1, 0, none⟩) (u := .int .i64 s.at_) (by dsimp only; omega)) (p := ⟨w.heap.size + 1, 1, none⟩) (u := (.slice aV45 s.op.length cV45)) (by dsimp only; omega)) (p := ⟨w.heap.size + 1, 2, none⟩) (u := (.slice aV46 s.sh.length cV46)) (by dsimp only; omega)) (p := ⟨w.heap.size + 1, 3, none⟩) (u := (.slice aV47 s.si.length cV47)) (by dsimp only; omega))
        have QB := Lib.hid (own_below (own_below (own_below (own_below BOV47 (p := ⟨w.heap.size + 1, 0, none⟩) (u := .int .i64 s.at_) (by dsimp only; omega)) (p := ⟨w.heap.size + 1, 1, none⟩) (u := (.slice aV45 s.op.length cV45)) (by dsimp only; omega)) (p := ⟨w.heap.size + 1, 2, none⟩) (u := (.slice aV46 s.sh.length cV46)) (by dsimp only; omega)) (p := ⟨w.heap.size + 1, 3, none⟩) (u := (.slice aV47 s.si.length cV47)) (by dsimp only; omega))
        have QC := Lib.hid (own_below (own_below (own_below (own_below COV47 (p := ⟨w.heap.size + 1, 0, none⟩) (u := .int .i64 s.at_) (by dsimp only; omega)) (p := ⟨w.heap.size + 1, 1, none⟩) (u := (.slice aV45 s.op.length cV45)) (by dsimp only; omega)) (p := ⟨w.heap.size + 1, 2, none⟩) (u := (.slice aV46 s.sh.length cV46)) (by dsimp only; omega)) (p := ⟨w.heap.size + 1, 3, none⟩) (u := (.slice aV47 s.si.length cV47)) (by dsimp only; omega))
        have XF : Ext w ((((V47.setCell ⟨w.heap.size + 1, 0, none⟩ (.int .i64 s.at_)).setCell ⟨w.heap.size + 1, 1, none⟩ ((.slice aV45 s.op.length cV45))).setCell ⟨w.heap.size + 1, 2, none⟩ ((.slice aV46 s.sh.length cV46))).setCell ⟨w.heap.size + 1, 3, none⟩ ((.slice aV47 s.si.length cV47))) := ((((XV47.setCell (p := ⟨w.heap.size + 1, 0, none⟩) (by dsimp only; omega) (.int .i64 s.at_)).setCell (p := ⟨w.heap.size + 1, 1, none⟩) (by dsimp only; omega) ((.slice aV45 s.op.length cV45))).setCell (p := ⟨w.heap.size + 1, 2, none⟩) (by dsimp only; omega) ((.slice aV46 s.sh.length cV46))).setCell (p := ⟨w.heap.size + 1, 3, none⟩) (by dsimp only; omega) ((.slice aV47 s.si.length cV47)))
        (refine wpAnyH_ready (rs := [15]) (by kernel_rfl) (by simp) ?_; refine AllReadyH.cons rfl (fun K hK => ?_) AllReadyH.nil; (try simp only [zk1, zk2, zk3]))
        go_simp
        generalize (((V47.setCell ⟨w.heap.size + 1, 0, none⟩ (.int .i64 s.at_)).setCell ⟨w.heap.size + 1, 1, none⟩ ((.slice aV45 s.op.length cV45))).setCell ⟨w.heap.size + 1, 2, none⟩ ((.slice aV46 s.sh.length cV46))).setCell ⟨w.heap.size + 1, 3, none⟩ ((.slice aV47 s.si.length cV47)) = WF at *
        (try dsimp only)
        refine hK.out _ _ (by exact ⟨PP.2.1 0 _ rfl, PP.2.1 1 _ rfl, PP.2.1 2 _ rfl, PP.2.1 3 _ rfl⟩) (fun hHeld => ?_)
        clear hK K
        refine wpAnyH_done (by kernel_rfl) ?_ _
        have k0 := RR.2.1 0 _ rfl
        have k1 := RR.2.1 1 _ rfl
        have k2 := RR.2.1 2 _ rfl
        have k3 := RR.2.1 3 _ rfl
        go_wp2
        refine bodyPost_ret (v := .agg #[.int .i64 s.at_, (.slice aV45 s.op.length cV45), (.slice aV46 s.sh.length cV46), (.slice aV47 s.si.length cV47)]) (by simp [results, Tryd.results130, go_sem, k0, k1, k2, k3]) rfl ⟨_, _, _, _, _, _, rfl, ⟨own_mono QA.out (by omega), own_mono QB.out (by omega), own_mono QC.out (by omega), (fun k hk e => fBAV46 k e k hk rfl), (fun k hk e => fCAV47 k e k hk rfl), (fun k hk e => fCBV47 k e k hk rfl)⟩, XF⟩
    · (try simp only [zk1, zk2, zk3])
      go_simp
      have eV48 : Ext V35 (V35.alloc (Obj.cells #[] 9)) := (Ext.refl _).alloc _
      have CLV48 := World.ownsRow_lit (base := w.heap.size + 2) (e := 9) (size := 1) V35 #[] 0 (lV35) (Nat.zero_le _) rfl
      have XV48 := XV35.trans eV48
      have PV48 := PV35.ext eV48
      have RV48 := RV35.ext eV48
      have lV48 := Nat.le_trans (lV35) eV48.size
      have BLV48 := own_ext BLV35 eV48
      have yBCV48 : V0.heap.size < V35.heap.size := (own_lt BLV35 _ rfl).2
      generalize V35.alloc (Obj.cells #[] 9) = V48 at *
      (try dsimp only)
      refine hK.out _ _ (by exact ⟨PV48.2.1 0 _ rfl, PV48.2.1 1 _ rfl, PV48.2.1 2 _ rfl, PV48.2.1 3 _ rfl⟩) (fun hHeld => ?_)
      clear hK K
      refine wpAnyH_ready (rs := [2]) (by kernel_rfl) (by simp) ?_
      refine AllReadyH.cons rfl (fun K hK => ?_) (AllReadyH.nil)
      (try simp only [zk1, zk2, zk3])
      go_simp
      have eV49 : Ext V48 (V48.alloc (Obj.cells #[] 9)) := (Ext.refl _).alloc _
      have ALV49 := World.ownsRow_lit (base := w.heap.size + 2) (e := 9) (size := 1) V48 #[] 0 (lV48) (Nat.zero_le _) rfl
      have XV49 := XV48.trans eV49
      have PV49 := PV48.ext eV49
      have RV49 := RV48.ext eV49
      have lV49 := Nat.le_trans (lV48) eV49.size
      have BLV49 := own_ext BLV48 eV49
      have yBAV49 : V0.heap.size < V48.heap.size := (own_lt BLV48 _ rfl).2
      have CLV49 := own_ext CLV48 eV49
      have yCAV49 : V35.heap.size < V48.heap.size := (own_lt CLV48 _ rfl).2
      generalize V48.alloc (Obj.cells #[] 9) = V49 at *
      (try dsimp only)
      refine hK.out _ _ (by exact ⟨PV49.2.1 0 _ rfl, PV49.2.1 1 _ rfl, PV49.2.1 2 _ rfl, PV49.2.1 3 _ rfl⟩) (fun hHeld => ?_)
      clear hK K
      refine wpAnyH_ready (rs := [5]) (by kernel_rfl) (by simp) ?_
      refine AllReadyH.cons rfl (fun K hK => ?_) (AllReadyH.nil)
      refine step_append_any (.tmp 5) (.tmp 7) 22 (by rfl) (by rfl) (w.heap.size + 2) 9 i0 _ 1 16 Tryd.underlying22 hi hz0 hz1 hz2 rfl (by decide) _ _ _ (by rfl) ALV49 _ s.op.length (s.op.map Value.string) (by rfl) (Strs.ext HA.out XV49) SA.out (strs_one3 _) (by unfold maxLen; omega) (by omega) (lV49) ?_
      intro aV50 cV50 V50 AOV50 gV50 atV50
      simp only [Nat.zero_add, List.nil_append] at AOV50 atV50 ⊢
      have bV50 : w.heap.size + 2 ≤ V48.heap.size := (own_lt ALV49 _ rfl).1
      have b2V50 : V48.heap.size < V49.heap.size := (own_lt ALV49 _ rfl).2
      have XV50 : Ext w V50 := own_ext_of XV49 ALV49 gV50 (by omega)
      have PV50 := PV49.grown gV50 (fun e => by injection e with e; dsimp only at e; omega)
      have RV50 := RV49.grown gV50 (fun e => by injection e with e; dsimp only at e; omega)
      have lV50 := Nat.le_trans (lV49) gV50.size
      have xBV50 : V0.heap.size < V49.heap.size := (own_lt BLV49 _ rfl).2
      have BLV50 := own_grown2 BLV49 gV50 (fun k hk e => by injection hk with hk; injection e with e; dsimp only at hk e; omega)
      have zABV50 : ∀ k, (Value.slice aV50 s.op.length cV50).ownBlock = some k → k ≠ V0.heap.size := by intro k hk; rcases atV50 with e | e <;> (rw [hk] at e; injection e with e; (try dsimp only at e); omega)
      have xCV50 : V35.heap.size < V49.heap.size := (own_lt CLV49 _ rfl).2
      have CLV50 := own_grown2 CLV49 gV50 (fun k hk e => by injection hk with hk; injection e with e; dsimp only at hk e; omega)
      have zACV50 : ∀ k, (Value.slice aV50 s.op.length cV50).ownBlock = some k → k ≠ V35.heap.size := by intro k hk; rcases atV50 with e | e <;> (rw [hk] at e; injection e with e; (try dsimp only at e); omega)
      clear atV50
      (try dsimp only)
      refine hK.out _ _ (by exact ⟨PV50.2.1 0 _ rfl, PV50.2.1 1 _ rfl, PV50.2.1 2 _ rfl, PV50.2.1 3 _ rfl⟩) (fun hHeld => ?_)
      clear hK K
      refine wpAnyH_ready (rs := [9]) (by kernel_rfl) (by simp) ?_
      refine AllReadyH.cons rfl (fun K hK => ?_) (AllReadyH.nil)
      refine step_append_any (.tmp 9) (.tmp 11) 22 (by rfl) (by rfl) (w.heap.size + 2) 9 i0 _ 1 16 Tryd.underlying22 hi hz0 hz1 hz2 rfl (by decide) _ _ _ (by rfl) BLV50 _ s.sh.length (s.sh.map Value.string) (by rfl) (Strs.ext HB.out XV50) SB.out (strs_one3 _) (by unfold maxLen; omega) (by omega) (lV50) ?_
      intro aV51 cV51 V51 BOV51 gV51 atV51
      simp only [Nat.zero_add, List.nil_append] at BOV51 atV51 ⊢
      have bV51 : w.heap.size + 2 ≤ V0.heap.size := (own_lt BLV50 _ rfl).1
      have b2V51 : V0.heap.size < V50.heap.size := (own_lt BLV50 _ rfl).2
      have XV51 : Ext w V51 := own_ext_of XV50 BLV50 gV51 (by omega)
      have PV51 := PV50.grown gV51 (fun e => by injection e with e; dsimp only at e; omega)
      have RV51 := RV50.grown gV51 (fun e => by injection e with e; dsimp only at e; omega)
      have lV51 := Nat.le_trans (lV50) gV51.size
      have wAV51 := fun k hk => (own_lt AOV50 k hk).2
      have AOV51 := own_grown2 AOV50 gV51 (fun k hk e => by injection hk with hk; have := zABV50 _ e; dsimp only at hk; omega)
      have fBAV51 : ∀ j, (Value.slice aV51 s.sh.length cV51).ownBlock = some j → ∀ i, ((.slice aV50 s.op.length cV50) : Value).ownBlock = some i → j ≠ i := by intro j hj i hi; have h1 := wAV51 i hi; have h2 := zABV50 i hi; rcases atV51 with e | e <;> (rw [hj] at e; injection e with e; (try dsimp only at e); omega)
      have xCV51 : V35.heap.size < V50.heap.size := (own_lt CLV50 _ rfl).2
      have CLV51 := own_grown2 CLV50 gV51 (fun k hk e => by injection hk with hk; injection e with e; dsimp only at hk e; omega)
      have zBCV51 : ∀ k, (Value.slice aV51 s.sh.length cV51).ownBlock = some k → k ≠ V35.heap.size := by intro k hk; rcases atV51 with e | e <;> (rw [hk] at e; injection e with e; (try dsimp only at e); omega)
      clear atV51
      (try dsimp only)
      refine hK.out _ _ (by exact ⟨PV51.2.1 0 _ rfl, PV51.2.1 1 _ rfl, PV51.2.1 2 _ rfl, PV51.2.1 3 _ rfl⟩) (fun hHeld => ?_)
      clear hK K
      refine wpAnyH_ready (rs := [13]) (by kernel_rfl) (by simp) ?_
      refine AllReadyH.cons rfl (fun K hK => ?_) (AllReadyH.nil)
      refine step_append_any (.tmp 13) (.tmp 15) 22 (by rfl) (by rfl) (w.heap.size + 2) 9 i0 _ 1 16 Tryd.underlying22 hi hz0 hz1 hz2 rfl (by decide) _ _ _ (by rfl) CLV51 _ s.si.length (s.si.map Value.string) (by rfl) (Strs.ext HC.out XV51) SC.out (strs_one3 _) (by unfold maxLen; omega) (by omega) (lV51) ?_
      intro aV52 cV52 V52 COV52 gV52 atV52
      simp only [Nat.zero_add, List.nil_append] at COV52 atV52 ⊢
      have bV52 : w.heap.size + 2 ≤ V35.heap.size := (own_lt CLV51 _ rfl).1
      have b2V52 : V35.heap.size < V51.heap.size := (own_lt CLV51 _ rfl).2
      have XV52 : Ext w V52 := own_ext_of XV51 CLV51 gV52 (by omega)
      have PV52 := PV51.grown gV52 (fun e => by injection e with e; dsimp only at e; omega)
      have RV52 := RV51.grown gV52 (fun e => by injection e with e; dsimp only at e; omega)
      have lV52 := Nat.le_trans (lV51) gV52.size
      have wAV52 := fun k hk => (own_lt AOV51 k hk).2
      have AOV52 := own_grown2 AOV51 gV52 (fun k hk e => by injection hk with hk; have := zACV50 _ e; dsimp only at hk; omega)
      have fCAV52 : ∀ j, (Value.slice aV52 s.si.length cV52).ownBlock = some j → ∀ i, ((.slice aV50 s.op.length cV50) : Value).ownBlock = some i → j ≠ i := by intro j hj i hi; have h1 := wAV52 i hi; have h2 := zACV50 i hi; rcases atV52 with e | e <;> (rw [hj] at e; injection e with e; (try dsimp only at e); omega)
      have wBV52 := fun k hk => (own_lt BOV51 k hk).2
      have BOV52 := own_grown2 BOV51 gV52 (fun k hk e => by injection hk with hk; have := zBCV51 _ e; dsimp only at hk; omega)
      have fCBV52 : ∀ j, (Value.slice aV52 s.si.length cV52).ownBlock = some j → ∀ i, ((.slice aV51 s.sh.length cV51) : Value).ownBlock = some i → j ≠ i := by intro j hj i hi; have h1 := wBV52 i hi; have h2 := zBCV51 i hi; rcases atV52 with e | e <;> (rw [hj] at e; injection e with e; (try dsimp only at e); omega)
      clear atV52
      (try dsimp only)
      refine hK.out _ _ (by exact ⟨PV52.2.1 0 _ rfl, PV52.2.1 1 _ rfl, PV52.2.1 2 _ rfl, PV52.2.1 3 _ rfl⟩) (fun hHeld => ?_)
      clear hK K
      (refine wpAnyH_take (i := 14) (v := ?_) rfl (by kernel_rfl) (by kernel_rfl) (by kernel_rfl) (fun _ _ _ h => h) (Or.inl ⟨by rfl, ?_⟩) (by assumption) ?_; rotate_left; focus (intro w hSw; (try dsimp only at hSw); (try simp only [zk1, zk2, zk3]); go_simp; try with_reducible rfl)); (try simp only [zk1, zk2, zk3]); (try simp only [Act.put, zk4, zk5, zk6])
      have r0 := RV52.2.1 0 _ rfl
      have r1 := RV52.2.1 1 _ rfl
      have r2 := RV52.2.1 2 _ rfl
      have r3 := RV52.2.1 3 _ rfl
      have f0 := RV52.2.2 0
      have f1 := RV52.2.2 1
      have f2 := RV52.2.2 2
      have f3 := RV52.2.2 3
      have RR := ((((RV52.set 0 (.int .i64 s.at_) (by simp)).set 1 ((.slice aV50 s.op.length cV50)) (by simp)).set 2 ((.slice aV51 s.sh.length cV51)) (by simp)).set 3 ((.slice aV52 s.si.length cV52)) (by simp))
      have PP := ((((PV52.far (c := w.heap.size + 1) (by omega) 0 (.int .i64 s.at_)).far (c := w.heap.size + 1) (by omega) 1 ((.slice aV50 s.op.length cV50))).far (c := w.heap.size + 1) (by omega) 2 ((.slice aV51 s.sh.length cV51))).far (c := w.heap.size + 1) (by omega) 3 ((.slice aV52 s.si.length cV52)))
      have QA := Lib.hid (own_below (own_below (own_below (own_below AOV52 (p := ⟨w.heap.size + 1, 0, none⟩) (u := .int .i64 s.at_) (by dsimp only; omega)) (p := ⟨w.heap.size + 1, 1, none⟩) (u := (.slice aV50 s.op.length cV50)) (by dsimp only; omega)) (p := ⟨w.heap.size + 1, 2, none⟩) (u := (.slice aV51 s.sh.length cV51)) (by dsimp only; omega)) (p := ⟨w.heap.size + 1, 3, none⟩) (u := (.slice aV52 s.si.length cV52)) (by dsimp only; omega))
      have QB := Lib.hid (own_below (own_below (own_below (own_below BOV52 (p := ⟨w.heap.size + 1, 0, none⟩) (u := .int .i64 s.at_) (by dsimp only; omega)) (p := ⟨w.heap.size + 1, 1, none⟩) (u := (.slice aV50 s.op.length cV50)) (by dsimp only; omega)) (p := ⟨w.heap.size + 1, 2, none⟩) (u := (.slice aV51 s.sh.length cV51)) (by dsimp only; omega)) (p := ⟨w.heap.size + 1, 3, none⟩) (u := (.slice aV52 s.si.length cV52)) (by dsimp only; omega))
      have QC := Lib.hid (own_below (own_below (own_below (own_below COV52 (p := ⟨w.heap.size + 1, 0, none⟩) (u := .int .i64 s.at_) (by dsimp only; omega)) (p := ⟨w.heap.size + 1, 1, none⟩) (u := (.slice aV50 s.op.length cV50)) (by dsimp only; omega)) (p := ⟨w.heap.size + 1, 2, none⟩) (u := (.slice aV51 s.sh.length cV51)) (by dsimp only; omega)) (p := ⟨w.heap.size + 1, 3, none⟩) (u := (.slice aV52 s.si.length cV52)) (by dsimp only; omega))
      have XF : Ext w ((((V52.setCell ⟨w.heap.size + 1, 0, none⟩ (.int .i64 s.at_)).setCell ⟨w.heap.size + 1, 1, none⟩ ((.slice aV50 s.op.length cV50))).setCell ⟨w.heap.size + 1, 2, none⟩ ((.slice aV51 s.sh.length cV51))).setCell ⟨w.heap.size + 1, 3, none⟩ ((.slice aV52 s.si.length cV52))) := ((((XV52.setCell (p := ⟨w.heap.size + 1, 0, none⟩) (by dsimp only; omega) (.int .i64 s.at_)).setCell (p := ⟨w.heap.size + 1, 1, none⟩) (by dsimp only; omega) ((.slice aV50 s.op.length cV50))).setCell (p := ⟨w.heap.size + 1, 2, none⟩) (by dsimp only; omega) ((.slice aV51 s.sh.length cV51))).setCell (p := ⟨w.heap.size + 1, 3, none⟩) (by dsimp only; omega) ((.slice aV52 s.si.length cV52)))
      (refine wpAnyH_ready (rs := [15]) (by kernel_rfl) (by simp) ?_; refine AllReadyH.cons rfl (fun K hK => ?_) AllReadyH.nil; (try simp only [zk1, zk2, zk3]))
      go_simp
      generalize (((V52.setCell ⟨w.heap.size + 1, 0, none⟩ (.int .i64 s.at_)).setCell ⟨w.heap.size + 1, 1, none⟩ ((.slice aV50 s.op.length cV50))).setCell ⟨w.heap.size + 1, 2, none⟩ ((.slice aV51 s.sh.length cV51))).setCell ⟨w.heap.size + 1, 3, none⟩ ((.slice aV52 s.si.length cV52)) = WF at *
      (try dsimp only)
      refine hK.out _ _ (by exact ⟨PP.2.1 0 _ rfl, PP.2.1 1 _ rfl, PP.2.1 2 _ rfl, PP.2.1 3 _ rfl⟩) (fun hHeld => ?_)
      clear hK K
      refine wpAnyH_done (by kernel_rfl) ?_ _
      have k0 := RR.2.1 0 _ rfl
      have k1 := RR.2.1 1 _ rfl
      have k2 := RR.2.1 2 _ rfl
      have k3 := RR.2.1 3 _ rfl
      go_wp2
      refine bodyPost_ret (v := .agg #[.int .i64 s.at_, (.slice aV50 s.op.length cV50), (.slice aV51 s.sh.length cV51), (.slice aV52 s.si.length cV52)]) (by simp [results, Tryd.results130, go_sem, k0, k1, k2, k3]) rfl ⟨_, _, _, _, _, _, rfl, ⟨own_mono QA.out (by omega), own_mono QB.out (by omega), own_mono QC.out (by omega), (fun k hk e => fBAV51 k e k hk rfl), (fun k hk e => fCAV52 k e k hk rfl), (fun k hk e => fCBV52 k e k hk rfl)⟩, XF⟩
  · (try simp only [zk1, zk2, zk3])
    go_simp
    have eV53 : Ext V0 (V0.alloc (Obj.cells #[] 9)) := (Ext.refl _).alloc _
    have CLV53 := World.ownsRow_lit (base := w.heap.size + 2) (e := 9) (size := 1) V0 #[] 0 (l0) (Nat.zero_le _) rfl
    have XV53 := X.trans eV53
    have PV53 := P.ext eV53
    have RV53 := R.ext eV53
    have lV53 := Nat.le_trans (l0) eV53.size
    generalize V0.alloc (Obj.cells #[] 9) = V53 at *
    (try dsimp only)
    refine hK.out _ _ (by exact ⟨PV53.2.1 0 _ rfl, PV53.2.1 1 _ rfl, PV53.2.1 2 _ rfl, PV53.2.1 3 _ rfl⟩) (fun hHeld => ?_)
    clear hK K
    refine wpAnyH_ready (rs := [2, 6]) (by kernel_rfl) (by simp) ?_
    refine AllReadyH.cons rfl (fun K hK => ?_) (AllReadyH.cons rfl (fun K hK => ?_) (AllReadyH.nil))
    · (try simp only [zk1, zk2, zk3])
      go_simp
      have eV54 : Ext V53 (V53.alloc (Obj.cells #[] 9)) := (Ext.refl _).alloc _
      have ALV54 := World.ownsRow_lit (base := w.heap.size + 2) (e := 9) (size := 1) V53 #[] 0 (lV53) (Nat.zero_le _) rfl
      have XV54 := XV53.trans eV54
      have PV54 := PV53.ext eV54
      have RV54 := RV53.ext eV54
      have lV54 := Nat.le_trans (lV53) eV54.size
      have CLV54 := own_ext CLV53 eV54
      have yCAV54 : V0.heap.size < V53.heap.size := (own_lt CLV53 _ rfl).2
      generalize V53.alloc (Obj.cells #[] 9) = V54 at *
      (try dsimp only)
      refine hK.out _ _ (by exact ⟨PV54.2.1 0 _ rfl, PV54.2.1 1 _ rfl, PV54.2.1 2 _ rfl, PV54.2.1 3 _ rfl⟩) (fun hHeld => ?_)
      clear hK K
      refine wpAnyH_ready (rs := [5, 6]) (by kernel_rfl) (by simp) ?_
      refine AllReadyH.cons rfl (fun K hK => ?_) (AllReadyH.cons rfl (fun K hK => ?_) (AllReadyH.nil))
      · refine step_append_any (.tmp 5) (.tmp 7) 22 (by rfl) (by rfl) (w.heap.size + 2) 9 i0 _ 1 16 Tryd.underlying22 hi hz0 hz1 hz2 rfl (by decide) _ _ _ (by rfl) ALV54 _ s.op.length (s.op.map Value.string) (by rfl) (Strs.ext HA.out XV54) SA.out (strs_one3 _) (by unfold maxLen; omega) (by omega) (lV54) ?_
        intro aV55 cV55 V55 AOV55 gV55 atV55
        simp only [Nat.zero_add, List.nil_append] at AOV55 atV55 ⊢
        have bV55 : w.heap.size + 2 ≤ V53.heap.size := (own_lt ALV54 _ rfl).1
        have b2V55 : V53.heap.size < V54.heap.size := (own_lt ALV54 _ rfl).2
        have XV55 : Ext w V55 := own_ext_of XV54 ALV54 gV55 (by omega)
        have PV55 := PV54.grown gV55 (fun e => by injection e with e; dsimp only at e; omega)
        have RV55 := RV54.grown gV55 (fun e => by injection e with e; dsimp only at e; omega)
        have lV55 := Nat.le_trans (lV54) gV55.size
        have xCV55 : V0.heap.size < V54.heap.size := (own_lt CLV54 _ rfl).2
        have CLV55 := own_grown2 CLV54 gV55 (fun k hk e => by injection hk with hk; injection e with e; dsimp only at hk e; omega)
        have zACV55 : ∀ k, (Value.slice aV55 s.op.length cV55).ownBlock = some k → k ≠ V0.heap.size := by intro k hk; rcases atV55 with e | e <;> (rw [hk] at e; injection e with e; (try dsimp only at e); omega)
        clear atV55
        (try dsimp only)
        refine hK.out _ _ (by exact ⟨PV55.2.1 0 _ rfl, PV55.2.1 1 _ rfl, PV55.2.1 2 _ rfl, PV55.2.1 3 _ rfl⟩) (fun hHeld => ?_)
        clear hK K
        refine wpAnyH_ready (rs := [6]) (by kernel_rfl) (by simp) ?_
        refine AllReadyH.cons rfl (fun K hK => ?_) (AllReadyH.nil)
        (try simp only [zk1, zk2, zk3])
        go_simp
        have eV56 : Ext V55 (V55.alloc (Obj.cells #[] 9)) := (Ext.refl _).alloc _
        have BLV56 := World.ownsRow_lit (base := w.heap.size + 2) (e := 9) (size := 1) V55 #[] 0 (lV55) (Nat.zero_le _) rfl
        have XV56 := XV55.trans eV56
        have PV56 := PV55.ext eV56
        have RV56 := RV55.ext eV56
        have lV56 := Nat.le_trans (lV55) eV56.size
        have AOV56 := own_ext AOV55 eV56
        have zABV56 := fun k hk => (own_lt AOV55 k hk).2
        have CLV56 := own_ext CLV55 eV56
        have yCBV56 : V0.heap.size < V55.heap.size := (own_lt CLV55 _ rfl).2
        generalize V55.alloc (Obj.cells #[] 9) = V56 at *
        (try dsimp only)
        refine hK.out _ _ (by exact ⟨PV56.2.1 0 _ rfl, PV56.2.1 1 _ rfl, PV56.2.1 2 _ rfl, PV56.2.1 3 _ rfl⟩) (fun hHeld => ?_)
        clear hK K
        refine wpAnyH_ready (rs := [9]) (by kernel_rfl) (by simp) ?_
        refine AllReadyH.cons rfl (fun K hK => ?_) (AllReadyH.nil)
        refine step_append_any (.tmp 9) (.tmp 11) 22 (by rfl) (by rfl) (w.heap.size + 2) 9 i0 _ 1 16 Tryd.underlying22 hi hz0 hz1 hz2 rfl (by decide) _ _ _ (by rfl) BLV56 _ s.sh.length (s.sh.map Value.string) (by rfl) (Strs.ext HB.out XV56) SB.out (strs_one3 _) (by unfold maxLen; omega) (by omega) (lV56) ?_
        intro aV57 cV57 V57 BOV57 gV57 atV57
        simp only [Nat.zero_add, List.nil_append] at BOV57 atV57 ⊢
        have bV57 : w.heap.size + 2 ≤ V55.heap.size := (own_lt BLV56 _ rfl).1
        have b2V57 : V55.heap.size < V56.heap.size := (own_lt BLV56 _ rfl).2
        have XV57 : Ext w V57 := own_ext_of XV56 BLV56 gV57 (by omega)
        have PV57 := PV56.grown gV57 (fun e => by injection e with e; dsimp only at e; omega)
        have RV57 := RV56.grown gV57 (fun e => by injection e with e; dsimp only at e; omega)
        have lV57 := Nat.le_trans (lV56) gV57.size
        have wAV57 := fun k hk => (own_lt AOV56 k hk).2
        have AOV57 := own_grown2 AOV56 gV57 (fun k hk e => by injection hk with hk; have := zABV56 _ e; dsimp only at hk; omega)
        have fBAV57 : ∀ j, (Value.slice aV57 s.sh.length cV57).ownBlock = some j → ∀ i, ((.slice aV55 s.op.length cV55) : Value).ownBlock = some i → j ≠ i := by intro j hj i hi; have h1 := wAV57 i hi; have h2 := zABV56 i hi; rcases atV57 with e | e <;> (rw [hj] at e; injection e with e; (try dsimp only at e); omega)
        have xCV57 : V0.heap.size < V56.heap.size := (own_lt CLV56 _ rfl).2
        have CLV57 := own_grown2 CLV56 gV57 (fun k hk e => by injection hk with hk; injection e with e; dsimp only at hk e; omega)
        have zBCV57 : ∀ k, (Value.slice aV57 s.sh.length cV57).ownBlock = some k → k ≠ V0.heap.size := by intro k hk; rcases atV57 with e | e <;> (rw [hk] at e; injection e with e; (try dsimp only at e); omega)
        clear atV57
        (try dsimp only)
        refine hK.out _ _ (by exact ⟨PV57.2.1 0 _ rfl, PV57.2.1 1 _ rfl, PV57.2.1 2 _ rfl, PV57.2.1 3 _ rfl⟩) (fun hHeld => ?_)
        clear hK K
        refine wpAnyH_ready (rs := [13]) (by kernel_rfl) (by simp) ?_
        refine AllReadyH.cons rfl (fun K hK => ?_) (AllReadyH.nil)
        refine step_append_any (.tmp 13) (.tmp 15) 22 (by rfl) (by rfl) (w.heap.size + 2) 9 i0 _ 1 16 Tryd.underlying22 hi hz0 hz1 hz2 rfl (by decide) _ _ _ (by rfl) CLV57 _ s.si.length (s.si.map Value.string) (by rfl) (Strs.ext HC.out XV57) SC.out (strs_one3 _) (by unfold maxLen; omega) (by omega) (lV57) ?_
        intro aV58 cV58 V58 COV58 gV58 atV58
        simp only [Nat.zero_add, List.nil_append] at COV58 atV58 ⊢
        have bV58 : w.heap.size + 2 ≤ V0.heap.size := (own_lt CLV57 _ rfl).1
        have b2V58 : V0.heap.size < V57.heap.size := (own_lt CLV57 _ rfl).2
        have XV58 : Ext w V58 := own_ext_of XV57 CLV57 gV58 (by omega)
        have PV58 := PV57.grown gV58 (fun e => by injection e with e; dsimp only at e; omega)
        have RV58 := RV57.grown gV58 (fun e => by injection e with e; dsimp only at e; omega)
        have lV58 := Nat.le_trans (lV57) gV58.size
        have wAV58 := fun k hk => (own_lt AOV57 k hk).2
        have AOV58 := own_grown2 AOV57 gV58 (fun k hk e => by injection hk with hk; have := zACV55 _ e; dsimp only at hk; omega)
        have fCAV58 : ∀ j, (Value.slice aV58 s.si.length cV58).ownBlock = some j → ∀ i, ((.slice aV55 s.op.length cV55) : Value).ownBlock = some i → j ≠ i := by intro j hj i hi; have h1 := wAV58 i hi; have h2 := zACV55 i hi; rcases atV58 with e | e <;> (rw [hj] at e; injection e with e; (try dsimp only at e); omega)
        have wBV58 := fun k hk => (own_lt BOV57 k hk).2
        have BOV58 := own_grown2 BOV57 gV58 (fun k hk e => by injection hk with hk; have := zBCV57 _ e; dsimp only at hk; omega)
        have fCBV58 : ∀ j, (Value.slice aV58 s.si.length cV58).ownBlock = some j → ∀ i, ((.slice aV57 s.sh.length cV57) : Value).ownBlock = some i → j ≠ i := by intro j hj i hi; have h1 := wBV58 i hi; have h2 := zBCV57 i hi; rcases atV58 with e | e <;> (rw [hj] at e; injection e with e; (try dsimp only at e); omega)
        clear atV58
        (try dsimp only)
        refine hK.out _ _ (by exact ⟨PV58.2.1 0 _ rfl, PV58.2.1 1 _ rfl, PV58.2.1 2 _ rfl, PV58.2.1 3 _ rfl⟩) (fun hHeld => ?_)
        clear hK K
        (refine wpAnyH_take (i := 14) (v := ?_) rfl (by kernel_rfl) (by kernel_rfl) (by kernel_rfl) (fun _ _ _ h => h) (Or.inl ⟨by rfl, ?_⟩) (by assumption) ?_; rotate_left; focus (intro w hSw; (try dsimp only at hSw); (try simp only [zk1, zk2, zk3]); go_simp; try with_reducible rfl)); (try simp only [zk1, zk2, zk3]); (try simp only [Act.put, zk4, zk5, zk6])
        have r0 := RV58.2.1 0 _ rfl
        have r1 := RV58.2.1 1 _ rfl
        have r2 := RV58.2.1 2 _ rfl
        have r3 := RV58.2.1 3 _ rfl
        have f0 := RV58.2.2 0
        have f1 := RV58.2.2 1
        have f2 := RV58.2.2 2
        have f3 := RV58.2.2 3
        have RR := ((((RV58.set 0 (.int .i64 s.at_) (by simp)).set 1 ((.slice aV55 s.op.length cV55)) (by simp)).set 2 ((.slice aV57 s.sh.length cV57)) (by simp)).set 3 ((.slice aV58 s.si.length cV58)) (by simp))
        have PP := ((((PV58.far (c := w.heap.size + 1) (by omega) 0 (.int .i64 s.at_)).far (c := w.heap.size + 1) (by omega) 1 ((.slice aV55 s.op.length cV55))).far (c := w.heap.size + 1) (by omega) 2 ((.slice aV57 s.sh.length cV57))).far (c := w.heap.size + 1) (by omega) 3 ((.slice aV58 s.si.length cV58)))
        have QA := Lib.hid (own_below (own_below (own_below (own_below AOV58 (p := ⟨w.heap.size + 1, 0, none⟩) (u := .int .i64 s.at_) (by dsimp only; omega)) (p := ⟨w.heap.size + 1, 1, none⟩) (u := (.slice aV55 s.op.length cV55)) (by dsimp only; omega)) (p := ⟨w.heap.size + 1, 2, none⟩) (u := (.slice aV57 s.sh.length cV57)) (by dsimp only; omega)) (p := ⟨w.heap.size + 1, 3, none⟩) (u := (.slice aV58 s.si.length cV58)) (by dsimp only; omega))
        have QB := Lib.hid (own_below (own_below (own_below (own_below BOV58 (p := ⟨w.heap.size + 1, 0, none⟩) (u := .int .i64 s.at_) (by dsimp only; omega)) (p := ⟨w.heap.size + 1, 1, none⟩) (u := (.slice aV55 s.op.length cV55)) (by dsimp only; omega)) (p := ⟨w.heap.size + 1, 2, none⟩) (u := (.slice aV57 s.sh.length cV57)) (by dsimp only; omega)) (p := ⟨w.heap.size + 1, 3, none⟩) (u := (.slice aV58 s.si.length cV58)) (by dsimp only; omega))
        have QC := Lib.hid (own_below (own_below (own_below (own_below COV58 (p := ⟨w.heap.size + 1, 0, none⟩) (u := .int .i64 s.at_) (by dsimp only; omega)) (p := ⟨w.heap.size + 1, 1, none⟩) (u := (.slice aV55 s.op.length cV55)) (by dsimp only; omega)) (p := ⟨w.heap.size + 1, 2, none⟩) (u := (.slice aV57 s.sh.length cV57)) (by dsimp only; omega)) (p := ⟨w.heap.size + 1, 3, none⟩) (u := (.slice aV58 s.si.length cV58)) (by dsimp only; omega))
        have XF : Ext w ((((V58.setCell ⟨w.heap.size + 1, 0, none⟩ (.int .i64 s.at_)).setCell ⟨w.heap.size + 1, 1, none⟩ ((.slice aV55 s.op.length cV55))).setCell ⟨w.heap.size + 1, 2, none⟩ ((.slice aV57 s.sh.length cV57))).setCell ⟨w.heap.size + 1, 3, none⟩ ((.slice aV58 s.si.length cV58))) := ((((XV58.setCell (p := ⟨w.heap.size + 1, 0, none⟩) (by dsimp only; omega) (.int .i64 s.at_)).setCell (p := ⟨w.heap.size + 1, 1, none⟩) (by dsimp only; omega) ((.slice aV55 s.op.length cV55))).setCell (p := ⟨w.heap.size + 1, 2, none⟩) (by dsimp only; omega) ((.slice aV57 s.sh.length cV57))).setCell (p := ⟨w.heap.size + 1, 3, none⟩) (by dsimp only; omega) ((.slice aV58 s.si.length cV58)))
        (refine wpAnyH_ready (rs := [15]) (by kernel_rfl) (by simp) ?_; refine AllReadyH.cons rfl (fun K hK => ?_) AllReadyH.nil; (try simp only [zk1, zk2, zk3]))
        go_simp
        generalize (((V58.setCell ⟨w.heap.size + 1, 0, none⟩ (.int .i64 s.at_)).setCell ⟨w.heap.size + 1, 1, none⟩ ((.slice aV55 s.op.length cV55))).setCell ⟨w.heap.size + 1, 2, none⟩ ((.slice aV57 s.sh.length cV57))).setCell ⟨w.heap.size + 1, 3, none⟩ ((.slice aV58 s.si.length cV58)) = WF at *
        (try dsimp only)
        refine hK.out _ _ (by exact ⟨PP.2.1 0 _ rfl, PP.2.1 1 _ rfl, PP.2.1 2 _ rfl, PP.2.1 3 _ rfl⟩) (fun hHeld => ?_)
        clear hK K
        refine wpAnyH_done (by kernel_rfl) ?_ _
        have k0 := RR.2.1 0 _ rfl
        have k1 := RR.2.1 1 _ rfl
        have k2 := RR.2.1 2 _ rfl
        have k3 := RR.2.1 3 _ rfl
        go_wp2
        refine bodyPost_ret (v := .agg #[.int .i64 s.at_, (.slice aV55 s.op.length cV55), (.slice aV57 s.sh.length cV57), (.slice aV58 s.si.length cV58)]) (by simp [results, Tryd.results130, go_sem, k0, k1, k2, k3]) rfl ⟨_, _, _, _, _, _, rfl, ⟨own_mono QA.out (by omega), own_mono QB.out (by omega), own_mono QC.out (by omega), (fun k hk e => fBAV57 k e k hk rfl), (fun k hk e => fCAV58 k e k hk rfl), (fun k hk e => fCBV58 k e k hk rfl)⟩, XF⟩
      · (try simp only [zk1, zk2, zk3])
        go_simp
        have eV59 : Ext V54 (V54.alloc (Obj.cells #[] 9)) := (Ext.refl _).alloc _
        have BLV59 := World.ownsRow_lit (base := w.heap.size + 2) (e := 9) (size := 1) V54 #[] 0 (lV54) (Nat.zero_le _) rfl
        have XV59 := XV54.trans eV59
        have PV59 := PV54.ext eV59
        have RV59 := RV54.ext eV59
        have lV59 := Nat.le_trans (lV54) eV59.size
        have ALV59 := own_ext ALV54 eV59
        have yABV59 : V53.heap.size < V54.heap.size := (own_lt ALV54 _ rfl).2
        have CLV59 := own_ext CLV54 eV59
        have yCBV59 : V0.heap.size < V54.heap.size := (own_lt CLV54 _ rfl).2
        generalize V54.alloc (Obj.cells #[] 9) = V59 at *
        (try dsimp only)
        refine hK.out _ _ (by exact ⟨PV59.2.1 0 _ rfl, PV59.2.1 1 _ rfl, PV59.2.1 2 _ rfl, PV59.2.1 3 _ rfl⟩) (fun hHeld => ?_)
        clear hK K
        refine wpAnyH_ready (rs := [5]) (by kernel_rfl) (by simp) ?_
        refine AllReadyH.cons rfl (fun K hK => ?_) (AllReadyH.nil)
        refine step_append_any (.tmp 5) (.tmp 7) 22 (by rfl) (by rfl) (w.heap.size + 2) 9 i0 _ 1 16 Tryd.underlying22 hi hz0 hz1 hz2 rfl (by decide) _ _ _ (by rfl) ALV59 _ s.op.length (s.op.map Value.string) (by rfl) (Strs.ext HA.out XV59) SA.out (strs_one3 _) (by unfold maxLen; omega) (by omega) (lV59) ?_
        intro aV60 cV60 V60 AOV60 gV60 atV60
        simp only [Nat.zero_add, List.nil_append] at AOV60 atV60 ⊢
        have bV60 : w.heap.size + 2 ≤ V53.heap.size := (own_lt ALV59 _ rfl).1
        have b2V60 : V53.heap.size < V59.heap.size := (own_lt ALV59 _ rfl).2
        have XV60 : Ext w V60 := own_ext_of XV59 ALV59 gV60 (by omega)
        have PV60 := PV59.grown gV60 (fun e => by injection e with e; dsimp only at e; omega)
        have RV60 := RV59.grown gV60 (fun e => by injection e with e; dsimp only at e; omega)
        have lV60 := Nat.le_trans (lV59) gV60.size
        have xBV60 : V54.heap.size < V59.heap.size := (own_lt BLV59 _ rfl).2
        have BLV60 := own_grown2 BLV59 gV60 (fun k hk e => by injection hk with hk; injection e with e; dsimp only at hk e; omega)
        have zABV60 : ∀ k, (Value.slice aV60 s.op.length cV60).ownBlock = some k → k ≠ V54.heap.size := by intro k hk; rcases atV60 with e | e <;> (rw [hk] at e; injection e with e; (try dsimp only at e); omega)
        have xCV60 : V0.heap.size < V59.heap.size := (own_lt CLV59 _ rfl).2
        have CLV60 := own_grown2 CLV59 gV60 (fun k hk e => by injection hk with hk; injection e with e; dsimp only at hk e; omega)
        have zACV60 : ∀ k, (Value.slice aV60 s.op.length cV60).ownBlock = some k → k ≠ V0.heap.size := by intro k hk; rcases atV60 with e | e <;> (rw [hk] at e; injection e with e; (try dsimp only at e); omega)
        clear atV60
        (try dsimp only)
        refine hK.out _ _ (by exact ⟨PV60.2.1 0 _ rfl, PV60.2.1 1 _ rfl, PV60.2.1 2 _ rfl, PV60.2.1 3 _ rfl⟩) (fun hHeld => ?_)
        clear hK K
        refine wpAnyH_ready (rs := [9]) (by kernel_rfl) (by simp) ?_
        refine AllReadyH.cons rfl (fun K hK => ?_) (AllReadyH.nil)
        refine step_append_any (.tmp 9) (.tmp 11) 22 (by rfl) (by rfl) (w.heap.size + 2) 9 i0 _ 1 16 Tryd.underlying22 hi hz0 hz1 hz2 rfl (by decide) _ _ _ (by rfl) BLV60 _ s.sh.length (s.sh.map Value.string) (by rfl) (Strs.ext HB.out XV60) SB.out (strs_one3 _) (by unfold maxLen; omega) (by omega) (lV60) ?_
        intro aV61 cV61 V61 BOV61 gV61 atV61
        simp only [Nat.zero_add, List.nil_append] at BOV61 atV61 ⊢
        have bV61 : w.heap.size + 2 ≤ V54.heap.size := (own_lt BLV60 _ rfl).1
        have b2V61 : V54.heap.size < V60.heap.size := (own_lt BLV60 _ rfl).2
        have XV61 : Ext w V61 := own_ext_of XV60 BLV60 gV61 (by omega)
        have PV61 := PV60.grown gV61 (fun e => by injection e with e; dsimp only at e; omega)
        have RV61 := RV60.grown gV61 (fun e => by injection e with e; dsimp only at e; omega)
        have lV61 := Nat.le_trans (lV60) gV61.size
        have wAV61 := fun k hk => (own_lt AOV60 k hk).2
        have AOV61 := own_grown2 AOV60 gV61 (fun k hk e => by injection hk with hk; have := zABV60 _ e; dsimp only at hk; omega)
        have fBAV61 : ∀ j, (Value.slice aV61 s.sh.length cV61).ownBlock = some j → ∀ i, ((.slice aV60 s.op.length cV60) : Value).ownBlock = some i → j ≠ i := by intro j hj i hi; have h1 := wAV61 i hi; have h2 := zABV60 i hi; rcases atV61 with e | e <;> (rw [hj] at e; injection e with e; (try dsimp only at e); omega)
        have xCV61 : V0.heap.size < V60.heap.size := (own_lt CLV60 _ rfl).2
        have CLV61 := own_grown2 CLV60 gV61 (fun k hk e => by injection hk with hk; injection e with e; dsimp only at hk e; omega)
        have zBCV61 : ∀ k, (Value.slice aV61 s.sh.length cV61).ownBlock = some k → k ≠ V0.heap.size := by intro k hk; rcases atV61 with e | e <;> (rw [hk] at e; injection e with e; (try dsimp only at e); omega)
        clear atV61
        (try dsimp only)
        refine hK.out _ _ (by exact ⟨PV61.2.1 0 _ rfl, PV61.2.1 1 _ rfl, PV61.2.1 2 _ rfl, PV61.2.1 3 _ rfl⟩) (fun hHeld => ?_)
        clear hK K
        refine wpAnyH_ready (rs := [13]) (by kernel_rfl) (by simp) ?_
        refine AllReadyH.cons rfl (fun K hK => ?_) (AllReadyH.nil)
        refine step_append_any (.tmp 13) (.tmp 15) 22 (by rfl) (by rfl) (w.heap.size + 2) 9 i0 _ 1 16 Tryd.underlying22 hi hz0 hz1 hz2 rfl (by decide) _ _ _ (by rfl) CLV61 _ s.si.length (s.si.map Value.string) (by rfl) (Strs.ext HC.out XV61) SC.out (strs_one3 _) (by unfold maxLen; omega) (by omega) (lV61) ?_
        intro aV62 cV62 V62 COV62 gV62 atV62
        simp only [Nat.zero_add, List.nil_append] at COV62 atV62 ⊢
        have bV62 : w.heap.size + 2 ≤ V0.heap.size := (own_lt CLV61 _ rfl).1
        have b2V62 : V0.heap.size < V61.heap.size := (own_lt CLV61 _ rfl).2
        have XV62 : Ext w V62 := own_ext_of XV61 CLV61 gV62 (by omega)
        have PV62 := PV61.grown gV62 (fun e => by injection e with e; dsimp only at e; omega)
        have RV62 := RV61.grown gV62 (fun e => by injection e with e; dsimp only at e; omega)
        have lV62 := Nat.le_trans (lV61) gV62.size
        have wAV62 := fun k hk => (own_lt AOV61 k hk).2
        have AOV62 := own_grown2 AOV61 gV62 (fun k hk e => by injection hk with hk; have := zACV60 _ e; dsimp only at hk; omega)
        have fCAV62 : ∀ j, (Value.slice aV62 s.si.length cV62).ownBlock = some j → ∀ i, ((.slice aV60 s.op.length cV60) : Value).ownBlock = some i → j ≠ i := by intro j hj i hi; have h1 := wAV62 i hi; have h2 := zACV60 i hi; rcases atV62 with e | e <;> (rw [hj] at e; injection e with e; (try dsimp only at e); omega)
        have wBV62 := fun k hk => (own_lt BOV61 k hk).2
        have BOV62 := own_grown2 BOV61 gV62 (fun k hk e => by injection hk with hk; have := zBCV61 _ e; dsimp only at hk; omega)
        have fCBV62 : ∀ j, (Value.slice aV62 s.si.length cV62).ownBlock = some j → ∀ i, ((.slice aV61 s.sh.length cV61) : Value).ownBlock = some i → j ≠ i := by intro j hj i hi; have h1 := wBV62 i hi; have h2 := zBCV61 i hi; rcases atV62 with e | e <;> (rw [hj] at e; injection e with e; (try dsimp only at e); omega)
        clear atV62
        (try dsimp only)
        refine hK.out _ _ (by exact ⟨PV62.2.1 0 _ rfl, PV62.2.1 1 _ rfl, PV62.2.1 2 _ rfl, PV62.2.1 3 _ rfl⟩) (fun hHeld => ?_)
        clear hK K
        (refine wpAnyH_take (i := 14) (v := ?_) rfl (by kernel_rfl) (by kernel_rfl) (by kernel_rfl) (fun _ _ _ h => h) (Or.inl ⟨by rfl, ?_⟩) (by assumption) ?_; rotate_left; focus (intro w hSw; (try dsimp only at hSw); (try simp only [zk1, zk2, zk3]); go_simp; try with_reducible rfl)); (try simp only [zk1, zk2, zk3]); (try simp only [Act.put, zk4, zk5, zk6])
        have r0 := RV62.2.1 0 _ rfl
        have r1 := RV62.2.1 1 _ rfl
        have r2 := RV62.2.1 2 _ rfl
        have r3 := RV62.2.1 3 _ rfl
        have f0 := RV62.2.2 0
        have f1 := RV62.2.2 1
        have f2 := RV62.2.2 2
        have f3 := RV62.2.2 3
        have RR := ((((RV62.set 0 (.int .i64 s.at_) (by simp)).set 1 ((.slice aV60 s.op.length cV60)) (by simp)).set 2 ((.slice aV61 s.sh.length cV61)) (by simp)).set 3 ((.slice aV62 s.si.length cV62)) (by simp))
        have PP := ((((PV62.far (c := w.heap.size + 1) (by omega) 0 (.int .i64 s.at_)).far (c := w.heap.size + 1) (by omega) 1 ((.slice aV60 s.op.length cV60))).far (c := w.heap.size + 1) (by omega) 2 ((.slice aV61 s.sh.length cV61))).far (c := w.heap.size + 1) (by omega) 3 ((.slice aV62 s.si.length cV62)))
        have QA := Lib.hid (own_below (own_below (own_below (own_below AOV62 (p := ⟨w.heap.size + 1, 0, none⟩) (u := .int .i64 s.at_) (by dsimp only; omega)) (p := ⟨w.heap.size + 1, 1, none⟩) (u := (.slice aV60 s.op.length cV60)) (by dsimp only; omega)) (p := ⟨w.heap.size + 1, 2, none⟩) (u := (.slice aV61 s.sh.length cV61)) (by dsimp only; omega)) (p := ⟨w.heap.size + 1, 3, none⟩) (u := (.slice aV62 s.si.length cV62)) (by dsimp only; omega))
        have QB := Lib.hid (own_below (own_below (own_below (own_below BOV62 (p := ⟨w.heap.size + 1, 0, none⟩) (u := .int .i64 s.at_) (by dsimp only; omega)) (p := ⟨w.heap.size + 1, 1, none⟩) (u := (.slice aV60 s.op.length cV60)) (by dsimp only; omega)) (p := ⟨w.heap.size + 1, 2, none⟩) (u := (.slice aV61 s.sh.length cV61)) (by dsimp only; omega)) (p := ⟨w.heap.size + 1, 3, none⟩) (u := (.slice aV62 s.si.length cV62)) (by dsimp only; omega))
        have QC := Lib.hid (own_below (own_below (own_below (own_below COV62 (p := ⟨w.heap.size + 1, 0, none⟩) (u := .int .i64 s.at_) (by dsimp only; omega)) (p := ⟨w.heap.size + 1, 1, none⟩) (u := (.slice aV60 s.op.length cV60)) (by dsimp only; omega)) (p := ⟨w.heap.size + 1, 2, none⟩) (u := (.slice aV61 s.sh.length cV61)) (by dsimp only; omega)) (p := ⟨w.heap.size + 1, 3, none⟩) (u := (.slice aV62 s.si.length cV62)) (by dsimp only; omega))
        have XF : Ext w ((((V62.setCell ⟨w.heap.size + 1, 0, none⟩ (.int .i64 s.at_)).setCell ⟨w.heap.size + 1, 1, none⟩ ((.slice aV60 s.op.length cV60))).setCell ⟨w.heap.size + 1, 2, none⟩ ((.slice aV61 s.sh.length cV61))).setCell ⟨w.heap.size + 1, 3, none⟩ ((.slice aV62 s.si.length cV62))) := ((((XV62.setCell (p := ⟨w.heap.size + 1, 0, none⟩) (by dsimp only; omega) (.int .i64 s.at_)).setCell (p := ⟨w.heap.size + 1, 1, none⟩) (by dsimp only; omega) ((.slice aV60 s.op.length cV60))).setCell (p := ⟨w.heap.size + 1, 2, none⟩) (by dsimp only; omega) ((.slice aV61 s.sh.length cV61))).setCell (p := ⟨w.heap.size + 1, 3, none⟩) (by dsimp only; omega) ((.slice aV62 s.si.length cV62)))
        (refine wpAnyH_ready (rs := [15]) (by kernel_rfl) (by simp) ?_; refine AllReadyH.cons rfl (fun K hK => ?_) AllReadyH.nil; (try simp only [zk1, zk2, zk3]))
        go_simp
        generalize (((V62.setCell ⟨w.heap.size + 1, 0, none⟩ (.int .i64 s.at_)).setCell ⟨w.heap.size + 1, 1, none⟩ ((.slice aV60 s.op.length cV60))).setCell ⟨w.heap.size + 1, 2, none⟩ ((.slice aV61 s.sh.length cV61))).setCell ⟨w.heap.size + 1, 3, none⟩ ((.slice aV62 s.si.length cV62)) = WF at *
        (try dsimp only)
        refine hK.out _ _ (by exact ⟨PP.2.1 0 _ rfl, PP.2.1 1 _ rfl, PP.2.1 2 _ rfl, PP.2.1 3 _ rfl⟩) (fun hHeld => ?_)
        clear hK K
        refine wpAnyH_done (by kernel_rfl) ?_ _
        have k0 := RR.2.1 0 _ rfl
        have k1 := RR.2.1 1 _ rfl
        have k2 := RR.2.1 2 _ rfl
        have k3 := RR.2.1 3 _ rfl
        go_wp2
        refine bodyPost_ret (v := .agg #[.int .i64 s.at_, (.slice aV60 s.op.length cV60), (.slice aV61 s.sh.length cV61), (.slice aV62 s.si.length cV62)]) (by simp [results, Tryd.results130, go_sem, k0, k1, k2, k3]) rfl ⟨_, _, _, _, _, _, rfl, ⟨own_mono QA.out (by omega), own_mono QB.out (by omega), own_mono QC.out (by omega), (fun k hk e => fBAV61 k e k hk rfl), (fun k hk e => fCAV62 k e k hk rfl), (fun k hk e => fCBV62 k e k hk rfl)⟩, XF⟩
    · (try simp only [zk1, zk2, zk3])
      go_simp
      have eV63 : Ext V53 (V53.alloc (Obj.cells #[] 9)) := (Ext.refl _).alloc _
      have BLV63 := World.ownsRow_lit (base := w.heap.size + 2) (e := 9) (size := 1) V53 #[] 0 (lV53) (Nat.zero_le _) rfl
      have XV63 := XV53.trans eV63
      have PV63 := PV53.ext eV63
      have RV63 := RV53.ext eV63
      have lV63 := Nat.le_trans (lV53) eV63.size
      have CLV63 := own_ext CLV53 eV63
      have yCBV63 : V0.heap.size < V53.heap.size := (own_lt CLV53 _ rfl).2
      generalize V53.alloc (Obj.cells #[] 9) = V63 at *
      (try dsimp only)
      refine hK.out _ _ (by exact ⟨PV63.2.1 0 _ rfl, PV63.2.1 1 _ rfl, PV63.2.1 2 _ rfl, PV63.2.1 3 _ rfl⟩) (fun hHeld => ?_)
      clear hK K
      refine wpAnyH_ready (rs := [2]) (by kernel_rfl) (by simp) ?_
      refine AllReadyH.cons rfl (fun K hK => ?_) (AllReadyH.nil)
      (try simp only [zk1, zk2, zk3])
      go_simp
      have eV64 : Ext V63 (V63.alloc (Obj.cells #[] 9)) := (Ext.refl _).alloc _
      have ALV64 := World.ownsRow_lit (base := w.heap.size + 2) (e := 9) (size := 1) V63 #[] 0 (lV63) (Nat.zero_le _) rfl
      have XV64 := XV63.trans eV64
      have PV64 := PV63.ext eV64
      have RV64 := RV63.ext eV64
      have lV64 := Nat.le_trans (lV63) eV64.size
      have BLV64 := own_ext BLV63 eV64
      have yBAV64 : V53.heap.size < V63.heap.size := (own_lt BLV63 _ rfl).2
      have CLV64 := own_ext CLV63 eV64
      have yCAV64 : V0.heap.size < V63.heap.size := (own_lt CLV63 _ rfl).2
      generalize V63.alloc (Obj.cells #[] 9) = V64 at *
      (try dsimp only)
      refine hK.out _ _ (by exact ⟨PV64.2.1 0 _ rfl, PV64.2.1 1 _ rfl, PV64.2.1 2 _ rfl, PV64.2.1 3 _ rfl⟩) (fun hHeld => ?_)
      clear hK K
      refine wpAnyH_ready (rs := [5]) (by kernel_rfl) (by simp) ?_
      refine AllReadyH.cons rfl (fun K hK => ?_) (AllReadyH.nil)
      refine step_append_any (.tmp 5) (.tmp 7) 22 (by rfl) (by rfl) (w.heap.size + 2) 9 i0 _ 1 16 Tryd.underlying22 hi hz0 hz1 hz2 rfl (by decide) _ _ _ (by rfl) ALV64 _ s.op.length (s.op.map Value.string) (by rfl) (Strs.ext HA.out XV64) SA.out (strs_one3 _) (by unfold maxLen; omega) (by omega) (lV64) ?_
      intro aV65 cV65 V65 AOV65 gV65 atV65
      simp only [Nat.zero_add, List.nil_append] at AOV65 atV65 ⊢
      have bV65 : w.heap.size + 2 ≤ V63.heap.size := (own_lt ALV64 _ rfl).1
      have b2V65 : V63.heap.size < V64.heap.size := (own_lt ALV64 _ rfl).2
      have XV65 : Ext w V65 := own_ext_of XV64 ALV64 gV65 (by omega)
      have PV65 := PV64.grown gV65 (fun e => by injection e with e; dsimp only at e; omega)
      have RV65 := RV64.grown gV65 (fun e => by injection e with e; dsimp only at e; omega)
      have lV65 := Nat.le_trans (lV64) gV65.size
      have xBV65 : V53.heap.size < V64.heap.size := (own_lt BLV64 _ rfl).2
      have BLV65 := own_grown2 BLV64 gV65 (fun k hk e => by injection hk with hk; injection e with e; dsimp only at hk e; omega)
      have zABV65 : ∀ k, (Value.slice aV65 s.op.length cV65).ownBlock = some k → k ≠ V53.heap.size := by intro k hk; rcases atV65 with e | e <;> (rw [hk] at e; injection e with e; (try dsimp only at e); omega)
      have xCV65 : V0.heap.size < V64.heap.size := (own_lt CLV64 _ rfl).2
      have CLV65 := own_grown2 CLV64 gV65 (fun k hk e => by injection hk with hk; injection e with e; dsimp only at hk e; omega)
      have zACV65 : ∀ k, (Value.slice aV65 s.op.length cV65).ownBlock = some k → k ≠ V0.heap.size := by intro k hk; rcases atV65 with e | e <;> (rw [hk] at e; injection e with e; (try dsimp only at e); omega)
      clear atV65
      (try dsimp only)
      refine hK.out _ _ (by exact ⟨PV65.2.1 0 _ rfl, PV65.2.1 1 _ rfl, PV65.2.1 2 _ rfl, PV65.2.1 3 _ rfl⟩) (fun hHeld => ?_)
      clear hK K
      refine wpAnyH_ready (rs := [9]) (by kernel_rfl) (by simp) ?_
      refine AllReadyH.cons rfl (fun K hK => ?_) (AllReadyH.nil)
      refine step_append_any (.tmp 9) (.tmp 11) 22 (by rfl) (by rfl) (w.heap.size + 2) 9 i0 _ 1 16 Tryd.underlying22 hi hz0 hz1 hz2 rfl (by decide) _ _ _ (by rfl) BLV65 _ s.sh.length (s.sh.map Value.string) (by rfl) (Strs.ext HB.out XV65) SB.out (strs_one3 _) (by unfold maxLen; omega) (by omega) (lV65) ?_
      intro aV66 cV66 V66 BOV66 gV66 atV66
      simp only [Nat.zero_add, List.nil_append] at BOV66 atV66 ⊢
      have bV66 : w.heap.size + 2 ≤ V53.heap.size := (own_lt BLV65 _ rfl).1
      have b2V66 : V53.heap.size < V65.heap.size := (own_lt BLV65 _ rfl).2
      have XV66 : Ext w V66 := own_ext_of XV65 BLV65 gV66 (by omega)
      have PV66 := PV65.grown gV66 (fun e => by injection e with e; dsimp only at e; omega)
      have RV66 := RV65.grown gV66 (fun e => by injection e with e; dsimp only at e; omega)
      have lV66 := Nat.le_trans (lV65) gV66.size
      have wAV66 := fun k hk => (own_lt AOV65 k hk).2
      have AOV66 := own_grown2 AOV65 gV66 (fun k hk e => by injection hk with hk; have := zABV65 _ e; dsimp only at hk; omega)
      have fBAV66 : ∀ j, (Value.slice aV66 s.sh.length cV66).ownBlock = some j → ∀ i, ((.slice aV65 s.op.length cV65) : Value).ownBlock = some i → j ≠ i := by intro j hj i hi; have h1 := wAV66 i hi; have h2 := zABV65 i hi; rcases atV66 with e | e <;> (rw [hj] at e; injection e with e; (try dsimp only at e); omega)
      have xCV66 : V0.heap.size < V65.heap.size := (own_lt CLV65 _ rfl).2
      have CLV66 := own_grown2 CLV65 gV66 (fun k hk e => by injection hk with hk; injection e with e; dsimp only at hk e; omega)
      have zBCV66 : ∀ k, (Value.slice aV66 s.sh.length cV66).ownBlock = some k → k ≠ V0.heap.size := by intro k hk; rcases atV66 with e | e <;> (rw [hk] at e; injection e with e; (try dsimp only at e); omega)
      clear atV66
      (try dsimp only)
      refine hK.out _ _ (by exact ⟨PV66.2.1 0 _ rfl, PV66.2.1 1 _ rfl, PV66.2.1 2 _ rfl, PV66.2.1 3 _ rfl⟩) (fun hHeld => ?_)
      clear hK K
      refine wpAnyH_ready (rs := [13]) (by kernel_rfl) (by simp) ?_
      refine AllReadyH.cons rfl (fun K hK => ?_) (AllReadyH.nil)
      refine step_append_any (.tmp 13) (.tmp 15) 22 (by rfl) (by rfl) (w.heap.size + 2) 9 i0 _ 1 16 Tryd.underlying22 hi hz0 hz1 hz2 rfl (by decide) _ _ _ (by rfl) CLV66 _ s.si.length (s.si.map Value.string) (by rfl) (Strs.ext HC.out XV66) SC.out (strs_one3 _) (by unfold maxLen; omega) (by omega) (lV66) ?_
      intro aV67 cV67 V67 COV67 gV67 atV67
      simp only [Nat.zero_add, List.nil_append] at COV67 atV67 ⊢
      have bV67 : w.heap.size + 2 ≤ V0.heap.size := (own_lt CLV66 _ rfl).1
      have b2V67 : V0.heap.size < V66.heap.size := (own_lt CLV66 _ rfl).2
      have XV67 : Ext w V67 := own_ext_of XV66 CLV66 gV67 (by omega)
      have PV67 := PV66.grown gV67 (fun e => by injection e with e; dsimp only at e; omega)
      have RV67 := RV66.grown gV67 (fun e => by injection e with e; dsimp only at e; omega)
      have lV67 := Nat.le_trans (lV66) gV67.size
      have wAV67 := fun k hk => (own_lt AOV66 k hk).2
      have AOV67 := own_grown2 AOV66 gV67 (fun k hk e => by injection hk with hk; have := zACV65 _ e; dsimp only at hk; omega)
      have fCAV67 : ∀ j, (Value.slice aV67 s.si.length cV67).ownBlock = some j → ∀ i, ((.slice aV65 s.op.length cV65) : Value).ownBlock = some i → j ≠ i := by intro j hj i hi; have h1 := wAV67 i hi; have h2 := zACV65 i hi; rcases atV67 with e | e <;> (rw [hj] at e; injection e with e; (try dsimp only at e); omega)
      have wBV67 := fun k hk => (own_lt BOV66 k hk).2
      have BOV67 := own_grown2 BOV66 gV67 (fun k hk e => by injection hk with hk; have := zBCV66 _ e; dsimp only at hk; omega)
      have fCBV67 : ∀ j, (Value.slice aV67 s.si.length cV67).ownBlock = some j → ∀ i, ((.slice aV66 s.sh.length cV66) : Value).ownBlock = some i → j ≠ i := by intro j hj i hi; have h1 := wBV67 i hi; have h2 := zBCV66 i hi; rcases atV67 with e | e <;> (rw [hj] at e; injection e with e; (try dsimp only at e); omega)
      clear atV67
      (try dsimp only)
      refine hK.out _ _ (by exact ⟨PV67.2.1 0 _ rfl, PV67.2.1 1 _ rfl, PV67.2.1 2 _ rfl, PV67.2.1 3 _ rfl⟩) (fun hHeld => ?_)
      clear hK K
      (refine wpAnyH_take (i := 14) (v := ?_) rfl (by kernel_rfl) (by kernel_rfl) (by kernel_rfl) (fun _ _ _ h => h) (Or.inl ⟨by rfl, ?_⟩) (by assumption) ?_; rotate_left; focus (intro w hSw; (try dsimp only at hSw); (try simp only [zk1, zk2, zk3]); go_simp; try with_reducible rfl)); (try simp only [zk1, zk2, zk3]); (try simp only [Act.put, zk4, zk5, zk6])
      have r0 := RV67.2.1 0 _ rfl
      have r1 := RV67.2.1 1 _ rfl
      have r2 := RV67.2.1 2 _ rfl
      have r3 := RV67.2.1 3 _ rfl
      have f0 := RV67.2.2 0
      have f1 := RV67.2.2 1
      have f2 := RV67.2.2 2
      have f3 := RV67.2.2 3
      have RR := ((((RV67.set 0 (.int .i64 s.at_) (by simp)).set 1 ((.slice aV65 s.op.length cV65)) (by simp)).set 2 ((.slice aV66 s.sh.length cV66)) (by simp)).set 3 ((.slice aV67 s.si.length cV67)) (by simp))
      have PP := ((((PV67.far (c := w.heap.size + 1) (by omega) 0 (.int .i64 s.at_)).far (c := w.heap.size + 1) (by omega) 1 ((.slice aV65 s.op.length cV65))).far (c := w.heap.size + 1) (by omega) 2 ((.slice aV66 s.sh.length cV66))).far (c := w.heap.size + 1) (by omega) 3 ((.slice aV67 s.si.length cV67)))
      have QA := Lib.hid (own_below (own_below (own_below (own_below AOV67 (p := ⟨w.heap.size + 1, 0, none⟩) (u := .int .i64 s.at_) (by dsimp only; omega)) (p := ⟨w.heap.size + 1, 1, none⟩) (u := (.slice aV65 s.op.length cV65)) (by dsimp only; omega)) (p := ⟨w.heap.size + 1, 2, none⟩) (u := (.slice aV66 s.sh.length cV66)) (by dsimp only; omega)) (p := ⟨w.heap.size + 1, 3, none⟩) (u := (.slice aV67 s.si.length cV67)) (by dsimp only; omega))
      have QB := Lib.hid (own_below (own_below (own_below (own_below BOV67 (p := ⟨w.heap.size + 1, 0, none⟩) (u := .int .i64 s.at_) (by dsimp only; omega)) (p := ⟨w.heap.size + 1, 1, none⟩) (u := (.slice aV65 s.op.length cV65)) (by dsimp only; omega)) (p := ⟨w.heap.size + 1, 2, none⟩) (u := (.slice aV66 s.sh.length cV66)) (by dsimp only; omega)) (p := ⟨w.heap.size + 1, 3, none⟩) (u := (.slice aV67 s.si.length cV67)) (by dsimp only; omega))
      have QC := Lib.hid (own_below (own_below (own_below (own_below COV67 (p := ⟨w.heap.size + 1, 0, none⟩) (u := .int .i64 s.at_) (by dsimp only; omega)) (p := ⟨w.heap.size + 1, 1, none⟩) (u := (.slice aV65 s.op.length cV65)) (by dsimp only; omega)) (p := ⟨w.heap.size + 1, 2, none⟩) (u := (.slice aV66 s.sh.length cV66)) (by dsimp only; omega)) (p := ⟨w.heap.size + 1, 3, none⟩) (u := (.slice aV67 s.si.length cV67)) (by dsimp only; omega))
      have XF : Ext w ((((V67.setCell ⟨w.heap.size + 1, 0, none⟩ (.int .i64 s.at_)).setCell ⟨w.heap.size + 1, 1, none⟩ ((.slice aV65 s.op.length cV65))).setCell ⟨w.heap.size + 1, 2, none⟩ ((.slice aV66 s.sh.length cV66))).setCell ⟨w.heap.size + 1, 3, none⟩ ((.slice aV67 s.si.length cV67))) := ((((XV67.setCell (p := ⟨w.heap.size + 1, 0, none⟩) (by dsimp only; omega) (.int .i64 s.at_)).setCell (p := ⟨w.heap.size + 1, 1, none⟩) (by dsimp only; omega) ((.slice aV65 s.op.length cV65))).setCell (p := ⟨w.heap.size + 1, 2, none⟩) (by dsimp only; omega) ((.slice aV66 s.sh.length cV66))).setCell (p := ⟨w.heap.size + 1, 3, none⟩) (by dsimp only; omega) ((.slice aV67 s.si.length cV67)))
      (refine wpAnyH_ready (rs := [15]) (by kernel_rfl) (by simp) ?_; refine AllReadyH.cons rfl (fun K hK => ?_) AllReadyH.nil; (try simp only [zk1, zk2, zk3]))
      go_simp
      generalize (((V67.setCell ⟨w.heap.size + 1, 0, none⟩ (.int .i64 s.at_)).setCell ⟨w.heap.size + 1, 1, none⟩ ((.slice aV65 s.op.length cV65))).setCell ⟨w.heap.size + 1, 2, none⟩ ((.slice aV66 s.sh.length cV66))).setCell ⟨w.heap.size + 1, 3, none⟩ ((.slice aV67 s.si.length cV67)) = WF at *
      (try dsimp only)
      refine hK.out _ _ (by exact ⟨PP.2.1 0 _ rfl, PP.2.1 1 _ rfl, PP.2.1 2 _ rfl, PP.2.1 3 _ rfl⟩) (fun hHeld => ?_)
      clear hK K
      refine wpAnyH_done (by kernel_rfl) ?_ _
      have k0 := RR.2.1 0 _ rfl
      have k1 := RR.2.1 1 _ rfl
      have k2 := RR.2.1 2 _ rfl
      have k3 := RR.2.1 3 _ rfl
      go_wp2
      refine bodyPost_ret (v := .agg #[.int .i64 s.at_, (.slice aV65 s.op.length cV65), (.slice aV66 s.sh.length cV66), (.slice aV67 s.si.length cV67)]) (by simp [results, Tryd.results130, go_sem, k0, k1, k2, k3]) rfl ⟨_, _, _, _, _, _, rfl, ⟨own_mono QA.out (by omega), own_mono QB.out (by omega), own_mono QC.out (by omega), (fun k hk e => fBAV66 k e k hk rfl), (fun k hk e => fCAV67 k e k hk rfl), (fun k hk e => fCBV67 k e k hk rfl)⟩, XF⟩
end Go.Proofs.YtliebkhfddmhjaaDoor
