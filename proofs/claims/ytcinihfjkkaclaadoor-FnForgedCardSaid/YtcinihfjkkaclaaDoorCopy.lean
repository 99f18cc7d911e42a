/- The copy of a proof. -/
import Derived.Test.YtcinihfjkkaclaaDoorApp
import Derived.Test.YtcinihfjkkaclaaDoorLTxA
import Derived.Deep.RegionHeld3
namespace Go.Proofs.YtcinihfjkkaclaaDoor
open Go.RowKit

theorem strs_one (xs : List ByteArray) : ∀ u ∈ xs.map Value.string, u.oneCell' = true := by
  intro u hu
  rw [List.mem_map] at hu
  obtain ⟨s, -, rfl⟩ := hu
  rfl
theorem infoStr : (Tryd.prog.info? 9).map (fun i => (i.zero, i.size, i.bytes)) = some (some (.string ⟨#[]⟩), 1, 16) := by kernel_rfl
set_option maxRecDepth 100000 in
set_option maxHeartbeats 6400000 in
theorem spec_l11Copy (v u : Value) (xs : List Leaf) (ss : List ByteArray) (w : World) (h : Lvs w v xs) (hu : Strs w u ss) (hv : Solid v) (hw : Solid u) (hb : xs.length ≤ 1099511627776) (hc : ss.length ≤ 1099511627776) :
    Calls Tryd.prog 150 #[.agg #[v, u]] w fun e w' => ∃ a c b d, e = .returned (.agg #[.slice a xs.length c, .slice b ss.length d]) ∧ OwnLvs w' w.heap.size (.slice a xs.length c) xs ∧ OwnStrs w' w.heap.size (.slice b ss.length d) ss ∧ Ext w w' := by
  obtain ⟨i0, hi, hz0, hz1, hz2⟩ := info_parts infoLeaf
  obtain ⟨i1, hj, hy0, hy1, hy2⟩ := info_parts infoStr
  have HA := Lib.hid h
  have HB := Lib.hid hu
  have SA := Lib.hid hv
  have SB := Lib.hid hw
  obtain ⟨a0, c0, rfl⟩ := h.form
  obtain ⟨b0, d0, rfl⟩ := hu.form
  have R0 := Tryd.results150
  clear h hu hv hw
  go_enter Tryd.func150, Tryd.ntmps150
  go_wp2_with fail
  have P : Bx ((w.alloc (Obj.cells #[.slice a0 xs.length c0, .slice b0 ss.length d0] 59)).alloc (Obj.cells #[.slice none 0 0, .slice none 0 0] 59)).drew w.heap.size [.slice a0 xs.length c0, .slice b0 ss.length d0] := (Bx.new w _ _).ext (by repeat (first | (with_reducible first | exact Ext.refl _ | assumption | apply Ext.alloc | apply Ext.drew | apply Ext.drewN | refine Ext.setCell ?_ ?_ _ | refine Ext.trans ?_ (by assumption)) | (show _ ≤ _; first | omega | (dsimp only; omega) | (simp; done) | (simp; omega))))
  have R : Bx ((w.alloc (Obj.cells #[.slice a0 xs.length c0, .slice b0 ss.length d0] 59)).alloc (Obj.cells #[.slice none 0 0, .slice none 0 0] 59)).drew (w.heap.size + 1) [.slice none 0 0, .slice none 0 0] := by
    have e := (Bx.new (w.alloc (Obj.cells #[.slice a0 xs.length c0, .slice b0 ss.length d0] 59)) #[.slice none 0 0, .slice none 0 0] 59).ext ((Ext.refl _).drew)
    rw [World.size_alloc] at e
    exact e
  have X : Ext w ((w.alloc (Obj.cells #[.slice a0 xs.length c0, .slice b0 ss.length d0] 59)).alloc (Obj.cells #[.slice none 0 0, .slice none 0 0] 59)).drew := (by repeat (first | (with_reducible first | exact Ext.refl _ | assumption | apply Ext.alloc | apply Ext.drew | apply Ext.drewN | refine Ext.setCell ?_ ?_ _ | refine Ext.trans ?_ (by assumption)) | (show _ ≤ _; first | omega | (dsimp only; omega) | (simp; done) | (simp; omega))))
  have l0 : w.heap.size + 2 ≤ ((w.alloc (Obj.cells #[.slice a0 xs.length c0, .slice b0 ss.length d0] 59)).alloc (Obj.cells #[.slice none 0 0, .slice none 0 0] 59)).drew.heap.size := by show _ ≤ ((w.alloc _).alloc _).heap.size; rw [World.size_alloc, World.size_alloc]; omega
  refine wp_region_held_drew (S := fun W => W.cell? ⟨w.heap.size, 0, none⟩ = some (.slice a0 xs.length c0) ∧ W.cell? ⟨w.heap.size, 1, none⟩ = some (.slice b0 ss.length d0)) (by kernel_rfl) (by exact ⟨P.2.1 0 _ rfl, P.2.1 1 _ rfl⟩) (fun hHeld => ?_)
  generalize ((w.alloc (Obj.cells #[.slice a0 xs.length c0, .slice b0 ss.length d0] 59)).alloc (Obj.cells #[.slice none 0 0, .slice none 0 0] 59)).drew = V0 at *
  (refine wpAnyH_take (i := 1) (v := ?_) rfl (by kernel_rfl) (by kernel_rfl) (by kernel_rfl) (fun _ _ _ h => h) (Or.inl ⟨by rfl, ?_⟩) (by assumption) ?_; rotate_left; focus (intro w hSw; (try dsimp only at hSw); (try simp only [List.getElem_toArray, List.getElem_cons_zero, List.getElem_cons_succ]); go_simp; try with_reducible rfl)); (try simp only [List.getElem_toArray, List.getElem_cons_zero, List.getElem_cons_succ]); (try simp only [Act.put, List.setIfInBounds_toArray, List.set_cons_zero, List.set_cons_succ])
  (refine wpAnyH_take (i := 2) (v := ?_) rfl (by kernel_rfl) (by kernel_rfl) (by kernel_rfl) (fun _ _ _ h => h) (Or.inl ⟨by rfl, ?_⟩) (by assumption) ?_; rotate_left; focus (intro w hSw; (try dsimp only at hSw); (try simp only [List.getElem_toArray, List.getElem_cons_zero, List.getElem_cons_succ]); go_simp; try with_reducible rfl)); (try simp only [List.getElem_toArray, List.getElem_cons_zero, List.getElem_cons_succ]); (try simp only [Act.put, List.setIfInBounds_toArray, List.set_cons_zero, List.set_cons_succ])
  (refine wpAnyH_take (i := 5) (v := ?_) rfl (by kernel_rfl) (by kernel_rfl) (by kernel_rfl) (fun _ _ _ h => h) (Or.inl ⟨by rfl, ?_⟩) (by assumption) ?_; rotate_left; focus (intro w hSw; (try dsimp only at hSw); (try simp only [List.getElem_toArray, List.getElem_cons_zero, List.getElem_cons_succ]); go_simp; try with_reducible rfl)); (try simp only [List.getElem_toArray, List.getElem_cons_zero, List.getElem_cons_succ]); (try simp only [Act.put, List.setIfInBounds_toArray, List.set_cons_zero, List.set_cons_succ])
  (refine wpAnyH_take (i := 6) (v := ?_) rfl (by kernel_rfl) (by kernel_rfl) (by kernel_rfl) (fun _ _ _ h => h) (Or.inl ⟨by rfl, ?_⟩) (by assumption) ?_; rotate_left; focus (intro w hSw; (try dsimp only at hSw); (try simp only [List.getElem_toArray, List.getElem_cons_zero, List.getElem_cons_succ]); go_simp; try with_reducible rfl)); (try simp only [List.getElem_toArray, List.getElem_cons_zero, List.getElem_cons_succ]); (try simp only [Act.put, List.setIfInBounds_toArray, List.set_cons_zero, List.set_cons_succ])
  refine wpAnyH_ready (rs := [0, 4]) (by kernel_rfl) (by simp) ?_
  refine AllReadyH.cons rfl (fun K hK => ?_) (AllReadyH.cons rfl (fun K hK => ?_) (AllReadyH.nil))
  · (try simp only [List.getElem_toArray, List.getElem_cons_zero])
    go_simp
    have eV1 : Ext V0 (V0.alloc (Obj.cells #[] 117)) := (by repeat (first | (with_reducible first | exact Ext.refl _ | assumption | apply Ext.alloc | apply Ext.drew | apply Ext.drewN | refine Ext.setCell ?_ ?_ _ | refine Ext.trans ?_ (by assumption)) | (show _ ≤ _; first | omega | (dsimp only; omega) | (simp; done) | (simp; omega))))
    have ALV1 := World.ownsRow_lit (base := w.heap.size + 2) (e := 117) (size := 2) V0 #[] 0 (l0) (Nat.zero_le _) rfl
    have qV1 : V0.heap.size < (V0.alloc (Obj.cells #[] 117)).heap.size := by rw [World.size_alloc]; omega
    have XV1 := X.trans eV1
    have PV1 := P.ext eV1
    have RV1 := R.ext eV1
    have lV1 := Nat.le_trans (l0) eV1.size
    generalize V0.alloc (Obj.cells #[] 117) = V1 at *
    (try dsimp only)
    refine hK.out _ _ (by exact ⟨PV1.2.1 0 _ rfl, PV1.2.1 1 _ rfl⟩) (fun hHeld => ?_)
    clear hK K
    refine wpAnyH_ready (rs := [3, 4]) (by kernel_rfl) (by simp) ?_
    refine AllReadyH.cons rfl (fun K hK => ?_) (AllReadyH.cons rfl (fun K hK => ?_) (AllReadyH.nil))
    · refine step_append_any (.tmp 3) (.tmp 5) 44 (by rfl) (by rfl) (w.heap.size + 2) 117 i0 _ 2 32 Tryd.underlying44 hi hz0 hz1 hz2 rfl (by decide) _ _ _ (by rfl) ALV1 _ xs.length (xs.flatMap Leaf.cells) (by rfl) (HA.out.ext XV1) SA.out (leaf_one xs) (by unfold maxLen; omega) (by omega) (lV1) ?_
      intro aV2 cV2 V2 AOV2 gV2 atV2
      simp only [Nat.zero_add, List.nil_append] at AOV2 atV2 ⊢
      have bV2 := (own_lt ALV1 _ rfl).1
      have b2V2 := (own_lt ALV1 _ rfl).2
      have XV2 : Ext w V2 := own_ext_of XV1 ALV1 gV2 (by omega)
      have PV2 := PV1.grown gV2 (fun e => by injection e with e; dsimp only at e; omega)
      have RV2 := RV1.grown gV2 (fun e => by injection e with e; dsimp only at e; omega)
      have lV2 := Nat.le_trans (lV1) gV2.size
      clear atV2
      (try dsimp only)
      refine hK.out _ _ (by exact ⟨PV2.2.1 0 _ rfl, PV2.2.1 1 _ rfl⟩) (fun hHeld => ?_)
      clear hK K
      refine wpAnyH_ready (rs := [4]) (by kernel_rfl) (by simp) ?_
      refine AllReadyH.cons rfl (fun K hK => ?_) (AllReadyH.nil)
      (try simp only [List.getElem_toArray, List.getElem_cons_zero, List.getElem_cons_succ])
      go_simp
      have eV3 : Ext V2 (V2.alloc (Obj.cells #[] 9)) := (by repeat (first | (with_reducible first | exact Ext.refl _ | assumption | apply Ext.alloc | apply Ext.drew | apply Ext.drewN | refine Ext.setCell ?_ ?_ _ | refine Ext.trans ?_ (by assumption)) | (show _ ≤ _; first | omega | (dsimp only; omega) | (simp; done) | (simp; omega))))
      have BLV3 := World.ownsRow_lit (base := w.heap.size + 2) (e := 9) (size := 1) V2 #[] 0 (lV2) (Nat.zero_le _) rfl
      have qV3 : V2.heap.size < (V2.alloc (Obj.cells #[] 9)).heap.size := by rw [World.size_alloc]; omega
      have XV3 := XV2.trans eV3
      have PV3 := PV2.ext eV3
      have RV3 := RV2.ext eV3
      have lV3 := Nat.le_trans (lV2) eV3.size
      have AOV3 := own_ext AOV2 eV3
      have zAV3 := fun k hk => (own_lt AOV2 k hk).2
      generalize V2.alloc (Obj.cells #[] 9) = V3 at *
      (try dsimp only)
      refine hK.out _ _ (by exact ⟨PV3.2.1 0 _ rfl, PV3.2.1 1 _ rfl⟩) (fun hHeld => ?_)
      clear hK K
      refine wpAnyH_ready (rs := [7]) (by kernel_rfl) (by simp) ?_
      refine AllReadyH.cons rfl (fun K hK => ?_) (AllReadyH.nil)
      refine step_append_any (.tmp 7) (.tmp 9) 51 (by rfl) (by rfl) (w.heap.size + 2) 9 i1 _ 1 16 Tryd.underlying51 hj hy0 hy1 hy2 rfl (by decide) _ _ _ (by rfl) BLV3 _ ss.length (ss.map Value.string) (by rfl) (HB.out.ext XV3) SB.out (strs_one ss) (by unfold maxLen; omega) (by omega) (lV3) ?_
      intro aV4 cV4 V4 BOV4 gV4 atV4
      simp only [Nat.zero_add, List.nil_append] at BOV4 atV4 ⊢
      have bV4 := (own_lt BLV3 _ rfl).1
      have b2V4 := (own_lt BLV3 _ rfl).2
      have XV4 : Ext w V4 := own_ext_of XV3 BLV3 gV4 (by omega)
      have PV4 := PV3.grown gV4 (fun e => by injection e with e; dsimp only at e; omega)
      have RV4 := RV3.grown gV4 (fun e => by injection e with e; dsimp only at e; omega)
      have lV4 := Nat.le_trans (lV3) gV4.size
      have AOV4 := own_grown2 AOV3 gV4 (fun k hk e => by injection hk with hk; have := zAV3 _ e; dsimp only at hk; omega)
      clear atV4
      (try dsimp only)
      refine hK.out _ _ (by exact ⟨PV4.2.1 0 _ rfl, PV4.2.1 1 _ rfl⟩) (fun hHeld => ?_)
      clear hK K
      (refine wpAnyH_take (i := 8) (v := ?_) rfl (by kernel_rfl) (by kernel_rfl) (by kernel_rfl) (fun _ _ _ h => h) (Or.inl ⟨by rfl, ?_⟩) (by assumption) ?_; rotate_left; focus (intro w hSw; (try dsimp only at hSw); (try simp only [List.getElem_toArray, List.getElem_cons_zero, List.getElem_cons_succ]); go_simp; try with_reducible rfl)); (try simp only [List.getElem_toArray, List.getElem_cons_zero, List.getElem_cons_succ]); (try simp only [Act.put, List.setIfInBounds_toArray, List.set_cons_zero, List.set_cons_succ])
      have r0 := RV4.2.1 0 _ rfl
      have r1 := RV4.2.1 1 _ rfl
      have f0 := RV4.2.2 0
      have f1 := RV4.2.2 1
      have RR := (RV4.set 0 (.slice aV2 xs.length cV2) (by simp)).set 1 (.slice aV4 ss.length cV4) (by simp)
      have PP := (PV4.far (c := w.heap.size + 1) (by omega) 0 (.slice aV2 xs.length cV2)).far (c := w.heap.size + 1) (by omega) 1 (.slice aV4 ss.length cV4)
      have QA := Lib.hid (own_below (own_below AOV4 (p := ⟨w.heap.size + 1, 0, none⟩) (u := (.slice aV2 xs.length cV2)) (by dsimp only; omega)) (p := ⟨w.heap.size + 1, 1, none⟩) (u := (.slice aV4 ss.length cV4)) (by dsimp only; omega))
      have QB := Lib.hid (own_below (own_below BOV4 (p := ⟨w.heap.size + 1, 0, none⟩) (u := (.slice aV2 xs.length cV2)) (by dsimp only; omega)) (p := ⟨w.heap.size + 1, 1, none⟩) (u := (.slice aV4 ss.length cV4)) (by dsimp only; omega))
      have XF : Ext w ((V4.setCell ⟨w.heap.size + 1, 0, none⟩ (.slice aV2 xs.length cV2)).setCell ⟨w.heap.size + 1, 1, none⟩ (.slice aV4 ss.length cV4)) := (XV4.setCell (p := ⟨w.heap.size + 1, 0, none⟩) (by dsimp only; omega) (.slice aV2 xs.length cV2)).setCell (p := ⟨w.heap.size + 1, 1, none⟩) (by dsimp only; omega) (.slice aV4 ss.length cV4)
      (refine wpAnyH_ready (rs := [9]) (by kernel_rfl) (by simp) ?_; refine AllReadyH.cons rfl (fun K hK => ?_) AllReadyH.nil; (try simp only [List.getElem_toArray, List.getElem_cons_zero, List.getElem_cons_succ]))
      go_simp
      generalize (V4.setCell ⟨w.heap.size + 1, 0, none⟩ (.slice aV2 xs.length cV2)).setCell ⟨w.heap.size + 1, 1, none⟩ (.slice aV4 ss.length cV4) = WF at *
      (try dsimp only)
      refine hK.out _ _ (by exact ⟨PP.2.1 0 _ rfl, PP.2.1 1 _ rfl⟩) (fun hHeld => ?_)
      clear hK K
      refine wpAnyH_done (by kernel_rfl) ?_ _
      have k0 := RR.2.1 0 _ rfl
      have k1 := RR.2.1 1 _ rfl
      go_wp2
      refine bodyPost_ret (v := .agg #[(.slice aV2 xs.length cV2), (.slice aV4 ss.length cV4)]) (by simp [results, go_sem, k0, k1]) rfl ⟨_, _, _, _, rfl, own_mono QA.out (by omega), own_mono QB.out (by omega), XF⟩
    · (try simp only [List.getElem_toArray, List.getElem_cons_zero, List.getElem_cons_succ])
      go_simp
      have eV5 : Ext V1 (V1.alloc (Obj.cells #[] 9)) := (by repeat (first | (with_reducible first | exact Ext.refl _ | assumption | apply Ext.alloc | apply Ext.drew | apply Ext.drewN | refine Ext.setCell ?_ ?_ _ | refine Ext.trans ?_ (by assumption)) | (show _ ≤ _; first | omega | (dsimp only; omega) | (simp; done) | (simp; omega))))
      have BLV5 := World.ownsRow_lit (base := w.heap.size + 2) (e := 9) (size := 1) V1 #[] 0 (lV1) (Nat.zero_le _) rfl
      have qV5 : V1.heap.size < (V1.alloc (Obj.cells #[] 9)).heap.size := by rw [World.size_alloc]; omega
      have XV5 := XV1.trans eV5
      have PV5 := PV1.ext eV5
      have RV5 := RV1.ext eV5
      have lV5 := Nat.le_trans (lV1) eV5.size
      have ALV5 := own_ext ALV1 eV5
      generalize V1.alloc (Obj.cells #[] 9) = V5 at *
      (try dsimp only)
      refine hK.out _ _ (by exact ⟨PV5.2.1 0 _ rfl, PV5.2.1 1 _ rfl⟩) (fun hHeld => ?_)
      clear hK K
      refine wpAnyH_ready (rs := [3]) (by kernel_rfl) (by simp) ?_
      refine AllReadyH.cons rfl (fun K hK => ?_) (AllReadyH.nil)
      refine step_append_any (.tmp 3) (.tmp 5) 44 (by rfl) (by rfl) (w.heap.size + 2) 117 i0 _ 2 32 Tryd.underlying44 hi hz0 hz1 hz2 rfl (by decide) _ _ _ (by rfl) ALV5 _ xs.length (xs.flatMap Leaf.cells) (by rfl) (HA.out.ext XV5) SA.out (leaf_one xs) (by unfold maxLen; omega) (by omega) (lV5) ?_
      intro aV6 cV6 V6 AOV6 gV6 atV6
      simp only [Nat.zero_add, List.nil_append] at AOV6 atV6 ⊢
      have bV6 := (own_lt ALV5 _ rfl).1
      have b2V6 := (own_lt ALV5 _ rfl).2
      have XV6 : Ext w V6 := own_ext_of XV5 ALV5 gV6 (by omega)
      have PV6 := PV5.grown gV6 (fun e => by injection e with e; dsimp only at e; omega)
      have RV6 := RV5.grown gV6 (fun e => by injection e with e; dsimp only at e; omega)
      have lV6 := Nat.le_trans (lV5) gV6.size
      have BLV6 := own_grown2 BLV5 gV6 (fun k hk e => by injection hk with hk; injection e with e; dsimp only at hk e; omega)
      have zAV6 : ∀ k, (Value.slice aV6 xs.length cV6).ownBlock = some k → k ≠ V1.heap.size := by intro k hk; rcases atV6 with e | e <;> (rw [hk] at e; injection e with e; (try dsimp only at e); omega)
      clear atV6
      (try dsimp only)
      refine hK.out _ _ (by exact ⟨PV6.2.1 0 _ rfl, PV6.2.1 1 _ rfl⟩) (fun hHeld => ?_)
      clear hK K
      refine wpAnyH_ready (rs := [7]) (by kernel_rfl) (by simp) ?_
      refine AllReadyH.cons rfl (fun K hK => ?_) (AllReadyH.nil)
      refine step_append_any (.tmp 7) (.tmp 9) 51 (by rfl) (by rfl) (w.heap.size + 2) 9 i1 _ 1 16 Tryd.underlying51 hj hy0 hy1 hy2 rfl (by decide) _ _ _ (by rfl) BLV6 _ ss.length (ss.map Value.string) (by rfl) (HB.out.ext XV6) SB.out (strs_one ss) (by unfold maxLen; omega) (by omega) (lV6) ?_
      intro aV7 cV7 V7 BOV7 gV7 atV7
      simp only [Nat.zero_add, List.nil_append] at BOV7 atV7 ⊢
      have bV7 := (own_lt BLV6 _ rfl).1
      have b2V7 := (own_lt BLV6 _ rfl).2
      have XV7 : Ext w V7 := own_ext_of XV6 BLV6 gV7 (by omega)
      have PV7 := PV6.grown gV7 (fun e => by injection e with e; dsimp only at e; omega)
      have RV7 := RV6.grown gV7 (fun e => by injection e with e; dsimp only at e; omega)
      have lV7 := Nat.le_trans (lV6) gV7.size
      have AOV7 := own_grown2 AOV6 gV7 (fun k hk e => by injection hk with hk; have := zAV6 _ e; dsimp only at hk; omega)
      clear atV7
      (try dsimp only)
      refine hK.out _ _ (by exact ⟨PV7.2.1 0 _ rfl, PV7.2.1 1 _ rfl⟩) (fun hHeld => ?_)
      clear hK K
      (refine wpAnyH_take (i := 8) (v := ?_) rfl (by kernel_rfl) (by kernel_rfl) (by kernel_rfl) (fun _ _ _ h => h) (Or.inl ⟨by rfl, ?_⟩) (by assumption) ?_; rotate_left; focus (intro w hSw; (try dsimp only at hSw); (try simp only [List.getElem_toArray, List.getElem_cons_zero, List.getElem_cons_succ]); go_simp; try with_reducible rfl)); (try simp only [List.getElem_toArray, List.getElem_cons_zero, List.getElem_cons_succ]); (try simp only [Act.put, List.setIfInBounds_toArray, List.set_cons_zero, List.set_cons_succ])
      have r0 := RV7.2.1 0 _ rfl
      have r1 := RV7.2.1 1 _ rfl
      have f0 := RV7.2.2 0
      have f1 := RV7.2.2 1
      have RR := (RV7.set 0 (.slice aV6 xs.length cV6) (by simp)).set 1 (.slice aV7 ss.length cV7) (by simp)
      have PP := (PV7.far (c := w.heap.size + 1) (by omega) 0 (.slice aV6 xs.length cV6)).far (c := w.heap.size + 1) (by omega) 1 (.slice aV7 ss.length cV7)
      have QA := Lib.hid (own_below (own_below AOV7 (p := ⟨w.heap.size + 1, 0, none⟩) (u := (.slice aV6 xs.length cV6)) (by dsimp only; omega)) (p := ⟨w.heap.size + 1, 1, none⟩) (u := (.slice aV7 ss.length cV7)) (by dsimp only; omega))
      have QB := Lib.hid (own_below (own_below BOV7 (p := ⟨w.heap.size + 1, 0, none⟩) (u := (.slice aV6 xs.length cV6)) (by dsimp only; omega)) (p := ⟨w.heap.size + 1, 1, none⟩) (u := (.slice aV7 ss.length cV7)) (by dsimp only; omega))
      have XF : Ext w ((V7.setCell ⟨w.heap.size + 1, 0, none⟩ (.slice aV6 xs.length cV6)).setCell ⟨w.heap.size + 1, 1, none⟩ (.slice aV7 ss.length cV7)) := (XV7.setCell (p := ⟨w.heap.size + 1, 0, none⟩) (by dsimp only; omega) (.slice aV6 xs.length cV6)).setCell (p := ⟨w.heap.size + 1, 1, none⟩) (by dsimp only; omega) (.slice aV7 ss.length cV7)
      (refine wpAnyH_ready (rs := [9]) (by kernel_rfl) (by simp) ?_; refine AllReadyH.cons rfl (fun K hK => ?_) AllReadyH.nil; (try simp only [List.getElem_toArray, List.getElem_cons_zero, List.getElem_cons_succ]))
      go_simp
      generalize (V7.setCell ⟨w.heap.size + 1, 0, none⟩ (.slice aV6 xs.length cV6)).setCell ⟨w.heap.size + 1, 1, none⟩ (.slice aV7 ss.length cV7) = WF at *
      (try dsimp only)
      refine hK.out _ _ (by exact ⟨PP.2.1 0 _ rfl, PP.2.1 1 _ rfl⟩) (fun hHeld => ?_)
      clear hK K
      refine wpAnyH_done (by kernel_rfl) ?_ _
      have k0 := RR.2.1 0 _ rfl
      have k1 := RR.2.1 1 _ rfl
      go_wp2
      refine bodyPost_ret (v := .agg #[(.slice aV6 xs.length cV6), (.slice aV7 ss.length cV7)]) (by simp [results, go_sem, k0, k1]) rfl ⟨_, _, _, _, rfl, own_mono QA.out (by omega), own_mono QB.out (by omega), XF⟩
  · (try simp only [List.getElem_toArray, List.getElem_cons_zero, List.getElem_cons_succ])
    go_simp
    have eV8 : Ext V0 (V0.alloc (Obj.cells #[] 9)) := (by repeat (first | (with_reducible first | exact Ext.refl _ | assumption | apply Ext.alloc | apply Ext.drew | apply Ext.drewN | refine Ext.setCell ?_ ?_ _ | refine Ext.trans ?_ (by assumption)) | (show _ ≤ _; first | omega | (dsimp only; omega) | (simp; done) | (simp; omega))))
    have BLV8 := World.ownsRow_lit (base := w.heap.size + 2) (e := 9) (size := 1) V0 #[] 0 (l0) (Nat.zero_le _) rfl
    have qV8 : V0.heap.size < (V0.alloc (Obj.cells #[] 9)).heap.size := by rw [World.size_alloc]; omega
    have XV8 := X.trans eV8
    have PV8 := P.ext eV8
    have RV8 := R.ext eV8
    have lV8 := Nat.le_trans (l0) eV8.size
    generalize V0.alloc (Obj.cells #[] 9) = V8 at *
    (try dsimp only)
    refine hK.out _ _ (by exact ⟨PV8.2.1 0 _ rfl, PV8.2.1 1 _ rfl⟩) (fun hHeld => ?_)
    clear hK K
    refine wpAnyH_ready (rs := [0]) (by kernel_rfl) (by simp) ?_
    refine AllReadyH.cons rfl (fun K hK => ?_) (AllReadyH.nil)
    (try simp only [List.getElem_toArray, List.getElem_cons_zero])
    go_simp
    have eV9 : Ext V8 (V8.alloc (Obj.cells #[] 117)) := (by repeat (first | (with_reducible first | exact Ext.refl _ | assumption | apply Ext.alloc | apply Ext.drew | apply Ext.drewN | refine Ext.setCell ?_ ?_ _ | refine Ext.trans ?_ (by assumption)) | (show _ ≤ _; first | omega | (dsimp only; omega) | (simp; done) | (simp; omega))))
    have ALV9 := World.ownsRow_lit (base := w.heap.size + 2) (e := 117) (size := 2) V8 #[] 0 (lV8) (Nat.zero_le _) rfl
    have qV9 : V8.heap.size < (V8.alloc (Obj.cells #[] 117)).heap.size := by rw [World.size_alloc]; omega
    have XV9 := XV8.trans eV9
    have PV9 := PV8.ext eV9
    have RV9 := RV8.ext eV9
    have lV9 := Nat.le_trans (lV8) eV9.size
    have BLV9 := own_ext BLV8 eV9
    generalize V8.alloc (Obj.cells #[] 117) = V9 at *
    (try dsimp only)
    refine hK.out _ _ (by exact ⟨PV9.2.1 0 _ rfl, PV9.2.1 1 _ rfl⟩) (fun hHeld => ?_)
    clear hK K
    refine wpAnyH_ready (rs := [3]) (by kernel_rfl) (by simp) ?_
    refine AllReadyH.cons rfl (fun K hK => ?_) (AllReadyH.nil)
    refine step_append_any (.tmp 3) (.tmp 5) 44 (by rfl) (by rfl) (w.heap.size + 2) 117 i0 _ 2 32 Tryd.underlying44 hi hz0 hz1 hz2 rfl (by decide) _ _ _ (by rfl) ALV9 _ xs.length (xs.flatMap Leaf.cells) (by rfl) (HA.out.ext XV9) SA.out (leaf_one xs) (by unfold maxLen; omega) (by omega) (lV9) ?_
    intro aV10 cV10 V10 AOV10 gV10 atV10
    simp only [Nat.zero_add, List.nil_append] at AOV10 atV10 ⊢
    have bV10 := (own_lt ALV9 _ rfl).1
    have b2V10 := (own_lt ALV9 _ rfl).2
    have XV10 : Ext w V10 := own_ext_of XV9 ALV9 gV10 (by omega)
    have PV10 := PV9.grown gV10 (fun e => by injection e with e; dsimp only at e; omega)
    have RV10 := RV9.grown gV10 (fun e => by injection e with e; dsimp only at e; omega)
    have lV10 := Nat.le_trans (lV9) gV10.size
    have BLV10 := own_grown2 BLV9 gV10 (fun k hk e => by injection hk with hk; injection e with e; dsimp only at hk e; omega)
    have zAV10 : ∀ k, (Value.slice aV10 xs.length cV10).ownBlock = some k → k ≠ V0.heap.size := by intro k hk; rcases atV10 with e | e <;> (rw [hk] at e; injection e with e; (try dsimp only at e); omega)
    clear atV10
    (try dsimp only)
    refine hK.out _ _ (by exact ⟨PV10.2.1 0 _ rfl, PV10.2.1 1 _ rfl⟩) (fun hHeld => ?_)
    clear hK K
    refine wpAnyH_ready (rs := [7]) (by kernel_rfl) (by simp) ?_
    refine AllReadyH.cons rfl (fun K hK => ?_) (AllReadyH.nil)
    refine step_append_any (.tmp 7) (.tmp 9) 51 (by rfl) (by rfl) (w.heap.size + 2) 9 i1 _ 1 16 Tryd.underlying51 hj hy0 hy1 hy2 rfl (by decide) _ _ _ (by rfl) BLV10 _ ss.length (ss.map Value.string) (by rfl) (HB.out.ext XV10) SB.out (strs_one ss) (by unfold maxLen; omega) (by omega) (lV10) ?_
    intro aV11 cV11 V11 BOV11 gV11 atV11
    simp only [Nat.zero_add, List.nil_append] at BOV11 atV11 ⊢
    have bV11 := (own_lt BLV10 _ rfl).1
    have b2V11 := (own_lt BLV10 _ rfl).2
    have XV11 : Ext w V11 := own_ext_of XV10 BLV10 gV11 (by omega)
    have PV11 := PV10.grown gV11 (fun e => by injection e with e; dsimp only at e; omega)
    have RV11 := RV10.grown gV11 (fun e => by injection e with e; dsimp only at e; omega)
    have lV11 := Nat.le_trans (lV10) gV11.size
    have AOV11 := own_grown2 AOV10 gV11 (fun k hk e => by injection hk with hk; have := zAV10 _ e; dsimp only at hk; omega)
    clear atV11
    (try dsimp only)
    refine hK.out _ _ (by exact ⟨PV11.2.1 0 _ rfl, PV11.2.1 1 _ rfl⟩) (fun hHeld => ?_)
    clear hK K
    (refine wpAnyH_take (i := 8) (v := ?_) rfl (by kernel_rfl) (by kernel_rfl) (by kernel_rfl) (fun _ _ _ h => h) (Or.inl ⟨by rfl, ?_⟩) (by assumption) ?_; rotate_left; focus (intro w hSw; (try dsimp only at hSw); (try simp only [List.getElem_toArray, List.getElem_cons_zero, List.getElem_cons_succ]); go_simp; try with_reducible rfl)); (try simp only [List.getElem_toArray, List.getElem_cons_zero, List.getElem_cons_succ]); (try simp only [Act.put, List.setIfInBounds_toArray, List.set_cons_zero, List.set_cons_succ])
    have r0 := RV11.2.1 0 _ rfl
    have r1 := RV11.2.1 1 _ rfl
    have f0 := RV11.2.2 0
    have f1 := RV11.2.2 1
    have RR := (RV11.set 0 (.slice aV10 xs.length cV10) (by simp)).set 1 (.slice aV11 ss.length cV11) (by simp)
    have PP := (PV11.far (c := w.heap.size + 1) (by omega) 0 (.slice aV10 xs.length cV10)).far (c := w.heap.size + 1) (by omega) 1 (.slice aV11 ss.length cV11)
    have QA := Lib.hid (own_below (own_below AOV11 (p := ⟨w.heap.size + 1, 0, none⟩) (u := (.slice aV10 xs.length cV10)) (by dsimp only; omega)) (p := ⟨w.heap.size + 1, 1, none⟩) (u := (.slice aV11 ss.length cV11)) (by dsimp only; omega))
    have QB := Lib.hid (own_below (own_below BOV11 (p := ⟨w.heap.size + 1, 0, none⟩) (u := (.slice aV10 xs.length cV10)) (by dsimp only; omega)) (p := ⟨w.heap.size + 1, 1, none⟩) (u := (.slice aV11 ss.length cV11)) (by dsimp only; omega))
    have XF : Ext w ((V11.setCell ⟨w.heap.size + 1, 0, none⟩ (.slice aV10 xs.length cV10)).setCell ⟨w.heap.size + 1, 1, none⟩ (.slice aV11 ss.length cV11)) := (XV11.setCell (p := ⟨w.heap.size + 1, 0, none⟩) (by dsimp only; omega) (.slice aV10 xs.length cV10)).setCell (p := ⟨w.heap.size + 1, 1, none⟩) (by dsimp only; omega) (.slice aV11 ss.length cV11)
    (refine wpAnyH_ready (rs := [9]) (by kernel_rfl) (by simp) ?_; refine AllReadyH.cons rfl (fun K hK => ?_) AllReadyH.nil; (try simp only [List.getElem_toArray, List.getElem_cons_zero, List.getElem_cons_succ]))
    go_simp
    generalize (V11.setCell ⟨w.heap.size + 1, 0, none⟩ (.slice aV10 xs.length cV10)).setCell ⟨w.heap.size + 1, 1, none⟩ (.slice aV11 ss.length cV11) = WF at *
    (try dsimp only)
    refine hK.out _ _ (by exact ⟨PP.2.1 0 _ rfl, PP.2.1 1 _ rfl⟩) (fun hHeld => ?_)
    clear hK K
    refine wpAnyH_done (by kernel_rfl) ?_ _
    have k0 := RR.2.1 0 _ rfl
    have k1 := RR.2.1 1 _ rfl
    go_wp2
    refine bodyPost_ret (v := .agg #[(.slice aV10 xs.length cV10), (.slice aV11 ss.length cV11)]) (by simp [results, go_sem, k0, k1]) rfl ⟨_, _, _, _, rfl, own_mono QA.out (by omega), own_mono QB.out (by omega), XF⟩
end Go.Proofs.YtcinihfjkkaclaaDoor
