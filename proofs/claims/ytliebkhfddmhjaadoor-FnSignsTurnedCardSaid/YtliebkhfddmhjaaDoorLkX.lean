/- STx, LkP in one text. -/
import Derived.Test.YtliebkhfddmhjaaDoorSigW
import Derived.Test.YtliebkhfddmhjaaDoorSgO
import Derived.Deep.AppendLies
import Derived.Test.YtliebkhfddmhjaaDoorClB
import Derived.Test.YtliebkhfddmhjaaDoorTagA
import Derived.Test.YtliebkhfddmhjaaDoorRdA
namespace Go.Proofs.YtliebkhfddmhjaaDoor
open Go.RowKit

theorem off_ext {v v' r : Value} {H : Nat} (h : Off v r) (hv : v'.ownBlock = v.ownBlock ∨ v'.ownBlock = some H) (hb : ∀ k, r.ownBlock = some k → k < H) : Off v' r ∧ Off r v' := by
  have h1 : Off v' r := off_next h hv hb
  exact ⟨h1, fun g hg e => h1 g e hg⟩
theorem Off.symm2 {v r : Value} (h : Off v r) : Off r v := fun g hg e => h g e hg
theorem lies_at {v : Value} {g H n c : Nat} (h : v.ownBlock = some g ∨ g = H) : Value.ownBlock (.slice (some ⟨g, 0, none⟩) n c) = v.ownBlock ∨ Value.ownBlock (.slice (some ⟨g, 0, none⟩) n c) = some H := by
  rcases h with h | h
  · exact Or.inl (by rw [h]; rfl)
  · exact Or.inr (by rw [← h]; rfl)
set_option maxRecDepth 100000 in
set_option maxHeartbeats 6400000 in
theorem spec_SigTexts (text : ByteArray) (v1 v2 v3 : Value) (s : SigV) (w : World) (h1 : Strs w v1 s.op) (h2 : Strs w v2 s.sh) (h3 : Strs w v3 s.si) (hs : SigFit s) (hw : sigWell s = true) (h200 : text.size ≤ 200) :
    Calls Tryd.prog 36 #[.string text, .agg #[.int .i64 s.at_, v1, v2, v3]] w fun e w' => ∃ a c, e = .returned (.slice a (sgTexts text s).length c) ∧ OwnStrs w' w.heap.size (.slice a (sgTexts text s).length c) (sgTexts text s) ∧ Ext w w' := by
  obtain ⟨a1, c1, rfl⟩ := h1.form
  obtain ⟨a2, c2, rfl⟩ := h2.form
  obtain ⟨a3, c3, rfl⟩ := h3.form
  obtain ⟨i0, hi, hz0, hz1, hz2⟩ := info_parts infoString
  have R := Lib.hid (sgTexts_yes hw h200)
  obtain ⟨⟨g1, g2⟩, ⟨n1, -⟩, ⟨n2, -⟩, n3, -⟩ := sigWell_true hw
  obtain ⟨k1, k2, k3⟩ := sigWell_wide hw
  have f1 := wide16_32 k1
  have f2 := wide16_32 k2
  have f3 := wide16_32 k3
  obtain ⟨b1, o1, rfl, l1, e1⟩ := str_cell h1 (by omega)
  obtain ⟨b2, o2, rfl, l2, e2⟩ := str_cell h2 (by omega)
  obtain ⟨b3, o3, rfl, l3, e3⟩ := str_cell h3 (by omega)
  rw [n1] at e1
  rw [n2] at e2
  obtain ⟨a, ha⟩ := Int.eq_ofNat_of_zero_le g1
  have ha15 : a < 16 := by omega
  have HMID := Lib.hid (show sgMid text s = sgLow s 8 ++ [tagTx 6 (lkL (sgIdx text) s 8)] from rfl)
  have HUS := Lib.hid (fun n => sgUp_succ text s n)
  have HLS := Lib.hid (fun n => sgLow_succ s n)
  have HUP := Lib.hid (fun n => sgUp_last text s f2 f3 n)
  have HUZ := Lib.hid (fun n => sgUp_top text s n)
  have HUL := Lib.hid (fun n => sgUp_len text s n)
  have HU0 := Lib.hid (show sgUp text s 0 = sgMid text s by simp [sgUp])
  have HTX := Lib.hid (fun k => show sgTx text s k = tagTx 3 (sgPair (a / 2 ^ k % 2) (sgSt (tagH 6 (lkL (sgIdx text) s 8) 16) s.at_.toNat s.si k) (s.si.getD k ⟨#[]⟩)) by rw [sgTx, ha, Int.toNat_natCast])
  have HFL := Lib.hid (fun n => lkL_fit (sgIdx text) s f2 n)
  have HST := Lib.hid (fun k => sgSt_le (tagH 6 (lkL (sgIdx text) s 8) 16) s.at_.toNat s.si (tagH_le _ _ _) k)
  have HA := Lib.hid ha
  have HW := Lib.hid hw
  have E1 := Lib.hid e1
  have E2 := Lib.hid e2
  have E3 := Lib.hid e3
  have F1 := Lib.hid f1
  have F3 := Lib.hid f3
  have hn1 : (8 : Int) ≤ s.op.length := by omega
  have hn2 : (8 : Int) ≤ s.sh.length := by omega
  have hn3 : (s.si.length : Int) = 4 := by omega
  have HN3 := Lib.hid n3
  have hle : ¬ (200 : Int) < text.size := by omega
  have H200 := Lib.hid h200
  clear hw e1 e2 e3 f1 f2 f3 k1 k2 k3 ha n1 n2 n3 hn3
  go_enter Tryd.func36, Tryd.ntmps36
  go_wp2_with fail
  have OL := World.ownsRow_lit (base := w.heap.size + 1) (e := 9) (size := 1) (w.alloc (Obj.cells #[.int .i64 s.at_, .slice (some ⟨b1, o1, none⟩) s.op.length c1, .slice (some ⟨b2, o2, none⟩) s.sh.length c2, .slice (some ⟨b3, o3, none⟩) s.si.length c3] 28)) #[] 0 (by rw [World.size_alloc]; exact Nat.le_refl _) (Nat.zero_le _) rfl
  rw [World.size_alloc] at OL
  have P : Bx ((w.alloc (Obj.cells #[.int .i64 s.at_, .slice (some ⟨b1, o1, none⟩) s.op.length c1, .slice (some ⟨b2, o2, none⟩) s.sh.length c2, .slice (some ⟨b3, o3, none⟩) s.si.length c3] 28)).alloc (Obj.cells #[] 9)) w.heap.size [.int .i64 s.at_, .slice (some ⟨b1, o1, none⟩) s.op.length c1, .slice (some ⟨b2, o2, none⟩) s.sh.length c2, .slice (some ⟨b3, o3, none⟩) s.si.length c3] := (Bx.new w _ _).ext ((Ext.refl _).alloc _)
  have X : Ext w ((w.alloc (Obj.cells #[.int .i64 s.at_, .slice (some ⟨b1, o1, none⟩) s.op.length c1, .slice (some ⟨b2, o2, none⟩) s.sh.length c2, .slice (some ⟨b3, o3, none⟩) s.si.length c3] 28)).alloc (Obj.cells #[] 9)) := ((Ext.refl w).alloc _).alloc _
  have g1 := h1.ext X
  have g2 := h2.ext X
  have g3 := h3.ext X
  generalize (w.alloc (Obj.cells #[.int .i64 s.at_, .slice (some ⟨b1, o1, none⟩) s.op.length c1, .slice (some ⟨b2, o2, none⟩) s.sh.length c2, .slice (some ⟨b3, o3, none⟩) s.si.length c3] 28)).alloc (Obj.cells #[] 9) = W0 at *
  refine (spec_l05Form _ _ _ s _ g1 g2 g3 hs).mono ?_
  rw [HW.out]
  rintro e w1 ⟨rfl, x1⟩
  have OV := Lib.hid (own_ext OL x1)
  replace P := P.ext x1
  replace X := X.trans x1
  clear OL g1 g2 g3 x1
  go_wp2_with fail
  refine (spec_SignBitsOf text _ H200.out).mono ?_
  rintro e w2 ⟨rfl, x2⟩
  replace OV := Lib.hid (own_ext OV.out x2)
  replace P := P.ext x2
  replace X := X.trans x2
  clear x2
  generalize sgIdx text = idx at *
  have lw := P.1
  have LV := World.ownsRow_lit (base := w.heap.size + 1) (e := 9) (size := 1) w2 #[] 0 (by omega) (Nat.zero_le _) rfl
  have f1 : Off (.slice (some ⟨w.heap.size + 1, 0, none⟩) 0 0) (.slice (some ⟨w2.heap.size, 0, none⟩) 0 0) := fun k hk e => by injection hk with hk; injection e with e; dsimp only at hk e; have := (own_lt OV.out _ rfl).2; dsimp only at this; omega
  go_wp2
  go_loopw [5, 7, 8, 9, 10] (fun ov lv i _ _ wr => ∃ j : Nat, j ≤ 8 ∧ i = .int .i64 j ∧ wr.ownsRow (w.heap.size + 1) 9 1 ov j ((sgLow s j).map Value.string) ∧ wr.ownsRow (w.heap.size + 1) 9 1 lv (j * 2) ((lkL idx s j).map Value.string) ∧ Off ov lv ∧ Off lv ov ∧ Bx wr w.heap.size [.int .i64 s.at_, .slice (some ⟨b1, o1, none⟩) s.op.length c1, .slice (some ⟨b2, o2, none⟩) s.sh.length c2, .slice (some ⟨b3, o3, none⟩) s.si.length c3] ∧ Ext w wr) (fun _ _ i _ _ _ => 8 - (intOf i).toNat)
  case atStart => exact ⟨0, by omega, rfl, own_alloc OV.out _, LV, f1, f1.symm2, P.ext ((Ext.refl _).alloc _), X.alloc _⟩
  case round =>
    clear OV LV f1 P X lw
    obtain ⟨j, hj, rfl, ho, hl, f1, f2, P, X⟩ := hrel
    obtain ⟨va, vc, rfl⟩ := own_any ho
    obtain ⟨la, lc, rfl⟩ := own_any hl
    have q1 := P.2.1 1 _ rfl
    have q2 := P.2.1 2 _ rfl
    by_cases hlt : j < 8
    · have d1 := (X.cell _ _ l1).trans (E1.out j hlt)
      have hi0 : (0 : Int) ≤ (j : Int) := by omega
      have hi1 : (j : Int) < (s.op.length : Int) := by omega
      have hi2 : (j : Int) < (s.sh.length : Int) := by omega
      have hj8 : (j : Int) < 8 := by omega
      have zo := le_max (getD_le F1.out j) (by omega)
      have HU := Lib.hid (lkL_succ idx s j)
      have HO2 := Lib.hid (HLS.out j)
      have HL0 := Lib.hid (fun h => lkPair_0 (idx := idx) (s := s) (j := j) h)
      have HL1 := Lib.hid (fun h => lkPair_1 (idx := idx) (s := s) (j := j) h)
      have E2j := Lib.hid (E2.out j hlt)
      have lb1 := Nat.lt_of_lt_of_le l1 X.size
      have HD1 := Lib.hid (E1.out j hlt)
      generalize s.op.getD j ⟨#[]⟩ = o at *
      generalize s.sh.getD j ⟨#[]⟩ = y at *
      go_wp2_with fail
      refine (spec_TagText 6 _ [o] _ (by exact strs_lit1 _ _ _) (fit1 zo)).mono ?_
      have HTO := Lib.hid (show tagTx 6 [o] = lkT o from rfl)
      generalize tagTx 6 [o] = tt at *
      generalize tagWell 6 [o] = tw at *
      rintro e w3 ⟨rfl, x3⟩
      have e3 : Ext wr w3 := ((Ext.refl wr).alloc _).trans x3
      have ho3 := own_ext ho e3
      have hl3 := Lib.hid (own_ext hl e3)
      have P3 := P.ext e3
      have X3 := X.trans e3
      have lo := own_lt ho3
      have ll := own_lt hl3.out
      have z3 := P3.1
      clear q1 q2 d1
      go_wp2_with (at_builtin; refine wpList_append_own_at _ rfl (.tmp 46) (.tmp 48) 22 rfl (w.heap.size + 1) 9 i0 (.string ⟨#[]⟩) 1 16 Tryd.underlying22 hi hz0 hz1 hz2 rfl (by decide) _ _ _ rfl (own_alloc ho3 _) ⟨w3.heap.size, 0, none⟩ 1 1 [.string tt] rfl rfl ?c1 ?c2 ?c3 ?c4 ?c5 ?_)
      case c1 => exact World.news_of_block (heap_alloc_new w3 (Obj.cells #[Value.string tt] 9))
      case c2 => intro u hu; simp at hu; subst hu; rfl
      case c3 => unfold maxLen; omega
      case c4 => omega
      case c5 => simp; omega
      intro v4 w4 own4 hg4 _ hat
      have e4 : Ext w3 (w3.alloc (Obj.cells #[Value.string tt] 9)) := (Ext.refl _).alloc _
      have F4 := off_ext f1 hat (fun k hk => by have := (ll k hk).2; simp; omega)
      obtain ⟨f3, f4⟩ := F4
      have hl4 := Lib.hid (own_grown2 (own_ext hl3.out e4) hg4 f1)
      have P4 := (P3.ext e4).grew hg4 (fun e => by have := (lo _ e).1; omega)
      have X4 : Ext w w4 := own_ext_of (X3.trans e4) (own_alloc ho3 _) hg4 (by omega)
      obtain ⟨va4, vc4, rfl⟩ := own_any own4
      have HO4 := Lib.hid own4
      clear own4 hg4 hat ho3 hl3 P3 X3 lo ll f1 f2 ho hl P X
      go_wp2_with fail
      refine (spec_BitOf idx j _).mono ?_
      rcases bitT_two idx j with hb | hb
      · have HP := Lib.hid (HU.out.trans (by rw [HL0.out hb]))
        rw [hb]
        rintro e w' ⟨rfl, rfl⟩
        clear hb HL0 HL1 HU
        go_wp2_with fail
        have c1c := P4.2.1 1 _ rfl
        have c2c := P4.2.1 2 _ rfl
        have d1 := (X4.cell _ _ l1).trans (HD1.out)
        have d2 := (X4.cell _ _ l2).trans E2j.out
        have lb1 := Nat.lt_of_lt_of_le l1 X4.size
        have lb2 := Nat.lt_of_lt_of_le l2 X4.size
        refine wp_region_held_drew (S := (fun W => W.cell? ⟨w.heap.size, 1, none⟩ = some (.slice (some ⟨b1, o1, none⟩) s.op.length c1) ∧ W.cell? ⟨w.heap.size, 2, none⟩ = some (.slice (some ⟨b2, o2, none⟩) s.sh.length c2) ∧ W.cell? ⟨b1, o1 + j, none⟩ = some (.string o) ∧ W.cell? ⟨b2, o2 + j, none⟩ = some (.string y))) (by kernel_rfl) (by exact ⟨P4.2.1 1 _ rfl, P4.2.1 2 _ rfl, d1, d2⟩) (fun hHeld => ?_)
        have xd : Ext w4 w4.drew := (Ext.refl w4).drew
        replace P4 := P4.ext xd
        replace X4 := X4.trans xd
        replace HO4 := Lib.hid (own_ext HO4.out xd)
        replace hl4 := Lib.hid (own_ext hl4.out xd)
        replace d1 := ((Ext.cell xd) _ _ lb1).trans d1
        replace d2 := ((Ext.cell xd) _ _ lb2).trans d2
        replace lb1 := Nat.lt_of_lt_of_le lb1 (Ext.size xd)
        replace lb2 := Nat.lt_of_lt_of_le lb2 (Ext.size xd)
        generalize w4.drew = w5 at *
        (refine wpAnyH_take (i := 0) (v := ?_) rfl (by kernel_rfl) (by kernel_rfl) (by kernel_rfl) (fun _ _ _ h => h) (Or.inl ⟨by rfl, ?_⟩) (by assumption) ?_; rotate_left; focus (intro w hSw; (try dsimp only at hSw); (try simp only [List.getElem_toArray, List.getElem_cons_zero]); go_simp; try with_reducible rfl)); (try simp only [List.getElem_toArray, List.getElem_cons_zero]); (try simp only [Act.put, List.setIfInBounds_toArray, List.set_cons_zero, List.set_cons_succ])
        (refine wpAnyH_take (i := 1) (v := ?_) rfl (by kernel_rfl) (by kernel_rfl) (by kernel_rfl) (fun _ _ _ h => h) (Or.inl ⟨by rfl, ?_⟩) (by assumption) ?_; rotate_left; focus (intro w hSw; (try dsimp only at hSw); (try simp only [List.getElem_toArray, List.getElem_cons_zero, List.getElem_cons_succ]); go_simp; try with_reducible rfl)); (try simp only [List.getElem_toArray, List.getElem_cons_zero, List.getElem_cons_succ]); (try simp only [Act.put, List.setIfInBounds_toArray, List.set_cons_zero, List.set_cons_succ])
        (refine wpAnyH_take (i := 2) (v := ?_) rfl (by kernel_rfl) (by kernel_rfl) (by kernel_rfl) (fun _ _ _ h => h) (Or.inl ⟨by rfl, ?_⟩) (by assumption) ?_; rotate_left; focus (intro w hSw; (try dsimp only at hSw); (try simp only [List.getElem_toArray, List.getElem_cons_zero, List.getElem_cons_succ]); go_simp; try with_reducible rfl)); (try simp only [List.getElem_toArray, List.getElem_cons_zero, List.getElem_cons_succ]); (try simp only [Act.put, List.setIfInBounds_toArray, List.set_cons_zero, List.set_cons_succ])
        (refine wpAnyH_take (i := 3) (v := ?_) rfl (by kernel_rfl) (by kernel_rfl) (by kernel_rfl) (fun _ _ _ h => h) (Or.inl ⟨by rfl, ?_⟩) (by assumption) ?_; rotate_left; focus (intro w hSw; (try dsimp only at hSw); (try simp only [List.getElem_toArray, List.getElem_cons_zero, List.getElem_cons_succ]); go_simp; try with_reducible rfl)); (try simp only [List.getElem_toArray, List.getElem_cons_zero, List.getElem_cons_succ]); (try simp only [Act.put, List.setIfInBounds_toArray, List.set_cons_zero, List.set_cons_succ])
        (refine wpAnyH_take (i := 4) (v := ?_) rfl (by kernel_rfl) (by kernel_rfl) (by kernel_rfl) (fun _ _ _ h => h) (Or.inl ⟨by rfl, ?_⟩) (by assumption) ?_; rotate_left; focus (intro w hSw; (try dsimp only at hSw); (try simp only [List.getElem_toArray, List.getElem_cons_zero, List.getElem_cons_succ]); go_simp; try with_reducible rfl)); (try simp only [List.getElem_toArray, List.getElem_cons_zero, List.getElem_cons_succ]); (try simp only [Act.put, List.setIfInBounds_toArray, List.set_cons_zero, List.set_cons_succ])
        (refine wpAnyH_take (i := 5) (v := ?_) rfl (by kernel_rfl) (by kernel_rfl) (by kernel_rfl) (fun _ _ _ h => h) (Or.inl ⟨by rfl, ?_⟩) (by assumption) ?_; rotate_left; focus (intro w hSw; (try dsimp only at hSw); (try simp only [List.getElem_toArray, List.getElem_cons_zero, List.getElem_cons_succ]); go_simp; try with_reducible rfl)); (try simp only [List.getElem_toArray, List.getElem_cons_zero, List.getElem_cons_succ]); (try simp only [Act.put, List.setIfInBounds_toArray, List.set_cons_zero, List.set_cons_succ])
        (refine wpAnyH_take (i := 7) (v := ?_) rfl (by kernel_rfl) (by kernel_rfl) (by kernel_rfl) (fun _ _ _ h => h) (Or.inl ⟨by rfl, ?_⟩) (by assumption) ?_; rotate_left; focus (intro w hSw; (try dsimp only at hSw); (try simp only [List.getElem_toArray, List.getElem_cons_zero, List.getElem_cons_succ]); go_simp; try with_reducible rfl)); (try simp only [List.getElem_toArray, List.getElem_cons_zero, List.getElem_cons_succ]); (try simp only [Act.put, List.setIfInBounds_toArray, List.set_cons_zero, List.set_cons_succ])
        (refine wpAnyH_take (i := 8) (v := ?_) rfl (by kernel_rfl) (by kernel_rfl) (by kernel_rfl) (fun _ _ _ h => h) (Or.inl ⟨by rfl, ?_⟩) (by assumption) ?_; rotate_left; focus (intro w hSw; (try dsimp only at hSw); (try simp only [List.getElem_toArray, List.getElem_cons_zero, List.getElem_cons_succ]); go_simp; try with_reducible rfl)); (try simp only [List.getElem_toArray, List.getElem_cons_zero, List.getElem_cons_succ]); (try simp only [Act.put, List.setIfInBounds_toArray, List.set_cons_zero, List.set_cons_succ])
        (refine wpAnyH_take (i := 9) (v := ?_) rfl (by kernel_rfl) (by kernel_rfl) (by kernel_rfl) (fun _ _ _ h => h) (Or.inl ⟨by rfl, ?_⟩) (by assumption) ?_; rotate_left; focus (intro w hSw; (try dsimp only at hSw); (try simp only [List.getElem_toArray, List.getElem_cons_zero, List.getElem_cons_succ]); go_simp; try with_reducible rfl)); (try simp only [List.getElem_toArray, List.getElem_cons_zero, List.getElem_cons_succ]); (try simp only [Act.put, List.setIfInBounds_toArray, List.set_cons_zero, List.set_cons_succ])
        (refine wpAnyH_take (i := 10) (v := ?_) rfl (by kernel_rfl) (by kernel_rfl) (by kernel_rfl) (fun _ _ _ h => h) (Or.inl ⟨by rfl, ?_⟩) (by assumption) ?_; rotate_left; focus (intro w hSw; (try dsimp only at hSw); (try simp only [List.getElem_toArray, List.getElem_cons_zero, List.getElem_cons_succ]); go_simp; try with_reducible rfl)); (try simp only [List.getElem_toArray, List.getElem_cons_zero, List.getElem_cons_succ]); (try simp only [Act.put, List.setIfInBounds_toArray, List.set_cons_zero, List.set_cons_succ])
        (refine wpAnyH_take (i := 11) (v := ?_) rfl (by kernel_rfl) (by kernel_rfl) (by kernel_rfl) (fun _ _ _ h => h) (Or.inl ⟨by rfl, ?_⟩) (by assumption) ?_; rotate_left; focus (intro w hSw; (try dsimp only at hSw); (try simp only [List.getElem_toArray, List.getElem_cons_zero, List.getElem_cons_succ]); go_simp; try with_reducible rfl)); (try simp only [List.getElem_toArray, List.getElem_cons_zero, List.getElem_cons_succ]); (try simp only [Act.put, List.setIfInBounds_toArray, List.set_cons_zero, List.set_cons_succ])
        (refine wpAnyH_ready (rs := [6]) (by kernel_rfl) (by simp) ?_; refine AllReadyH.cons rfl (fun K hK => ?_) AllReadyH.nil; (try simp only [List.getElem_toArray, List.getElem_cons_zero, List.getElem_cons_succ]))
        go_simp
        go_at_call 111
        refine (spec_LockOf o _ zo).mono ?_
        generalize lkH o = lk at *
        rintro e w6 ⟨rfl, x6⟩
        replace P4 := P4.ext x6
        replace X4 := X4.trans x6
        replace HO4 := Lib.hid (own_ext HO4.out x6)
        replace hl4 := Lib.hid (own_ext hl4.out x6)
        replace d1 := ((Ext.cell x6) _ _ lb1).trans d1
        replace d2 := ((Ext.cell x6) _ _ lb2).trans d2
        replace lb1 := Nat.lt_of_lt_of_le lb1 (Ext.size x6)
        replace lb2 := Nat.lt_of_lt_of_le lb2 (Ext.size x6)
        (try dsimp only)
        refine hK.out _ _ (by exact ⟨P4.2.1 1 _ rfl, P4.2.1 2 _ rfl, d1, d2⟩) (fun hHeld => ?_)
        clear hK K
        have e7 : Ext w6 (w6.alloc (Obj.cells #[.string lk, .string y] 9)) := (Ext.refl _).alloc _
        have B7 := heap_alloc_new w6 (Obj.cells #[.string lk, .string y] 9)
        have N7 := World.news_of_block B7
        have z6 := P4.1
        (refine wpAnyH_ready (rs := [12]) (by kernel_rfl) (by simp) ?_; refine AllReadyH.cons rfl (fun K hK => ?_) AllReadyH.nil; (try simp only [List.getElem_toArray, List.getElem_cons_zero, List.getElem_cons_succ]))
        go_simp
        replace P4 := P4.ext e7
        replace X4 := X4.trans e7
        replace HO4 := Lib.hid (own_ext HO4.out e7)
        replace hl4 := Lib.hid (own_ext hl4.out e7)
        replace d1 := ((Ext.cell e7) _ _ lb1).trans d1
        replace d2 := ((Ext.cell e7) _ _ lb2).trans d2
        replace lb1 := Nat.lt_of_lt_of_le lb1 (Ext.size e7)
        replace lb2 := Nat.lt_of_lt_of_le lb2 (Ext.size e7)
        have z7 : w6.heap.size < (w6.alloc (Obj.cells #[.string lk, .string y] 9)).heap.size := by rw [World.size_alloc]; omega
        generalize w6.alloc (Obj.cells #[.string lk, .string y] 9) = w7 at *
        generalize hnb : w6.heap.size = nb at *
        clear hnb
        (try dsimp only)
        refine hK.out _ _ (by exact ⟨P4.2.1 1 _ rfl, P4.2.1 2 _ rfl, d1, d2⟩) (fun hHeld => ?_)
        clear hK K
        have lo := own_lt HO4.out
        have ll := own_lt hl4.out
        have z8 := P4.1
        (refine wpAnyH_ready (rs := [13]) (by kernel_rfl) (by simp) ?_; refine AllReadyH.cons rfl (fun K hK => ?_) AllReadyH.nil)
        refine step_append_lies _ rfl (.tmp 54) (.tmp 66) 22 (by rfl) (w.heap.size + 1) 9 i0 (.string ⟨#[]⟩) 1 16 Tryd.underlying22 hi hz0 hz1 hz2 rfl (by decide) _ _ _ (by rfl) hl4.out ⟨nb, 0, none⟩ 2 2 [.string lk, .string y] (by rfl) rfl N7 (by intro u hu; simp at hu; rcases hu with rfl | rfl <;> rfl) (by decide) (by unfold maxLen; omega) (by omega) (by omega) _ rfl ?_
        intro gb cb w8 own8 hg8 hat8 _
        have F8 := off_ext f4 (lies_at (n := j * 2 + 2) (c := cb) hat8) (fun k hk => by have := (lo k hk).2; omega)
        obtain ⟨f5, f6⟩ := F8
        have HO8 := Lib.hid (own_grown2 HO4.out hg8 f4)
        have P8 := P4.grew hg8 (fun e => by have := (ll _ e).1; omega)
        have X8 : Ext w w8 := own_ext_of X4 hl4.out hg8 (by omega)
        have HL8 := Lib.hid own8
        replace d1 := (hg8.cell_far _ lb1 (fun e => by have := (ll _ e.symm).1; dsimp only at this; omega)).trans d1
        replace d2 := (hg8.cell_far _ lb2 (fun e => by have := (ll _ e.symm).1; dsimp only at this; omega)).trans d2
        clear own8 hg8 hat8 P4 X4 HO4 hl4 lo ll f3 f4
        have P4 := P8
        (try dsimp only)
        refine hK.out _ _ (by exact ⟨P4.2.1 1 _ rfl, P4.2.1 2 _ rfl, d1, d2⟩) (fun hHeld => ?_)
        clear hK K
        (refine wpAnyH_take (i := 14) (v := ?_) rfl (by kernel_rfl) (by kernel_rfl) (by kernel_rfl) (fun _ _ _ h => h) (Or.inl ⟨by rfl, ?_⟩) (by assumption) ?_; rotate_left; focus (intro w hSw; (try dsimp only at hSw); (try simp only [List.getElem_toArray, List.getElem_cons_zero, List.getElem_cons_succ]); go_simp; try with_reducible rfl)); (try simp only [List.getElem_toArray, List.getElem_cons_zero, List.getElem_cons_succ]); (try simp only [Act.put, List.setIfInBounds_toArray, List.set_cons_zero, List.set_cons_succ])
        refine wpAnyH_done (by kernel_rfl) ?_ _
        go_wp2
        go_roundw
        case rel => exact ⟨j + 1, by omega, by go_num, by rw [HO2.out, List.map_append, HTO.out.symm]; exact HO8.out, by rw [HP.out, List.map_append, Nat.succ_mul]; exact HL8.out, f6, f5, P8, X8⟩
        case measure => simp [intOf]; omega
      · have HP := Lib.hid (HU.out.trans (by rw [HL1.out hb]))
        rw [hb]
        rintro e w' ⟨rfl, rfl⟩
        clear hb HL0 HL1 HU
        go_wp2_with fail
        have c1c := P4.2.1 1 _ rfl
        have c2c := P4.2.1 2 _ rfl
        have d1 := (X4.cell _ _ l1).trans (HD1.out)
        have d2 := (X4.cell _ _ l2).trans E2j.out
        have lb1 := Nat.lt_of_lt_of_le l1 X4.size
        have lb2 := Nat.lt_of_lt_of_le l2 X4.size
        refine wp_region_held_drew (S := (fun W => W.cell? ⟨w.heap.size, 1, none⟩ = some (.slice (some ⟨b1, o1, none⟩) s.op.length c1) ∧ W.cell? ⟨w.heap.size, 2, none⟩ = some (.slice (some ⟨b2, o2, none⟩) s.sh.length c2) ∧ W.cell? ⟨b1, o1 + j, none⟩ = some (.string o) ∧ W.cell? ⟨b2, o2 + j, none⟩ = some (.string y))) (by kernel_rfl) (by exact ⟨P4.2.1 1 _ rfl, P4.2.1 2 _ rfl, d1, d2⟩) (fun hHeld => ?_)
        have xd : Ext w4 w4.drew := (Ext.refl w4).drew
        replace P4 := P4.ext xd
        replace X4 := X4.trans xd
        replace HO4 := Lib.hid (own_ext HO4.out xd)
        replace hl4 := Lib.hid (own_ext hl4.out xd)
        replace d1 := ((Ext.cell xd) _ _ lb1).trans d1
        replace d2 := ((Ext.cell xd) _ _ lb2).trans d2
        replace lb1 := Nat.lt_of_lt_of_le lb1 (Ext.size xd)
        replace lb2 := Nat.lt_of_lt_of_le lb2 (Ext.size xd)
        generalize w4.drew = w5 at *
        (refine wpAnyH_take (i := 0) (v := ?_) rfl (by kernel_rfl) (by kernel_rfl) (by kernel_rfl) (fun _ _ _ h => h) (Or.inl ⟨by rfl, ?_⟩) (by assumption) ?_; rotate_left; focus (intro w hSw; (try dsimp only at hSw); (try simp only [List.getElem_toArray, List.getElem_cons_zero]); go_simp; try with_reducible rfl)); (try simp only [List.getElem_toArray, List.getElem_cons_zero]); (try simp only [Act.put, List.setIfInBounds_toArray, List.set_cons_zero, List.set_cons_succ])
        (refine wpAnyH_take (i := 1) (v := ?_) rfl (by kernel_rfl) (by kernel_rfl) (by kernel_rfl) (fun _ _ _ h => h) (Or.inl ⟨by rfl, ?_⟩) (by assumption) ?_; rotate_left; focus (intro w hSw; (try dsimp only at hSw); (try simp only [List.getElem_toArray, List.getElem_cons_zero, List.getElem_cons_succ]); go_simp; try with_reducible rfl)); (try simp only [List.getElem_toArray, List.getElem_cons_zero, List.getElem_cons_succ]); (try simp only [Act.put, List.setIfInBounds_toArray, List.set_cons_zero, List.set_cons_succ])
        (refine wpAnyH_take (i := 2) (v := ?_) rfl (by kernel_rfl) (by kernel_rfl) (by kernel_rfl) (fun _ _ _ h => h) (Or.inl ⟨by rfl, ?_⟩) (by assumption) ?_; rotate_left; focus (intro w hSw; (try dsimp only at hSw); (try simp only [List.getElem_toArray, List.getElem_cons_zero, List.getElem_cons_succ]); go_simp; try with_reducible rfl)); (try simp only [List.getElem_toArray, List.getElem_cons_zero, List.getElem_cons_succ]); (try simp only [Act.put, List.setIfInBounds_toArray, List.set_cons_zero, List.set_cons_succ])
        (refine wpAnyH_take (i := 3) (v := ?_) rfl (by kernel_rfl) (by kernel_rfl) (by kernel_rfl) (fun _ _ _ h => h) (Or.inl ⟨by rfl, ?_⟩) (by assumption) ?_; rotate_left; focus (intro w hSw; (try dsimp only at hSw); (try simp only [List.getElem_toArray, List.getElem_cons_zero, List.getElem_cons_succ]); go_simp; try with_reducible rfl)); (try simp only [List.getElem_toArray, List.getElem_cons_zero, List.getElem_cons_succ]); (try simp only [Act.put, List.setIfInBounds_toArray, List.set_cons_zero, List.set_cons_succ])
        (refine wpAnyH_take (i := 4) (v := ?_) rfl (by kernel_rfl) (by kernel_rfl) (by kernel_rfl) (fun _ _ _ h => h) (Or.inl ⟨by rfl, ?_⟩) (by assumption) ?_; rotate_left; focus (intro w hSw; (try dsimp only at hSw); (try simp only [List.getElem_toArray, List.getElem_cons_zero, List.getElem_cons_succ]); go_simp; try with_reducible rfl)); (try simp only [List.getElem_toArray, List.getElem_cons_zero, List.getElem_cons_succ]); (try simp only [Act.put, List.setIfInBounds_toArray, List.set_cons_zero, List.set_cons_succ])
        (refine wpAnyH_take (i := 5) (v := ?_) rfl (by kernel_rfl) (by kernel_rfl) (by kernel_rfl) (fun _ _ _ h => h) (Or.inl ⟨by rfl, ?_⟩) (by assumption) ?_; rotate_left; focus (intro w hSw; (try dsimp only at hSw); (try simp only [List.getElem_toArray, List.getElem_cons_zero, List.getElem_cons_succ]); go_simp; try with_reducible rfl)); (try simp only [List.getElem_toArray, List.getElem_cons_zero, List.getElem_cons_succ]); (try simp only [Act.put, List.setIfInBounds_toArray, List.set_cons_zero, List.set_cons_succ])
        (refine wpAnyH_take (i := 6) (v := ?_) rfl (by kernel_rfl) (by kernel_rfl) (by kernel_rfl) (fun _ _ _ h => h) (Or.inl ⟨by rfl, ?_⟩) (by assumption) ?_; rotate_left; focus (intro w hSw; (try dsimp only at hSw); (try simp only [List.getElem_toArray, List.getElem_cons_zero, List.getElem_cons_succ]); go_simp; try with_reducible rfl)); (try simp only [List.getElem_toArray, List.getElem_cons_zero, List.getElem_cons_succ]); (try simp only [Act.put, List.setIfInBounds_toArray, List.set_cons_zero, List.set_cons_succ])
        (refine wpAnyH_take (i := 7) (v := ?_) rfl (by kernel_rfl) (by kernel_rfl) (by kernel_rfl) (fun _ _ _ h => h) (Or.inl ⟨by rfl, ?_⟩) (by assumption) ?_; rotate_left; focus (intro w hSw; (try dsimp only at hSw); (try simp only [List.getElem_toArray, List.getElem_cons_zero, List.getElem_cons_succ]); go_simp; try with_reducible rfl)); (try simp only [List.getElem_toArray, List.getElem_cons_zero, List.getElem_cons_succ]); (try simp only [Act.put, List.setIfInBounds_toArray, List.set_cons_zero, List.set_cons_succ])
        (refine wpAnyH_take (i := 8) (v := ?_) rfl (by kernel_rfl) (by kernel_rfl) (by kernel_rfl) (fun _ _ _ h => h) (Or.inl ⟨by rfl, ?_⟩) (by assumption) ?_; rotate_left; focus (intro w hSw; (try dsimp only at hSw); (try simp only [List.getElem_toArray, List.getElem_cons_zero, List.getElem_cons_succ]); go_simp; try with_reducible rfl)); (try simp only [List.getElem_toArray, List.getElem_cons_zero, List.getElem_cons_succ]); (try simp only [Act.put, List.setIfInBounds_toArray, List.set_cons_zero, List.set_cons_succ])
        (refine wpAnyH_take (i := 9) (v := ?_) rfl (by kernel_rfl) (by kernel_rfl) (by kernel_rfl) (fun _ _ _ h => h) (Or.inl ⟨by rfl, ?_⟩) (by assumption) ?_; rotate_left; focus (intro w hSw; (try dsimp only at hSw); (try simp only [List.getElem_toArray, List.getElem_cons_zero, List.getElem_cons_succ]); go_simp; try with_reducible rfl)); (try simp only [List.getElem_toArray, List.getElem_cons_zero, List.getElem_cons_succ]); (try simp only [Act.put, List.setIfInBounds_toArray, List.set_cons_zero, List.set_cons_succ])
        (refine wpAnyH_take (i := 10) (v := ?_) rfl (by kernel_rfl) (by kernel_rfl) (by kernel_rfl) (fun _ _ _ h => h) (Or.inl ⟨by rfl, ?_⟩) (by assumption) ?_; rotate_left; focus (intro w hSw; (try dsimp only at hSw); (try simp only [List.getElem_toArray, List.getElem_cons_zero, List.getElem_cons_succ]); go_simp; try with_reducible rfl)); (try simp only [List.getElem_toArray, List.getElem_cons_zero, List.getElem_cons_succ]); (try simp only [Act.put, List.setIfInBounds_toArray, List.set_cons_zero, List.set_cons_succ])
        (refine wpAnyH_ready (rs := [11]) (by kernel_rfl) (by simp) ?_; refine AllReadyH.cons rfl (fun K hK => ?_) AllReadyH.nil; (try simp only [List.getElem_toArray, List.getElem_cons_zero, List.getElem_cons_succ]))
        go_simp
        go_at_call 111
        refine (spec_LockOf o _ zo).mono ?_
        generalize lkH o = lk at *
        rintro e w6 ⟨rfl, x6⟩
        replace P4 := P4.ext x6
        replace X4 := X4.trans x6
        replace HO4 := Lib.hid (own_ext HO4.out x6)
        replace hl4 := Lib.hid (own_ext hl4.out x6)
        replace d1 := ((Ext.cell x6) _ _ lb1).trans d1
        replace d2 := ((Ext.cell x6) _ _ lb2).trans d2
        replace lb1 := Nat.lt_of_lt_of_le lb1 (Ext.size x6)
        replace lb2 := Nat.lt_of_lt_of_le lb2 (Ext.size x6)
        (try dsimp only)
        refine hK.out _ _ (by exact ⟨P4.2.1 1 _ rfl, P4.2.1 2 _ rfl, d1, d2⟩) (fun hHeld => ?_)
        clear hK K
        have e7 : Ext w6 (w6.alloc (Obj.cells #[.string y, .string lk] 9)) := (Ext.refl _).alloc _
        have B7 := heap_alloc_new w6 (Obj.cells #[.string y, .string lk] 9)
        have N7 := World.news_of_block B7
        have z6 := P4.1
        (refine wpAnyH_ready (rs := [12]) (by kernel_rfl) (by simp) ?_; refine AllReadyH.cons rfl (fun K hK => ?_) AllReadyH.nil; (try simp only [List.getElem_toArray, List.getElem_cons_zero, List.getElem_cons_succ]))
        go_simp
        replace P4 := P4.ext e7
        replace X4 := X4.trans e7
        replace HO4 := Lib.hid (own_ext HO4.out e7)
        replace hl4 := Lib.hid (own_ext hl4.out e7)
        replace d1 := ((Ext.cell e7) _ _ lb1).trans d1
        replace d2 := ((Ext.cell e7) _ _ lb2).trans d2
        replace lb1 := Nat.lt_of_lt_of_le lb1 (Ext.size e7)
        replace lb2 := Nat.lt_of_lt_of_le lb2 (Ext.size e7)
        have z7 : w6.heap.size < (w6.alloc (Obj.cells #[.string y, .string lk] 9)).heap.size := by rw [World.size_alloc]; omega
        generalize w6.alloc (Obj.cells #[.string y, .string lk] 9) = w7 at *
        generalize hnb : w6.heap.size = nb at *
        clear hnb
        (try dsimp only)
        refine hK.out _ _ (by exact ⟨P4.2.1 1 _ rfl, P4.2.1 2 _ rfl, d1, d2⟩) (fun hHeld => ?_)
        clear hK K
        have lo := own_lt HO4.out
        have ll := own_lt hl4.out
        have z8 := P4.1
        (refine wpAnyH_ready (rs := [13]) (by kernel_rfl) (by simp) ?_; refine AllReadyH.cons rfl (fun K hK => ?_) AllReadyH.nil)
        refine step_append_lies _ rfl (.tmp 68) (.tmp 80) 22 (by rfl) (w.heap.size + 1) 9 i0 (.string ⟨#[]⟩) 1 16 Tryd.underlying22 hi hz0 hz1 hz2 rfl (by decide) _ _ _ (by rfl) hl4.out ⟨nb, 0, none⟩ 2 2 [.string y, .string lk] (by rfl) rfl N7 (by intro u hu; simp at hu; rcases hu with rfl | rfl <;> rfl) (by decide) (by unfold maxLen; omega) (by omega) (by omega) _ rfl ?_
        intro gb cb w8 own8 hg8 hat8 _
        have F8 := off_ext f4 (lies_at (n := j * 2 + 2) (c := cb) hat8) (fun k hk => by have := (lo k hk).2; omega)
        obtain ⟨f5, f6⟩ := F8
        have HO8 := Lib.hid (own_grown2 HO4.out hg8 f4)
        have P8 := P4.grew hg8 (fun e => by have := (ll _ e).1; omega)
        have X8 : Ext w w8 := own_ext_of X4 hl4.out hg8 (by omega)
        have HL8 := Lib.hid own8
        replace d1 := (hg8.cell_far _ lb1 (fun e => by have := (ll _ e.symm).1; dsimp only at this; omega)).trans d1
        replace d2 := (hg8.cell_far _ lb2 (fun e => by have := (ll _ e.symm).1; dsimp only at this; omega)).trans d2
        clear own8 hg8 hat8 P4 X4 HO4 hl4 lo ll f3 f4
        have P4 := P8
        (try dsimp only)
        refine hK.out _ _ (by exact ⟨P4.2.1 1 _ rfl, P4.2.1 2 _ rfl, d1, d2⟩) (fun hHeld => ?_)
        clear hK K
        (refine wpAnyH_take (i := 14) (v := ?_) rfl (by kernel_rfl) (by kernel_rfl) (by kernel_rfl) (fun _ _ _ h => h) (Or.inl ⟨by rfl, ?_⟩) (by assumption) ?_; rotate_left; focus (intro w hSw; (try dsimp only at hSw); (try simp only [List.getElem_toArray, List.getElem_cons_zero, List.getElem_cons_succ]); go_simp; try with_reducible rfl)); (try simp only [List.getElem_toArray, List.getElem_cons_zero, List.getElem_cons_succ]); (try simp only [Act.put, List.setIfInBounds_toArray, List.set_cons_zero, List.set_cons_succ])
        refine wpAnyH_done (by kernel_rfl) ?_ _
        go_wp2
        go_roundw
        case rel => exact ⟨j + 1, by omega, by go_num, by rw [HO2.out, List.map_append, HTO.out.symm]; exact HO8.out, by rw [HP.out, List.map_append, Nat.succ_mul]; exact HL8.out, f6, f5, P8, X8⟩
        case measure => simp [intOf]; omega
    · obtain rfl : j = 8 := by omega
      have hst : Strs wr (.slice la 16 lc) (lkL idx s 8) := by
        have e : (lkL idx s 8).length = 16 := lkL_len idx s 8
        have := Row.of_owns hl
        unfold Strs
        rw [e]
        exact this
      have hfit : ∀ x ∈ lkL idx s 8, x.size ≤ maxLen := fun x hx => le_max (HFL.out 8 x hx) (by omega)
      clear hl f1 f2 q1 q2
      have q0 := P.2.1 0 _ rfl
      go_wp2_with fail
      refine (spec_TagText 6 _ (lkL idx s 8) _ hst hfit).mono ?_
      generalize hmt : tagTx 6 (lkL idx s 8) = mt at *
      generalize tagWell 6 (lkL idx s 8) = tw at *
      have HMT := Lib.hid hmt
      clear hmt
      rintro e w3 ⟨rfl, x3⟩
      have ho3 := own_ext ho x3
      have P3 := P.ext x3
      have X3 := X.trans x3
      have lo := own_lt ho3
      have z3 := P3.1
      clear hst hfit q0
      go_wp2_with (at_builtin; refine wpList_append_own_at _ rfl (.tmp 87) (.tmp 89) 22 rfl (w.heap.size + 1) 9 i0 (.string ⟨#[]⟩) 1 16 Tryd.underlying22 hi hz0 hz1 hz2 rfl (by decide) _ _ _ rfl (own_alloc ho3 _) ⟨w3.heap.size, 0, none⟩ 1 1 [.string mt] rfl rfl ?c1 ?c2 ?c3 ?c4 ?c5 ?_)
      case c1 => exact World.news_of_block (heap_alloc_new w3 (Obj.cells #[Value.string mt] 9))
      case c2 => intro u hu; simp at hu; subst hu; rfl
      case c3 => unfold maxLen; omega
      case c4 => omega
      case c5 => simp; omega
      intro v4 w4 own4 hg4 _ hat
      clear hat
      have e4 : Ext w3 (w3.alloc (Obj.cells #[Value.string mt] 9)) := (Ext.refl _).alloc _
      have P4 := (P3.ext e4).grew hg4 (fun e => by have := (lo _ e).1; omega)
      have X4 : Ext w w4 := own_ext_of (X3.trans e4) (own_alloc ho3 _) hg4 (by omega)
      obtain ⟨va4, vc4, rfl⟩ := own_any own4
      have HO4 := Lib.hid (show w4.ownsRow (w.heap.size + 1) 9 1 (.slice va4 9 vc4) 9 ((sgUp text s 0).map Value.string) by rw [HU0.out, HMID.out, List.map_append]; exact own4)
      clear own4 hg4 ho3 P3 X3 lo ho P X e4 x3 HMT HMID HU0 HLS HFL
      have q0 := P4.2.1 0 _ rfl
      rw [HA.out] at q0
      generalize hss : s.at_.toNat = sa at *
      have HSA := Lib.hid (show sa = a by rw [← hss, HA.out]; rfl)
      clear hss
      go_wp2
      clear q0
      go_loopw [5, 13, 14, 15, 16, 17, 18] (fun ov kv iv _ _ _ _ wr => ∃ j : Nat, j ≤ 4 ∧ iv = .int .i64 j ∧ kv = .int .i64 ((a / 2 ^ j : Nat) : Int) ∧ wr.ownsRow (w.heap.size + 1) 9 1 ov (9 + j) ((sgUp text s j).map Value.string) ∧ Bx wr w.heap.size [.int .i64 s.at_, .slice (some ⟨b1, o1, none⟩) s.op.length c1, .slice (some ⟨b2, o2, none⟩) s.sh.length c2, .slice (some ⟨b3, o3, none⟩) s.si.length c3] ∧ Ext w wr) (fun _ _ iv _ _ _ _ _ => 4 - (intOf iv).toNat)
      case atStart => exact ⟨0, by omega, rfl, by simp, HO4.out, P4, X4⟩
      case round =>
        clear HO4 P4 X4
        obtain ⟨j, hj, rfl, rfl, ho, P, X⟩ := hrel
        obtain ⟨va, vc, rfl⟩ := own_any ho
        have q3 := P.2.1 3 _ rfl
        by_cases hlt : j < 4
        · have d3 := (X.cell _ _ l3).trans (E3.out j (by rw [HN3.out]; exact hlt))
          have hs4 : (s.si.length : Int) = 4 := by rw [HN3.out]; rfl
          have hi0 : (0 : Int) ≤ (j : Int) := by omega
          have hi1 : (j : Int) < (s.si.length : Int) := by omega
          have HS4 := Lib.hid hs4
          clear hs4
          have hcell : wr.cell? ⟨0, 0, none⟩ = wr.cell? ⟨0, 0, none⟩ := rfl
          obtain ⟨gv, gc, he⟩ := own_form ho (by omega)
          injection he with he1 he2 he3
          subst he1 he3
          clear he2 hcell
          have dv : wr.cell? ⟨gv, 8 + j, none⟩ = some (.string ((sgUp text s j).getD (8 + j) ⟨#[]⟩)) := by rw [ho.cellAt (8 + j) (by omega), List.getElem?_map, List.getD_eq_getElem?_getD, List.getElem?_eq_getElem (by rw [HUL.out]; omega)]; rfl
          have hz := HUZ.out j
          have HC := Lib.hid (HUP.out j)
          have HU := Lib.hid (HUS.out j)
          have HX := Lib.hid (HTX.out j)
          have hh := HST.out j
          have hb16 : a / 2 ^ j < 16 := Nat.lt_of_le_of_lt (Nat.div_le_self _ _) ha15
          have hm := half_all ⟨a / 2 ^ j, hb16⟩
          dsimp only at hm
          have hd := hm.2
          have HD := Lib.hid (show a / 2 ^ (j + 1) = a / 2 ^ j / 2 by rw [Nat.pow_succ, Nat.div_div_eq_div_mul])
          have zy := getD_le F3.out j
          have i1 : ((9 : Int) + j - 1) = 8 + j := by omega
          have i2 : (0 : Int) ≤ 8 + (j : Int) := by omega
          have i3 : (8 : Int) + j < 9 + j := by omega
          have i4 : ((8 : Int) + j).toNat = 8 + j := by omega
          generalize (sgUp text s j).getD (8 + j) ⟨#[]⟩ = top at *
          generalize sgSt (tagH 6 (lkL idx s 8) 16) sa s.si j = h0 at *
          generalize s.si.getD j ⟨#[]⟩ = y at *
          generalize a / 2 ^ j = b at *
          go_wp2_with fail
          refine (spec_CutDigest top 16 _ (by omega)).mono ?_
          rw [HC.out]
          rintro e w3 ⟨rfl, x3⟩
          replace ho := own_ext ho x3
          replace P := P.ext x3
          replace d3 := (x3.cell _ _ (Nat.lt_of_lt_of_le l3 X.size)).trans d3
          replace X := X.trans x3
          clear dv q3
          have q3 := P.2.1 3 _ rfl
          have z3 := P.1
          have lb3 := Nat.lt_of_lt_of_le l3 X.size
          have f0 := le_max hh (by omega)
          have fy := le_max zy (by omega)
          rcases (by omega : b % 2 = 0 ∨ b % 2 = 1) with hb | hb
          · have HX2 := Lib.hid (show sgTx text s j = tagTx 3 [h0, y] by rw [HX.out, hb]; rfl)
            have hr : ((b : Nat) : Int).tmod 2 = 0 := by rw [hm.1, hb]; rfl
            clear hb hm HX
            have eA : Ext w3 (w3.alloc (Obj.cells #[.string h0, .string y] 9)) := (Ext.refl _).alloc _
            have hoA := own_ext ho eA
            have PA := P.ext eA
            have XA := X.trans eA
            have SA : Strs (w3.alloc (Obj.cells #[.string h0, .string y] 9)) (.slice (some ⟨w3.heap.size, 0, none⟩) 2 2) [h0, y] := strs_lit2 w3 h0 y _
            go_wp2_with fail
            generalize w3.alloc (Obj.cells #[.string h0, .string y] 9) = W4 at *
            refine (spec_TagText 3 _ [h0, y] _ SA (fit2 f0 fy)).mono ?_
            generalize htt : tagTx 3 [h0, y] = tt at *
            generalize tagWell 3 [h0, y] = tw3 at *
            have HTT := Lib.hid htt
            clear htt
            rintro e w5 ⟨rfl, x5⟩
            have ho5 := own_ext hoA x5
            have P5 := PA.ext x5
            have X5 := XA.trans x5
            have lo := own_lt ho5
            have z5 := P5.1
            clear q3 d3 SA
            go_wp2_with (at_builtin; refine wpList_append_own _ rfl (.tmp 129) (.tmp 131) 22 rfl (w.heap.size + 1) 9 i0 (.string ⟨#[]⟩) 1 16 Tryd.underlying22 hi hz0 hz1 hz2 rfl (by decide) _ _ _ rfl (own_alloc ho5 _) ⟨w5.heap.size, 0, none⟩ 1 1 [.string tt] rfl rfl ?c1 ?c2 ?c3 ?c4 ?c5 ?_)
            case c1 => exact World.news_of_block (heap_alloc_new w5 (Obj.cells #[Value.string tt] 9))
            case c2 => intro u hu; simp at hu; subst hu; rfl
            case c3 => unfold maxLen; omega
            case c4 => omega
            case c5 => simp; omega
            intro v6 w6 own6 hg6 _
            have e6 : Ext w5 (w5.alloc (Obj.cells #[Value.string tt] 9)) := (Ext.refl _).alloc _
            have P6 := (P5.ext e6).grew hg6 (fun e => by have := (lo _ e).1; omega)
            have X6 : Ext w w6 := own_ext_of (X5.trans e6) (own_alloc ho5 _) hg6 (by omega)
            obtain ⟨va6, vc6, rfl⟩ := own_any own6
            have HO6 := Lib.hid own6
            clear own6 hg6 ho5 hoA PA XA P5 X5 lo ho P X
            go_wp2
            go_roundw
            case rel => exact ⟨j + 1, by omega, by go_num, by rw [HD.out]; simp, by rw [HU.out, HX2.out, List.map_append]; exact HO6.out, P6, X6⟩
            case measure => simp [intOf]; omega
          · have HX2 := Lib.hid (show sgTx text s j = tagTx 3 [y, h0] by rw [HX.out, hb]; rfl)
            have hr : ((b : Nat) : Int).tmod 2 = 1 := by rw [hm.1, hb]; rfl
            clear hb hm HX
            have eA : Ext w3 ((w3.alloc (Obj.cells #[.string h0, .string y] 9)).alloc (Obj.cells #[.string y, .string h0] 9)) := ((Ext.refl _).alloc _).alloc _
            have hoA := own_ext ho eA
            have PA := P.ext eA
            have XA := X.trans eA
            have SA : Strs ((w3.alloc (Obj.cells #[.string h0, .string y] 9)).alloc (Obj.cells #[.string y, .string h0] 9)) (.slice (some ⟨w3.heap.size + 1, 0, none⟩) 2 2) [y, h0] := strs_lit (w3.alloc (Obj.cells #[.string h0, .string y] 9)) [y, h0] 2 _ _ rfl (by rw [World.size_alloc]) (by omega)
            have dA := ((show Ext w3 (w3.alloc (Obj.cells #[.string h0, .string y] 9)) from (Ext.refl _).alloc _).cell _ _ lb3).trans d3
            have qA := ((show Ext w3 (w3.alloc (Obj.cells #[.string h0, .string y] 9)) from (Ext.refl _).alloc _).cell _ _ z3).trans q3
            go_wp2_with fail
            generalize (w3.alloc (Obj.cells #[.string h0, .string y] 9)).alloc (Obj.cells #[.string y, .string h0] 9) = W4 at *
            refine (spec_TagText 3 _ [y, h0] _ SA (fit2 fy f0)).mono ?_
            generalize htt : tagTx 3 [y, h0] = tt at *
            generalize tagWell 3 [y, h0] = tw3 at *
            have HTT := Lib.hid htt
            clear htt
            rintro e w5 ⟨rfl, x5⟩
            have ho5 := own_ext hoA x5
            have P5 := PA.ext x5
            have X5 := XA.trans x5
            have lo := own_lt ho5
            have z5 := P5.1
            clear q3 d3 SA dA qA
            go_wp2_with (at_builtin; refine wpList_append_own _ rfl (.tmp 129) (.tmp 131) 22 rfl (w.heap.size + 1) 9 i0 (.string ⟨#[]⟩) 1 16 Tryd.underlying22 hi hz0 hz1 hz2 rfl (by decide) _ _ _ rfl (own_alloc ho5 _) ⟨w5.heap.size, 0, none⟩ 1 1 [.string tt] rfl rfl ?c1 ?c2 ?c3 ?c4 ?c5 ?_)
            case c1 => exact World.news_of_block (heap_alloc_new w5 (Obj.cells #[Value.string tt] 9))
            case c2 => intro u hu; simp at hu; subst hu; rfl
            case c3 => unfold maxLen; omega
            case c4 => omega
            case c5 => simp; omega
            intro v6 w6 own6 hg6 _
            have e6 : Ext w5 (w5.alloc (Obj.cells #[Value.string tt] 9)) := (Ext.refl _).alloc _
            have P6 := (P5.ext e6).grew hg6 (fun e => by have := (lo _ e).1; omega)
            have X6 : Ext w w6 := own_ext_of (X5.trans e6) (own_alloc ho5 _) hg6 (by omega)
            obtain ⟨va6, vc6, rfl⟩ := own_any own6
            have HO6 := Lib.hid own6
            clear own6 hg6 ho5 hoA PA XA P5 X5 lo ho P X
            go_wp2
            go_roundw
            case rel => exact ⟨j + 1, by omega, by go_num, by rw [HD.out]; simp, by rw [HU.out, HX2.out, List.map_append]; exact HO6.out, P6, X6⟩
            case measure => simp [intOf]; omega
        · obtain rfl : j = 4 := by omega
          have hs4 : (s.si.length : Int) = 4 := by rw [HN3.out]; rfl
          go_wp2
          go_ret
          have hL : (sgTexts text s).length = 13 := by rw [R.out, HUL.out, HN3.out]
          exact ⟨va, vc, by rw [hL]; rfl, by unfold OwnStrs; rw [hL, R.out, HN3.out]; exact own_mono ho (Nat.le_succ _), X⟩
end Go.Proofs.YtliebkhfddmhjaaDoor
namespace Go.Proofs.YtliebkhfddmhjaaDoor
open Go.RowKit

theorem sgPair_inj {n : Nat} {h s h' s' : ByteArray} (e : sgPair n h s = sgPair n h' s') : h = h' ∧ s = s' := by
  unfold sgPair at e
  split at e <;> simp only [List.cons.injEq, and_true] at e <;> first | exact e | exact ⟨e.2, e.1⟩
theorem sgUp_low (text : ByteArray) (s : SigV) (n j : Nat) (h : j < 8) : (sgUp text s n).getD j ⟨#[]⟩ = lkT (s.op.getD j ⟨#[]⟩) := by
  rw [List.getD_eq_getElem?_getD, sgUp, sgMid, List.append_assoc, List.getElem?_append_left (by rw [sgLow_len]; exact h), sgLow, List.getElem?_map, List.getElem?_range h]
  rfl
theorem sgUp_8 (text : ByteArray) (s : SigV) (n : Nat) : (sgUp text s n).getD 8 ⟨#[]⟩ = tagTx 6 (lkL (sgIdx text) s 8) := by
  rw [List.getD_eq_getElem?_getD, sgUp, sgMid, List.append_assoc, List.getElem?_append_right (by rw [sgLow_len]; exact Nat.le_refl _), sgLow_len]
  rfl
theorem sgUp_9 (text : ByteArray) (s : SigV) (n k : Nat) (h : k < n) : (sgUp text s n).getD (9 + k) ⟨#[]⟩ = sgTx text s k := by
  have hl : (sgMid text s).length = 9 := by rw [sgMid, List.length_append, sgLow_len]; rfl
  rw [List.getD_eq_getElem?_getD, sgUp, List.getElem?_append_right (by omega), hl, Nat.add_sub_cancel_left, List.getElem?_map, List.getElem?_range h]
  rfl
theorem sgUp_cut {text : ByteArray} {s : SigV} (hs : ∀ x ∈ s.sh, x.size ≤ 32) (hi : ∀ x ∈ s.si, x.size ≤ 32) (n k : Nat) (h : k ≤ n) : cutT ((sgUp text s n).getD (8 + k) ⟨#[]⟩) 16 = sgSt (tagH 6 (lkL (sgIdx text) s 8) 16) s.at_.toNat s.si k := by
  rw [← sgUp_last text s hs hi k]
  congr 1
  cases k with
  | zero => rw [Nat.add_zero, sgUp_8, sgUp_8]
  | succ k => rw [show 8 + (k + 1) = 9 + k by omega, sgUp_9 _ _ _ _ (by omega), sgUp_9 _ _ _ _ (by omega)]
/-- from where the hashes are one on down: a clash, or all texts of the way are one -/
theorem sig_scan {x y : ByteArray} {a b : SigV} (n : Nat) (ha : ∀ s ∈ a.sh, s.size ≤ 32) (hai : ∀ s ∈ a.si, s.size ≤ 32) (hb : ∀ s ∈ b.sh, s.size ≤ 32) (hbi : ∀ s ∈ b.si, s.size ≤ 32) (hat : a.at_ = b.at_) :
    ∀ k, k ≤ n → sgSt (tagH 6 (lkL (sgIdx x) a 8) 16) a.at_.toNat a.si k = sgSt (tagH 6 (lkL (sgIdx y) b 8) 16) b.at_.toNat b.si k →
      clN (sgUp x a n) (sgUp y b n) 16 (9 + k) = true ∨ (clN (sgUp x a n) (sgUp y b n) 16 (9 + k) = clN (sgUp x a n) (sgUp y b n) 16 8 ∧ lkL (sgIdx x) a 8 = lkL (sgIdx y) b 8 ∧ ∀ j, j < k → a.si.getD j ⟨#[]⟩ = b.si.getD j ⟨#[]⟩)
  | 0, _, e => by
    rw [show 9 + 0 = 8 + 1 by rfl, clN]
    by_cases hq : (sgUp x a n).getD 8 ⟨#[]⟩ = (sgUp y b n).getD 8 ⟨#[]⟩
    · rw [if_pos hq]
      rw [sgUp_8, sgUp_8] at hq
      exact Or.inr ⟨rfl, (tag_inj (lk_well _ a ha) (lk_well _ b hb) hq).2, fun j hj => absurd hj (by omega)⟩
    · rw [if_neg hq]
      left
      have h1 := sgUp_cut (text := x) ha hai n 0 (by omega)
      have h2 := sgUp_cut (text := y) hb hbi n 0 (by omega)
      rw [Nat.add_zero] at h1 h2
      exact decide_eq_true (by rw [h1, h2]; exact e)
  | k + 1, hk, e => by
    rw [show 9 + (k + 1) = (9 + k) + 1 by omega, clN]
    by_cases hq : (sgUp x a n).getD (9 + k) ⟨#[]⟩ = (sgUp y b n).getD (9 + k) ⟨#[]⟩
    · rw [if_pos hq]
      rw [sgUp_9 _ _ _ _ (by omega), sgUp_9 _ _ _ _ (by omega), sgTx, sgTx, ← hat] at hq
      have w1 := sgPair_well (b := a.at_.toNat / 2 ^ k % 2) (sgSt_le (tagH 6 (lkL (sgIdx x) a 8) 16) a.at_.toNat a.si (tagH_le _ _ _) k) (getD_le hai k)
      have w2 := sgPair_well (b := a.at_.toNat / 2 ^ k % 2) (sgSt_le (tagH 6 (lkL (sgIdx y) b 8) 16) a.at_.toNat b.si (tagH_le _ _ _) k) (getD_le hbi k)
      obtain ⟨e1, e2⟩ := sgPair_inj (tag_inj w1 w2 hq).2
      rcases sig_scan n ha hai hb hbi hat k (by omega) (by rw [← hat]; exact e1) with h | ⟨h1, h2, h3⟩
      · exact Or.inl h
      · refine Or.inr ⟨h1, h2, fun j hj => ?_⟩
        rcases (show j < k ∨ j = k by omega) with hj | rfl
        · exact h3 j hj
        · exact e2
    · rw [if_neg hq]
      left
      have h1 := sgUp_cut (text := x) ha hai n (k + 1) (by omega)
      have h2 := sgUp_cut (text := y) hb hbi n (k + 1) (by omega)
      rw [show 8 + (k + 1) = 9 + k by omega] at h1 h2
      exact decide_eq_true (by rw [h1, h2]; exact e)
theorem lk_split {x y : Int} {a b : SigV} : ∀ n, lkL x a n = lkL y b n → ∀ j, j < n → lkPair x a j = lkPair y b j
  | 0, _, _, h => absurd h (by omega)
  | n + 1, e, j, h => by
    rw [lkL_succ, lkL_succ] at e
    obtain ⟨e1, e2⟩ := List.append_inj' e (by rw [lkPair_len, lkPair_len])
    rcases (show j < n ∨ j = n by omega) with hj | rfl
    · exact lk_split n e1 j hj
    · exact e2
/-- has a signature a bit, in which two numbers differ, whose lock is the one beside it? -/
def twB (s : SigV) (x y : Int) : Bool := (List.range 8).any fun j : Nat => decide (bitT x j ≠ bitT y j) && decide (lkH (s.op.getD j ⟨#[]⟩) = s.sh.getD j ⟨#[]⟩)
def bits8 (i : Int) : Int := bitT i 0 * 128 + bitT i 1 * 64 + bitT i 2 * 32 + bitT i 3 * 16 + bitT i 4 * 8 + bitT i 5 * 4 + bitT i 6 * 2 + bitT i 7
theorem bits8_all : ∀ m : Fin 256, bits8 ((m.val : Nat) : Int) = ((m.val : Nat) : Int) := by decide +kernel
theorem bits_differ {x y : Int} (hx : 0 ≤ x ∧ x ≤ 255) (hy : 0 ≤ y ∧ y ≤ 255) (h : x ≠ y) : ∃ j : Nat, j < 8 ∧ bitT x j ≠ bitT y j := by
  apply Classical.byContradiction
  intro hn
  have hall : ∀ j : Nat, j < 8 → bitT x j = bitT y j := fun j hj => Classical.byContradiction fun e => hn ⟨j, hj, e⟩
  have e1 := bits8_all ⟨x.toNat, by omega⟩
  have e2 := bits8_all ⟨y.toNat, by omega⟩
  rw [show (((⟨x.toNat, by omega⟩ : Fin 256).val : Nat) : Int) = x from Int.toNat_of_nonneg hx.1] at e1
  rw [show (((⟨y.toNat, by omega⟩ : Fin 256).val : Nat) : Int) = y from Int.toNat_of_nonneg hy.1] at e2
  have h0 := hall 0 (by decide)
  have h1 := hall 1 (by decide)
  have h2 := hall 2 (by decide)
  have h3 := hall 3 (by decide)
  have h4 := hall 4 (by decide)
  have h5 := hall 5 (by decide)
  have h6 := hall 6 (by decide)
  have h7 := hall 7 (by decide)
  apply h
  rw [← e1, ← e2]
  unfold bits8
  exact congr (congrArg _ (congr (congrArg _ (congr (congrArg _ (congr (congrArg _ (congr (congrArg _ (congr (congrArg _ (congr (congrArg _ (congrArg (· * 128) h0)) (congrArg (· * 64) h1))) (congrArg (· * 32) h2))) (congrArg (· * 16) h3))) (congrArg (· * 8) h4))) (congrArg (· * 4) h5))) (congrArg (· * 2) h6))) h7
theorem sgIdx_bd (t : ByteArray) : 0 ≤ sgIdx t ∧ sgIdx t ≤ 255 := by
  have := UInt8.toNat_lt ((tagH 7 [t] 16).data.getD 0 0)
  rw [sgIdx]
  omega
theorem sigWell_fit {s : SigV} (h : sigWell s = true) : (∀ x ∈ s.op, x.size ≤ 32) ∧ (∀ x ∈ s.sh, x.size ≤ 32) ∧ ∀ x ∈ s.si, x.size ≤ 32 := by
  obtain ⟨h1, h2, h3⟩ := sigWell_wide h
  exact ⟨wide16_32 h1, wide16_32 h2, wide16_32 h3⟩
theorem sgTexts_len {x : ByteArray} {s : SigV} (h : sigWell s = true) (hx : x.size ≤ 200) : (sgTexts x s).length = 13 := by
  rw [sgTexts_yes h hx, sgUp_len, (sigWell_true h).2.2.2.1]
/-- one signature right for two texts of unlike bits by one root: a clash, or a lock is the one beside it -/
theorem seal_clash {x y root : ByteArray} {s : SigV} (hx : sigOkB root x s = true) (hy : sigOkB root y s = true) (hne : sgIdx x ≠ sgIdx y) : clB (sgTexts x s) (sgTexts y s) 16 = true ∨ twB s (sgIdx y) (sgIdx x) = true := by
  simp only [sigOkB, Bool.and_eq_true, decide_eq_true_eq] at hx hy
  obtain ⟨hw, h2x, hrx⟩ := hx
  obtain ⟨-, h2y, hry⟩ := hy
  obtain ⟨-, f2, f3⟩ := sigWell_fit hw
  have hn := (sigWell_true hw).2.2.2.1
  rw [sgRoot] at hrx hry
  rw [clB, if_pos (by rw [sgTexts_len hw h2x, sgTexts_len hw h2y]), sgTexts_len hw h2x, sgTexts_yes hw h2x, sgTexts_yes hw h2y, hn]
  rw [hn] at hrx hry
  rcases sig_scan (x := x) (y := y) (a := s) (b := s) 4 f2 f3 f2 f3 rfl 4 (Nat.le_refl _) (by rw [hrx, hry]) with h | ⟨-, h, -⟩
  · exact Or.inl h
  · right
    obtain ⟨j, hj, hb⟩ := bits_differ (sgIdx_bd y) (sgIdx_bd x) (fun e => hne e.symm)
    have hp := lk_split 8 h j hj
    rw [twB, List.any_eq_true]
    refine ⟨j, List.mem_range.2 hj, ?_⟩
    rw [Bool.and_eq_true, decide_eq_true_eq, decide_eq_true_eq]
    refine ⟨hb, ?_⟩
    rcases bitT_two (sgIdx x) j with b1 | b1 <;> rcases bitT_two (sgIdx y) j with b2 | b2
    · exact absurd (b2.trans b1.symm) hb
    · rw [lkPair_0 b1, lkPair_1 b2] at hp
      simp only [List.cons.injEq, and_true] at hp
      exact hp.1
    · rw [lkPair_1 b1, lkPair_0 b2] at hp
      simp only [List.cons.injEq, and_true] at hp
      exact hp.1.symm
    · exact absurd (b2.trans b1.symm) hb
theorem getD_ext {xs ys : List ByteArray} (hl : xs.length = ys.length) (h : ∀ j, j < xs.length → xs.getD j ⟨#[]⟩ = ys.getD j ⟨#[]⟩) : xs = ys := by
  refine List.ext_getElem hl fun j h1 h2 => ?_
  have := h j h1
  rw [List.getD_eq_getElem?_getD, List.getD_eq_getElem?_getD, List.getElem?_eq_getElem h1, List.getElem?_eq_getElem h2] at this
  exact this
theorem locked_shut {i : Int} {a b : SigV} (ha : a.sh.length = 8) (hb : b.sh.length = 8) (h : lkL i a 8 = lkL i b 8) : a.sh = b.sh ∧ ∀ j, j < 8 → lkH (a.op.getD j ⟨#[]⟩) = lkH (b.op.getD j ⟨#[]⟩) := by
  have hp : ∀ j, j < 8 → lkH (a.op.getD j ⟨#[]⟩) = lkH (b.op.getD j ⟨#[]⟩) ∧ a.sh.getD j ⟨#[]⟩ = b.sh.getD j ⟨#[]⟩ := by
    intro j hj
    have e := lk_split 8 h j hj
    rcases bitT_two i j with b1 | b1
    · rw [lkPair_0 b1, lkPair_0 b1] at e
      simp only [List.cons.injEq, and_true] at e
      exact e
    · rw [lkPair_1 b1, lkPair_1 b1] at e
      simp only [List.cons.injEq, and_true] at e
      exact ⟨e.2, e.1⟩
  exact ⟨getD_ext (by rw [ha, hb]) (fun j hj => (hp j (by omega)).2), fun j hj => (hp j hj).1⟩
/-- two signatures that are right for one text by one root: what the law 'locked' finds -/
theorem locked_law {x root : ByteArray} {a b : SigV} (ha : sigOkB root x a = true) (hb : sigOkB root x b = true) (hat : a.at_ = b.at_) :
    (∀ i, 8 ≤ i → i < 13 → (i < 12 → (sgTexts x a).getD (i + 1) ⟨#[]⟩ = (sgTexts x b).getD (i + 1) ⟨#[]⟩) → cutT ((sgTexts x a).getD i ⟨#[]⟩) 16 = cutT ((sgTexts x b).getD i ⟨#[]⟩) 16) ∧
    ((sgTexts x a).getD 8 ⟨#[]⟩ = (sgTexts x b).getD 8 ⟨#[]⟩ → ∀ i, i < 8 → cutT ((sgTexts x a).getD i ⟨#[]⟩) 16 = cutT ((sgTexts x b).getD i ⟨#[]⟩) 16) ∧
    ((∀ i, i < 13 → (sgTexts x a).getD i ⟨#[]⟩ = (sgTexts x b).getD i ⟨#[]⟩) → a.op = b.op ∧ a.sh = b.sh ∧ a.si = b.si) := by
  simp only [sigOkB, Bool.and_eq_true, decide_eq_true_eq] at ha hb
  obtain ⟨hw, h2, hra⟩ := ha
  obtain ⟨kw, -, hrb⟩ := hb
  obtain ⟨f1, f2, f3⟩ := sigWell_fit hw
  obtain ⟨g1, g2, g3⟩ := sigWell_fit kw
  obtain ⟨-, ⟨hn1, -⟩, ⟨hn2, -⟩, hn, -⟩ := sigWell_true hw
  obtain ⟨-, ⟨kn1, -⟩, ⟨kn2, -⟩, kn, -⟩ := sigWell_true kw
  rw [sgRoot] at hra hrb
  rw [sgTexts_yes hw h2, sgTexts_yes kw h2, hn, kn]
  rw [hn] at hra
  rw [kn, ← hat] at hrb
  have hL : (sgUp x a 4).getD 8 ⟨#[]⟩ = (sgUp x b 4).getD 8 ⟨#[]⟩ → lkL (sgIdx x) a 8 = lkL (sgIdx x) b 8 := by
    intro e
    rw [sgUp_8, sgUp_8] at e
    exact (tag_inj (lk_well _ a f2) (lk_well _ b g2) e).2
  have hP : ∀ k, k < 4 → (sgUp x a 4).getD (9 + k) ⟨#[]⟩ = (sgUp x b 4).getD (9 + k) ⟨#[]⟩ → sgSt (tagH 6 (lkL (sgIdx x) a 8) 16) a.at_.toNat a.si k = sgSt (tagH 6 (lkL (sgIdx x) b 8) 16) a.at_.toNat b.si k ∧ a.si.getD k ⟨#[]⟩ = b.si.getD k ⟨#[]⟩ := by
    intro k hk e
    rw [sgUp_9 _ _ _ _ hk, sgUp_9 _ _ _ _ hk, sgTx, sgTx, ← hat] at e
    have w1 := sgPair_well (b := a.at_.toNat / 2 ^ k % 2) (sgSt_le (tagH 6 (lkL (sgIdx x) a 8) 16) a.at_.toNat a.si (tagH_le _ _ _) k) (getD_le f3 k)
    have w2 := sgPair_well (b := a.at_.toNat / 2 ^ k % 2) (sgSt_le (tagH 6 (lkL (sgIdx x) b 8) 16) a.at_.toNat b.si (tagH_le _ _ _) k) (getD_le g3 k)
    exact sgPair_inj (tag_inj w1 w2 e).2
  refine ⟨fun i h8 h13 hup => ?_, fun e i hi => ?_, fun hall => ?_⟩
  · obtain ⟨k, rfl⟩ : ∃ k, i = 8 + k := ⟨i - 8, by omega⟩
    rw [sgUp_cut f2 f3 4 k (by omega), sgUp_cut g2 g3 4 k (by omega), ← hat]
    rcases (show k = 4 ∨ k < 4 by omega) with rfl | hk
    · rw [hra, hrb]
    · have := hup (by omega)
      rw [show 8 + k + 1 = 9 + k by omega] at this
      exact (hP k hk this).1
  · rw [sgUp_low _ _ _ _ hi, sgUp_low _ _ _ _ hi, lkT, lkT, tagH_cut (one_well (getD_le f1 i)), tagH_cut (one_well (getD_le g1 i))]
    exact (locked_shut hn2 kn2 (hL e)).2 i hi
  · refine ⟨getD_ext (by rw [hn1, kn1]) fun j hj => ?_, (locked_shut hn2 kn2 (hL (hall 8 (by decide)))).1, getD_ext (by rw [hn, kn]) fun j hj => (hP j (by omega) (by have := hall (9 + j) (by omega); exact this)).2⟩
    have := hall j (by omega)
    rw [sgUp_low _ _ _ _ (by omega), sgUp_low _ _ _ _ (by omega)] at this
    have e := (tag_inj (one_well (getD_le f1 j)) (one_well (getD_le g1 j)) this).2
    simp only [List.cons.injEq, and_true] at e
    exact e
theorem sig_fit {s : SigV} (h : sigWell s = true) : SigFit s := by
  obtain ⟨h1, h2, h3⟩ := sigWell_fit h
  exact ⟨fun x hx => le_max (h1 x hx) (by omega), fun x hx => le_max (h2 x hx) (by omega), fun x hx => le_max (h3 x hx) (by omega)⟩
theorem sigOk_parts {root text : ByteArray} {s : SigV} (h : sigOkB root text s = true) : sigWell s = true ∧ text.size ≤ 200 ∧ sgRoot text s = root := by
  simp only [sigOkB, Bool.and_eq_true, decide_eq_true_eq] at h
  exact h
theorem sigOk_other {root r2 text : ByteArray} {s : SigV} (h : sigOkB root text s = true) (hne : r2 ≠ root) : sigOkB r2 text s = false := by
  obtain ⟨h1, h2, h3⟩ := sigOk_parts h
  rw [sigOkB, h3, decide_eq_false (p := root = r2) (fun e => hne e.symm)]
  simp
end Go.Proofs.YtliebkhfddmhjaaDoor
