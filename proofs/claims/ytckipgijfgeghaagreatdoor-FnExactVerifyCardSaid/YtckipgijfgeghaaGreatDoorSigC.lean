/- Signatures checked: the reference. -/
import Derived.Test.YtckipgijfgeghaaGreatDoorSigU
namespace Go.Proofs.YtckipgijfgeghaaGreatDoor
open Go.RowKit

set_option maxRecDepth 100000 in
set_option maxHeartbeats 3200000 in
theorem spec_SigOk (root text : ByteArray) (v1 v2 v3 : Value) (s : SigV) (w : World) (h1 : Strs w v1 s.op) (h2 : Strs w v2 s.sh) (h3 : Strs w v3 s.si) (hs : SigFit s) (ht : text.size ≤ maxLen) :
    Calls Tryz.prog 61 #[.string root, .string text, .agg #[.int .i64 s.at_, v1, v2, v3]] w fun e w' => e = .returned (.bool (sigOkB root text s)) ∧ Ext w w' := by
  obtain ⟨a1, c1, rfl⟩ := h1.form
  obtain ⟨a2, c2, rfl⟩ := h2.form
  obtain ⟨a3, c3, rfl⟩ := h3.form
  unfold maxLen at ht
  by_cases hw : sigWell s = true
  case neg =>
    have hw' : sigWell s = false := by simpa using hw
    have R := Lib.hid (sigOk_no1 (root := root) (text := text) hw')
    have HW := Lib.hid hw'
    clear hw hw'
    go_enter Tryz.func61, Tryz.ntmps61
    go_wp2_with fail
    refine (spec_l05Form _ _ _ s _ (h1.ext (by repeat (first | (with_reducible first | exact Ext.refl _ | assumption | apply Ext.alloc | apply Ext.drew | apply Ext.drewN | refine Ext.setCell ?_ ?_ _ | refine Ext.trans ?_ (by assumption)) | (show _ ≤ _; first | omega | (dsimp only; omega) | (simp; done) | (simp; omega))))) (h2.ext (by repeat (first | (with_reducible first | exact Ext.refl _ | assumption | apply Ext.alloc | apply Ext.drew | apply Ext.drewN | refine Ext.setCell ?_ ?_ _ | refine Ext.trans ?_ (by assumption)) | (show _ ≤ _; first | omega | (dsimp only; omega) | (simp; done) | (simp; omega))))) (h3.ext (by repeat (first | (with_reducible first | exact Ext.refl _ | assumption | apply Ext.alloc | apply Ext.drew | apply Ext.drewN | refine Ext.setCell ?_ ?_ _ | refine Ext.trans ?_ (by assumption)) | (show _ ≤ _; first | omega | (dsimp only; omega) | (simp; done) | (simp; omega))))) hs).mono ?_
    rw [HW.out]
    rintro e w1 ⟨rfl, x1⟩
    go_wp2
    go_ret
    exact ⟨ret_bool R.out.symm, (by repeat (first | (with_reducible first | exact Ext.refl _ | assumption | apply Ext.alloc | apply Ext.drew | apply Ext.drewN | refine Ext.setCell ?_ ?_ _ | refine Ext.trans ?_ (by assumption)) | (show _ ≤ _; first | omega | (dsimp only; omega) | (simp; done) | (simp; omega))))⟩
  by_cases h200 : text.size ≤ 200
  case neg =>
    have R := Lib.hid (sigOk_no2 (root := root) (text := text) (s := s) h200)
    have HW := Lib.hid hw
    have hgt : (200 : Int) < text.size := by omega
    clear hw h200
    go_enter Tryz.func61, Tryz.ntmps61
    go_wp2_with fail
    refine (spec_l05Form _ _ _ s _ (h1.ext (by repeat (first | (with_reducible first | exact Ext.refl _ | assumption | apply Ext.alloc | apply Ext.drew | apply Ext.drewN | refine Ext.setCell ?_ ?_ _ | refine Ext.trans ?_ (by assumption)) | (show _ ≤ _; first | omega | (dsimp only; omega) | (simp; done) | (simp; omega))))) (h2.ext (by repeat (first | (with_reducible first | exact Ext.refl _ | assumption | apply Ext.alloc | apply Ext.drew | apply Ext.drewN | refine Ext.setCell ?_ ?_ _ | refine Ext.trans ?_ (by assumption)) | (show _ ≤ _; first | omega | (dsimp only; omega) | (simp; done) | (simp; omega))))) (h3.ext (by repeat (first | (with_reducible first | exact Ext.refl _ | assumption | apply Ext.alloc | apply Ext.drew | apply Ext.drewN | refine Ext.setCell ?_ ?_ _ | refine Ext.trans ?_ (by assumption)) | (show _ ≤ _; first | omega | (dsimp only; omega) | (simp; done) | (simp; omega))))) hs).mono ?_
    rw [HW.out]
    rintro e w1 ⟨rfl, x1⟩
    go_wp2
    go_ret
    exact ⟨ret_bool R.out.symm, (by repeat (first | (with_reducible first | exact Ext.refl _ | assumption | apply Ext.alloc | apply Ext.drew | apply Ext.drewN | refine Ext.setCell ?_ ?_ _ | refine Ext.trans ?_ (by assumption)) | (show _ ≤ _; first | omega | (dsimp only; omega) | (simp; done) | (simp; omega))))⟩
  obtain ⟨i0, hi, hz0, hz1, hz2⟩ := info_parts infoString
  have R := Lib.hid (sigOk_yes (root := root) hw h200)
  obtain ⟨⟨g1, g2⟩, ⟨n1, -⟩, ⟨n2, -⟩, n3, -⟩ := sigWell_true hw
  obtain ⟨k1, k2, k3⟩ := sigWell_wide hw
  have f1 := wide16_32 k1
  have f2 := wide16_32 k2
  have f3 := wide16_32 k3
  obtain ⟨b1, o1, rfl, l1, e1⟩ := str_cell h1 (by omega)
  obtain ⟨b2, o2, rfl, l2, e2⟩ := str_cell h2 (by omega)
  obtain ⟨b3, o3, rfl, l3, e3⟩ := str_cell h3 (by omega)
  rw [n1] at e1
  rw [n2] at e2
  obtain ⟨a, ha⟩ := Int.eq_ofNat_of_zero_le g1
  have ha15 : a < 16 := by omega
  have RT := Lib.hid (show sgRoot text s = sgSt (tagH 6 (lkL (sgIdx text) s 8) 16) a s.si s.si.length by rw [sgRoot, ha, Int.toNat_natCast])
  have HA := Lib.hid ha
  have HW := Lib.hid hw
  have E1 := Lib.hid e1
  have E2 := Lib.hid e2
  have E3 := Lib.hid e3
  have F1 := Lib.hid f1
  have F2 := Lib.hid f2
  have F3 := Lib.hid f3
  have hle : ¬ (200 : Int) < text.size := by omega
  have hn1 : (8 : Int) ≤ s.op.length := by omega
  have hn2 : (8 : Int) ≤ s.sh.length := by omega
  have H200 := Lib.hid h200
  have hn3 : s.si.length ≤ 4 := by omega
  clear hw h200 e1 e2 e3 f1 f2 f3 k1 k2 k3 ha n1 n2 n3
  go_enter Tryz.func61, Tryz.ntmps61
  go_wp2_with fail
  refine (spec_l05Form _ _ _ s _ (h1.ext (by repeat (first | (with_reducible first | exact Ext.refl _ | assumption | apply Ext.alloc | apply Ext.drew | apply Ext.drewN | refine Ext.setCell ?_ ?_ _ | refine Ext.trans ?_ (by assumption)) | (show _ ≤ _; first | omega | (dsimp only; omega) | (simp; done) | (simp; omega))))) (h2.ext (by repeat (first | (with_reducible first | exact Ext.refl _ | assumption | apply Ext.alloc | apply Ext.drew | apply Ext.drewN | refine Ext.setCell ?_ ?_ _ | refine Ext.trans ?_ (by assumption)) | (show _ ≤ _; first | omega | (dsimp only; omega) | (simp; done) | (simp; omega))))) (h3.ext (by repeat (first | (with_reducible first | exact Ext.refl _ | assumption | apply Ext.alloc | apply Ext.drew | apply Ext.drewN | refine Ext.setCell ?_ ?_ _ | refine Ext.trans ?_ (by assumption)) | (show _ ≤ _; first | omega | (dsimp only; omega) | (simp; done) | (simp; omega))))) hs).mono ?_
  rw [HW.out]
  rintro e w1 ⟨rfl, x1⟩
  have E_x1 := Old.of x1; (repeat (first | (replace E_x1 := Old.undrew E_x1) | (replace E_x1 := Old.undrewN E_x1))); have c_E_x1 := Old.cell E_x1; have f_E_x1 := Old.frozen E_x1; have z_E_x1 := Old.size E_x1; try simp only [World.size_alloc] at c_E_x1 f_E_x1 z_E_x1; try have l_E_x1 := Nat.lt_of_succ_le z_E_x1; try have m_E_x1 := Nat.lt_of_succ_lt l_E_x1; try have n_E_x1 := Nat.lt_of_succ_lt m_E_x1
  have p0 := c_E_x1 (w.heap.size) 0 (by omega); simp [go_sem] at p0; have p1 := c_E_x1 (w.heap.size) 1 (by omega); simp [go_sem] at p1; have p2 := c_E_x1 (w.heap.size) 2 (by omega); simp [go_sem] at p2; have p3 := c_E_x1 (w.heap.size) 3 (by omega); simp [go_sem] at p3
  have lw := l_E_x1
  have xw1 : Ext w w1 := (by repeat (first | (with_reducible first | exact Ext.refl _ | assumption | apply Ext.alloc | apply Ext.drew | apply Ext.drewN | refine Ext.setCell ?_ ?_ _ | refine Ext.trans ?_ (by assumption)) | (show _ ≤ _; first | omega | (dsimp only; omega) | (simp; done) | (simp; omega))))
  clear c_E_x1 f_E_x1
  go_wp2_with fail
  refine (spec_SignBitsOf text _ H200.out).mono ?_
  rintro e w2 ⟨rfl, x2⟩
  have y2 : Ext w1 w2 := (by repeat (first | (with_reducible first | exact Ext.refl _ | assumption | apply Ext.alloc | apply Ext.drew | apply Ext.drewN | refine Ext.setCell ?_ ?_ _ | refine Ext.trans ?_ (by assumption)) | (show _ ≤ _; first | omega | (dsimp only; omega) | (simp; done) | (simp; omega))))
  generalize sgIdx text = idx at *
  have z2 := y2.size
  go_wp2
  go_loopw [8, 9] (fun v i wr => ∃ j : Nat, j ≤ 8 ∧ i = .int .i64 j ∧ wr.ownsRow w1.heap.size 9 1 v (j * 2) ((lkL idx s j).map Value.string) ∧ Ext w1 wr) (fun _ i _ => 8 - (intOf i).toNat)
  case atStart => exact ⟨0, by omega, rfl, World.ownsRow_lit w2 #[] 0 z2 (Nat.zero_le _) rfl, (by repeat (first | (with_reducible first | exact Ext.refl _ | assumption | apply Ext.alloc | apply Ext.drew | apply Ext.drewN | refine Ext.setCell ?_ ?_ _ | refine Ext.trans ?_ (by assumption)) | (show _ ≤ _; first | omega | (dsimp only; omega) | (simp; done) | (simp; omega))))⟩
  case round =>
    obtain ⟨j, hj, rfl, hown, hx⟩ := hrel
    obtain ⟨oa, oc, rfl⟩ := own_any hown
    have hsz := hx.size
    have xw : Ext w wr := xw1.trans hx
    have q0 := (hx.cell _ _ lw).trans p0
    have q1 := (hx.cell _ _ lw).trans p1
    have q2 := (hx.cell _ _ lw).trans p2
    have q3 := (hx.cell _ _ lw).trans p3
    have lr : w.heap.size < wr.heap.size := Nat.lt_of_lt_of_le lw hsz
    by_cases hlt : j < 8
    · have c1 := (xw.cell _ _ l1).trans (E1.out j hlt)
      have c2 := (xw.cell _ _ l2).trans (E2.out j hlt)
      have lb2 : b2 < wr.heap.size := Nat.lt_of_lt_of_le l2 xw.size
      have hi0 : (0 : Int) ≤ (j : Int) := by omega
      have hi1 : (j : Int) < (s.op.length : Int) := by omega
      have hi2 : (j : Int) < (s.sh.length : Int) := by omega
      have hj8 : (j : Int) < 8 := by omega
      have zo := le_max (getD_le F1.out j) (by omega)
      have HU := Lib.hid (lkL_succ idx s j)
      have HL0 := Lib.hid (fun h => lkPair_0 (idx := idx) (s := s) (j := j) h)
      have HL1 := Lib.hid (fun h => lkPair_1 (idx := idx) (s := s) (j := j) h)
      have HO := Lib.hid hown
      clear hown
      generalize s.op.getD j ⟨#[]⟩ = o at *
      generalize s.sh.getD j ⟨#[]⟩ = y at *
      go_wp2_with fail
      refine (spec_LockOf o _ zo).mono ?_
      generalize lkH o = lk at *
      rintro e w3 ⟨rfl, x3⟩
      have y3 : Ext wr w3 := (by repeat (first | (with_reducible first | exact Ext.refl _ | assumption | apply Ext.alloc | apply Ext.drew | apply Ext.drewN | refine Ext.setCell ?_ ?_ _ | refine Ext.trans ?_ (by assumption)) | (show _ ≤ _; first | omega | (dsimp only; omega) | (simp; done) | (simp; omega))))
      have z3 := y3.size
      have r2 := (y3.cell _ _ lr).trans q2
      have d2 := (y3.cell _ _ lb2).trans c2
      have o3' := own_ext HO.out y3
      go_wp2_with fail
      refine (spec_BitOf idx j _).mono ?_
      rcases bitT_two idx j with hb | hb
      · have HP := Lib.hid (HU.out.trans (by rw [HL0.out hb]))
        rw [hb]
        rintro e w' ⟨rfl, rfl⟩
        have own2 := World.ownsRow.alloc o3' (Obj.cells #[Value.string lk, Value.string y] 9)
        clear hb o3'
        go_wp2_with (at_builtin; refine wpList_append_own _ rfl (.tmp 39) (.tmp 46) 22 rfl w1.heap.size 9 i0 (.string ⟨#[]⟩) 1 16 Tryz.underlying22 hi hz0 hz1 hz2 rfl (by decide) _ _ _ rfl own2 ⟨w3.heap.size, 0, none⟩ 2 2 [.string lk, .string y] rfl rfl ?c1 ?c2 ?c3 ?c4 ?c5 ?_)
        case c1 => exact World.news_of_block (heap_alloc_new w3 (Obj.cells #[Value.string lk, Value.string y] 9))
        case c2 => intro u hu; simp at hu; rcases hu with rfl | rfl <;> rfl
        case c3 => unfold maxLen; omega
        case c4 => omega
        case c5 => simp; omega
        intro v' w4 own4 hgrow _
        have hx4 : Ext w1 w4 := own_ext_of ((hx.trans y3).alloc _) own2 hgrow (Nat.le_refl _)
        obtain ⟨a', c', rfl⟩ := own_any own4
        have HO4 := Lib.hid own4
        clear own4 hgrow own2
        go_wp2
        go_roundw
        case rel => exact ⟨j + 1, by omega, by go_num, by rw [HP.out, List.map_append, Nat.succ_mul]; exact HO4.out, hx4⟩
        case measure => simp [intOf]; omega
      · have HP := Lib.hid (HU.out.trans (by rw [HL1.out hb]))
        rw [hb]
        rintro e w' ⟨rfl, rfl⟩
        have own2 := World.ownsRow.alloc o3' (Obj.cells #[Value.string y, Value.string lk] 9)
        clear hb o3'
        go_wp2_with (at_builtin; refine wpList_append_own _ rfl (.tmp 48) (.tmp 55) 22 rfl w1.heap.size 9 i0 (.string ⟨#[]⟩) 1 16 Tryz.underlying22 hi hz0 hz1 hz2 rfl (by decide) _ _ _ rfl own2 ⟨w3.heap.size, 0, none⟩ 2 2 [.string y, .string lk] rfl rfl ?c1 ?c2 ?c3 ?c4 ?c5 ?_)
        case c1 => exact World.news_of_block (heap_alloc_new w3 (Obj.cells #[Value.string y, Value.string lk] 9))
        case c2 => intro u hu; simp at hu; rcases hu with rfl | rfl <;> rfl
        case c3 => unfold maxLen; omega
        case c4 => omega
        case c5 => simp; omega
        intro v' w4 own4 hgrow _
        have hx4 : Ext w1 w4 := own_ext_of ((hx.trans y3).alloc _) own2 hgrow (Nat.le_refl _)
        obtain ⟨a', c', rfl⟩ := own_any own4
        have HO4 := Lib.hid own4
        clear own4 hgrow own2
        go_wp2
        go_roundw
        case rel => exact ⟨j + 1, by omega, by go_num, by rw [HP.out, List.map_append, Nat.succ_mul]; exact HO4.out, hx4⟩
        case measure => simp [intOf]; omega
    · obtain rfl : j = 8 := by omega
      have hst : Strs wr (.slice oa 16 oc) (lkL idx s 8) := by
        have e : (lkL idx s 8).length = 16 := lkL_len idx s 8
        have := Row.of_owns hown
        unfold Strs
        rw [e]
        exact this
      have hfit : ∀ x ∈ lkL idx s 8, x.size ≤ maxLen := fun x hx => le_max (lkL_fit idx s F2.out 8 x hx) (by omega)
      clear hown
      go_wp2_with fail
      refine (spec_TagHash 6 _ (lkL idx s 8) 16 _ hst hfit).mono ?_
      have hH := tagH_le 6 (lkL idx s 8) 16
      generalize tagH 6 (lkL idx s 8) 16 = H at *
      rintro e w5 ⟨rfl, x5⟩
      have y5 : Ext wr w5 := (by repeat (first | (with_reducible first | exact Ext.refl _ | assumption | apply Ext.alloc | apply Ext.drew | apply Ext.drewN | refine Ext.setCell ?_ ?_ _ | refine Ext.trans ?_ (by assumption)) | (show _ ≤ _; first | omega | (dsimp only; omega) | (simp; done) | (simp; omega))))
      have y15 : Ext w1 w5 := hx.trans y5
      have r0 := (y5.cell _ _ lr).trans q0
      have r3 := (y5.cell _ _ lr).trans q3
      rw [HA.out] at r0
      have lr5 : w.heap.size < w5.heap.size := Nat.lt_of_lt_of_le lr y5.size
      have xw5 : Ext w w5 := xw.trans y5
      clear hst hfit q0 q1 q2 q3 p0 p1 p2
      generalize wr = W4 at *
      go_wp2
      go_loopw [11, 12, 13] (fun hv kv iv wr => ∃ j : Nat, j ≤ s.si.length ∧ iv = .int .i64 j ∧ kv = .int .i64 ((a / 2 ^ j : Nat) : Int) ∧ hv = .string (sgSt H a s.si j) ∧ Ext w5 wr) (fun _ _ iv _ => s.si.length - (intOf iv).toNat)
      case atStart => exact ⟨0, Nat.zero_le _, rfl, by simp, rfl, Ext.refl _⟩
      case round =>
        obtain ⟨j, hj, rfl, rfl, rfl, hx6⟩ := hrel
        have m3 := (hx6.cell _ _ lr5).trans r3
        have lr6 : w.heap.size < wr.heap.size := Nat.lt_of_lt_of_le lr5 hx6.size
        have xw6 : Ext w wr := xw5.trans hx6
        by_cases hlt : j < s.si.length
        · have hb16 : a / 2 ^ j < 16 := Nat.lt_of_le_of_lt (Nat.div_le_self _ _) ha15
          have hm := half_all ⟨a / 2 ^ j, hb16⟩
          dsimp only at hm
          have HS := Lib.hid (show sgSt H a s.si (j + 1) = tagH 3 (sgPair (a / 2 ^ j % 2) (sgSt H a s.si j) (s.si.getD j ⟨#[]⟩)) 16 from rfl)
          have HD := Lib.hid (show a / 2 ^ (j + 1) = a / 2 ^ j / 2 by rw [Nat.pow_succ, Nat.div_div_eq_div_mul])
          have d3 := (xw6.cell _ _ l3).trans (E3.out j hlt)
          have lb3 : b3 < wr.heap.size := Nat.lt_of_lt_of_le l3 xw6.size
          have z1 := le_max (sgSt_le H a s.si hH j) (by omega)
          have z2 := le_max (getD_le F3.out j) (by omega)
          have hi0 : (0 : Int) ≤ (j : Int) := by omega
          have hi1 : (j : Int) < (s.si.length : Int) := by omega
          generalize a / 2 ^ j = b at *
          generalize sgSt H a s.si j = h0 at *
          generalize s.si.getD j ⟨#[]⟩ = y at *
          have hd := hm.2
          rcases (by omega : b % 2 = 0 ∨ b % 2 = 1) with hb | hb
          · have HB := Lib.hid hb
            have hr : ((b : Nat) : Int).tmod 2 = 0 := by rw [hm.1, hb]; rfl
            clear hb hm
            go_wp2_with fail
            refine (spec_TagHash 3 _ [h0, y] 16 _ (by exact strs_lit2 _ _ _ _) (fit2 z1 z2)).mono ?_
            rintro e w6 ⟨rfl, x6⟩
            go_wp2
            go_roundw
            case rel => exact ⟨j + 1, by omega, by go_num, by rw [HD.out]; simp, by rw [HS.out, HB.out]; rfl, (by repeat (first | (with_reducible first | exact Ext.refl _ | assumption | apply Ext.alloc | apply Ext.drew | apply Ext.drewN | refine Ext.setCell ?_ ?_ _ | refine Ext.trans ?_ (by assumption)) | (show _ ≤ _; first | omega | (dsimp only; omega) | (simp; done) | (simp; omega))))⟩
            case measure => simp [intOf]; omega
          · have HB := Lib.hid hb
            have hr : ((b : Nat) : Int).tmod 2 = 1 := by rw [hm.1, hb]; rfl
            clear hb hm
            go_wp2_with fail
            refine (spec_TagHash 3 _ [y, h0] 16 _ (by exact strs_lit2 _ _ _ _) (fit2 z2 z1)).mono ?_
            rintro e w6 ⟨rfl, x6⟩
            go_wp2
            go_roundw
            case rel => exact ⟨j + 1, by omega, by go_num, by rw [HD.out]; simp, by rw [HS.out, HB.out]; rfl, (by repeat (first | (with_reducible first | exact Ext.refl _ | assumption | apply Ext.alloc | apply Ext.drew | apply Ext.drewN | refine Ext.setCell ?_ ?_ _ | refine Ext.trans ?_ (by assumption)) | (show _ ≤ _; first | omega | (dsimp only; omega) | (simp; done) | (simp; omega))))⟩
            case measure => simp [intOf]; omega
        · obtain rfl : j = s.si.length := by omega
          have RF := Lib.hid (R.out.trans (by rw [RT.out]))
          generalize sgSt H a s.si s.si.length = h0 at *
          go_wp2
          go_ret
          exact ⟨ret_bool (by rw [RF.out, toList_beq]), (by repeat (first | (with_reducible first | exact Ext.refl _ | assumption | apply Ext.alloc | apply Ext.drew | apply Ext.drewN | refine Ext.setCell ?_ ?_ _ | refine Ext.trans ?_ (by assumption)) | (show _ ≤ _; first | omega | (dsimp only; omega) | (simp; done) | (simp; omega))))⟩
end Go.Proofs.YtckipgijfgeghaaGreatDoor
