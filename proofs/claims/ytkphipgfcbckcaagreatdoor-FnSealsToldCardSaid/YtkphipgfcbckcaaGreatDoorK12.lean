/- SigW, StampI, SealK. -/
import Derived.Test.YtkphipgfcbckcaaGreatDoorK11
namespace Go.Proofs.YtkphipgfcbckcaaGreatDoor
open Go.RowKit

theorem Outs.lock {W W' : World} {B base : Nat} {L : List ByteArray} {lv lv' : Value} (h : Outs W B base L lv) (hBb : B < base) (hg : W.grownBy W' lv.ownBlock) (hbase : ∀ k, lv.ownBlock = some k → base ≤ k) (hat : lv'.ownBlock = lv.ownBlock ∨ lv'.ownBlock = some W.heap.size) : Outs W' B base L lv' := by
  obtain ⟨oa, oc, h1, h2, h3, h4, h5, h6, h7⟩ := h
  have hne : some (⟨B, 0, none⟩ : Addr).block ≠ lv.ownBlock := fun e => by have := hbase B e.symm; omega
  refine ⟨oa, oc, (hg.cell_far _ h3 hne).trans h1, (hg.frozen_far _ h3 hne).trans h2, Nat.lt_of_lt_of_le h3 hg.size, Nat.le_trans h4 hg.size, own_grown2 h5 hg (fun k hk hv => h6 k hk hv), off_next h6 hat (fun g hg => (own_lt h5 g hg).2), fun g hg hr => ?_⟩
  rcases hat with hat | hat
  · exact h7 g hg (hat ▸ hr)
  · rw [hat] at hr
    injection hr with hr
    have := (own_lt h5 g hg).2
    omega
theorem Outs.nil {W : World} {B base : Nat} {L : List ByteArray} {lv : Value} (h : Outs W B base L lv) : Outs W B base L (.slice none 0 0) := by
  obtain ⟨oa, oc, h1, h2, h3, h4, h5, h6, h7⟩ := h
  exact ⟨oa, oc, h1, h2, h3, h4, h5, fun g hg => by simp [Value.ownBlock] at hg, fun g hg hr => by simp [Value.ownBlock] at hr⟩
def sgTexts (text : ByteArray) (s : SigV) : List ByteArray := if sigWell s = true ∧ text.size ≤ 200 then sgUp text s s.si.length else []
theorem sgTexts_yes {text : ByteArray} {s : SigV} (h : sigWell s = true) (k : text.size ≤ 200) : sgTexts text s = sgUp text s s.si.length := by rw [sgTexts, if_pos ⟨h, k⟩]
theorem sgTexts_no1 {text : ByteArray} {s : SigV} (h : sigWell s = false) : sgTexts text s = [] := by rw [sgTexts, if_neg (fun e => by rw [h] at e; exact absurd e.1 (by decide))]
theorem sgTexts_no2 {text : ByteArray} {s : SigV} (h : ¬ text.size ≤ 200) : sgTexts text s = [] := by rw [sgTexts, if_neg (fun e => h e.2)]

set_option maxRecDepth 100000 in
set_option maxHeartbeats 3200000 in
theorem impl_SigTexts (text : ByteArray) (v1 v2 v3 : Value) (s : SigV) (w : World) (h1 : Strs w v1 s.op) (h2 : Strs w v2 s.sh) (h3 : Strs w v3 s.si) (hs : SigFit s) (ht : text.size ≤ maxLen) (hT : Tabs w) :
    Calls Tryz.prog 81 #[.string text, .agg #[.int .i64 s.at_, v1, v2, v3]] w fun e w' => ∃ a c, e = .returned (.slice a (sgTexts text s).length c) ∧ OwnStrs w' w.heap.size (.slice a (sgTexts text s).length c) (sgTexts text s) ∧ Ext w w' := by
  have HT := Lib.hid hT
  clear hT
  obtain ⟨a1, c1, rfl⟩ := h1.form
  obtain ⟨a2, c2, rfl⟩ := h2.form
  obtain ⟨a3, c3, rfl⟩ := h3.form
  unfold maxLen at ht
  by_cases hw : sigWell s = true
  case neg =>
    have hw' : sigWell s = false := by simpa using hw
    have R := Lib.hid (sgTexts_no1 (text := text) hw')
    have HW := Lib.hid hw'
    clear hw hw'
    go_enter Tryz.func81, Tryz.ntmps81
    go_wp2_with fail
    refine (impl_formed _ _ _ s _ (h1.ext (by repeat (first | (with_reducible first | exact Ext.refl _ | assumption | apply Ext.alloc | apply Ext.drew | apply Ext.drewN | refine Ext.setCell ?_ ?_ _ | refine Ext.trans ?_ (by assumption)) | (show _ ≤ _; first | omega | (dsimp only; omega) | (simp; done) | (simp; omega))))) (h2.ext (by repeat (first | (with_reducible first | exact Ext.refl _ | assumption | apply Ext.alloc | apply Ext.drew | apply Ext.drewN | refine Ext.setCell ?_ ?_ _ | refine Ext.trans ?_ (by assumption)) | (show _ ≤ _; first | omega | (dsimp only; omega) | (simp; done) | (simp; omega))))) (h3.ext (by repeat (first | (with_reducible first | exact Ext.refl _ | assumption | apply Ext.alloc | apply Ext.drew | apply Ext.drewN | refine Ext.setCell ?_ ?_ _ | refine Ext.trans ?_ (by assumption)) | (show _ ≤ _; first | omega | (dsimp only; omega) | (simp; done) | (simp; omega))))) hs).mono ?_
    rw [HW.out]
    rintro e w1 ⟨rfl, x1⟩
    go_wp2
    go_ret
    exact ⟨none, 0, by rw [R.out]; rfl, by rw [R.out]; exact World.ownsRow_nil _ _ _ _, (by repeat (first | (with_reducible first | exact Ext.refl _ | assumption | apply Ext.alloc | apply Ext.drew | apply Ext.drewN | refine Ext.setCell ?_ ?_ _ | refine Ext.trans ?_ (by assumption)) | (show _ ≤ _; first | omega | (dsimp only; omega) | (simp; done) | (simp; omega))))⟩
  by_cases h200 : text.size ≤ 200
  case neg =>
    have R := Lib.hid (sgTexts_no2 (s := s) h200)
    have HW := Lib.hid hw
    have hgt : (200 : Int) < text.size := by omega
    clear hw h200
    go_enter Tryz.func81, Tryz.ntmps81
    go_wp2_with fail
    refine (impl_formed _ _ _ s _ (h1.ext (by repeat (first | (with_reducible first | exact Ext.refl _ | assumption | apply Ext.alloc | apply Ext.drew | apply Ext.drewN | refine Ext.setCell ?_ ?_ _ | refine Ext.trans ?_ (by assumption)) | (show _ ≤ _; first | omega | (dsimp only; omega) | (simp; done) | (simp; omega))))) (h2.ext (by repeat (first | (with_reducible first | exact Ext.refl _ | assumption | apply Ext.alloc | apply Ext.drew | apply Ext.drewN | refine Ext.setCell ?_ ?_ _ | refine Ext.trans ?_ (by assumption)) | (show _ ≤ _; first | omega | (dsimp only; omega) | (simp; done) | (simp; omega))))) (h3.ext (by repeat (first | (with_reducible first | exact Ext.refl _ | assumption | apply Ext.alloc | apply Ext.drew | apply Ext.drewN | refine Ext.setCell ?_ ?_ _ | refine Ext.trans ?_ (by assumption)) | (show _ ≤ _; first | omega | (dsimp only; omega) | (simp; done) | (simp; omega))))) hs).mono ?_
    rw [HW.out]
    rintro e w1 ⟨rfl, x1⟩
    go_wp2
    go_ret
    exact ⟨none, 0, by rw [R.out]; rfl, by rw [R.out]; exact World.ownsRow_nil _ _ _ _, (by repeat (first | (with_reducible first | exact Ext.refl _ | assumption | apply Ext.alloc | apply Ext.drew | apply Ext.drewN | refine Ext.setCell ?_ ?_ _ | refine Ext.trans ?_ (by assumption)) | (show _ ≤ _; first | omega | (dsimp only; omega) | (simp; done) | (simp; omega))))⟩
  obtain ⟨i0, hi, hz0, hz1, hz2⟩ := info_parts infoString
  have R := Lib.hid (sgTexts_yes hw h200)
  obtain ⟨⟨g1, g2⟩, ⟨n1, -⟩, ⟨n2, -⟩, n3, -⟩ := sigWell_true hw
  obtain ⟨k1, k2, k3⟩ := sigWell_wide hw
  have f1 := wide16_32 k1
  have f2 := wide16_32 k2
  have f3 := wide16_32 k3
  obtain ⟨b1, o1, rfl, l1, e1⟩ := str_cell h1 (by omega)
  obtain ⟨b2, o2, rfl, l2, e2⟩ := str_cell h2 (by omega)
  obtain ⟨b3, o3, rfl, l3, e3⟩ := str_cell h3 (by omega)
  rw [n1] at e1
  rw [n2] at e2
  obtain ⟨a, ha⟩ := Int.eq_ofNat_of_zero_le g1
  have ha15 : a < 16 := by omega
  have HMID := Lib.hid (show sgMid text s = sgLow s 8 ++ [tagTx 6 (lkL (sgIdx text) s 8)] from rfl)
  have HUP0 := Lib.hid (fun n => sgUp_succ text s n)
  have HTX := Lib.hid (fun k => show sgTx text s k = tagTx 3 (sgPair (a / 2 ^ k % 2) (sgSt (tagH 6 (lkL (sgIdx text) s 8) 16) a s.si k) (s.si.getD k ⟨#[]⟩)) by rw [sgTx, ha, Int.toNat_natCast])
  have HLW := Lib.hid (tagH_cut (lk_well (sgIdx text) s f2) 16)
  have HA := Lib.hid ha
  have HW := Lib.hid hw
  have E1 := Lib.hid e1
  have E2 := Lib.hid e2
  have E3 := Lib.hid e3
  have F1 := Lib.hid f1
  have F2 := Lib.hid f2
  have F3 := Lib.hid f3
  have hle : ¬ (200 : Int) < text.size := by omega
  have hn1 : (8 : Int) ≤ s.op.length := by omega
  have hn2 : (8 : Int) ≤ s.sh.length := by omega
  have H200 := Lib.hid h200
  have hn3 : s.si.length ≤ 4 := by omega
  clear hw h200 e1 e2 e3 f1 f2 f3 k1 k2 k3 ha n1 n2 n3
  go_enter Tryz.func81, Tryz.ntmps81
  go_wp2_with fail
  refine (impl_formed _ _ _ s _ (h1.ext (by repeat (first | (with_reducible first | exact Ext.refl _ | assumption | apply Ext.alloc | apply Ext.drew | apply Ext.drewN | refine Ext.setCell ?_ ?_ _ | refine Ext.trans ?_ (by assumption)) | (show _ ≤ _; first | omega | (dsimp only; omega) | (simp; done) | (simp; omega))))) (h2.ext (by repeat (first | (with_reducible first | exact Ext.refl _ | assumption | apply Ext.alloc | apply Ext.drew | apply Ext.drewN | refine Ext.setCell ?_ ?_ _ | refine Ext.trans ?_ (by assumption)) | (show _ ≤ _; first | omega | (dsimp only; omega) | (simp; done) | (simp; omega))))) (h3.ext (by repeat (first | (with_reducible first | exact Ext.refl _ | assumption | apply Ext.alloc | apply Ext.drew | apply Ext.drewN | refine Ext.setCell ?_ ?_ _ | refine Ext.trans ?_ (by assumption)) | (show _ ≤ _; first | omega | (dsimp only; omega) | (simp; done) | (simp; omega))))) hs).mono ?_
  rw [HW.out]
  rintro e w1 ⟨rfl, x1⟩
  have E_x1 := Old.of x1; (repeat (first | (replace E_x1 := Old.undrew E_x1) | (replace E_x1 := Old.undrewN E_x1))); have c_E_x1 := Old.cell E_x1; have f_E_x1 := Old.frozen E_x1; have z_E_x1 := Old.size E_x1; try simp only [World.size_alloc] at c_E_x1 f_E_x1 z_E_x1; try have l_E_x1 := Nat.lt_of_succ_le z_E_x1; try have m_E_x1 := Nat.lt_of_succ_lt l_E_x1; try have n_E_x1 := Nat.lt_of_succ_lt m_E_x1
  have p0 := c_E_x1 (w.heap.size) 0 (by omega); simp [go_sem] at p0; have p1 := c_E_x1 (w.heap.size) 1 (by omega); simp [go_sem] at p1; have p2 := c_E_x1 (w.heap.size) 2 (by omega); simp [go_sem] at p2; have p3 := c_E_x1 (w.heap.size) 3 (by omega); simp [go_sem] at p3
  have lw := l_E_x1
  have xw1 : Ext w w1 := (by repeat (first | (with_reducible first | exact Ext.refl _ | assumption | apply Ext.alloc | apply Ext.drew | apply Ext.drewN | refine Ext.setCell ?_ ?_ _ | refine Ext.trans ?_ (by assumption)) | (show _ ≤ _; first | omega | (dsimp only; omega) | (simp; done) | (simp; omega))))
  have HT1 := Lib.hid (HT.out.ext xw1)
  clear c_E_x1 f_E_x1
  go_wp2_with fail
  have hou0 : Outs (w1.alloc (Obj.cells #[.slice none 0 0] 24)) w1.heap.size (w1.heap.size + 1) [] (.slice none 0 0) := ⟨none, 0, by simp [go_sem], by simp [go_sem], by simp, by simp, World.ownsRow_nil _ _ _ _, fun g hg => by simp [Value.ownBlock] at hg, fun g hg => by simp [Value.ownBlock] at hg⟩
  refine (impl_SignBitsOf text _ H200.out (by exact HT1.out.ext (by repeat (first | (with_reducible first | exact Ext.refl _ | assumption | apply Ext.alloc | apply Ext.drew | apply Ext.drewN | refine Ext.setCell ?_ ?_ _ | refine Ext.trans ?_ (by assumption)) | (show _ ≤ _; first | omega | (dsimp only; omega) | (simp; done) | (simp; omega)))))).mono ?_
  rintro e w2 ⟨rfl, x2⟩
  have y2 : Ext w1 w2 := (by repeat (first | (with_reducible first | exact Ext.refl _ | assumption | apply Ext.alloc | apply Ext.drew | apply Ext.drewN | refine Ext.setCell ?_ ?_ _ | refine Ext.trans ?_ (by assumption)) | (show _ ≤ _; first | omega | (dsimp only; omega) | (simp; done) | (simp; omega))))
  have hou2 := hou0.ext x2
  generalize hix : sgIdx text = idx at *
  have HIX := Lib.hid hix
  clear hix hou0
  go_wp2
  go_loopw [6, 25] (fun lv i wr => ∃ j : Nat, j ≤ 8 ∧ i = .int .i64 j ∧ wr.ownsRow (w1.heap.size + 1) 9 1 lv (j * 2) ((lkL idx s j).map Value.string) ∧ Outs wr w1.heap.size (w1.heap.size + 1) (sgLow s j) lv ∧ Ext w1 wr) (fun _ i _ => 8 - (intOf i).toNat)
  case atStart => exact ⟨0, by omega, rfl, World.ownsRow_nil _ _ _ _, hou2, y2⟩
  case round =>
    clear hou2
    obtain ⟨j, hj, rfl, hown, hout, hx⟩ := hrel
    obtain ⟨la, lc, rfl⟩ := own_any hown
    have hsz := hx.size
    have xw : Ext w wr := xw1.trans hx
    have q0 := (hx.cell _ _ lw).trans p0
    have q1 := (hx.cell _ _ lw).trans p1
    have q3 := (hx.cell _ _ lw).trans p3
    have lr : w.heap.size < wr.heap.size := Nat.lt_of_lt_of_le lw hsz
    by_cases hlt : j < 8
    · have c1 := (xw.cell _ _ l1).trans (E1.out j hlt)
      have hi0 : (0 : Int) ≤ (j : Int) := by omega
      have hi1 : (j : Int) < (s.op.length : Int) := by omega
      have hi2 : (j : Int) < (s.sh.length : Int) := by omega
      have hj8 : (j : Int) < 8 := by omega
      have zo32 := getD_le F1.out j
      have zo := le_max zo32 (by omega)
      have HU := Lib.hid (lkL_succ idx s j)
      have HSL := Lib.hid (show sgLow s (j + 1) = sgLow s j ++ [tagTx 6 [s.op.getD j ⟨#[]⟩]] from sgLow_succ s j)
      have HL0 := Lib.hid (fun h => lkPair_0 (idx := idx) (s := s) (j := j) h)
      have HL1 := Lib.hid (fun h => lkPair_1 (idx := idx) (s := s) (j := j) h)
      have HCUT := Lib.hid (show cutT (tagTx 6 [s.op.getD j ⟨#[]⟩]) 16 = lkH (s.op.getD j ⟨#[]⟩) from tagH_cut (one_well zo32) 16)
      have HD2 := Lib.hid (E2.out j hlt)
      have HO := Lib.hid hown
      have HOU0 := Lib.hid hout
      clear hown hout
      generalize s.op.getD j ⟨#[]⟩ = o at *
      generalize s.sh.getD j ⟨#[]⟩ = y at *
      go_wp2_with fail
      refine (impl_addO 6 _ [o] w1.heap.size (w1.heap.size + 1) (sgLow s j) _ (j * 2) _ _ (by exact strs_lit1 _ _ _) (fit1 zo) (by omega) (HOU0.out.ext ((Ext.refl wr).alloc _)) (own_alloc HO.out _) (by rw [sgLow_len]; omega) w1 HT1.out (hx.alloc _) (Nat.le_refl _)).mono ?_
      rw [HCUT.out]
      generalize lkH o = lk at *
      rintro e w3 ⟨rfl, hou3, hlv3, x3, z3⟩
      have HOU := Lib.hid hou3
      have HLV := Lib.hid hlv3
      have r2 := (x3.cell _ _ lw).trans p2
      have d2 := ((xw1.trans x3).cell _ _ l2).trans HD2.out
      have lb2 : b2 < w3.heap.size := Nat.lt_of_lt_of_le l2 (xw1.trans x3).size
      have lr3 : w.heap.size < w3.heap.size := Nat.lt_of_lt_of_le lw x3.size
      have zw3 := x3.size
      rw [World.size_alloc] at z3
      clear hou3 hlv3
      go_wp2_with fail
      refine (impl_BitOf idx j _).mono ?_
      rcases bitT_two idx j with hb | hb
      · have HP := Lib.hid (HU.out.trans (by rw [HL0.out hb]))
        rw [hb]
        rintro e w' ⟨rfl, rfl⟩
        have hlv := HLV.out
        have own2 := World.ownsRow.alloc hlv (Obj.cells #[Value.string lk, Value.string y] 9)
        have hou := HOU.out.ext ((Ext.refl w3).alloc (Obj.cells #[Value.string lk, Value.string y] 9))
        have HOU2 := Lib.hid hou
        clear hb hlv hou
        go_wp2_with (at_builtin; refine wpList_append_own_at _ rfl (.tmp 40) (.tmp 47) 24 rfl (w1.heap.size + 1) 9 i0 (.string ⟨#[]⟩) 1 16 Tryz.underlying24 hi hz0 hz1 hz2 rfl (by decide) _ _ _ rfl own2 ⟨w3.heap.size, 0, none⟩ 2 2 [.string lk, .string y] rfl rfl ?c1 ?c2 ?c3 ?c4 ?c5 ?_)
        case c1 => exact World.news_of_block (heap_alloc_new w3 (Obj.cells #[Value.string lk, Value.string y] 9))
        case c2 => intro u hu; simp at hu; rcases hu with rfl | rfl <;> rfl
        case c3 => unfold maxLen; omega
        case c4 => omega
        case c5 => first | omega | (simp; omega)
        intro v' w4 own4 hgrow _ hat
        have hx4 : Ext w1 w4 := own_ext_of (x3.alloc _) own2 hgrow (by omega)
        have hat' : v'.ownBlock = (Value.slice la (j * 2) lc).ownBlock ∨ v'.ownBlock = some (w3.alloc (Obj.cells #[Value.string lk, Value.string y] 9)).heap.size := by rw [World.size_alloc]; exact hat
        have hou4 := HOU2.out.lock (by omega) hgrow (fun k hk => (own_lt own2 k hk).1) hat'
        obtain ⟨a', c', rfl⟩ := own_any own4
        have HO4 := Lib.hid own4
        have HOU4 := Lib.hid hou4
        clear own4 hgrow own2 hat hat' hou4
        go_wp2
        go_roundw
        case rel => exact ⟨j + 1, by omega, by go_num, by rw [HP.out, List.map_append, Nat.succ_mul]; exact HO4.out, by rw [HSL.out]; exact HOU4.out, hx4⟩
        case measure => simp [intOf]; omega
      · have HP := Lib.hid (HU.out.trans (by rw [HL1.out hb]))
        rw [hb]
        rintro e w' ⟨rfl, rfl⟩
        have hlv := HLV.out
        have own2 := World.ownsRow.alloc hlv (Obj.cells #[Value.string y, Value.string lk] 9)
        have hou := HOU.out.ext ((Ext.refl w3).alloc (Obj.cells #[Value.string y, Value.string lk] 9))
        have HOU2 := Lib.hid hou
        clear hb hlv hou
        go_wp2_with (at_builtin; refine wpList_append_own_at _ rfl (.tmp 49) (.tmp 56) 24 rfl (w1.heap.size + 1) 9 i0 (.string ⟨#[]⟩) 1 16 Tryz.underlying24 hi hz0 hz1 hz2 rfl (by decide) _ _ _ rfl own2 ⟨w3.heap.size, 0, none⟩ 2 2 [.string y, .string lk] rfl rfl ?c1 ?c2 ?c3 ?c4 ?c5 ?_)
        case c1 => exact World.news_of_block (heap_alloc_new w3 (Obj.cells #[Value.string y, Value.string lk] 9))
        case c2 => intro u hu; simp at hu; rcases hu with rfl | rfl <;> rfl
        case c3 => unfold maxLen; omega
        case c4 => omega
        case c5 => first | omega | (simp; omega)
        intro v' w4 own4 hgrow _ hat
        have hx4 : Ext w1 w4 := own_ext_of (x3.alloc _) own2 hgrow (by omega)
        have hat' : v'.ownBlock = (Value.slice la (j * 2) lc).ownBlock ∨ v'.ownBlock = some (w3.alloc (Obj.cells #[Value.string y, Value.string lk] 9)).heap.size := by rw [World.size_alloc]; exact hat
        have hou4 := HOU2.out.lock (by omega) hgrow (fun k hk => (own_lt own2 k hk).1) hat'
        obtain ⟨a', c', rfl⟩ := own_any own4
        have HO4 := Lib.hid own4
        have HOU4 := Lib.hid hou4
        clear own4 hgrow own2 hat hat' hou4
        go_wp2
        go_roundw
        case rel => exact ⟨j + 1, by omega, by go_num, by rw [HP.out, List.map_append, Nat.succ_mul]; exact HO4.out, by rw [HSL.out]; exact HOU4.out, hx4⟩
        case measure => simp [intOf]; omega
    · obtain rfl : j = 8 := by omega
      have hst : Strs wr (.slice la 16 lc) (lkL idx s 8) := by
        have e : (lkL idx s 8).length = 16 := lkL_len idx s 8
        have := Row.of_owns hown
        unfold Strs
        rw [e]
        exact this
      have hfit : ∀ x ∈ lkL idx s 8, x.size ≤ maxLen := fun x hx => le_max (lkL_fit idx s F2.out 8 x hx) (by omega)
      have HO := Lib.hid hown
      have HOU0 := Lib.hid hout
      clear hown hout
      go_wp2_with fail
      refine (impl_addO 6 _ (lkL idx s 8) w1.heap.size (w1.heap.size + 1) (sgLow s 8) _ 16 _ _ hst hfit (by omega) HOU0.out HO.out (by rw [sgLow_len]; omega) w1 HT1.out hx (Nat.le_refl _)).mono ?_
      rw [HLW.out, ← HMID.out]
      have hH := tagH_le 6 (lkL idx s 8) 16
      generalize tagH 6 (lkL idx s 8) 16 = H at *
      rintro e w5 ⟨rfl, hou5, -, x5, z5⟩
      have hou6 := hou5.nil
      have r0 := (x5.cell _ _ lw).trans p0
      have r3 := (x5.cell _ _ lw).trans p3
      rw [HA.out] at r0
      have lr5 : w.heap.size < w5.heap.size := Nat.lt_of_lt_of_le lw x5.size
      have xw5 : Ext w w5 := xw1.trans x5
      clear hst hfit q0 q1 q3 p1 p2 hou5 hx
      generalize wr = W4 at *
      go_wp2
      clear HOU0 HO
      go_loopw [11, 65] (fun hv iv wr => ∃ j : Nat, j ≤ s.si.length ∧ iv = .int .i64 j ∧ hv = .string (sgSt H a s.si j) ∧ Outs wr w1.heap.size (w1.heap.size + 1) (sgUp text s j) (.slice none 0 0) ∧ Ext w1 wr) (fun _ iv _ => s.si.length - (intOf iv).toNat)
      case atStart => exact ⟨0, Nat.zero_le _, rfl, rfl, by rw [show sgUp text s 0 = sgMid text s by simp [sgUp]]; exact hou6, x5⟩
      case round =>
        clear hou6
        obtain ⟨j, hj, rfl, rfl, hou, hx⟩ := hrel
        have m3 := (hx.cell _ _ lw).trans p3
        have m0 := (hx.cell _ _ lw).trans p0
        rw [HA.out] at m0
        have lr6 : w.heap.size < wr.heap.size := Nat.lt_of_lt_of_le lw hx.size
        have xw6 : Ext w wr := xw1.trans hx
        have HOU := Lib.hid hou
        clear hou
        by_cases hlt : j < s.si.length
        · have hj4 : j < 4 := by omega
          have hsb : bits .and .i64 (((a / 2 ^ j : Nat) : Int)) 1 = ((a / 2 ^ j % 2 : Nat) : Int) := sg_bits ⟨a, ha15⟩ ⟨j, hj4⟩
          rw [show ((a / 2 ^ j : Nat) : Int) = (a : Int) / 2 ^ j by simp] at hsb
          have HS := Lib.hid (show sgSt H a s.si (j + 1) = tagH 3 (sgPair (a / 2 ^ j % 2) (sgSt H a s.si j) (s.si.getD j ⟨#[]⟩)) 16 from rfl)
          have HUP := Lib.hid (show sgUp text s (j + 1) = sgUp text s j ++ [tagTx 3 (sgPair (a / 2 ^ j % 2) (sgSt H a s.si j) (s.si.getD j ⟨#[]⟩))] by rw [HUP0.out, HTX.out])
          have d3 := (xw6.cell _ _ l3).trans (E3.out j hlt)
          have lb3 : b3 < wr.heap.size := Nat.lt_of_lt_of_le l3 xw6.size
          have z1' := sgSt_le H a s.si hH j
          have z2' := getD_le F3.out j
          have z1 := le_max z1' (by omega)
          have z2 := le_max z2' (by omega)
          have hi0 : (0 : Int) ≤ (j : Int) := by omega
          have hi1 : (j : Int) < (s.si.length : Int) := by omega
          generalize sgSt H a s.si j = h0 at *
          generalize s.si.getD j ⟨#[]⟩ = y at *
          have hj63 : ¬ (j : Int) < 0 := by omega
          rcases (by omega : a / 2 ^ j % 2 = 0 ∨ a / 2 ^ j % 2 = 1) with hb | hb
          · have HB := Lib.hid hb
            have hr : bits .and .i64 ((a : Int) / 2 ^ j) 1 = 0 := by rw [hsb, hb]; rfl
            have hwl : tagWell 3 [h0, y] = true := by have := sgPair_well (b := 0) (h := h0) (s := y) z1' z2'; exact this
            have HWL := Lib.hid (tagH_cut hwl 16)
            clear hb hsb hwl
            go_wp2_with fail
            refine (impl_addO 3 _ [h0, y] w1.heap.size (w1.heap.size + 1) _ (.slice none 0 0) 0 [] _ (by exact strs_lit2 _ _ _ _) (fit2 z1 z2) (by omega) (HOU.out.ext ((Ext.refl wr).alloc _)) (World.ownsRow_nil _ _ _ _) (by rw [sgUp_len]; omega) w1 HT1.out (hx.alloc _) (Nat.le_refl _)).mono ?_
            rw [HWL.out]
            rintro e w6 ⟨rfl, ho6, -, x6, z6⟩
            have HO6 := Lib.hid ho6
            clear ho6
            go_wp2
            go_roundw
            case rel => exact ⟨j + 1, by omega, by go_num, by rw [HS.out, HB.out]; rfl, by rw [HUP.out, HB.out]; exact HO6.out, x6⟩
            case measure => simp [intOf]; omega
          · have HB := Lib.hid hb
            have hr : bits .and .i64 ((a : Int) / 2 ^ j) 1 = 1 := by rw [hsb, hb]; rfl
            have hwl : tagWell 3 [y, h0] = true := by have := sgPair_well (b := 1) (h := h0) (s := y) z1' z2'; exact this
            have HWL := Lib.hid (tagH_cut hwl 16)
            clear hb hsb hwl
            go_wp2_with fail
            refine (impl_addO 3 _ [y, h0] w1.heap.size (w1.heap.size + 1) _ (.slice none 0 0) 0 [] _ (by exact strs_lit2 _ _ _ _) (fit2 z2 z1) (by omega) (HOU.out.ext ((Ext.refl wr).alloc _)) (World.ownsRow_nil _ _ _ _) (by rw [sgUp_len]; omega) w1 HT1.out (hx.alloc _) (Nat.le_refl _)).mono ?_
            rw [HWL.out]
            rintro e w6 ⟨rfl, ho6, -, x6, z6⟩
            have HO6 := Lib.hid ho6
            clear ho6
            go_wp2
            go_roundw
            case rel => exact ⟨j + 1, by omega, by go_num, by rw [HS.out, HB.out]; rfl, by rw [HUP.out, HB.out]; exact HO6.out, x6⟩
            case measure => simp [intOf]; omega
        · obtain rfl : j = s.si.length := by omega
          have hou := HOU.out
          rw [← R.out] at hou
          obtain ⟨oa, oc, c1, c2, c3, c4, c5, -, -⟩ := hou
          go_wp2
          go_ret
          exact ⟨oa, oc, rfl, own_mono c5 (by omega), (by repeat (first | (with_reducible first | exact Ext.refl _ | assumption | apply Ext.alloc | apply Ext.drew | apply Ext.drewN | refine Ext.setCell ?_ ?_ _ | refine Ext.trans ?_ (by assumption)) | (show _ ≤ _; first | omega | (dsimp only; omega) | (simp; done) | (simp; omega))))⟩
end Go.Proofs.YtkphipgfcbckcaaGreatDoor
namespace Go.Proofs.YtkphipgfcbckcaaGreatDoor
open Go.RowKit

theorem sgUp_top (text : ByteArray) (s : SigV) (n : Nat) : ((sgUp text s n).getD (8 + n) ⟨#[]⟩).size ≤ 1073741824 := by
  cases n with
  | zero =>
    have e : (sgUp text s 0).getD (8 + 0) ⟨#[]⟩ = tagTx 6 (lkL (sgIdx text) s 8) := by simp [sgUp, sgMid, sgLow]
    rw [e]
    exact tagTx_size _ _
  | succ n =>
    have e : (sgUp text s (n + 1)).getD (8 + (n + 1)) ⟨#[]⟩ = sgTx text s n := by
      rw [sgUp_succ, List.getD_eq_getElem?_getD, List.getElem?_append_right (by rw [sgUp_len]; omega), sgUp_len]
      simp [show 8 + (n + 1) - (9 + n) = 0 by omega]
    rw [e]
    exact tagTx_size _ _
theorem sigOk_no {root text : ByteArray} {s : SigV} (h : ¬ (sigWell s = true ∧ text.size ≤ 200)) : sigOkB root text s = false := by
  by_cases hw : sigWell s = true
  · exact sigOk_no2 (fun k => h ⟨hw, k⟩)
  · exact sigOk_no1 (by simpa using hw)
theorem sgTexts_no {text : ByteArray} {s : SigV} (h : ¬ (sigWell s = true ∧ text.size ≤ 200)) : sgTexts text s = [] := by rw [sgTexts, if_neg h]

set_option maxHeartbeats 1600000 in
theorem impl_SigOk (root text : ByteArray) (v1 v2 v3 : Value) (s : SigV) (w : World) (h1 : Strs w v1 s.op) (h2 : Strs w v2 s.sh) (h3 : Strs w v3 s.si) (hs : SigFit s) (ht : text.size ≤ maxLen) (hT : Tabs w) :
    Calls Tryz.prog 45 #[.string root, .string text, .agg #[.int .i64 s.at_, v1, v2, v3]] w fun e w' => e = .returned (.bool (sigOkB root text s)) ∧ Ext w w' := by
  have HT := Lib.hid hT
  clear hT
  obtain ⟨a1, c1, rfl⟩ := h1.form
  obtain ⟨a2, c2, rfl⟩ := h2.form
  obtain ⟨a3, c3, rfl⟩ := h3.form
  by_cases hW : sigWell s = true ∧ text.size ≤ 200
  case neg =>
    have R := Lib.hid (sigOk_no (root := root) hW)
    have L := Lib.hid (sgTexts_no hW)
    clear hW
    go_enter Tryz.func45, Tryz.ntmps45
    go_wp2_with fail
    refine (impl_SigTexts text _ _ _ s _ (h1.ext (by repeat (first | (with_reducible first | exact Ext.refl _ | assumption | apply Ext.alloc | apply Ext.drew | apply Ext.drewN | refine Ext.setCell ?_ ?_ _ | refine Ext.trans ?_ (by assumption)) | (show _ ≤ _; first | omega | (dsimp only; omega) | (simp; done) | (simp; omega))))) (h2.ext (by repeat (first | (with_reducible first | exact Ext.refl _ | assumption | apply Ext.alloc | apply Ext.drew | apply Ext.drewN | refine Ext.setCell ?_ ?_ _ | refine Ext.trans ?_ (by assumption)) | (show _ ≤ _; first | omega | (dsimp only; omega) | (simp; done) | (simp; omega))))) (h3.ext (by repeat (first | (with_reducible first | exact Ext.refl _ | assumption | apply Ext.alloc | apply Ext.drew | apply Ext.drewN | refine Ext.setCell ?_ ?_ _ | refine Ext.trans ?_ (by assumption)) | (show _ ≤ _; first | omega | (dsimp only; omega) | (simp; done) | (simp; omega))))) hs ht (by exact HT.out.ext (by repeat (first | (with_reducible first | exact Ext.refl _ | assumption | apply Ext.alloc | apply Ext.drew | apply Ext.drewN | refine Ext.setCell ?_ ?_ _ | refine Ext.trans ?_ (by assumption)) | (show _ ≤ _; first | omega | (dsimp only; omega) | (simp; done) | (simp; omega)))))).mono ?_
    rw [L.out]
    rintro e w1 ⟨a, c, rfl, hown, x1⟩
    go_wp2
    go_ret
    exact ⟨ret_bool R.out.symm, (by repeat (first | (with_reducible first | exact Ext.refl _ | assumption | apply Ext.alloc | apply Ext.drew | apply Ext.drewN | refine Ext.setCell ?_ ?_ _ | refine Ext.trans ?_ (by assumption)) | (show _ ≤ _; first | omega | (dsimp only; omega) | (simp; done) | (simp; omega))))⟩
  have R := Lib.hid (sigOk_yes (root := root) hW.1 hW.2)
  have LT := Lib.hid (sgTexts_yes hW.1 hW.2)
  obtain ⟨⟨g1, g2⟩, ⟨n1, -⟩, ⟨n2, -⟩, n3, -⟩ := sigWell_true hW.1
  obtain ⟨k1, k2, k3⟩ := sigWell_wide hW.1
  have hn4 : s.si.length ≤ 4 := by omega
  have HLAST := Lib.hid (show cutT ((sgUp text s s.si.length).getD (8 + s.si.length) ⟨#[]⟩) 16 = sgRoot text s from sgUp_last text s (wide16_32 k2) (wide16_32 k3) s.si.length)
  have hz := sgUp_top text s s.si.length
  have HLEN := Lib.hid (sgUp_len text s s.si.length)
  clear k1 k2 k3 n1 n2 n3 g1 g2 hW
  go_enter Tryz.func45, Tryz.ntmps45
  go_wp2_with fail
  refine (impl_SigTexts text _ _ _ s _ (h1.ext (by repeat (first | (with_reducible first | exact Ext.refl _ | assumption | apply Ext.alloc | apply Ext.drew | apply Ext.drewN | refine Ext.setCell ?_ ?_ _ | refine Ext.trans ?_ (by assumption)) | (show _ ≤ _; first | omega | (dsimp only; omega) | (simp; done) | (simp; omega))))) (h2.ext (by repeat (first | (with_reducible first | exact Ext.refl _ | assumption | apply Ext.alloc | apply Ext.drew | apply Ext.drewN | refine Ext.setCell ?_ ?_ _ | refine Ext.trans ?_ (by assumption)) | (show _ ≤ _; first | omega | (dsimp only; omega) | (simp; done) | (simp; omega))))) (h3.ext (by repeat (first | (with_reducible first | exact Ext.refl _ | assumption | apply Ext.alloc | apply Ext.drew | apply Ext.drewN | refine Ext.setCell ?_ ?_ _ | refine Ext.trans ?_ (by assumption)) | (show _ ≤ _; first | omega | (dsimp only; omega) | (simp; done) | (simp; omega))))) hs ht (by exact HT.out.ext (by repeat (first | (with_reducible first | exact Ext.refl _ | assumption | apply Ext.alloc | apply Ext.drew | apply Ext.drewN | refine Ext.setCell ?_ ?_ _ | refine Ext.trans ?_ (by assumption)) | (show _ ≤ _; first | omega | (dsimp only; omega) | (simp; done) | (simp; omega)))))).mono ?_
  rw [LT.out]
  generalize sgUp text s s.si.length = L at *
  generalize s.si.length = n at *
  rintro e w1 ⟨a, c, rfl, hown, x1⟩
  have hst : Strs w1 (.slice a L.length c) L := Row.of_owns hown
  have hl0 : 0 < L.length := by have := HLEN.out; omega
  obtain ⟨b, o, rfl, lb, hc⟩ := str_cell hst hl0
  have hc8 := hc (8 + n) (by have := HLEN.out; omega)
  rw [HLEN.out]
  generalize L.getD (8 + n) ⟨#[]⟩ = T at *
  clear hst hown hc hl0
  have i1 : ((9 + n : Nat) : Int) - 1 = ((8 + n : Nat) : Int) := by omega
  have i2 : (0 : Int) ≤ ((8 + n : Nat) : Int) := by omega
  have i3 : ((8 + n : Nat) : Int) < ((9 + n : Nat) : Int) := by omega
  have i4 : (0 : Int) < ((9 + n : Nat) : Int) := by omega
  have i5 : IntKind.i64.wrap ((8 + n : Nat) : Int) = ((8 + n : Nat) : Int) := IntWalk.i64_in _ (by omega)
  have hlt : 8 + n < 9 + n := by omega
  generalize 9 + n = N9 at *
  generalize 8 + n = N8 at *
  go_wp2_with fail
  refine (impl_CutDigest T 16 _ hz (by exact HT.out.ext (by repeat (first | (with_reducible first | exact Ext.refl _ | assumption | apply Ext.alloc | apply Ext.drew | apply Ext.drewN | refine Ext.setCell ?_ ?_ _ | refine Ext.trans ?_ (by assumption)) | (show _ ≤ _; first | omega | (dsimp only; omega) | (simp; done) | (simp; omega)))))).mono ?_
  rw [HLAST.out]
  rintro e w2 ⟨rfl, x2⟩
  go_wp2
  go_ret
  exact ⟨ret_bool (by rw [R.out, toList_beq]), (by repeat (first | (with_reducible first | exact Ext.refl _ | assumption | apply Ext.alloc | apply Ext.drew | apply Ext.drewN | refine Ext.setCell ?_ ?_ _ | refine Ext.trans ?_ (by assumption)) | (show _ ≤ _; first | omega | (dsimp only; omega) | (simp; done) | (simp; omega))))⟩
end Go.Proofs.YtkphipgfcbckcaaGreatDoor

namespace Go.Proofs.YtkphipgfcbckcaaGreatDoor
open Go.RowKit

set_option maxRecDepth 100000 in
set_option maxHeartbeats 3200000 in
theorem impl_SealOk (root : ByteArray) (hh ep : Int) (r p : ByteArray) (v1 v2 v3 : Value) (s : SigV) (w : World) (h1 : Strs w v1 s.op) (h2 : Strs w v2 s.sh) (h3 : Strs w v3 s.si) (hs : SigFit s) (hT : Tabs w) :
    Calls Tryz.prog 16 #[.string root, .agg #[.int .i64 hh, .int .i64 ep, .string r, .string p, .int .i64 s.at_, v1, v2, v3]] w fun e w' => e = .returned (.bool (sealOkB root hh ep r p s)) ∧ Ext w w' := by
  obtain ⟨a1, c1, rfl⟩ := h1.form
  obtain ⟨a2, c2, rfl⟩ := h2.form
  obtain ⟨a3, c3, rfl⟩ := h3.form
  have HT := Lib.hid hT
  clear hT
  cases hh' : headOk hh ep r p
  · have HB := Lib.hid (show sealOkB root hh ep r p s = false by rw [sealOkB, hh']; rfl)
    have HH := Lib.hid hh'
    clear hh'
    go_enter Tryz.func16, Tryz.ntmps16
    go_wp2
    have P : Bx (w.alloc (Obj.cells #[.int .i64 hh, .int .i64 ep, .string r, .string p, .int .i64 s.at_, .slice a1 s.op.length c1, .slice a2 s.sh.length c2, .slice a3 s.si.length c3] 32)) w.heap.size [.int .i64 hh, .int .i64 ep, .string r, .string p, .int .i64 s.at_, .slice a1 s.op.length c1, .slice a2 s.sh.length c2, .slice a3 s.si.length c3] := Bx.new w _ _
    have x0 : Ext w (w.alloc (Obj.cells #[.int .i64 hh, .int .i64 ep, .string r, .string p, .int .i64 s.at_, .slice a1 s.op.length c1, .slice a2 s.sh.length c2, .slice a3 s.si.length c3] 32)) := (Ext.refl w).alloc _
    generalize (w.alloc (Obj.cells #[.int .i64 hh, .int .i64 ep, .string r, .string p, .int .i64 s.at_, .slice a1 s.op.length c1, .slice a2 s.sh.length c2, .slice a3 s.si.length c3] 32)) = W0 at *
    have p0c := P.2.1 0 _ rfl
    have p1c := P.2.1 1 _ rfl
    have p2c := P.2.1 2 _ rfl
    have p3c := P.2.1 3 _ rfl
    have p4c := P.2.1 4 _ rfl
    have p5c := P.2.1 5 _ rfl
    have p6c := P.2.1 6 _ rfl
    have p7c := P.2.1 7 _ rfl
    refine wp_region_held_drew (S := (fun W => W.cell? ⟨w.heap.size, 0, none⟩ = some (.int .i64 hh) ∧ W.cell? ⟨w.heap.size, 1, none⟩ = some (.int .i64 ep) ∧ W.cell? ⟨w.heap.size, 2, none⟩ = some (.string r) ∧ W.cell? ⟨w.heap.size, 3, none⟩ = some (.string p) ∧ W.cell? ⟨w.heap.size, 4, none⟩ = some (.int .i64 s.at_) ∧ W.cell? ⟨w.heap.size, 5, none⟩ = some (.slice a1 s.op.length c1) ∧ W.cell? ⟨w.heap.size, 6, none⟩ = some (.slice a2 s.sh.length c2) ∧ W.cell? ⟨w.heap.size, 7, none⟩ = some (.slice a3 s.si.length c3))) (by kernel_rfl) (by exact ⟨p0c, p1c, p2c, p3c, p4c, p5c, p6c, p7c⟩) (fun hHeld => ?_)
    (refine wpAnyH_take (i := 0) (v := ?_) rfl (by kernel_rfl) (by kernel_rfl) (by kernel_rfl) (fun _ _ _ h => h) (Or.inl ⟨by rfl, ?_⟩) (by assumption) ?_; rotate_left; focus (intro w hSw; (try dsimp only at hSw); (try simp only [zk1, zk2]); go_simp; try with_reducible rfl)); (try simp only [zk1, zk2]); (try simp only [Act.put, zk4, zk5, zk6])
    (refine wpAnyH_take (i := 1) (v := ?_) rfl (by kernel_rfl) (by kernel_rfl) (by kernel_rfl) (fun _ _ _ h => h) (Or.inl ⟨by rfl, ?_⟩) (by assumption) ?_; rotate_left; focus (intro w hSw; (try dsimp only at hSw); (try simp only [zk1, zk2, zk3]); go_simp; try with_reducible rfl)); (try simp only [zk1, zk2, zk3]); (try simp only [Act.put, zk4, zk5, zk6])
    (refine wpAnyH_ready (rs := [2]) (by kernel_rfl) (by simp) ?_; refine AllReadyH.cons rfl (fun K hK => ?_) AllReadyH.nil; (try simp only [zk1, zk2, zk3]))
    go_simp
    go_at_call 25
    refine (impl_HeadOk _ _ _ _ _).mono ?_
    rw [HH.out]
    rintro e wa ⟨rfl, xa⟩
    have ya : Ext W0 wa := (by repeat (first | (with_reducible first | exact Ext.refl _ | assumption | apply Ext.alloc | apply Ext.drew | apply Ext.drewN | refine Ext.setCell ?_ ?_ _ | refine Ext.trans ?_ (by assumption)) | (show _ ≤ _; first | omega | (dsimp only; omega) | (simp; done) | (simp; omega))))
    replace P := P.ext ya
    have p0c := P.2.1 0 _ rfl
    have p1c := P.2.1 1 _ rfl
    have p2c := P.2.1 2 _ rfl
    have p3c := P.2.1 3 _ rfl
    have p4c := P.2.1 4 _ rfl
    have p5c := P.2.1 5 _ rfl
    have p6c := P.2.1 6 _ rfl
    have p7c := P.2.1 7 _ rfl
    (try dsimp only)
    refine hK.out _ _ (by exact ⟨p0c, p1c, p2c, p3c, p4c, p5c, p6c, p7c⟩) (fun hHeld => ?_)
    clear hK K
    (refine wpAnyH_take (i := 3) (v := ?_) rfl (by kernel_rfl) (by kernel_rfl) (by kernel_rfl) (fun _ _ _ h => h) (Or.inl ⟨by rfl, ?_⟩) (by assumption) ?_; rotate_left; focus (intro w hSw; (try dsimp only at hSw); (try simp only [zk1, zk2, zk3]); go_simp; try with_reducible rfl)); (try simp only [zk1, zk2, zk3]); (try simp only [Act.put, zk4, zk5, zk6])
    (refine wpAnyH_take (i := 4) rfl (by kernel_rfl) (by kernel_rfl) (by kernel_rfl) (fun _ _ _ h => h) (Or.inr ⟨by rfl, rfl⟩) (by assumption) ?_); (try simp only [zk1, zk2, zk3]); (try simp only [Act.put, zk4, zk5, zk6])
    (refine wpAnyH_take (i := 5) rfl (by kernel_rfl) (by kernel_rfl) (by kernel_rfl) (fun _ _ _ h => h) (Or.inr ⟨by rfl, rfl⟩) (by assumption) ?_); (try simp only [zk1, zk2, zk3]); (try simp only [Act.put, zk4, zk5, zk6])
    (refine wpAnyH_take (i := 6) rfl (by kernel_rfl) (by kernel_rfl) (by kernel_rfl) (fun _ _ _ h => h) (Or.inr ⟨by rfl, rfl⟩) (by assumption) ?_); (try simp only [zk1, zk2, zk3]); (try simp only [Act.put, zk4, zk5, zk6])
    (refine wpAnyH_take (i := 7) rfl (by kernel_rfl) (by kernel_rfl) (by kernel_rfl) (fun _ _ _ h => h) (Or.inr ⟨by rfl, rfl⟩) (by assumption) ?_); (try simp only [zk1, zk2, zk3]); (try simp only [Act.put, zk4, zk5, zk6])
    (refine wpAnyH_take (i := 8) rfl (by kernel_rfl) (by kernel_rfl) (by kernel_rfl) (fun _ _ _ h => h) (Or.inr ⟨by rfl, rfl⟩) (by assumption) ?_); (try simp only [zk1, zk2, zk3]); (try simp only [Act.put, zk4, zk5, zk6])
    (refine wpAnyH_take (i := 9) rfl (by kernel_rfl) (by kernel_rfl) (by kernel_rfl) (fun _ _ _ h => h) (Or.inr ⟨by rfl, rfl⟩) (by assumption) ?_); (try simp only [zk1, zk2, zk3]); (try simp only [Act.put, zk4, zk5, zk6])
    (refine wpAnyH_take (i := 10) rfl (by kernel_rfl) (by kernel_rfl) (by kernel_rfl) (fun _ _ _ h => h) (Or.inr ⟨by rfl, rfl⟩) (by assumption) ?_); (try simp only [zk1, zk2, zk3]); (try simp only [Act.put, zk4, zk5, zk6])
    (refine wpAnyH_take (i := 11) rfl (by kernel_rfl) (by kernel_rfl) (by kernel_rfl) (fun _ _ _ h => h) (Or.inr ⟨by rfl, rfl⟩) (by assumption) ?_); (try simp only [zk1, zk2, zk3]); (try simp only [Act.put, zk4, zk5, zk6])
    (refine wpAnyH_take (i := 12) (v := ?_) rfl (by kernel_rfl) (by kernel_rfl) (by kernel_rfl) (fun _ _ _ h => h) (Or.inl ⟨by rfl, ?_⟩) (by assumption) ?_; rotate_left; focus (intro w hSw; (try dsimp only at hSw); (try simp only [zk1, zk2, zk3]); go_simp; try with_reducible rfl)); (try simp only [zk1, zk2, zk3]); (try simp only [Act.put, zk4, zk5, zk6])
    (refine wpAnyH_take (i := 13) (v := ?_) rfl (by kernel_rfl) (by kernel_rfl) (by kernel_rfl) (fun _ _ _ h => h) (Or.inl ⟨by rfl, ?_⟩) (by assumption) ?_; rotate_left; focus (intro w hSw; (try dsimp only at hSw); (try simp only [zk1, zk2, zk3]); go_simp; try with_reducible rfl)); (try simp only [zk1, zk2, zk3]); (try simp only [Act.put, zk4, zk5, zk6])
    (refine wpAnyH_take (i := 14) rfl (by kernel_rfl) (by kernel_rfl) (by kernel_rfl) (fun _ _ _ h => h) (Or.inr ⟨by rfl, rfl⟩) (by assumption) ?_); (try simp only [zk1, zk2, zk3]); (try simp only [Act.put, zk4, zk5, zk6])
    (refine wpAnyH_take (i := 15) rfl (by kernel_rfl) (by kernel_rfl) (by kernel_rfl) (fun _ _ _ h => h) (Or.inr ⟨by rfl, rfl⟩) (by assumption) ?_); (try simp only [zk1, zk2, zk3]); (try simp only [Act.put, zk4, zk5, zk6])
    (refine wpAnyH_take (i := 16) rfl (by kernel_rfl) (by kernel_rfl) (by kernel_rfl) (fun _ _ _ h => h) (Or.inr ⟨by rfl, rfl⟩) (by assumption) ?_); (try simp only [zk1, zk2, zk3]); (try simp only [Act.put, zk4, zk5, zk6])
    (refine wpAnyH_take (i := 17) rfl (by kernel_rfl) (by kernel_rfl) (by kernel_rfl) (fun _ _ _ h => h) (Or.inr ⟨by rfl, rfl⟩) (by assumption) ?_); (try simp only [zk1, zk2, zk3]); (try simp only [Act.put, zk4, zk5, zk6])
    (refine wpAnyH_take (i := 18) rfl (by kernel_rfl) (by kernel_rfl) (by kernel_rfl) (fun _ _ _ h => h) (Or.inr ⟨by rfl, rfl⟩) (by assumption) ?_); (try simp only [zk1, zk2, zk3]); (try simp only [Act.put, zk4, zk5, zk6])
    (refine wpAnyH_take (i := 19) rfl (by kernel_rfl) (by kernel_rfl) (by kernel_rfl) (fun _ _ _ h => h) (Or.inr ⟨by rfl, rfl⟩) (by assumption) ?_); (try simp only [zk1, zk2, zk3]); (try simp only [Act.put, zk4, zk5, zk6])
    (refine wpAnyH_take (i := 20) rfl (by kernel_rfl) (by kernel_rfl) (by kernel_rfl) (fun _ _ _ h => h) (Or.inr ⟨by rfl, rfl⟩) (by assumption) ?_); (try simp only [zk1, zk2, zk3]); (try simp only [Act.put, zk4, zk5, zk6])
    (refine wpAnyH_take (i := 21) (v := ?_) rfl (by kernel_rfl) (by kernel_rfl) (by kernel_rfl) (fun _ _ _ h => h) (Or.inl ⟨by rfl, ?_⟩) (by assumption) ?_; rotate_left; focus (intro w hSw; (try dsimp only at hSw); (try simp only [zk1, zk2, zk3]); go_simp; try with_reducible rfl)); (try simp only [zk1, zk2, zk3]); (try simp only [Act.put, zk4, zk5, zk6])
    (refine wpAnyH_take (i := 22) (v := ?_) rfl (by kernel_rfl) (by kernel_rfl) (by kernel_rfl) (fun _ _ _ h => h) (Or.inl ⟨by rfl, ?_⟩) (by assumption) ?_; rotate_left; focus (intro w hSw; (try dsimp only at hSw); (try simp only [zk1, zk2, zk3]); go_simp; try with_reducible rfl)); (try simp only [zk1, zk2, zk3]); (try simp only [Act.put, zk4, zk5, zk6])
    refine wpAnyH_done (by kernel_rfl) ?_ _
    go_wp2
    go_ret
    exact ⟨ret_bool HB.out.symm, (by repeat (first | (with_reducible first | exact Ext.refl _ | assumption | apply Ext.alloc | apply Ext.drew | apply Ext.drewN | refine Ext.setCell ?_ ?_ _ | refine Ext.trans ?_ (by assumption)) | (show _ ≤ _; first | omega | (dsimp only; omega) | (simp; done) | (simp; omega))))⟩
  by_cases he : s.at_ = sealAt ep
  case neg =>
    have HB := Lib.hid (show sealOkB root hh ep r p s = false by rw [sealOkB, decide_eq_false he]; simp)
    have HH := Lib.hid hh'
    have HE := Lib.hid he
    clear hh' he
    go_enter Tryz.func16, Tryz.ntmps16
    go_wp2
    have P : Bx (w.alloc (Obj.cells #[.int .i64 hh, .int .i64 ep, .string r, .string p, .int .i64 s.at_, .slice a1 s.op.length c1, .slice a2 s.sh.length c2, .slice a3 s.si.length c3] 32)) w.heap.size [.int .i64 hh, .int .i64 ep, .string r, .string p, .int .i64 s.at_, .slice a1 s.op.length c1, .slice a2 s.sh.length c2, .slice a3 s.si.length c3] := Bx.new w _ _
    have x0 : Ext w (w.alloc (Obj.cells #[.int .i64 hh, .int .i64 ep, .string r, .string p, .int .i64 s.at_, .slice a1 s.op.length c1, .slice a2 s.sh.length c2, .slice a3 s.si.length c3] 32)) := (Ext.refl w).alloc _
    generalize (w.alloc (Obj.cells #[.int .i64 hh, .int .i64 ep, .string r, .string p, .int .i64 s.at_, .slice a1 s.op.length c1, .slice a2 s.sh.length c2, .slice a3 s.si.length c3] 32)) = W0 at *
    have p0c := P.2.1 0 _ rfl
    have p1c := P.2.1 1 _ rfl
    have p2c := P.2.1 2 _ rfl
    have p3c := P.2.1 3 _ rfl
    have p4c := P.2.1 4 _ rfl
    have p5c := P.2.1 5 _ rfl
    have p6c := P.2.1 6 _ rfl
    have p7c := P.2.1 7 _ rfl
    refine wp_region_held_drew (S := (fun W => W.cell? ⟨w.heap.size, 0, none⟩ = some (.int .i64 hh) ∧ W.cell? ⟨w.heap.size, 1, none⟩ = some (.int .i64 ep) ∧ W.cell? ⟨w.heap.size, 2, none⟩ = some (.string r) ∧ W.cell? ⟨w.heap.size, 3, none⟩ = some (.string p) ∧ W.cell? ⟨w.heap.size, 4, none⟩ = some (.int .i64 s.at_) ∧ W.cell? ⟨w.heap.size, 5, none⟩ = some (.slice a1 s.op.length c1) ∧ W.cell? ⟨w.heap.size, 6, none⟩ = some (.slice a2 s.sh.length c2) ∧ W.cell? ⟨w.heap.size, 7, none⟩ = some (.slice a3 s.si.length c3))) (by kernel_rfl) (by exact ⟨p0c, p1c, p2c, p3c, p4c, p5c, p6c, p7c⟩) (fun hHeld => ?_)
    (refine wpAnyH_take (i := 0) (v := ?_) rfl (by kernel_rfl) (by kernel_rfl) (by kernel_rfl) (fun _ _ _ h => h) (Or.inl ⟨by rfl, ?_⟩) (by assumption) ?_; rotate_left; focus (intro w hSw; (try dsimp only at hSw); (try simp only [zk1, zk2]); go_simp; try with_reducible rfl)); (try simp only [zk1, zk2]); (try simp only [Act.put, zk4, zk5, zk6])
    (refine wpAnyH_take (i := 1) (v := ?_) rfl (by kernel_rfl) (by kernel_rfl) (by kernel_rfl) (fun _ _ _ h => h) (Or.inl ⟨by rfl, ?_⟩) (by assumption) ?_; rotate_left; focus (intro w hSw; (try dsimp only at hSw); (try simp only [zk1, zk2, zk3]); go_simp; try with_reducible rfl)); (try simp only [zk1, zk2, zk3]); (try simp only [Act.put, zk4, zk5, zk6])
    (refine wpAnyH_ready (rs := [2]) (by kernel_rfl) (by simp) ?_; refine AllReadyH.cons rfl (fun K hK => ?_) AllReadyH.nil; (try simp only [zk1, zk2, zk3]))
    go_simp
    go_at_call 25
    refine (impl_HeadOk _ _ _ _ _).mono ?_
    rw [HH.out]
    rintro e wa ⟨rfl, xa⟩
    have ya : Ext W0 wa := (by repeat (first | (with_reducible first | exact Ext.refl _ | assumption | apply Ext.alloc | apply Ext.drew | apply Ext.drewN | refine Ext.setCell ?_ ?_ _ | refine Ext.trans ?_ (by assumption)) | (show _ ≤ _; first | omega | (dsimp only; omega) | (simp; done) | (simp; omega))))
    replace P := P.ext ya
    have p0c := P.2.1 0 _ rfl
    have p1c := P.2.1 1 _ rfl
    have p2c := P.2.1 2 _ rfl
    have p3c := P.2.1 3 _ rfl
    have p4c := P.2.1 4 _ rfl
    have p5c := P.2.1 5 _ rfl
    have p6c := P.2.1 6 _ rfl
    have p7c := P.2.1 7 _ rfl
    (try dsimp only)
    refine hK.out _ _ (by exact ⟨p0c, p1c, p2c, p3c, p4c, p5c, p6c, p7c⟩) (fun hHeld => ?_)
    clear hK K
    (refine wpAnyH_take (i := 3) (v := ?_) rfl (by kernel_rfl) (by kernel_rfl) (by kernel_rfl) (fun _ _ _ h => h) (Or.inl ⟨by rfl, ?_⟩) (by assumption) ?_; rotate_left; focus (intro w hSw; (try dsimp only at hSw); (try simp only [zk1, zk2, zk3]); go_simp; try with_reducible rfl)); (try simp only [zk1, zk2, zk3]); (try simp only [Act.put, zk4, zk5, zk6])
    (refine wpAnyH_take (i := 4) (v := ?_) rfl (by kernel_rfl) (by kernel_rfl) (by kernel_rfl) (fun _ _ _ h => h) (Or.inl ⟨by rfl, ?_⟩) (by assumption) ?_; rotate_left; focus (intro w hSw; (try dsimp only at hSw); (try simp only [zk1, zk2, zk3]); go_simp; try with_reducible rfl)); (try simp only [zk1, zk2, zk3]); (try simp only [Act.put, zk4, zk5, zk6])
    (refine wpAnyH_take (i := 5) (v := ?_) rfl (by kernel_rfl) (by kernel_rfl) (by kernel_rfl) (fun _ _ _ h => h) (Or.inl ⟨by rfl, ?_⟩) (by assumption) ?_; rotate_left; focus (intro w hSw; (try dsimp only at hSw); (try simp only [zk1, zk2, zk3]); go_simp; try with_reducible rfl)); (try simp only [zk1, zk2, zk3]); (try simp only [Act.put, zk4, zk5, zk6])
    (refine wpAnyH_take (i := 6) (v := ?_) rfl (by kernel_rfl) (by kernel_rfl) (by kernel_rfl) (fun _ _ _ h => h) (Or.inl ⟨by rfl, ?_⟩) (by assumption) ?_; rotate_left; focus (intro w hSw; (try dsimp only at hSw); (try simp only [zk1, zk2, zk3]); go_simp; try with_reducible rfl)); (try simp only [zk1, zk2, zk3]); (try simp only [Act.put, zk4, zk5, zk6])
    (refine wpAnyH_take (i := 7) (v := ?_) rfl (by kernel_rfl) (by kernel_rfl) (by kernel_rfl) (fun _ _ _ h => h) (Or.inl ⟨by rfl, ?_⟩) (by assumption) ?_; rotate_left; focus (intro w hSw; (try dsimp only at hSw); (try simp only [zk1, zk2, zk3]); go_simp; try with_reducible rfl)); (try simp only [zk1, zk2, zk3]); (try simp only [Act.put, zk4, zk5, zk6])
    (refine wpAnyH_take (i := 8) (v := ?_) rfl (by kernel_rfl) (by kernel_rfl) (by kernel_rfl) (fun _ _ _ h => h) (Or.inl ⟨by rfl, ?_⟩) (by assumption) ?_; rotate_left; focus (intro w hSw; (try dsimp only at hSw); (try simp only [zk1, zk2, zk3]); go_simp; try with_reducible rfl)); (try simp only [zk1, zk2, zk3]); (try simp only [Act.put, zk4, zk5, zk6])
    (refine wpAnyH_take (i := 9) (v := ?_) rfl (by kernel_rfl) (by kernel_rfl) (by kernel_rfl) (fun _ _ _ h => h) (Or.inl ⟨by rfl, ?_⟩) (by assumption) ?_; rotate_left; focus (intro w hSw; (try dsimp only at hSw); (try simp only [zk1, zk2, zk3]); go_simp; try with_reducible rfl)); (try simp only [zk1, zk2, zk3]); (try simp only [Act.put, zk4, zk5, zk6])
    (refine wpAnyH_ready (rs := [10]) (by kernel_rfl) (by simp) ?_; refine AllReadyH.cons rfl (fun K hK => ?_) AllReadyH.nil; (try simp only [zk1, zk2, zk3]))
    go_simp
    go_at_call 18
    refine (impl_SealAt _ _).mono ?_
    rintro e wb ⟨rfl, hwb⟩
    have yb : Ext wa wb := by
      rw [← hwb]
      exact (by repeat (first | (with_reducible first | exact Ext.refl _ | assumption | apply Ext.alloc | apply Ext.drew | apply Ext.drewN | refine Ext.setCell ?_ ?_ _ | refine Ext.trans ?_ (by assumption)) | (show _ ≤ _; first | omega | (dsimp only; omega) | (simp; done) | (simp; omega))))
    clear hwb
    replace P := P.ext yb
    have p0c := P.2.1 0 _ rfl
    have p1c := P.2.1 1 _ rfl
    have p2c := P.2.1 2 _ rfl
    have p3c := P.2.1 3 _ rfl
    have p4c := P.2.1 4 _ rfl
    have p5c := P.2.1 5 _ rfl
    have p6c := P.2.1 6 _ rfl
    have p7c := P.2.1 7 _ rfl
    (try dsimp only)
    refine hK.out _ _ (by exact ⟨p0c, p1c, p2c, p3c, p4c, p5c, p6c, p7c⟩) (fun hHeld => ?_)
    clear hK K
    (refine wpAnyH_take (i := 11) (v := .bool false) rfl (by kernel_rfl) (by kernel_rfl) (by kernel_rfl) (fun _ _ _ h => h) (Or.inl ⟨by rfl, ?_⟩) (by assumption) ?_; focus (intro w hSw; (try dsimp only at hSw); (try simp only [zk1, zk2, zk3]); go_simp; simp [HE.out])); (try simp only [zk1, zk2, zk3]); (try simp only [Act.put, zk4, zk5, zk6])
    (refine wpAnyH_take (i := 12) (v := ?_) rfl (by kernel_rfl) (by kernel_rfl) (by kernel_rfl) (fun _ _ _ h => h) (Or.inl ⟨by rfl, ?_⟩) (by assumption) ?_; rotate_left; focus (intro w hSw; (try dsimp only at hSw); (try simp only [zk1, zk2, zk3]); go_simp; try with_reducible rfl)); (try simp only [zk1, zk2, zk3]); (try simp only [Act.put, zk4, zk5, zk6])
    (refine wpAnyH_take (i := 13) (v := ?_) rfl (by kernel_rfl) (by kernel_rfl) (by kernel_rfl) (fun _ _ _ h => h) (Or.inl ⟨by rfl, ?_⟩) (by assumption) ?_; rotate_left; focus (intro w hSw; (try dsimp only at hSw); (try simp only [zk1, zk2, zk3]); go_simp; try with_reducible rfl)); (try simp only [zk1, zk2, zk3]); (try simp only [Act.put, zk4, zk5, zk6])
    (refine wpAnyH_take (i := 14) rfl (by kernel_rfl) (by kernel_rfl) (by kernel_rfl) (fun _ _ _ h => h) (Or.inr ⟨by rfl, rfl⟩) (by assumption) ?_); (try simp only [zk1, zk2, zk3]); (try simp only [Act.put, zk4, zk5, zk6])
    (refine wpAnyH_take (i := 15) rfl (by kernel_rfl) (by kernel_rfl) (by kernel_rfl) (fun _ _ _ h => h) (Or.inr ⟨by rfl, rfl⟩) (by assumption) ?_); (try simp only [zk1, zk2, zk3]); (try simp only [Act.put, zk4, zk5, zk6])
    (refine wpAnyH_take (i := 16) rfl (by kernel_rfl) (by kernel_rfl) (by kernel_rfl) (fun _ _ _ h => h) (Or.inr ⟨by rfl, rfl⟩) (by assumption) ?_); (try simp only [zk1, zk2, zk3]); (try simp only [Act.put, zk4, zk5, zk6])
    (refine wpAnyH_take (i := 17) rfl (by kernel_rfl) (by kernel_rfl) (by kernel_rfl) (fun _ _ _ h => h) (Or.inr ⟨by rfl, rfl⟩) (by assumption) ?_); (try simp only [zk1, zk2, zk3]); (try simp only [Act.put, zk4, zk5, zk6])
    (refine wpAnyH_take (i := 18) rfl (by kernel_rfl) (by kernel_rfl) (by kernel_rfl) (fun _ _ _ h => h) (Or.inr ⟨by rfl, rfl⟩) (by assumption) ?_); (try simp only [zk1, zk2, zk3]); (try simp only [Act.put, zk4, zk5, zk6])
    (refine wpAnyH_take (i := 19) rfl (by kernel_rfl) (by kernel_rfl) (by kernel_rfl) (fun _ _ _ h => h) (Or.inr ⟨by rfl, rfl⟩) (by assumption) ?_); (try simp only [zk1, zk2, zk3]); (try simp only [Act.put, zk4, zk5, zk6])
    (refine wpAnyH_take (i := 20) rfl (by kernel_rfl) (by kernel_rfl) (by kernel_rfl) (fun _ _ _ h => h) (Or.inr ⟨by rfl, rfl⟩) (by assumption) ?_); (try simp only [zk1, zk2, zk3]); (try simp only [Act.put, zk4, zk5, zk6])
    (refine wpAnyH_take (i := 21) (v := ?_) rfl (by kernel_rfl) (by kernel_rfl) (by kernel_rfl) (fun _ _ _ h => h) (Or.inl ⟨by rfl, ?_⟩) (by assumption) ?_; rotate_left; focus (intro w hSw; (try dsimp only at hSw); (try simp only [zk1, zk2, zk3]); go_simp; try with_reducible rfl)); (try simp only [zk1, zk2, zk3]); (try simp only [Act.put, zk4, zk5, zk6])
    (refine wpAnyH_take (i := 22) (v := ?_) rfl (by kernel_rfl) (by kernel_rfl) (by kernel_rfl) (fun _ _ _ h => h) (Or.inl ⟨by rfl, ?_⟩) (by assumption) ?_; rotate_left; focus (intro w hSw; (try dsimp only at hSw); (try simp only [zk1, zk2, zk3]); go_simp; try with_reducible rfl)); (try simp only [zk1, zk2, zk3]); (try simp only [Act.put, zk4, zk5, zk6])
    refine wpAnyH_done (by kernel_rfl) ?_ _
    go_wp2
    go_ret
    exact ⟨ret_bool HB.out.symm, (by repeat (first | (with_reducible first | exact Ext.refl _ | assumption | apply Ext.alloc | apply Ext.drew | apply Ext.drewN | refine Ext.setCell ?_ ?_ _ | refine Ext.trans ?_ (by assumption)) | (show _ ≤ _; first | omega | (dsimp only; omega) | (simp; done) | (simp; omega))))⟩
  have HB := Lib.hid (show sealOkB root hh ep r p s = sigOkB root (headH hh ep r p) s by rw [sealOkB, hh', decide_eq_true he]; rfl)
  have HH := Lib.hid hh'
  have HE := Lib.hid he
  have HS := Lib.hid (headH_le hh ep r p)
  generalize hR : sigOkB root (headH hh ep r p) s = R at HB
  have HR := Lib.hid hR
  clear hR
  clear hh' he
  go_enter Tryz.func16, Tryz.ntmps16
  go_wp2
  have P : Bx (w.alloc (Obj.cells #[.int .i64 hh, .int .i64 ep, .string r, .string p, .int .i64 s.at_, .slice a1 s.op.length c1, .slice a2 s.sh.length c2, .slice a3 s.si.length c3] 32)) w.heap.size [.int .i64 hh, .int .i64 ep, .string r, .string p, .int .i64 s.at_, .slice a1 s.op.length c1, .slice a2 s.sh.length c2, .slice a3 s.si.length c3] := Bx.new w _ _
  have x0 : Ext w (w.alloc (Obj.cells #[.int .i64 hh, .int .i64 ep, .string r, .string p, .int .i64 s.at_, .slice a1 s.op.length c1, .slice a2 s.sh.length c2, .slice a3 s.si.length c3] 32)) := (Ext.refl w).alloc _
  generalize (w.alloc (Obj.cells #[.int .i64 hh, .int .i64 ep, .string r, .string p, .int .i64 s.at_, .slice a1 s.op.length c1, .slice a2 s.sh.length c2, .slice a3 s.si.length c3] 32)) = W0 at *
  have p0c := P.2.1 0 _ rfl
  have p1c := P.2.1 1 _ rfl
  have p2c := P.2.1 2 _ rfl
  have p3c := P.2.1 3 _ rfl
  have p4c := P.2.1 4 _ rfl
  have p5c := P.2.1 5 _ rfl
  have p6c := P.2.1 6 _ rfl
  have p7c := P.2.1 7 _ rfl
  refine wp_region_held_drew (S := (fun W => W.cell? ⟨w.heap.size, 0, none⟩ = some (.int .i64 hh) ∧ W.cell? ⟨w.heap.size, 1, none⟩ = some (.int .i64 ep) ∧ W.cell? ⟨w.heap.size, 2, none⟩ = some (.string r) ∧ W.cell? ⟨w.heap.size, 3, none⟩ = some (.string p) ∧ W.cell? ⟨w.heap.size, 4, none⟩ = some (.int .i64 s.at_) ∧ W.cell? ⟨w.heap.size, 5, none⟩ = some (.slice a1 s.op.length c1) ∧ W.cell? ⟨w.heap.size, 6, none⟩ = some (.slice a2 s.sh.length c2) ∧ W.cell? ⟨w.heap.size, 7, none⟩ = some (.slice a3 s.si.length c3))) (by kernel_rfl) (by exact ⟨p0c, p1c, p2c, p3c, p4c, p5c, p6c, p7c⟩) (fun hHeld => ?_)
  (refine wpAnyH_take (i := 0) (v := ?_) rfl (by kernel_rfl) (by kernel_rfl) (by kernel_rfl) (fun _ _ _ h => h) (Or.inl ⟨by rfl, ?_⟩) (by assumption) ?_; rotate_left; focus (intro w hSw; (try dsimp only at hSw); (try simp only [zk1, zk2]); go_simp; try with_reducible rfl)); (try simp only [zk1, zk2]); (try simp only [Act.put, zk4, zk5, zk6])
  (refine wpAnyH_take (i := 1) (v := ?_) rfl (by kernel_rfl) (by kernel_rfl) (by kernel_rfl) (fun _ _ _ h => h) (Or.inl ⟨by rfl, ?_⟩) (by assumption) ?_; rotate_left; focus (intro w hSw; (try dsimp only at hSw); (try simp only [zk1, zk2, zk3]); go_simp; try with_reducible rfl)); (try simp only [zk1, zk2, zk3]); (try simp only [Act.put, zk4, zk5, zk6])
  (refine wpAnyH_ready (rs := [2]) (by kernel_rfl) (by simp) ?_; refine AllReadyH.cons rfl (fun K hK => ?_) AllReadyH.nil; (try simp only [zk1, zk2, zk3]))
  go_simp
  go_at_call 25
  refine (impl_HeadOk _ _ _ _ _).mono ?_
  rw [HH.out]
  rintro e wa ⟨rfl, xa⟩
  have ya : Ext W0 wa := (by repeat (first | (with_reducible first | exact Ext.refl _ | assumption | apply Ext.alloc | apply Ext.drew | apply Ext.drewN | refine Ext.setCell ?_ ?_ _ | refine Ext.trans ?_ (by assumption)) | (show _ ≤ _; first | omega | (dsimp only; omega) | (simp; done) | (simp; omega))))
  replace P := P.ext ya
  have p0c := P.2.1 0 _ rfl
  have p1c := P.2.1 1 _ rfl
  have p2c := P.2.1 2 _ rfl
  have p3c := P.2.1 3 _ rfl
  have p4c := P.2.1 4 _ rfl
  have p5c := P.2.1 5 _ rfl
  have p6c := P.2.1 6 _ rfl
  have p7c := P.2.1 7 _ rfl
  (try dsimp only)
  refine hK.out _ _ (by exact ⟨p0c, p1c, p2c, p3c, p4c, p5c, p6c, p7c⟩) (fun hHeld => ?_)
  clear hK K
  (refine wpAnyH_take (i := 3) (v := ?_) rfl (by kernel_rfl) (by kernel_rfl) (by kernel_rfl) (fun _ _ _ h => h) (Or.inl ⟨by rfl, ?_⟩) (by assumption) ?_; rotate_left; focus (intro w hSw; (try dsimp only at hSw); (try simp only [zk1, zk2, zk3]); go_simp; try with_reducible rfl)); (try simp only [zk1, zk2, zk3]); (try simp only [Act.put, zk4, zk5, zk6])
  (refine wpAnyH_take (i := 4) (v := ?_) rfl (by kernel_rfl) (by kernel_rfl) (by kernel_rfl) (fun _ _ _ h => h) (Or.inl ⟨by rfl, ?_⟩) (by assumption) ?_; rotate_left; focus (intro w hSw; (try dsimp only at hSw); (try simp only [zk1, zk2, zk3]); go_simp; try with_reducible rfl)); (try simp only [zk1, zk2, zk3]); (try simp only [Act.put, zk4, zk5, zk6])
  (refine wpAnyH_take (i := 5) (v := ?_) rfl (by kernel_rfl) (by kernel_rfl) (by kernel_rfl) (fun _ _ _ h => h) (Or.inl ⟨by rfl, ?_⟩) (by assumption) ?_; rotate_left; focus (intro w hSw; (try dsimp only at hSw); (try simp only [zk1, zk2, zk3]); go_simp; try with_reducible rfl)); (try simp only [zk1, zk2, zk3]); (try simp only [Act.put, zk4, zk5, zk6])
  (refine wpAnyH_take (i := 6) (v := ?_) rfl (by kernel_rfl) (by kernel_rfl) (by kernel_rfl) (fun _ _ _ h => h) (Or.inl ⟨by rfl, ?_⟩) (by assumption) ?_; rotate_left; focus (intro w hSw; (try dsimp only at hSw); (try simp only [zk1, zk2, zk3]); go_simp; try with_reducible rfl)); (try simp only [zk1, zk2, zk3]); (try simp only [Act.put, zk4, zk5, zk6])
  (refine wpAnyH_take (i := 7) (v := ?_) rfl (by kernel_rfl) (by kernel_rfl) (by kernel_rfl) (fun _ _ _ h => h) (Or.inl ⟨by rfl, ?_⟩) (by assumption) ?_; rotate_left; focus (intro w hSw; (try dsimp only at hSw); (try simp only [zk1, zk2, zk3]); go_simp; try with_reducible rfl)); (try simp only [zk1, zk2, zk3]); (try simp only [Act.put, zk4, zk5, zk6])
  (refine wpAnyH_take (i := 8) (v := ?_) rfl (by kernel_rfl) (by kernel_rfl) (by kernel_rfl) (fun _ _ _ h => h) (Or.inl ⟨by rfl, ?_⟩) (by assumption) ?_; rotate_left; focus (intro w hSw; (try dsimp only at hSw); (try simp only [zk1, zk2, zk3]); go_simp; try with_reducible rfl)); (try simp only [zk1, zk2, zk3]); (try simp only [Act.put, zk4, zk5, zk6])
  (refine wpAnyH_take (i := 9) (v := ?_) rfl (by kernel_rfl) (by kernel_rfl) (by kernel_rfl) (fun _ _ _ h => h) (Or.inl ⟨by rfl, ?_⟩) (by assumption) ?_; rotate_left; focus (intro w hSw; (try dsimp only at hSw); (try simp only [zk1, zk2, zk3]); go_simp; try with_reducible rfl)); (try simp only [zk1, zk2, zk3]); (try simp only [Act.put, zk4, zk5, zk6])
  (refine wpAnyH_ready (rs := [10]) (by kernel_rfl) (by simp) ?_; refine AllReadyH.cons rfl (fun K hK => ?_) AllReadyH.nil; (try simp only [zk1, zk2, zk3]))
  go_simp
  go_at_call 18
  refine (impl_SealAt _ _).mono ?_
  rintro e wb ⟨rfl, hwb⟩
  have yb : Ext wa wb := by
    rw [← hwb]
    exact (by repeat (first | (with_reducible first | exact Ext.refl _ | assumption | apply Ext.alloc | apply Ext.drew | apply Ext.drewN | refine Ext.setCell ?_ ?_ _ | refine Ext.trans ?_ (by assumption)) | (show _ ≤ _; first | omega | (dsimp only; omega) | (simp; done) | (simp; omega))))
  clear hwb
  replace P := P.ext yb
  have p0c := P.2.1 0 _ rfl
  have p1c := P.2.1 1 _ rfl
  have p2c := P.2.1 2 _ rfl
  have p3c := P.2.1 3 _ rfl
  have p4c := P.2.1 4 _ rfl
  have p5c := P.2.1 5 _ rfl
  have p6c := P.2.1 6 _ rfl
  have p7c := P.2.1 7 _ rfl
  (try dsimp only)
  refine hK.out _ _ (by exact ⟨p0c, p1c, p2c, p3c, p4c, p5c, p6c, p7c⟩) (fun hHeld => ?_)
  clear hK K
  (refine wpAnyH_take (i := 11) (v := .bool true) rfl (by kernel_rfl) (by kernel_rfl) (by kernel_rfl) (fun _ _ _ h => h) (Or.inl ⟨by rfl, ?_⟩) (by assumption) ?_; focus (intro w hSw; (try dsimp only at hSw); (try simp only [zk1, zk2, zk3]); go_simp; simp [HE.out])); (try simp only [zk1, zk2, zk3]); (try simp only [Act.put, zk4, zk5, zk6])
  (refine wpAnyH_take (i := 12) (v := ?_) rfl (by kernel_rfl) (by kernel_rfl) (by kernel_rfl) (fun _ _ _ h => h) (Or.inl ⟨by rfl, ?_⟩) (by assumption) ?_; rotate_left; focus (intro w hSw; (try dsimp only at hSw); (try simp only [zk1, zk2, zk3]); go_simp; try with_reducible rfl)); (try simp only [zk1, zk2, zk3]); (try simp only [Act.put, zk4, zk5, zk6])
  (refine wpAnyH_take (i := 13) (v := ?_) rfl (by kernel_rfl) (by kernel_rfl) (by kernel_rfl) (fun _ _ _ h => h) (Or.inl ⟨by rfl, ?_⟩) (by assumption) ?_; rotate_left; focus (intro w hSw; (try dsimp only at hSw); (try simp only [zk1, zk2, zk3]); go_simp; try with_reducible rfl)); (try simp only [zk1, zk2, zk3]); (try simp only [Act.put, zk4, zk5, zk6])
  (refine wpAnyH_take (i := 14) (v := ?_) rfl (by kernel_rfl) (by kernel_rfl) (by kernel_rfl) (fun _ _ _ h => h) (Or.inl ⟨by rfl, ?_⟩) (by assumption) ?_; rotate_left; focus (intro w hSw; (try dsimp only at hSw); (try simp only [zk1, zk2, zk3]); go_simp; try with_reducible rfl)); (try simp only [zk1, zk2, zk3]); (try simp only [Act.put, zk4, zk5, zk6])
  (refine wpAnyH_take (i := 15) (v := ?_) rfl (by kernel_rfl) (by kernel_rfl) (by kernel_rfl) (fun _ _ _ h => h) (Or.inl ⟨by rfl, ?_⟩) (by assumption) ?_; rotate_left; focus (intro w hSw; (try dsimp only at hSw); (try simp only [zk1, zk2, zk3]); go_simp; try with_reducible rfl)); (try simp only [zk1, zk2, zk3]); (try simp only [Act.put, zk4, zk5, zk6])
  (refine wpAnyH_take (i := 16) (v := ?_) rfl (by kernel_rfl) (by kernel_rfl) (by kernel_rfl) (fun _ _ _ h => h) (Or.inl ⟨by rfl, ?_⟩) (by assumption) ?_; rotate_left; focus (intro w hSw; (try dsimp only at hSw); (try simp only [zk1, zk2, zk3]); go_simp; try with_reducible rfl)); (try simp only [zk1, zk2, zk3]); (try simp only [Act.put, zk4, zk5, zk6])
  (refine wpAnyH_take (i := 18) (v := ?_) rfl (by kernel_rfl) (by kernel_rfl) (by kernel_rfl) (fun _ _ _ h => h) (Or.inl ⟨by rfl, ?_⟩) (by assumption) ?_; rotate_left; focus (intro w hSw; (try dsimp only at hSw); (try simp only [zk1, zk2, zk3]); go_simp; try with_reducible rfl)); (try simp only [zk1, zk2, zk3]); (try simp only [Act.put, zk4, zk5, zk6])
  (refine wpAnyH_take (i := 19) (v := ?_) rfl (by kernel_rfl) (by kernel_rfl) (by kernel_rfl) (fun _ _ _ h => h) (Or.inl ⟨by rfl, ?_⟩) (by assumption) ?_; rotate_left; focus (intro w hSw; (try dsimp only at hSw); (try simp only [zk1, zk2, zk3]); go_simp; try with_reducible rfl)); (try simp only [zk1, zk2, zk3]); (try simp only [Act.put, zk4, zk5, zk6])
  (refine wpAnyH_ready (rs := [17]) (by kernel_rfl) (by simp) ?_; refine AllReadyH.cons rfl (fun K hK => ?_) AllReadyH.nil; (try simp only [zk1, zk2, zk3]))
  go_simp
  go_at_call 27
  refine (impl_HeadHash _ _ _ _ _ (by exact HT.out.ext (by repeat (first | (with_reducible first | exact Ext.refl _ | assumption | apply Ext.alloc | apply Ext.drew | apply Ext.drewN | refine Ext.setCell ?_ ?_ _ | refine Ext.trans ?_ (by assumption)) | (show _ ≤ _; first | omega | (dsimp only; omega) | (simp; done) | (simp; omega)))))).mono ?_
  rintro e wc ⟨rfl, xc⟩
  have yc : Ext wb wc := (by repeat (first | (with_reducible first | exact Ext.refl _ | assumption | apply Ext.alloc | apply Ext.drew | apply Ext.drewN | refine Ext.setCell ?_ ?_ _ | refine Ext.trans ?_ (by assumption)) | (show _ ≤ _; first | omega | (dsimp only; omega) | (simp; done) | (simp; omega))))
  replace P := P.ext yc
  have p0c := P.2.1 0 _ rfl
  have p1c := P.2.1 1 _ rfl
  have p2c := P.2.1 2 _ rfl
  have p3c := P.2.1 3 _ rfl
  have p4c := P.2.1 4 _ rfl
  have p5c := P.2.1 5 _ rfl
  have p6c := P.2.1 6 _ rfl
  have p7c := P.2.1 7 _ rfl
  (try dsimp only)
  refine hK.out _ _ (by exact ⟨p0c, p1c, p2c, p3c, p4c, p5c, p6c, p7c⟩) (fun hHeld => ?_)
  clear hK K
  (refine wpAnyH_ready (rs := [20]) (by kernel_rfl) (by simp) ?_; refine AllReadyH.cons rfl (fun K hK => ?_) AllReadyH.nil; (try simp only [zk1, zk2, zk3]))
  go_simp
  go_at_call 45
  refine (impl_SigOk root _ _ _ _ s _ (h1.ext (by repeat (first | (with_reducible first | exact Ext.refl _ | assumption | apply Ext.alloc | apply Ext.drew | apply Ext.drewN | refine Ext.setCell ?_ ?_ _ | refine Ext.trans ?_ (by assumption)) | (show _ ≤ _; first | omega | (dsimp only; omega) | (simp; done) | (simp; omega))))) (h2.ext (by repeat (first | (with_reducible first | exact Ext.refl _ | assumption | apply Ext.alloc | apply Ext.drew | apply Ext.drewN | refine Ext.setCell ?_ ?_ _ | refine Ext.trans ?_ (by assumption)) | (show _ ≤ _; first | omega | (dsimp only; omega) | (simp; done) | (simp; omega))))) (h3.ext (by repeat (first | (with_reducible first | exact Ext.refl _ | assumption | apply Ext.alloc | apply Ext.drew | apply Ext.drewN | refine Ext.setCell ?_ ?_ _ | refine Ext.trans ?_ (by assumption)) | (show _ ≤ _; first | omega | (dsimp only; omega) | (simp; done) | (simp; omega))))) hs HS.out (by exact HT.out.ext (by repeat (first | (with_reducible first | exact Ext.refl _ | assumption | apply Ext.alloc | apply Ext.drew | apply Ext.drewN | refine Ext.setCell ?_ ?_ _ | refine Ext.trans ?_ (by assumption)) | (show _ ≤ _; first | omega | (dsimp only; omega) | (simp; done) | (simp; omega)))))).mono ?_
  rw [HR.out]
  rintro e wd ⟨rfl, xd⟩
  have yd : Ext wc wd := (by repeat (first | (with_reducible first | exact Ext.refl _ | assumption | apply Ext.alloc | apply Ext.drew | apply Ext.drewN | refine Ext.setCell ?_ ?_ _ | refine Ext.trans ?_ (by assumption)) | (show _ ≤ _; first | omega | (dsimp only; omega) | (simp; done) | (simp; omega))))
  replace P := P.ext yd
  have p0c := P.2.1 0 _ rfl
  have p1c := P.2.1 1 _ rfl
  have p2c := P.2.1 2 _ rfl
  have p3c := P.2.1 3 _ rfl
  have p4c := P.2.1 4 _ rfl
  have p5c := P.2.1 5 _ rfl
  have p6c := P.2.1 6 _ rfl
  have p7c := P.2.1 7 _ rfl
  (try dsimp only)
  refine hK.out _ _ (by exact ⟨p0c, p1c, p2c, p3c, p4c, p5c, p6c, p7c⟩) (fun hHeld => ?_)
  clear hK K
  (refine wpAnyH_take (i := 21) (v := ?_) rfl (by kernel_rfl) (by kernel_rfl) (by kernel_rfl) (fun _ _ _ h => h) (Or.inl ⟨by rfl, ?_⟩) (by assumption) ?_; rotate_left; focus (intro w hSw; (try dsimp only at hSw); (try simp only [zk1, zk2, zk3]); go_simp; try with_reducible rfl)); (try simp only [zk1, zk2, zk3]); (try simp only [Act.put, zk4, zk5, zk6])
  (refine wpAnyH_take (i := 22) (v := ?_) rfl (by kernel_rfl) (by kernel_rfl) (by kernel_rfl) (fun _ _ _ h => h) (Or.inl ⟨by rfl, ?_⟩) (by assumption) ?_; rotate_left; focus (intro w hSw; (try dsimp only at hSw); (try simp only [zk1, zk2, zk3]); go_simp; try with_reducible rfl)); (try simp only [zk1, zk2, zk3]); (try simp only [Act.put, zk4, zk5, zk6])
  refine wpAnyH_done (by kernel_rfl) ?_ _
  go_wp2
  go_ret
  exact ⟨ret_bool HB.out.symm, (by repeat (first | (with_reducible first | exact Ext.refl _ | assumption | apply Ext.alloc | apply Ext.drew | apply Ext.drewN | refine Ext.setCell ?_ ?_ _ | refine Ext.trans ?_ (by assumption)) | (show _ ≤ _; first | omega | (dsimp only; omega) | (simp; done) | (simp; omega))))⟩
end Go.Proofs.YtkphipgfcbckcaaGreatDoor

namespace Go.Proofs.YtkphipgfcbckcaaGreatDoor
open Go.RowKit

set_option maxRecDepth 100000 in
set_option maxHeartbeats 3200000 in
theorem spec_SealOk (root : ByteArray) (hh ep : Int) (r p : ByteArray) (v1 v2 v3 : Value) (s : SigV) (w : World) (h1 : Strs w v1 s.op) (h2 : Strs w v2 s.sh) (h3 : Strs w v3 s.si) (hs : SigFit s) :
    Calls Tryz.prog 17 #[.string root, .agg #[.int .i64 hh, .int .i64 ep, .string r, .string p, .int .i64 s.at_, v1, v2, v3]] w fun e w' => e = .returned (.bool (sealOkB root hh ep r p s)) ∧ Ext w w' := by
  obtain ⟨a1, c1, rfl⟩ := h1.form
  obtain ⟨a2, c2, rfl⟩ := h2.form
  obtain ⟨a3, c3, rfl⟩ := h3.form
  cases hh' : headOk hh ep r p
  · have HB := Lib.hid (show sealOkB root hh ep r p s = false by rw [sealOkB, hh']; rfl)
    have HH := Lib.hid hh'
    clear hh'
    go_enter Tryz.func17, Tryz.ntmps17
    go_wp2
    have P : Bx (w.alloc (Obj.cells #[.int .i64 hh, .int .i64 ep, .string r, .string p, .int .i64 s.at_, .slice a1 s.op.length c1, .slice a2 s.sh.length c2, .slice a3 s.si.length c3] 32)) w.heap.size [.int .i64 hh, .int .i64 ep, .string r, .string p, .int .i64 s.at_, .slice a1 s.op.length c1, .slice a2 s.sh.length c2, .slice a3 s.si.length c3] := Bx.new w _ _
    have x0 : Ext w (w.alloc (Obj.cells #[.int .i64 hh, .int .i64 ep, .string r, .string p, .int .i64 s.at_, .slice a1 s.op.length c1, .slice a2 s.sh.length c2, .slice a3 s.si.length c3] 32)) := (Ext.refl w).alloc _
    generalize (w.alloc (Obj.cells #[.int .i64 hh, .int .i64 ep, .string r, .string p, .int .i64 s.at_, .slice a1 s.op.length c1, .slice a2 s.sh.length c2, .slice a3 s.si.length c3] 32)) = W0 at *
    have p0c := P.2.1 0 _ rfl
    have p1c := P.2.1 1 _ rfl
    have p2c := P.2.1 2 _ rfl
    have p3c := P.2.1 3 _ rfl
    have p4c := P.2.1 4 _ rfl
    have p5c := P.2.1 5 _ rfl
    have p6c := P.2.1 6 _ rfl
    have p7c := P.2.1 7 _ rfl
    refine wp_region_held_drew (S := (fun W => W.cell? ⟨w.heap.size, 0, none⟩ = some (.int .i64 hh) ∧ W.cell? ⟨w.heap.size, 1, none⟩ = some (.int .i64 ep) ∧ W.cell? ⟨w.heap.size, 2, none⟩ = some (.string r) ∧ W.cell? ⟨w.heap.size, 3, none⟩ = some (.string p) ∧ W.cell? ⟨w.heap.size, 4, none⟩ = some (.int .i64 s.at_) ∧ W.cell? ⟨w.heap.size, 5, none⟩ = some (.slice a1 s.op.length c1) ∧ W.cell? ⟨w.heap.size, 6, none⟩ = some (.slice a2 s.sh.length c2) ∧ W.cell? ⟨w.heap.size, 7, none⟩ = some (.slice a3 s.si.length c3))) (by kernel_rfl) (by exact ⟨p0c, p1c, p2c, p3c, p4c, p5c, p6c, p7c⟩) (fun hHeld => ?_)
    (refine wpAnyH_take (i := 0) (v := ?_) rfl (by kernel_rfl) (by kernel_rfl) (by kernel_rfl) (fun _ _ _ h => h) (Or.inl ⟨by rfl, ?_⟩) (by assumption) ?_; rotate_left; focus (intro w hSw; (try dsimp only at hSw); (try simp only [zk1, zk2]); go_simp; try with_reducible rfl)); (try simp only [zk1, zk2]); (try simp only [Act.put, zk4, zk5, zk6])
    (refine wpAnyH_take (i := 1) (v := ?_) rfl (by kernel_rfl) (by kernel_rfl) (by kernel_rfl) (fun _ _ _ h => h) (Or.inl ⟨by rfl, ?_⟩) (by assumption) ?_; rotate_left; focus (intro w hSw; (try dsimp only at hSw); (try simp only [zk1, zk2, zk3]); go_simp; try with_reducible rfl)); (try simp only [zk1, zk2, zk3]); (try simp only [Act.put, zk4, zk5, zk6])
    (refine wpAnyH_ready (rs := [2]) (by kernel_rfl) (by simp) ?_; refine AllReadyH.cons rfl (fun K hK => ?_) AllReadyH.nil; (try simp only [zk1, zk2, zk3]))
    go_simp
    go_at_call 28
    refine (spec_HeadOk _ _ _ _ _).mono ?_
    rw [HH.out]
    rintro e wa ⟨rfl, xa⟩
    have ya : Ext W0 wa := (by repeat (first | (with_reducible first | exact Ext.refl _ | assumption | apply Ext.alloc | apply Ext.drew | apply Ext.drewN | refine Ext.setCell ?_ ?_ _ | refine Ext.trans ?_ (by assumption)) | (show _ ≤ _; first | omega | (dsimp only; omega) | (simp; done) | (simp; omega))))
    replace P := P.ext ya
    have p0c := P.2.1 0 _ rfl
    have p1c := P.2.1 1 _ rfl
    have p2c := P.2.1 2 _ rfl
    have p3c := P.2.1 3 _ rfl
    have p4c := P.2.1 4 _ rfl
    have p5c := P.2.1 5 _ rfl
    have p6c := P.2.1 6 _ rfl
    have p7c := P.2.1 7 _ rfl
    (try dsimp only)
    refine hK.out _ _ (by exact ⟨p0c, p1c, p2c, p3c, p4c, p5c, p6c, p7c⟩) (fun hHeld => ?_)
    clear hK K
    (refine wpAnyH_take (i := 3) (v := ?_) rfl (by kernel_rfl) (by kernel_rfl) (by kernel_rfl) (fun _ _ _ h => h) (Or.inl ⟨by rfl, ?_⟩) (by assumption) ?_; rotate_left; focus (intro w hSw; (try dsimp only at hSw); (try simp only [zk1, zk2, zk3]); go_simp; try with_reducible rfl)); (try simp only [zk1, zk2, zk3]); (try simp only [Act.put, zk4, zk5, zk6])
    (refine wpAnyH_take (i := 4) rfl (by kernel_rfl) (by kernel_rfl) (by kernel_rfl) (fun _ _ _ h => h) (Or.inr ⟨by rfl, rfl⟩) (by assumption) ?_); (try simp only [zk1, zk2, zk3]); (try simp only [Act.put, zk4, zk5, zk6])
    (refine wpAnyH_take (i := 5) rfl (by kernel_rfl) (by kernel_rfl) (by kernel_rfl) (fun _ _ _ h => h) (Or.inr ⟨by rfl, rfl⟩) (by assumption) ?_); (try simp only [zk1, zk2, zk3]); (try simp only [Act.put, zk4, zk5, zk6])
    (refine wpAnyH_take (i := 6) rfl (by kernel_rfl) (by kernel_rfl) (by kernel_rfl) (fun _ _ _ h => h) (Or.inr ⟨by rfl, rfl⟩) (by assumption) ?_); (try simp only [zk1, zk2, zk3]); (try simp only [Act.put, zk4, zk5, zk6])
    (refine wpAnyH_take (i := 7) rfl (by kernel_rfl) (by kernel_rfl) (by kernel_rfl) (fun _ _ _ h => h) (Or.inr ⟨by rfl, rfl⟩) (by assumption) ?_); (try simp only [zk1, zk2, zk3]); (try simp only [Act.put, zk4, zk5, zk6])
    (refine wpAnyH_take (i := 8) rfl (by kernel_rfl) (by kernel_rfl) (by kernel_rfl) (fun _ _ _ h => h) (Or.inr ⟨by rfl, rfl⟩) (by assumption) ?_); (try simp only [zk1, zk2, zk3]); (try simp only [Act.put, zk4, zk5, zk6])
    (refine wpAnyH_take (i := 9) rfl (by kernel_rfl) (by kernel_rfl) (by kernel_rfl) (fun _ _ _ h => h) (Or.inr ⟨by rfl, rfl⟩) (by assumption) ?_); (try simp only [zk1, zk2, zk3]); (try simp only [Act.put, zk4, zk5, zk6])
    (refine wpAnyH_take (i := 10) rfl (by kernel_rfl) (by kernel_rfl) (by kernel_rfl) (fun _ _ _ h => h) (Or.inr ⟨by rfl, rfl⟩) (by assumption) ?_); (try simp only [zk1, zk2, zk3]); (try simp only [Act.put, zk4, zk5, zk6])
    (refine wpAnyH_take (i := 11) rfl (by kernel_rfl) (by kernel_rfl) (by kernel_rfl) (fun _ _ _ h => h) (Or.inr ⟨by rfl, rfl⟩) (by assumption) ?_); (try simp only [zk1, zk2, zk3]); (try simp only [Act.put, zk4, zk5, zk6])
    (refine wpAnyH_take (i := 12) (v := ?_) rfl (by kernel_rfl) (by kernel_rfl) (by kernel_rfl) (fun _ _ _ h => h) (Or.inl ⟨by rfl, ?_⟩) (by assumption) ?_; rotate_left; focus (intro w hSw; (try dsimp only at hSw); (try simp only [zk1, zk2, zk3]); go_simp; try with_reducible rfl)); (try simp only [zk1, zk2, zk3]); (try simp only [Act.put, zk4, zk5, zk6])
    (refine wpAnyH_take (i := 13) (v := ?_) rfl (by kernel_rfl) (by kernel_rfl) (by kernel_rfl) (fun _ _ _ h => h) (Or.inl ⟨by rfl, ?_⟩) (by assumption) ?_; rotate_left; focus (intro w hSw; (try dsimp only at hSw); (try simp only [zk1, zk2, zk3]); go_simp; try with_reducible rfl)); (try simp only [zk1, zk2, zk3]); (try simp only [Act.put, zk4, zk5, zk6])
    (refine wpAnyH_take (i := 14) rfl (by kernel_rfl) (by kernel_rfl) (by kernel_rfl) (fun _ _ _ h => h) (Or.inr ⟨by rfl, rfl⟩) (by assumption) ?_); (try simp only [zk1, zk2, zk3]); (try simp only [Act.put, zk4, zk5, zk6])
    (refine wpAnyH_take (i := 15) rfl (by kernel_rfl) (by kernel_rfl) (by kernel_rfl) (fun _ _ _ h => h) (Or.inr ⟨by rfl, rfl⟩) (by assumption) ?_); (try simp only [zk1, zk2, zk3]); (try simp only [Act.put, zk4, zk5, zk6])
    (refine wpAnyH_take (i := 16) rfl (by kernel_rfl) (by kernel_rfl) (by kernel_rfl) (fun _ _ _ h => h) (Or.inr ⟨by rfl, rfl⟩) (by assumption) ?_); (try simp only [zk1, zk2, zk3]); (try simp only [Act.put, zk4, zk5, zk6])
    (refine wpAnyH_take (i := 17) rfl (by kernel_rfl) (by kernel_rfl) (by kernel_rfl) (fun _ _ _ h => h) (Or.inr ⟨by rfl, rfl⟩) (by assumption) ?_); (try simp only [zk1, zk2, zk3]); (try simp only [Act.put, zk4, zk5, zk6])
    (refine wpAnyH_take (i := 18) rfl (by kernel_rfl) (by kernel_rfl) (by kernel_rfl) (fun _ _ _ h => h) (Or.inr ⟨by rfl, rfl⟩) (by assumption) ?_); (try simp only [zk1, zk2, zk3]); (try simp only [Act.put, zk4, zk5, zk6])
    (refine wpAnyH_take (i := 19) rfl (by kernel_rfl) (by kernel_rfl) (by kernel_rfl) (fun _ _ _ h => h) (Or.inr ⟨by rfl, rfl⟩) (by assumption) ?_); (try simp only [zk1, zk2, zk3]); (try simp only [Act.put, zk4, zk5, zk6])
    (refine wpAnyH_take (i := 20) rfl (by kernel_rfl) (by kernel_rfl) (by kernel_rfl) (fun _ _ _ h => h) (Or.inr ⟨by rfl, rfl⟩) (by assumption) ?_); (try simp only [zk1, zk2, zk3]); (try simp only [Act.put, zk4, zk5, zk6])
    (refine wpAnyH_take (i := 21) (v := ?_) rfl (by kernel_rfl) (by kernel_rfl) (by kernel_rfl) (fun _ _ _ h => h) (Or.inl ⟨by rfl, ?_⟩) (by assumption) ?_; rotate_left; focus (intro w hSw; (try dsimp only at hSw); (try simp only [zk1, zk2, zk3]); go_simp; try with_reducible rfl)); (try simp only [zk1, zk2, zk3]); (try simp only [Act.put, zk4, zk5, zk6])
    (refine wpAnyH_take (i := 22) (v := ?_) rfl (by kernel_rfl) (by kernel_rfl) (by kernel_rfl) (fun _ _ _ h => h) (Or.inl ⟨by rfl, ?_⟩) (by assumption) ?_; rotate_left; focus (intro w hSw; (try dsimp only at hSw); (try simp only [zk1, zk2, zk3]); go_simp; try with_reducible rfl)); (try simp only [zk1, zk2, zk3]); (try simp only [Act.put, zk4, zk5, zk6])
    refine wpAnyH_done (by kernel_rfl) ?_ _
    go_wp2
    go_ret
    exact ⟨ret_bool HB.out.symm, (by repeat (first | (with_reducible first | exact Ext.refl _ | assumption | apply Ext.alloc | apply Ext.drew | apply Ext.drewN | refine Ext.setCell ?_ ?_ _ | refine Ext.trans ?_ (by assumption)) | (show _ ≤ _; first | omega | (dsimp only; omega) | (simp; done) | (simp; omega))))⟩
  by_cases he : s.at_ = sealAt ep
  case neg =>
    have HB := Lib.hid (show sealOkB root hh ep r p s = false by rw [sealOkB, decide_eq_false he]; simp)
    have HH := Lib.hid hh'
    have HE := Lib.hid he
    clear hh' he
    go_enter Tryz.func17, Tryz.ntmps17
    go_wp2
    have P : Bx (w.alloc (Obj.cells #[.int .i64 hh, .int .i64 ep, .string r, .string p, .int .i64 s.at_, .slice a1 s.op.length c1, .slice a2 s.sh.length c2, .slice a3 s.si.length c3] 32)) w.heap.size [.int .i64 hh, .int .i64 ep, .string r, .string p, .int .i64 s.at_, .slice a1 s.op.length c1, .slice a2 s.sh.length c2, .slice a3 s.si.length c3] := Bx.new w _ _
    have x0 : Ext w (w.alloc (Obj.cells #[.int .i64 hh, .int .i64 ep, .string r, .string p, .int .i64 s.at_, .slice a1 s.op.length c1, .slice a2 s.sh.length c2, .slice a3 s.si.length c3] 32)) := (Ext.refl w).alloc _
    generalize (w.alloc (Obj.cells #[.int .i64 hh, .int .i64 ep, .string r, .string p, .int .i64 s.at_, .slice a1 s.op.length c1, .slice a2 s.sh.length c2, .slice a3 s.si.length c3] 32)) = W0 at *
    have p0c := P.2.1 0 _ rfl
    have p1c := P.2.1 1 _ rfl
    have p2c := P.2.1 2 _ rfl
    have p3c := P.2.1 3 _ rfl
    have p4c := P.2.1 4 _ rfl
    have p5c := P.2.1 5 _ rfl
    have p6c := P.2.1 6 _ rfl
    have p7c := P.2.1 7 _ rfl
    refine wp_region_held_drew (S := (fun W => W.cell? ⟨w.heap.size, 0, none⟩ = some (.int .i64 hh) ∧ W.cell? ⟨w.heap.size, 1, none⟩ = some (.int .i64 ep) ∧ W.cell? ⟨w.heap.size, 2, none⟩ = some (.string r) ∧ W.cell? ⟨w.heap.size, 3, none⟩ = some (.string p) ∧ W.cell? ⟨w.heap.size, 4, none⟩ = some (.int .i64 s.at_) ∧ W.cell? ⟨w.heap.size, 5, none⟩ = some (.slice a1 s.op.length c1) ∧ W.cell? ⟨w.heap.size, 6, none⟩ = some (.slice a2 s.sh.length c2) ∧ W.cell? ⟨w.heap.size, 7, none⟩ = some (.slice a3 s.si.length c3))) (by kernel_rfl) (by exact ⟨p0c, p1c, p2c, p3c, p4c, p5c, p6c, p7c⟩) (fun hHeld => ?_)
    (refine wpAnyH_take (i := 0) (v := ?_) rfl (by kernel_rfl) (by kernel_rfl) (by kernel_rfl) (fun _ _ _ h => h) (Or.inl ⟨by rfl, ?_⟩) (by assumption) ?_; rotate_left; focus (intro w hSw; (try dsimp only at hSw); (try simp only [zk1, zk2]); go_simp; try with_reducible rfl)); (try simp only [zk1, zk2]); (try simp only [Act.put, zk4, zk5, zk6])
    (refine wpAnyH_take (i := 1) (v := ?_) rfl (by kernel_rfl) (by kernel_rfl) (by kernel_rfl) (fun _ _ _ h => h) (Or.inl ⟨by rfl, ?_⟩) (by assumption) ?_; rotate_left; focus (intro w hSw; (try dsimp only at hSw); (try simp only [zk1, zk2, zk3]); go_simp; try with_reducible rfl)); (try simp only [zk1, zk2, zk3]); (try simp only [Act.put, zk4, zk5, zk6])
    (refine wpAnyH_ready (rs := [2]) (by kernel_rfl) (by simp) ?_; refine AllReadyH.cons rfl (fun K hK => ?_) AllReadyH.nil; (try simp only [zk1, zk2, zk3]))
    go_simp
    go_at_call 28
    refine (spec_HeadOk _ _ _ _ _).mono ?_
    rw [HH.out]
    rintro e wa ⟨rfl, xa⟩
    have ya : Ext W0 wa := (by repeat (first | (with_reducible first | exact Ext.refl _ | assumption | apply Ext.alloc | apply Ext.drew | apply Ext.drewN | refine Ext.setCell ?_ ?_ _ | refine Ext.trans ?_ (by assumption)) | (show _ ≤ _; first | omega | (dsimp only; omega) | (simp; done) | (simp; omega))))
    replace P := P.ext ya
    have p0c := P.2.1 0 _ rfl
    have p1c := P.2.1 1 _ rfl
    have p2c := P.2.1 2 _ rfl
    have p3c := P.2.1 3 _ rfl
    have p4c := P.2.1 4 _ rfl
    have p5c := P.2.1 5 _ rfl
    have p6c := P.2.1 6 _ rfl
    have p7c := P.2.1 7 _ rfl
    (try dsimp only)
    refine hK.out _ _ (by exact ⟨p0c, p1c, p2c, p3c, p4c, p5c, p6c, p7c⟩) (fun hHeld => ?_)
    clear hK K
    (refine wpAnyH_take (i := 3) (v := ?_) rfl (by kernel_rfl) (by kernel_rfl) (by kernel_rfl) (fun _ _ _ h => h) (Or.inl ⟨by rfl, ?_⟩) (by assumption) ?_; rotate_left; focus (intro w hSw; (try dsimp only at hSw); (try simp only [zk1, zk2, zk3]); go_simp; try with_reducible rfl)); (try simp only [zk1, zk2, zk3]); (try simp only [Act.put, zk4, zk5, zk6])
    (refine wpAnyH_take (i := 4) (v := ?_) rfl (by kernel_rfl) (by kernel_rfl) (by kernel_rfl) (fun _ _ _ h => h) (Or.inl ⟨by rfl, ?_⟩) (by assumption) ?_; rotate_left; focus (intro w hSw; (try dsimp only at hSw); (try simp only [zk1, zk2, zk3]); go_simp; try with_reducible rfl)); (try simp only [zk1, zk2, zk3]); (try simp only [Act.put, zk4, zk5, zk6])
    (refine wpAnyH_take (i := 5) (v := ?_) rfl (by kernel_rfl) (by kernel_rfl) (by kernel_rfl) (fun _ _ _ h => h) (Or.inl ⟨by rfl, ?_⟩) (by assumption) ?_; rotate_left; focus (intro w hSw; (try dsimp only at hSw); (try simp only [zk1, zk2, zk3]); go_simp; try with_reducible rfl)); (try simp only [zk1, zk2, zk3]); (try simp only [Act.put, zk4, zk5, zk6])
    (refine wpAnyH_take (i := 6) (v := ?_) rfl (by kernel_rfl) (by kernel_rfl) (by kernel_rfl) (fun _ _ _ h => h) (Or.inl ⟨by rfl, ?_⟩) (by assumption) ?_; rotate_left; focus (intro w hSw; (try dsimp only at hSw); (try simp only [zk1, zk2, zk3]); go_simp; try with_reducible rfl)); (try simp only [zk1, zk2, zk3]); (try simp only [Act.put, zk4, zk5, zk6])
    (refine wpAnyH_take (i := 7) (v := ?_) rfl (by kernel_rfl) (by kernel_rfl) (by kernel_rfl) (fun _ _ _ h => h) (Or.inl ⟨by rfl, ?_⟩) (by assumption) ?_; rotate_left; focus (intro w hSw; (try dsimp only at hSw); (try simp only [zk1, zk2, zk3]); go_simp; try with_reducible rfl)); (try simp only [zk1, zk2, zk3]); (try simp only [Act.put, zk4, zk5, zk6])
    (refine wpAnyH_take (i := 8) (v := ?_) rfl (by kernel_rfl) (by kernel_rfl) (by kernel_rfl) (fun _ _ _ h => h) (Or.inl ⟨by rfl, ?_⟩) (by assumption) ?_; rotate_left; focus (intro w hSw; (try dsimp only at hSw); (try simp only [zk1, zk2, zk3]); go_simp; try with_reducible rfl)); (try simp only [zk1, zk2, zk3]); (try simp only [Act.put, zk4, zk5, zk6])
    (refine wpAnyH_take (i := 9) (v := ?_) rfl (by kernel_rfl) (by kernel_rfl) (by kernel_rfl) (fun _ _ _ h => h) (Or.inl ⟨by rfl, ?_⟩) (by assumption) ?_; rotate_left; focus (intro w hSw; (try dsimp only at hSw); (try simp only [zk1, zk2, zk3]); go_simp; try with_reducible rfl)); (try simp only [zk1, zk2, zk3]); (try simp only [Act.put, zk4, zk5, zk6])
    (refine wpAnyH_ready (rs := [10]) (by kernel_rfl) (by simp) ?_; refine AllReadyH.cons rfl (fun K hK => ?_) AllReadyH.nil; (try simp only [zk1, zk2, zk3]))
    go_simp
    go_at_call 30
    refine (spec_SealAt _ _).mono ?_
    rintro e wb ⟨rfl, hwb⟩
    have yb : Ext wa wb := by
      rw [← hwb]
      exact (by repeat (first | (with_reducible first | exact Ext.refl _ | assumption | apply Ext.alloc | apply Ext.drew | apply Ext.drewN | refine Ext.setCell ?_ ?_ _ | refine Ext.trans ?_ (by assumption)) | (show _ ≤ _; first | omega | (dsimp only; omega) | (simp; done) | (simp; omega))))
    clear hwb
    replace P := P.ext yb
    have p0c := P.2.1 0 _ rfl
    have p1c := P.2.1 1 _ rfl
    have p2c := P.2.1 2 _ rfl
    have p3c := P.2.1 3 _ rfl
    have p4c := P.2.1 4 _ rfl
    have p5c := P.2.1 5 _ rfl
    have p6c := P.2.1 6 _ rfl
    have p7c := P.2.1 7 _ rfl
    (try dsimp only)
    refine hK.out _ _ (by exact ⟨p0c, p1c, p2c, p3c, p4c, p5c, p6c, p7c⟩) (fun hHeld => ?_)
    clear hK K
    (refine wpAnyH_take (i := 11) (v := .bool false) rfl (by kernel_rfl) (by kernel_rfl) (by kernel_rfl) (fun _ _ _ h => h) (Or.inl ⟨by rfl, ?_⟩) (by assumption) ?_; focus (intro w hSw; (try dsimp only at hSw); (try simp only [zk1, zk2, zk3]); go_simp; simp [HE.out])); (try simp only [zk1, zk2, zk3]); (try simp only [Act.put, zk4, zk5, zk6])
    (refine wpAnyH_take (i := 12) (v := ?_) rfl (by kernel_rfl) (by kernel_rfl) (by kernel_rfl) (fun _ _ _ h => h) (Or.inl ⟨by rfl, ?_⟩) (by assumption) ?_; rotate_left; focus (intro w hSw; (try dsimp only at hSw); (try simp only [zk1, zk2, zk3]); go_simp; try with_reducible rfl)); (try simp only [zk1, zk2, zk3]); (try simp only [Act.put, zk4, zk5, zk6])
    (refine wpAnyH_take (i := 13) (v := ?_) rfl (by kernel_rfl) (by kernel_rfl) (by kernel_rfl) (fun _ _ _ h => h) (Or.inl ⟨by rfl, ?_⟩) (by assumption) ?_; rotate_left; focus (intro w hSw; (try dsimp only at hSw); (try simp only [zk1, zk2, zk3]); go_simp; try with_reducible rfl)); (try simp only [zk1, zk2, zk3]); (try simp only [Act.put, zk4, zk5, zk6])
    (refine wpAnyH_take (i := 14) rfl (by kernel_rfl) (by kernel_rfl) (by kernel_rfl) (fun _ _ _ h => h) (Or.inr ⟨by rfl, rfl⟩) (by assumption) ?_); (try simp only [zk1, zk2, zk3]); (try simp only [Act.put, zk4, zk5, zk6])
    (refine wpAnyH_take (i := 15) rfl (by kernel_rfl) (by kernel_rfl) (by kernel_rfl) (fun _ _ _ h => h) (Or.inr ⟨by rfl, rfl⟩) (by assumption) ?_); (try simp only [zk1, zk2, zk3]); (try simp only [Act.put, zk4, zk5, zk6])
    (refine wpAnyH_take (i := 16) rfl (by kernel_rfl) (by kernel_rfl) (by kernel_rfl) (fun _ _ _ h => h) (Or.inr ⟨by rfl, rfl⟩) (by assumption) ?_); (try simp only [zk1, zk2, zk3]); (try simp only [Act.put, zk4, zk5, zk6])
    (refine wpAnyH_take (i := 17) rfl (by kernel_rfl) (by kernel_rfl) (by kernel_rfl) (fun _ _ _ h => h) (Or.inr ⟨by rfl, rfl⟩) (by assumption) ?_); (try simp only [zk1, zk2, zk3]); (try simp only [Act.put, zk4, zk5, zk6])
    (refine wpAnyH_take (i := 18) rfl (by kernel_rfl) (by kernel_rfl) (by kernel_rfl) (fun _ _ _ h => h) (Or.inr ⟨by rfl, rfl⟩) (by assumption) ?_); (try simp only [zk1, zk2, zk3]); (try simp only [Act.put, zk4, zk5, zk6])
    (refine wpAnyH_take (i := 19) rfl (by kernel_rfl) (by kernel_rfl) (by kernel_rfl) (fun _ _ _ h => h) (Or.inr ⟨by rfl, rfl⟩) (by assumption) ?_); (try simp only [zk1, zk2, zk3]); (try simp only [Act.put, zk4, zk5, zk6])
    (refine wpAnyH_take (i := 20) rfl (by kernel_rfl) (by kernel_rfl) (by kernel_rfl) (fun _ _ _ h => h) (Or.inr ⟨by rfl, rfl⟩) (by assumption) ?_); (try simp only [zk1, zk2, zk3]); (try simp only [Act.put, zk4, zk5, zk6])
    (refine wpAnyH_take (i := 21) (v := ?_) rfl (by kernel_rfl) (by kernel_rfl) (by kernel_rfl) (fun _ _ _ h => h) (Or.inl ⟨by rfl, ?_⟩) (by assumption) ?_; rotate_left; focus (intro w hSw; (try dsimp only at hSw); (try simp only [zk1, zk2, zk3]); go_simp; try with_reducible rfl)); (try simp only [zk1, zk2, zk3]); (try simp only [Act.put, zk4, zk5, zk6])
    (refine wpAnyH_take (i := 22) (v := ?_) rfl (by kernel_rfl) (by kernel_rfl) (by kernel_rfl) (fun _ _ _ h => h) (Or.inl ⟨by rfl, ?_⟩) (by assumption) ?_; rotate_left; focus (intro w hSw; (try dsimp only at hSw); (try simp only [zk1, zk2, zk3]); go_simp; try with_reducible rfl)); (try simp only [zk1, zk2, zk3]); (try simp only [Act.put, zk4, zk5, zk6])
    refine wpAnyH_done (by kernel_rfl) ?_ _
    go_wp2
    go_ret
    exact ⟨ret_bool HB.out.symm, (by repeat (first | (with_reducible first | exact Ext.refl _ | assumption | apply Ext.alloc | apply Ext.drew | apply Ext.drewN | refine Ext.setCell ?_ ?_ _ | refine Ext.trans ?_ (by assumption)) | (show _ ≤ _; first | omega | (dsimp only; omega) | (simp; done) | (simp; omega))))⟩
  have HB := Lib.hid (show sealOkB root hh ep r p s = sigOkB root (headH hh ep r p) s by rw [sealOkB, hh', decide_eq_true he]; rfl)
  have HH := Lib.hid hh'
  have HE := Lib.hid he
  have HS := Lib.hid (headH_le hh ep r p)
  generalize hR : sigOkB root (headH hh ep r p) s = R at HB
  have HR := Lib.hid hR
  clear hR
  clear hh' he
  go_enter Tryz.func17, Tryz.ntmps17
  go_wp2
  have P : Bx (w.alloc (Obj.cells #[.int .i64 hh, .int .i64 ep, .string r, .string p, .int .i64 s.at_, .slice a1 s.op.length c1, .slice a2 s.sh.length c2, .slice a3 s.si.length c3] 32)) w.heap.size [.int .i64 hh, .int .i64 ep, .string r, .string p, .int .i64 s.at_, .slice a1 s.op.length c1, .slice a2 s.sh.length c2, .slice a3 s.si.length c3] := Bx.new w _ _
  have x0 : Ext w (w.alloc (Obj.cells #[.int .i64 hh, .int .i64 ep, .string r, .string p, .int .i64 s.at_, .slice a1 s.op.length c1, .slice a2 s.sh.length c2, .slice a3 s.si.length c3] 32)) := (Ext.refl w).alloc _
  generalize (w.alloc (Obj.cells #[.int .i64 hh, .int .i64 ep, .string r, .string p, .int .i64 s.at_, .slice a1 s.op.length c1, .slice a2 s.sh.length c2, .slice a3 s.si.length c3] 32)) = W0 at *
  have p0c := P.2.1 0 _ rfl
  have p1c := P.2.1 1 _ rfl
  have p2c := P.2.1 2 _ rfl
  have p3c := P.2.1 3 _ rfl
  have p4c := P.2.1 4 _ rfl
  have p5c := P.2.1 5 _ rfl
  have p6c := P.2.1 6 _ rfl
  have p7c := P.2.1 7 _ rfl
  refine wp_region_held_drew (S := (fun W => W.cell? ⟨w.heap.size, 0, none⟩ = some (.int .i64 hh) ∧ W.cell? ⟨w.heap.size, 1, none⟩ = some (.int .i64 ep) ∧ W.cell? ⟨w.heap.size, 2, none⟩ = some (.string r) ∧ W.cell? ⟨w.heap.size, 3, none⟩ = some (.string p) ∧ W.cell? ⟨w.heap.size, 4, none⟩ = some (.int .i64 s.at_) ∧ W.cell? ⟨w.heap.size, 5, none⟩ = some (.slice a1 s.op.length c1) ∧ W.cell? ⟨w.heap.size, 6, none⟩ = some (.slice a2 s.sh.length c2) ∧ W.cell? ⟨w.heap.size, 7, none⟩ = some (.slice a3 s.si.length c3))) (by kernel_rfl) (by exact ⟨p0c, p1c, p2c, p3c, p4c, p5c, p6c, p7c⟩) (fun hHeld => ?_)
  (refine wpAnyH_take (i := 0) (v := ?_) rfl (by kernel_rfl) (by kernel_rfl) (by kernel_rfl) (fun _ _ _ h => h) (Or.inl ⟨by rfl, ?_⟩) (by assumption) ?_; rotate_left; focus (intro w hSw; (try dsimp only at hSw); (try simp only [zk1, zk2]); go_simp; try with_reducible rfl)); (try simp only [zk1, zk2]); (try simp only [Act.put, zk4, zk5, zk6])
  (refine wpAnyH_take (i := 1) (v := ?_) rfl (by kernel_rfl) (by kernel_rfl) (by kernel_rfl) (fun _ _ _ h => h) (Or.inl ⟨by rfl, ?_⟩) (by assumption) ?_; rotate_left; focus (intro w hSw; (try dsimp only at hSw); (try simp only [zk1, zk2, zk3]); go_simp; try with_reducible rfl)); (try simp only [zk1, zk2, zk3]); (try simp only [Act.put, zk4, zk5, zk6])
  (refine wpAnyH_ready (rs := [2]) (by kernel_rfl) (by simp) ?_; refine AllReadyH.cons rfl (fun K hK => ?_) AllReadyH.nil; (try simp only [zk1, zk2, zk3]))
  go_simp
  go_at_call 28
  refine (spec_HeadOk _ _ _ _ _).mono ?_
  rw [HH.out]
  rintro e wa ⟨rfl, xa⟩
  have ya : Ext W0 wa := (by repeat (first | (with_reducible first | exact Ext.refl _ | assumption | apply Ext.alloc | apply Ext.drew | apply Ext.drewN | refine Ext.setCell ?_ ?_ _ | refine Ext.trans ?_ (by assumption)) | (show _ ≤ _; first | omega | (dsimp only; omega) | (simp; done) | (simp; omega))))
  replace P := P.ext ya
  have p0c := P.2.1 0 _ rfl
  have p1c := P.2.1 1 _ rfl
  have p2c := P.2.1 2 _ rfl
  have p3c := P.2.1 3 _ rfl
  have p4c := P.2.1 4 _ rfl
  have p5c := P.2.1 5 _ rfl
  have p6c := P.2.1 6 _ rfl
  have p7c := P.2.1 7 _ rfl
  (try dsimp only)
  refine hK.out _ _ (by exact ⟨p0c, p1c, p2c, p3c, p4c, p5c, p6c, p7c⟩) (fun hHeld => ?_)
  clear hK K
  (refine wpAnyH_take (i := 3) (v := ?_) rfl (by kernel_rfl) (by kernel_rfl) (by kernel_rfl) (fun _ _ _ h => h) (Or.inl ⟨by rfl, ?_⟩) (by assumption) ?_; rotate_left; focus (intro w hSw; (try dsimp only at hSw); (try simp only [zk1, zk2, zk3]); go_simp; try with_reducible rfl)); (try simp only [zk1, zk2, zk3]); (try simp only [Act.put, zk4, zk5, zk6])
  (refine wpAnyH_take (i := 4) (v := ?_) rfl (by kernel_rfl) (by kernel_rfl) (by kernel_rfl) (fun _ _ _ h => h) (Or.inl ⟨by rfl, ?_⟩) (by assumption) ?_; rotate_left; focus (intro w hSw; (try dsimp only at hSw); (try simp only [zk1, zk2, zk3]); go_simp; try with_reducible rfl)); (try simp only [zk1, zk2, zk3]); (try simp only [Act.put, zk4, zk5, zk6])
  (refine wpAnyH_take (i := 5) (v := ?_) rfl (by kernel_rfl) (by kernel_rfl) (by kernel_rfl) (fun _ _ _ h => h) (Or.inl ⟨by rfl, ?_⟩) (by assumption) ?_; rotate_left; focus (intro w hSw; (try dsimp only at hSw); (try simp only [zk1, zk2, zk3]); go_simp; try with_reducible rfl)); (try simp only [zk1, zk2, zk3]); (try simp only [Act.put, zk4, zk5, zk6])
  (refine wpAnyH_take (i := 6) (v := ?_) rfl (by kernel_rfl) (by kernel_rfl) (by kernel_rfl) (fun _ _ _ h => h) (Or.inl ⟨by rfl, ?_⟩) (by assumption) ?_; rotate_left; focus (intro w hSw; (try dsimp only at hSw); (try simp only [zk1, zk2, zk3]); go_simp; try with_reducible rfl)); (try simp only [zk1, zk2, zk3]); (try simp only [Act.put, zk4, zk5, zk6])
  (refine wpAnyH_take (i := 7) (v := ?_) rfl (by kernel_rfl) (by kernel_rfl) (by kernel_rfl) (fun _ _ _ h => h) (Or.inl ⟨by rfl, ?_⟩) (by assumption) ?_; rotate_left; focus (intro w hSw; (try dsimp only at hSw); (try simp only [zk1, zk2, zk3]); go_simp; try with_reducible rfl)); (try simp only [zk1, zk2, zk3]); (try simp only [Act.put, zk4, zk5, zk6])
  (refine wpAnyH_take (i := 8) (v := ?_) rfl (by kernel_rfl) (by kernel_rfl) (by kernel_rfl) (fun _ _ _ h => h) (Or.inl ⟨by rfl, ?_⟩) (by assumption) ?_; rotate_left; focus (intro w hSw; (try dsimp only at hSw); (try simp only [zk1, zk2, zk3]); go_simp; try with_reducible rfl)); (try simp only [zk1, zk2, zk3]); (try simp only [Act.put, zk4, zk5, zk6])
  (refine wpAnyH_take (i := 9) (v := ?_) rfl (by kernel_rfl) (by kernel_rfl) (by kernel_rfl) (fun _ _ _ h => h) (Or.inl ⟨by rfl, ?_⟩) (by assumption) ?_; rotate_left; focus (intro w hSw; (try dsimp only at hSw); (try simp only [zk1, zk2, zk3]); go_simp; try with_reducible rfl)); (try simp only [zk1, zk2, zk3]); (try simp only [Act.put, zk4, zk5, zk6])
  (refine wpAnyH_ready (rs := [10]) (by kernel_rfl) (by simp) ?_; refine AllReadyH.cons rfl (fun K hK => ?_) AllReadyH.nil; (try simp only [zk1, zk2, zk3]))
  go_simp
  go_at_call 30
  refine (spec_SealAt _ _).mono ?_
  rintro e wb ⟨rfl, hwb⟩
  have yb : Ext wa wb := by
    rw [← hwb]
    exact (by repeat (first | (with_reducible first | exact Ext.refl _ | assumption | apply Ext.alloc | apply Ext.drew | apply Ext.drewN | refine Ext.setCell ?_ ?_ _ | refine Ext.trans ?_ (by assumption)) | (show _ ≤ _; first | omega | (dsimp only; omega) | (simp; done) | (simp; omega))))
  clear hwb
  replace P := P.ext yb
  have p0c := P.2.1 0 _ rfl
  have p1c := P.2.1 1 _ rfl
  have p2c := P.2.1 2 _ rfl
  have p3c := P.2.1 3 _ rfl
  have p4c := P.2.1 4 _ rfl
  have p5c := P.2.1 5 _ rfl
  have p6c := P.2.1 6 _ rfl
  have p7c := P.2.1 7 _ rfl
  (try dsimp only)
  refine hK.out _ _ (by exact ⟨p0c, p1c, p2c, p3c, p4c, p5c, p6c, p7c⟩) (fun hHeld => ?_)
  clear hK K
  (refine wpAnyH_take (i := 11) (v := .bool true) rfl (by kernel_rfl) (by kernel_rfl) (by kernel_rfl) (fun _ _ _ h => h) (Or.inl ⟨by rfl, ?_⟩) (by assumption) ?_; focus (intro w hSw; (try dsimp only at hSw); (try simp only [zk1, zk2, zk3]); go_simp; simp [HE.out])); (try simp only [zk1, zk2, zk3]); (try simp only [Act.put, zk4, zk5, zk6])
  (refine wpAnyH_take (i := 12) (v := ?_) rfl (by kernel_rfl) (by kernel_rfl) (by kernel_rfl) (fun _ _ _ h => h) (Or.inl ⟨by rfl, ?_⟩) (by assumption) ?_; rotate_left; focus (intro w hSw; (try dsimp only at hSw); (try simp only [zk1, zk2, zk3]); go_simp; try with_reducible rfl)); (try simp only [zk1, zk2, zk3]); (try simp only [Act.put, zk4, zk5, zk6])
  (refine wpAnyH_take (i := 13) (v := ?_) rfl (by kernel_rfl) (by kernel_rfl) (by kernel_rfl) (fun _ _ _ h => h) (Or.inl ⟨by rfl, ?_⟩) (by assumption) ?_; rotate_left; focus (intro w hSw; (try dsimp only at hSw); (try simp only [zk1, zk2, zk3]); go_simp; try with_reducible rfl)); (try simp only [zk1, zk2, zk3]); (try simp only [Act.put, zk4, zk5, zk6])
  (refine wpAnyH_take (i := 14) (v := ?_) rfl (by kernel_rfl) (by kernel_rfl) (by kernel_rfl) (fun _ _ _ h => h) (Or.inl ⟨by rfl, ?_⟩) (by assumption) ?_; rotate_left; focus (intro w hSw; (try dsimp only at hSw); (try simp only [zk1, zk2, zk3]); go_simp; try with_reducible rfl)); (try simp only [zk1, zk2, zk3]); (try simp only [Act.put, zk4, zk5, zk6])
  (refine wpAnyH_take (i := 15) (v := ?_) rfl (by kernel_rfl) (by kernel_rfl) (by kernel_rfl) (fun _ _ _ h => h) (Or.inl ⟨by rfl, ?_⟩) (by assumption) ?_; rotate_left; focus (intro w hSw; (try dsimp only at hSw); (try simp only [zk1, zk2, zk3]); go_simp; try with_reducible rfl)); (try simp only [zk1, zk2, zk3]); (try simp only [Act.put, zk4, zk5, zk6])
  (refine wpAnyH_take (i := 16) (v := ?_) rfl (by kernel_rfl) (by kernel_rfl) (by kernel_rfl) (fun _ _ _ h => h) (Or.inl ⟨by rfl, ?_⟩) (by assumption) ?_; rotate_left; focus (intro w hSw; (try dsimp only at hSw); (try simp only [zk1, zk2, zk3]); go_simp; try with_reducible rfl)); (try simp only [zk1, zk2, zk3]); (try simp only [Act.put, zk4, zk5, zk6])
  (refine wpAnyH_take (i := 18) (v := ?_) rfl (by kernel_rfl) (by kernel_rfl) (by kernel_rfl) (fun _ _ _ h => h) (Or.inl ⟨by rfl, ?_⟩) (by assumption) ?_; rotate_left; focus (intro w hSw; (try dsimp only at hSw); (try simp only [zk1, zk2, zk3]); go_simp; try with_reducible rfl)); (try simp only [zk1, zk2, zk3]); (try simp only [Act.put, zk4, zk5, zk6])
  (refine wpAnyH_take (i := 19) (v := ?_) rfl (by kernel_rfl) (by kernel_rfl) (by kernel_rfl) (fun _ _ _ h => h) (Or.inl ⟨by rfl, ?_⟩) (by assumption) ?_; rotate_left; focus (intro w hSw; (try dsimp only at hSw); (try simp only [zk1, zk2, zk3]); go_simp; try with_reducible rfl)); (try simp only [zk1, zk2, zk3]); (try simp only [Act.put, zk4, zk5, zk6])
  (refine wpAnyH_ready (rs := [17]) (by kernel_rfl) (by simp) ?_; refine AllReadyH.cons rfl (fun K hK => ?_) AllReadyH.nil; (try simp only [zk1, zk2, zk3]))
  go_simp
  go_at_call 31
  refine (spec_HeadHash _ _ _ _ _).mono ?_
  rintro e wc ⟨rfl, xc⟩
  have yc : Ext wb wc := (by repeat (first | (with_reducible first | exact Ext.refl _ | assumption | apply Ext.alloc | apply Ext.drew | apply Ext.drewN | refine Ext.setCell ?_ ?_ _ | refine Ext.trans ?_ (by assumption)) | (show _ ≤ _; first | omega | (dsimp only; omega) | (simp; done) | (simp; omega))))
  replace P := P.ext yc
  have p0c := P.2.1 0 _ rfl
  have p1c := P.2.1 1 _ rfl
  have p2c := P.2.1 2 _ rfl
  have p3c := P.2.1 3 _ rfl
  have p4c := P.2.1 4 _ rfl
  have p5c := P.2.1 5 _ rfl
  have p6c := P.2.1 6 _ rfl
  have p7c := P.2.1 7 _ rfl
  (try dsimp only)
  refine hK.out _ _ (by exact ⟨p0c, p1c, p2c, p3c, p4c, p5c, p6c, p7c⟩) (fun hHeld => ?_)
  clear hK K
  (refine wpAnyH_ready (rs := [20]) (by kernel_rfl) (by simp) ?_; refine AllReadyH.cons rfl (fun K hK => ?_) AllReadyH.nil; (try simp only [zk1, zk2, zk3]))
  go_simp
  go_at_call 46
  refine (spec_SigOk root _ _ _ _ s _ (h1.ext (by repeat (first | (with_reducible first | exact Ext.refl _ | assumption | apply Ext.alloc | apply Ext.drew | apply Ext.drewN | refine Ext.setCell ?_ ?_ _ | refine Ext.trans ?_ (by assumption)) | (show _ ≤ _; first | omega | (dsimp only; omega) | (simp; done) | (simp; omega))))) (h2.ext (by repeat (first | (with_reducible first | exact Ext.refl _ | assumption | apply Ext.alloc | apply Ext.drew | apply Ext.drewN | refine Ext.setCell ?_ ?_ _ | refine Ext.trans ?_ (by assumption)) | (show _ ≤ _; first | omega | (dsimp only; omega) | (simp; done) | (simp; omega))))) (h3.ext (by repeat (first | (with_reducible first | exact Ext.refl _ | assumption | apply Ext.alloc | apply Ext.drew | apply Ext.drewN | refine Ext.setCell ?_ ?_ _ | refine Ext.trans ?_ (by assumption)) | (show _ ≤ _; first | omega | (dsimp only; omega) | (simp; done) | (simp; omega))))) hs HS.out).mono ?_
  rw [HR.out]
  rintro e wd ⟨rfl, xd⟩
  have yd : Ext wc wd := (by repeat (first | (with_reducible first | exact Ext.refl _ | assumption | apply Ext.alloc | apply Ext.drew | apply Ext.drewN | refine Ext.setCell ?_ ?_ _ | refine Ext.trans ?_ (by assumption)) | (show _ ≤ _; first | omega | (dsimp only; omega) | (simp; done) | (simp; omega))))
  replace P := P.ext yd
  have p0c := P.2.1 0 _ rfl
  have p1c := P.2.1 1 _ rfl
  have p2c := P.2.1 2 _ rfl
  have p3c := P.2.1 3 _ rfl
  have p4c := P.2.1 4 _ rfl
  have p5c := P.2.1 5 _ rfl
  have p6c := P.2.1 6 _ rfl
  have p7c := P.2.1 7 _ rfl
  (try dsimp only)
  refine hK.out _ _ (by exact ⟨p0c, p1c, p2c, p3c, p4c, p5c, p6c, p7c⟩) (fun hHeld => ?_)
  clear hK K
  (refine wpAnyH_take (i := 21) (v := ?_) rfl (by kernel_rfl) (by kernel_rfl) (by kernel_rfl) (fun _ _ _ h => h) (Or.inl ⟨by rfl, ?_⟩) (by assumption) ?_; rotate_left; focus (intro w hSw; (try dsimp only at hSw); (try simp only [zk1, zk2, zk3]); go_simp; try with_reducible rfl)); (try simp only [zk1, zk2, zk3]); (try simp only [Act.put, zk4, zk5, zk6])
  (refine wpAnyH_take (i := 22) (v := ?_) rfl (by kernel_rfl) (by kernel_rfl) (by kernel_rfl) (fun _ _ _ h => h) (Or.inl ⟨by rfl, ?_⟩) (by assumption) ?_; rotate_left; focus (intro w hSw; (try dsimp only at hSw); (try simp only [zk1, zk2, zk3]); go_simp; try with_reducible rfl)); (try simp only [zk1, zk2, zk3]); (try simp only [Act.put, zk4, zk5, zk6])
  refine wpAnyH_done (by kernel_rfl) ?_ _
  go_wp2
  go_ret
  exact ⟨ret_bool HB.out.symm, (by repeat (first | (with_reducible first | exact Ext.refl _ | assumption | apply Ext.alloc | apply Ext.drew | apply Ext.drewN | refine Ext.setCell ?_ ?_ _ | refine Ext.trans ?_ (by assumption)) | (show _ ≤ _; first | omega | (dsimp only; omega) | (simp; done) | (simp; omega))))⟩
end Go.Proofs.YtkphipgfcbckcaaGreatDoor
