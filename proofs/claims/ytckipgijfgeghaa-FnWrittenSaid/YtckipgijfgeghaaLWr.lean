/- FnWritten: the walk. -/
import Derived.Test.YtckipgijfgeghaaWrL
import Derived.Test.YtckipgijfgeghaaCutA
import Derived.Test.YtckipgijfgeghaaDTx
import Derived.Test.YtckipgijfgeghaaSm
import Derived.Test.YtckipgijfgeghaaCurA
import Derived.Deep.DeepCutAuto
namespace Go.Proofs.Ytckipgijfgeghaa
open Go.RowKit

theorem strs_take {w : World} {a : Option Addr} {n c : Nat} {xs : List ByteArray} (h : Strs w (.slice a n c) xs) (m : Nat) (hm : m ≤ xs.length) : Strs w (.slice a m c) (xs.take m) := by
  obtain ⟨hl, a1, c1, hv, h1, h2, h3⟩ := h
  injection hv with e1 e2 e3
  subst e1 e2 e3
  have hml : (xs.take m).length = m := by rw [List.length_take]; omega
  refine ⟨by simp, a, c, by rw [hml], by omega, h2, ?_⟩
  rcases h3 with h0 | ⟨b, o, ha, hb, hc⟩
  · exact Or.inl (by omega)
  · refine Or.inr ⟨b, o, ha, hb, fun j u hu => hc j u ?_⟩
    rw [List.getElem?_map] at hu ⊢
    rw [List.getElem?_take] at hu
    split at hu
    · exact hu
    · simp at hu
set_option maxRecDepth 100000 in
set_option maxHeartbeats 12800000 in
theorem laws_FnWritten (v : Value) (bs : List Int) (w : World) (h : Code w w.heap.size v bs) :
    Calls Try.prog 4 #[v] w fun e w' => e = .returned (.bool true) ∧ Ext w w' := by
  have HC := Lib.hid h
  obtain ⟨a0, cap, rfl, -, -⟩ := id h
  by_cases hb : (1048576 : Int) < bs.length
  · go_enter Try.func4, Try.ntmps4
    go_wp2_with (go_at_call 15; refine (laws_big _ _ bs _ HC.out).mono ?_; rintro e w' ⟨rfl, rfl⟩)
    go_ret
    exact ⟨rfl, (by repeat (first | (with_reducible first | exact Ext.refl _ | assumption | apply Ext.alloc | apply Ext.drew | apply Ext.drewN | refine Ext.setCell ?_ ?_ _ | refine Ext.trans ?_ (by assumption)) | (show _ ≤ _; first | omega | (dsimp only; omega) | (simp; done) | (simp; omega))))⟩
  have hl : bs.length ≤ 1048576 := by omega
  clear h
  go_enter Try.func4, Try.ntmps4
  go_wp2_with fail
  refine (laws_big _ _ bs _ HC.out).mono ?_
  rintro e w' ⟨rfl, rfl⟩
  go_wp2_with fail
  refine (spec_DrawLogDisk _ bs _ HC.out hl).mono ?_
  rintro e w1 ⟨L, da, dc, rfl, hL4, hLs, oD, x1⟩
  obtain ⟨hr, hr9⟩ := small_ok hLs
  have hFL := frsT_len hr9
  have HR := Lib.hid hr
  have SD := own_solid oD
  have FD := Lib.hid (show Fls _ _ _ from Row.of_owns oD)
  have hD1 := logD_len L
  clear oD hr hr9 hLs
  have P := Bx.new w1 #[.slice da (logD L).length dc] 38
  have X : Ext w (w1.alloc (Obj.cells #[.slice da (logD L).length dc] 38)) := x1.alloc _
  have xa : Ext w1 (w1.alloc (Obj.cells #[.slice da (logD L).length dc] 38)) := (Ext.refl w1).alloc _
  replace FD := Lib.hid (FD.out.ext xa)
  have HCX := Lib.hid (HC.out.up (Nat.le_refl _) X X.size)
  clear x1 xa
  go_wp2_with fail
  generalize w1.alloc (Obj.cells #[.slice da (logD L).length dc] 38) = w2 at *
  generalize w1.heap.size = db at *
  refine (spec_DrawTextOf _ bs _ HCX.out hl).mono ?_
  rintro e w3 ⟨s0, rfl, hs0, x3⟩
  replace P := P.ext x3
  replace X := X.trans x3
  replace FD := Lib.hid (FD.out.ext x3)
  have hm : ¬ (9223372036854775807 < s0.size + (⟨#[120]⟩ : ByteArray).size) := by have : (⟨#[120]⟩ : ByteArray).size = 1 := rfl; omega
  have ht := app_size s0 ⟨#[120]⟩
  rw [show (⟨#[120]⟩ : ByteArray).size = 1 from rfl] at ht
  have HT := Lib.hid ht
  clear ht
  go_upto_region 5 with (fail)
  generalize s0 ++ (⟨#[120]⟩ : ByteArray) = t at *
  clear hm
  have ht := HT.out
  have hrt := recOk_true.2 (show 1 ≤ t.size ∧ t.size ≤ 9000 by omega)
  have HRT := Lib.hid hrt
  have hft := frT_len t (by omega)
  have hz : (frsT L ++ frT t).size ≤ 20000 := by rw [app_size]; omega
  have HZ := Lib.hid hz
  clear ht hrt hz hft
  have HFL := Lib.hid (show (frsT L).size ≤ 20000 by omega)
  clear hFL
  go_wp2_with fail
  refine (impl_LogActs t _ HRT.out).mono ?_
  rintro e w4 ⟨qa, rfl, hA, x4⟩
  have HA := Lib.hid hA
  clear hA
  replace P := P.ext x4
  replace X := X.trans x4
  replace FD := Lib.hid (FD.out.ext x4)
  have z0 := P.2.1 0 _ rfl
  go_wp2_with fail
  refine (impl_LogTexts_logD L _ _ FD.out HR.out HFL.out).mono ?_
  rintro e w5 ⟨ba, bc, rfl, hB, x5⟩
  have HB := Lib.hid hB
  clear hB z0
  replace P := P.ext x5
  replace X := X.trans x5
  replace FD := Lib.hid (FD.out.ext x5)
  replace HA := Lib.hid (HA.out.ext x5)
  have HCX2 := Lib.hid (HC.out.up (Nat.le_refl _) X X.size)
  go_wp2_with fail
  refine (spec_DrawPlaces2 _ bs _ HCX2.out hl).mono ?_
  rintro e w6 ⟨ys, pg, pc, rfl, hy, -, hpg, hcell, -, x6⟩
  have HY := Lib.hid hy
  have HP := Lib.hid hcell
  clear hy hcell HCX2 HCX
  replace P := P.ext x6
  replace X := X.trans x6
  replace FD := Lib.hid (FD.out.ext x6)
  replace HA := Lib.hid (HA.out.ext x6)
  replace HB := Lib.hid (HB.out.ext x6)
  obtain ⟨hbl, hbc⟩ : L.length ≤ bc ∧ bc ≤ maxLen := by have := HB.out; obtain ⟨-, a9, c9, hv9, h91, h92, -⟩ := this; injection hv9 with q1 q2 q3; omega
  unfold maxLen at hbc
  go_wp2
  go_loopw [9, 10, 11, 12, 13] (fun i _ _ _ _ wr => ∃ k : Nat, k ≤ 3 ∧ i = .int .i64 k ∧ Ext w6 wr) (fun i _ _ _ _ _ => 3 - (intOf i).toNat)
  case atStart => exact ⟨0, by omega, rfl, Ext.refl _⟩
  case round =>
    obtain ⟨k, hk, rfl, xr⟩ := hrel
    replace P := P.ext xr
    replace X := X.trans xr
    replace FD := Lib.hid (FD.out.ext xr)
    replace HA := Lib.hid (HA.out.ext xr)
    replace HB := Lib.hid (HB.out.ext xr)
    have XR := xr
    have HPr := Lib.hid (fun j (hj : j < 12) => (xr.cell pg j hpg).trans (HP.out j hj))
    have hpr := Nat.lt_of_lt_of_le hpg xr.size
    clear HP xr
    by_cases hk3 : k < 3
    · have HOK := Lib.hid (st_all HFL.out HZ.out k (by omega))
      go_upto_region 11 with (fail)
      go_cut [10, 11] (fun s10 s11 wx => ∃ yd, Lost (stL L t k) yd ∧ CutD wr wx s10 s11 yd (.bool true))
      case first =>
        have XL := Ext.refl wr
        have l_P := P.1
        refine wp_region_held_drew (S := (fun W => W.cell? ⟨db, 0, none⟩ = some (.slice da (logD L).length dc))) (by kernel_rfl) (by exact P.2.1 0 _ rfl) (fun hHeld => ?_)
        have xd : Ext wr wr.drew := (Ext.refl wr).drew
        replace P := P.ext xd
        replace XL := XL.trans xd
        generalize wr.drew = y0 at *
        (refine wpAnyH_take (i := 0) (v := ?_) rfl (by kernel_rfl) (by kernel_rfl) (by kernel_rfl) (fun _ _ _ h => h) (Or.inl ⟨by rfl, ?_⟩) (by assumption) ?_; rotate_left; focus (intro w hSw; (try dsimp only at hSw); (try simp only [zk1, zk2]); go_simp; try with_reducible rfl)); (try simp only [zk1, zk2]); (try simp only [Act.put, zk4, zk5, zk6])
        (refine wpAnyH_take (i := 1) (v := ?_) rfl (by kernel_rfl) (by kernel_rfl) (by kernel_rfl) (fun _ _ _ h => h) (Or.inl ⟨by rfl, ?_⟩) (by assumption) ?_; rotate_left; focus (intro w hSw; (try dsimp only at hSw); (try simp only [zk1, zk2, zk3]); go_simp; try with_reducible rfl)); (try simp only [zk1, zk2, zk3]); (try simp only [Act.put, zk4, zk5, zk6])
        (refine wpAnyH_take (i := 2) (v := ?_) rfl (by kernel_rfl) (by kernel_rfl) (by kernel_rfl) (fun _ _ _ h => h) (Or.inl ⟨by rfl, ?_⟩) (by assumption) ?_; rotate_left; focus (intro w hSw; (try dsimp only at hSw); (try simp only [zk1, zk2, zk3]); go_simp; try with_reducible rfl)); (try simp only [zk1, zk2, zk3]); (try simp only [Act.put, zk4, zk5, zk6])
        (refine wpAnyH_take (i := 3) (v := ?_) rfl (by kernel_rfl) (by kernel_rfl) (by kernel_rfl) (fun _ _ _ h => h) (Or.inl ⟨by rfl, ?_⟩) (by assumption) ?_; rotate_left; focus (intro w hSw; (try dsimp only at hSw); (try simp only [zk1, zk2, zk3]); go_simp; try with_reducible rfl)); (try simp only [zk1, zk2, zk3]); (try simp only [Act.put, zk4, zk5, zk6])
        refine wpAnyH_ready (rs := [4, 9]) (by kernel_rfl) (by simp) ?_
        refine AllReadyH.cons rfl (fun K hK => ?_) (AllReadyH.cons rfl (fun K hK => ?_) AllReadyH.nil)
        · (try simp only [zk1, zk2, zk3])
          go_simp
          go_at_call 22
          refine (laws_lefts pg pc ys _ (Nat.lt_of_lt_of_le hpr XL.size) HY.out (fun j hj => (XL.cell pg j hpr).trans (HPr.out j hj))).mono ?_
          rintro e y1 ⟨js, ja, jc, rfl, hj6, oj, x1⟩
          have HJ := Lib.hid (show Row _ 1 _ 6 (js.map (Value.int .i64)) from Row.of_owns oj)
          have HJ6 := Lib.hid hj6
          clear oj hj6
          replace P := P.ext x1
          replace XL := XL.trans x1
          (try dsimp only)
          refine hK.out _ _ (by exact P.2.1 0 _ rfl) (fun hHeld => ?_)
          clear hK K
          refine wpAnyH_ready (rs := [5, 9]) (by kernel_rfl) (by simp) ?_
          refine AllReadyH.cons rfl (fun K hK => ?_) (AllReadyH.cons rfl (fun K hK => ?_) AllReadyH.nil)
          · (try simp only [zk1, zk2, zk3])
            go_simp
            go_at_call 21
            refine (impl_CutActs _ _ _ (logQ t) (stL L t) js k (show k ≤ 2 by omega) _ (FD.out.ext XL) SD (show (logD L).length ≤ 30 by omega) (HA.out.ext XL) (steps_I HZ.out) HOK.out.1 HOK.out.2.1 (by rw [HJ6.out]; exact HJ.out) HOK.out.2.2.1 HOK.out.2.2.2).mono ?_
            rintro e y2 ⟨yd, oa, oc, rfl, ow, hLo, x1⟩
            have HLO := Lib.hid hLo
            clear hLo
            have OWL := own_lt ow
            have sw := XL.size
            have OW := Lib.hid (own_mono ow sw)
            clear ow sw
            replace P := P.ext x1
            replace XL := XL.trans x1
            replace HJ := Lib.hid (HJ.out.ext x1)
            (try dsimp only)
            refine hK.out _ _ (by exact P.2.1 0 _ rfl) (fun hHeld => ?_)
            clear hK K
            (refine wpAnyH_take (i := 6) (v := ?_) rfl (by kernel_rfl) (by kernel_rfl) (by kernel_rfl) (fun _ _ _ h => h) (Or.inl ⟨by rfl, ?_⟩) (by assumption) ?_; rotate_left; focus (intro w hSw; (try dsimp only at hSw); (try simp only [zk1, zk2, zk3]); go_simp; try with_reducible rfl)); (try simp only [zk1, zk2, zk3]); (try simp only [Act.put, zk4, zk5, zk6])
            (refine wpAnyH_take (i := 7) (v := ?_) rfl (by kernel_rfl) (by kernel_rfl) (by kernel_rfl) (fun _ _ _ h => h) (Or.inl ⟨by rfl, ?_⟩) (by assumption) ?_; rotate_left; focus (intro w hSw; (try dsimp only at hSw); (try simp only [zk1, zk2, zk3]); go_simp; try with_reducible rfl)); (try simp only [zk1, zk2, zk3]); (try simp only [Act.put, zk4, zk5, zk6])
            (refine wpAnyH_take (i := 8) (v := ?_) rfl (by kernel_rfl) (by kernel_rfl) (by kernel_rfl) (fun _ _ _ h => h) (Or.inl ⟨by rfl, ?_⟩) (by assumption) ?_; rotate_left; focus (intro w hSw; (try dsimp only at hSw); (try simp only [zk1, zk2, zk3]); go_simp; try with_reducible rfl)); (try simp only [zk1, zk2, zk3]); (try simp only [Act.put, zk4, zk5, zk6])
            refine wpAnyH_ready (rs := [9]) (by kernel_rfl) (by simp) ?_
            refine AllReadyH.cons rfl (fun K hK => ?_) AllReadyH.nil
            have hne : (Value.slice oa yd.length oc).ownBlock ≠ some y2.heap.size := fun e => by have := (OWL _ e).2; omega
            have OW := Lib.hid (own_alloc OW.out (Obj.cells #[.slice none 0 0] 38))
            (try simp only [zk1, zk2, zk3])
            go_simp
            have ez : Ext y2 (y2.alloc (Obj.cells #[.slice none 0 0] 38)) := (Ext.refl _).alloc _
            have Q := Bx.new y2 #[.slice none 0 0] 38
            have lq : wr.heap.size ≤ y2.heap.size := XL.size
            replace P := P.ext ez
            replace XL := XL.trans ez
            replace HJ := Lib.hid (HJ.out.ext ez)
            generalize y2.alloc (Obj.cells #[.slice none 0 0] 38) = y3 at *
            generalize hqb : y2.heap.size = qb at *
            have HQB := Lib.hid hqb
            clear hqb
            (try dsimp only)
            refine hK.out _ _ (by exact P.2.1 0 _ rfl) (fun hHeld => ?_)
            clear hK K
            have z0 := Q.2.1 0 _ rfl
            have f0 := Q.2.2 0
            have QQ := Q.set 0 (.slice oa yd.length oc) (by simp)
            have XQ := XL.setCell (p := ⟨qb, 0, none⟩) (by dsimp only; omega) (.slice oa yd.length oc)
            have OQ := Lib.hid (own_far OW.out (b := qb) (o := 0) (fun k e e2 => by subst e2; exact hne e) (.slice oa yd.length oc))
            have Pf := P.far (c := qb) (by omega) 0 (.slice oa yd.length oc)
            (refine wpAnyH_ready (rs := [10]) (by kernel_rfl) (by simp) ?_; refine AllReadyH.cons rfl (fun K hK => ?_) AllReadyH.nil; (try simp only [zk1, zk2, zk3]))
            go_simp
            clear z0 f0
            clear P
            have P := Pf
            clear Pf
            generalize y3.setCell ⟨qb, 0, none⟩ (.slice oa yd.length oc) = WF at *
            have XL := XQ
            (try dsimp only)
            refine hK.out _ _ (by exact P.2.1 0 _ rfl) (fun hHeld => ?_)
            clear hK K
            (refine wpAnyH_take (i := 11) (v := ?_) rfl (by kernel_rfl) (by kernel_rfl) (by kernel_rfl) (fun _ _ _ h => h) (Or.inl ⟨by rfl, ?_⟩) (by assumption) ?_; rotate_left; focus (intro w hSw; (try dsimp only at hSw); (try simp only [zk1, zk2, zk3]); go_simp; try with_reducible rfl)); (try simp only [zk1, zk2, zk3]); (try simp only [Act.put, zk4, zk5, zk6])
            refine wpAnyH_done (by kernel_rfl) ?_ _
            go_wp2_with fail
            go_meet
            exact ⟨yd, HLO.out, qb, oa, oc, rfl, rfl, lq, QQ, OQ.out, hne, XQ⟩
          · (try simp only [zk1, zk2, zk3])
            go_simp
            have ez : Ext y1 (y1.alloc (Obj.cells #[.slice none 0 0] 38)) := (Ext.refl _).alloc _
            have Q := Bx.new y1 #[.slice none 0 0] 38
            have lq : wr.heap.size ≤ y1.heap.size := XL.size
            replace P := P.ext ez
            replace XL := XL.trans ez
            replace HJ := Lib.hid (HJ.out.ext ez)
            generalize y1.alloc (Obj.cells #[.slice none 0 0] 38) = y4 at *
            generalize hqb : y1.heap.size = qb at *
            have HQB := Lib.hid hqb
            clear hqb
            (try dsimp only)
            refine hK.out _ _ (by exact P.2.1 0 _ rfl) (fun hHeld => ?_)
            clear hK K
            refine wpAnyH_ready (rs := [5]) (by kernel_rfl) (by simp) ?_
            refine AllReadyH.cons rfl (fun K hK => ?_) AllReadyH.nil
            (try simp only [zk1, zk2, zk3])
            go_simp
            go_at_call 21
            refine (impl_CutActs _ _ _ (logQ t) (stL L t) js k (show k ≤ 2 by omega) _ (FD.out.ext XL) SD (show (logD L).length ≤ 30 by omega) (HA.out.ext XL) (steps_I HZ.out) HOK.out.1 HOK.out.2.1 (by rw [HJ6.out]; exact HJ.out) HOK.out.2.2.1 HOK.out.2.2.2).mono ?_
            rintro e y5 ⟨yd, oa, oc, rfl, ow, hLo, x1⟩
            have HLO := Lib.hid hLo
            clear hLo
            have OWL := own_lt ow
            have sw := XL.size
            have lqs := Q.1
            have OW := Lib.hid (own_mono ow sw)
            clear ow sw
            replace P := P.ext x1
            replace XL := XL.trans x1
            replace HJ := Lib.hid (HJ.out.ext x1)
            replace Q := Q.ext x1
            (try dsimp only)
            refine hK.out _ _ (by exact P.2.1 0 _ rfl) (fun hHeld => ?_)
            clear hK K
            have hne : (Value.slice oa yd.length oc).ownBlock ≠ some qb := fun e => by have := (OWL _ e).1; omega
            (refine wpAnyH_take (i := 6) (v := ?_) rfl (by kernel_rfl) (by kernel_rfl) (by kernel_rfl) (fun _ _ _ h => h) (Or.inl ⟨by rfl, ?_⟩) (by assumption) ?_; rotate_left; focus (intro w hSw; (try dsimp only at hSw); (try simp only [zk1, zk2, zk3]); go_simp; try with_reducible rfl)); (try simp only [zk1, zk2, zk3]); (try simp only [Act.put, zk4, zk5, zk6])
            (refine wpAnyH_take (i := 7) (v := ?_) rfl (by kernel_rfl) (by kernel_rfl) (by kernel_rfl) (fun _ _ _ h => h) (Or.inl ⟨by rfl, ?_⟩) (by assumption) ?_; rotate_left; focus (intro w hSw; (try dsimp only at hSw); (try simp only [zk1, zk2, zk3]); go_simp; try with_reducible rfl)); (try simp only [zk1, zk2, zk3]); (try simp only [Act.put, zk4, zk5, zk6])
            (refine wpAnyH_take (i := 8) (v := ?_) rfl (by kernel_rfl) (by kernel_rfl) (by kernel_rfl) (fun _ _ _ h => h) (Or.inl ⟨by rfl, ?_⟩) (by assumption) ?_; rotate_left; focus (intro w hSw; (try dsimp only at hSw); (try simp only [zk1, zk2, zk3]); go_simp; try with_reducible rfl)); (try simp only [zk1, zk2, zk3]); (try simp only [Act.put, zk4, zk5, zk6])
            have z0 := Q.2.1 0 _ rfl
            have f0 := Q.2.2 0
            have QQ := Q.set 0 (.slice oa yd.length oc) (by simp)
            have XQ := XL.setCell (p := ⟨qb, 0, none⟩) (by dsimp only; omega) (.slice oa yd.length oc)
            have OQ := Lib.hid (own_far OW.out (b := qb) (o := 0) (fun k e e2 => by subst e2; exact hne e) (.slice oa yd.length oc))
            have Pf := P.far (c := qb) (by omega) 0 (.slice oa yd.length oc)
            (refine wpAnyH_ready (rs := [10]) (by kernel_rfl) (by simp) ?_; refine AllReadyH.cons rfl (fun K hK => ?_) AllReadyH.nil; (try simp only [zk1, zk2, zk3]))
            go_simp
            clear z0 f0
            clear P
            have P := Pf
            clear Pf
            generalize y5.setCell ⟨qb, 0, none⟩ (.slice oa yd.length oc) = WF at *
            have XL := XQ
            (try dsimp only)
            refine hK.out _ _ (by exact P.2.1 0 _ rfl) (fun hHeld => ?_)
            clear hK K
            (refine wpAnyH_take (i := 11) (v := ?_) rfl (by kernel_rfl) (by kernel_rfl) (by kernel_rfl) (fun _ _ _ h => h) (Or.inl ⟨by rfl, ?_⟩) (by assumption) ?_; rotate_left; focus (intro w hSw; (try dsimp only at hSw); (try simp only [zk1, zk2, zk3]); go_simp; try with_reducible rfl)); (try simp only [zk1, zk2, zk3]); (try simp only [Act.put, zk4, zk5, zk6])
            refine wpAnyH_done (by kernel_rfl) ?_ _
            go_wp2_with fail
            go_meet
            exact ⟨yd, HLO.out, qb, oa, oc, rfl, rfl, lq, QQ, OQ.out, hne, XQ⟩
        · (try simp only [zk1, zk2, zk3])
          go_simp
          have ez : Ext y0 (y0.alloc (Obj.cells #[.slice none 0 0] 38)) := (Ext.refl _).alloc _
          have Q := Bx.new y0 #[.slice none 0 0] 38
          have lq : wr.heap.size ≤ y0.heap.size := XL.size
          replace P := P.ext ez
          replace XL := XL.trans ez
          generalize y0.alloc (Obj.cells #[.slice none 0 0] 38) = y6 at *
          generalize hqb : y0.heap.size = qb at *
          have HQB := Lib.hid hqb
          clear hqb
          (try dsimp only)
          refine hK.out _ _ (by exact P.2.1 0 _ rfl) (fun hHeld => ?_)
          clear hK K
          refine wpAnyH_ready (rs := [4]) (by kernel_rfl) (by simp) ?_
          refine AllReadyH.cons rfl (fun K hK => ?_) AllReadyH.nil
          (try simp only [zk1, zk2, zk3])
          go_simp
          go_at_call 22
          refine (laws_lefts pg pc ys _ (Nat.lt_of_lt_of_le hpr XL.size) HY.out (fun j hj => (XL.cell pg j hpr).trans (HPr.out j hj))).mono ?_
          rintro e y7 ⟨js, ja, jc, rfl, hj6, oj, x1⟩
          have HJ := Lib.hid (show Row _ 1 _ 6 (js.map (Value.int .i64)) from Row.of_owns oj)
          have HJ6 := Lib.hid hj6
          clear oj hj6
          replace P := P.ext x1
          replace XL := XL.trans x1
          replace Q := Q.ext x1
          (try dsimp only)
          refine hK.out _ _ (by exact P.2.1 0 _ rfl) (fun hHeld => ?_)
          clear hK K
          refine wpAnyH_ready (rs := [5]) (by kernel_rfl) (by simp) ?_
          refine AllReadyH.cons rfl (fun K hK => ?_) AllReadyH.nil
          (try simp only [zk1, zk2, zk3])
          go_simp
          go_at_call 21
          refine (impl_CutActs _ _ _ (logQ t) (stL L t) js k (show k ≤ 2 by omega) _ (FD.out.ext XL) SD (show (logD L).length ≤ 30 by omega) (HA.out.ext XL) (steps_I HZ.out) HOK.out.1 HOK.out.2.1 (by rw [HJ6.out]; exact HJ.out) HOK.out.2.2.1 HOK.out.2.2.2).mono ?_
          rintro e y8 ⟨yd, oa, oc, rfl, ow, hLo, x1⟩
          have HLO := Lib.hid hLo
          clear hLo
          have OWL := own_lt ow
          have sw := XL.size
          have lqs := Q.1
          have OW := Lib.hid (own_mono ow sw)
          clear ow sw
          replace P := P.ext x1
          replace XL := XL.trans x1
          replace Q := Q.ext x1
          replace HJ := Lib.hid (HJ.out.ext x1)
          (try dsimp only)
          refine hK.out _ _ (by exact P.2.1 0 _ rfl) (fun hHeld => ?_)
          clear hK K
          have hne : (Value.slice oa yd.length oc).ownBlock ≠ some qb := fun e => by have := (OWL _ e).1; omega
          (refine wpAnyH_take (i := 6) (v := ?_) rfl (by kernel_rfl) (by kernel_rfl) (by kernel_rfl) (fun _ _ _ h => h) (Or.inl ⟨by rfl, ?_⟩) (by assumption) ?_; rotate_left; focus (intro w hSw; (try dsimp only at hSw); (try simp only [zk1, zk2, zk3]); go_simp; try with_reducible rfl)); (try simp only [zk1, zk2, zk3]); (try simp only [Act.put, zk4, zk5, zk6])
          (refine wpAnyH_take (i := 7) (v := ?_) rfl (by kernel_rfl) (by kernel_rfl) (by kernel_rfl) (fun _ _ _ h => h) (Or.inl ⟨by rfl, ?_⟩) (by assumption) ?_; rotate_left; focus (intro w hSw; (try dsimp only at hSw); (try simp only [zk1, zk2, zk3]); go_simp; try with_reducible rfl)); (try simp only [zk1, zk2, zk3]); (try simp only [Act.put, zk4, zk5, zk6])
          (refine wpAnyH_take (i := 8) (v := ?_) rfl (by kernel_rfl) (by kernel_rfl) (by kernel_rfl) (fun _ _ _ h => h) (Or.inl ⟨by rfl, ?_⟩) (by assumption) ?_; rotate_left; focus (intro w hSw; (try dsimp only at hSw); (try simp only [zk1, zk2, zk3]); go_simp; try with_reducible rfl)); (try simp only [zk1, zk2, zk3]); (try simp only [Act.put, zk4, zk5, zk6])
          have z0 := Q.2.1 0 _ rfl
          have f0 := Q.2.2 0
          have QQ := Q.set 0 (.slice oa yd.length oc) (by simp)
          have XQ := XL.setCell (p := ⟨qb, 0, none⟩) (by dsimp only; omega) (.slice oa yd.length oc)
          have OQ := Lib.hid (own_far OW.out (b := qb) (o := 0) (fun k e e2 => by subst e2; exact hne e) (.slice oa yd.length oc))
          have Pf := P.far (c := qb) (by omega) 0 (.slice oa yd.length oc)
          (refine wpAnyH_ready (rs := [10]) (by kernel_rfl) (by simp) ?_; refine AllReadyH.cons rfl (fun K hK => ?_) AllReadyH.nil; (try simp only [zk1, zk2, zk3]))
          go_simp
          clear z0 f0
          clear P
          have P := Pf
          clear Pf
          generalize y8.setCell ⟨qb, 0, none⟩ (.slice oa yd.length oc) = WF at *
          have XL := XQ
          (try dsimp only)
          refine hK.out _ _ (by exact P.2.1 0 _ rfl) (fun hHeld => ?_)
          clear hK K
          (refine wpAnyH_take (i := 11) (v := ?_) rfl (by kernel_rfl) (by kernel_rfl) (by kernel_rfl) (fun _ _ _ h => h) (Or.inl ⟨by rfl, ?_⟩) (by assumption) ?_; rotate_left; focus (intro w hSw; (try dsimp only at hSw); (try simp only [zk1, zk2, zk3]); go_simp; try with_reducible rfl)); (try simp only [zk1, zk2, zk3]); (try simp only [Act.put, zk4, zk5, zk6])
          refine wpAnyH_done (by kernel_rfl) ?_ _
          go_wp2_with fail
          go_meet
          exact ⟨yd, HLO.out, qb, oa, oc, rfl, rfl, lq, QQ, OQ.out, hne, XQ⟩
      case rest =>
        obtain ⟨yd, hLo, qb, oa, oc, rfl, rfl, lq, Q, OW, hne, x2⟩ := hcut
        have HLO := Lib.hid hLo
        have FO := Lib.hid OW.fls
        have hpr2 := x2.size
        clear OW hne lq hLo HOK HPr
        replace P := P.ext x2
        replace X := X.trans x2
        replace FD := Lib.hid (FD.out.ext x2)
        replace HA := Lib.hid (HA.out.ext x2)
        replace HB := Lib.hid (HB.out.ext x2)
        replace XR := XR.trans x2
        have z0 := Q.2.1 0 _ rfl
        go_wp2_with fail
        refine (impl_LogTexts_lost (L := L) (s := t) (m := k) _ _ (by omega) HLO.out FO.out HR.out HRT.out (by rw [frsT_snoc]; exact HZ.out)).mono ?_
        rintro e w8 ⟨ss, na, nc, rfl, hN, hss, hs2, x8⟩
        have HN := Lib.hid hN
        clear hN z0 Q FO HLO
        replace P := P.ext x8
        replace X := X.trans x8
        replace FD := Lib.hid (FD.out.ext x8)
        replace HA := Lib.hid (HA.out.ext x8)
        replace HB := Lib.hid (HB.out.ext x8)
        replace XR := XR.trans x8
        have HK2 := Lib.hid hs2
        clear hs2
        obtain ⟨hnl, hnc, hncm⟩ : ss.length ≤ nc ∧ nc ≤ maxLen ∧ True := by have := HN.out; obtain ⟨-, a9, c9, hv9, h91, h92, -⟩ := this; injection hv9 with q1 q2 q3; exact ⟨by omega, by omega, trivial⟩
        unfold maxLen at hnc
        rcases hss with rfl | rfl
        · have hk2 : k ≠ 2 := fun e => by have := congrArg List.length (HK2.out e); simp at this
          have d1 : ((ss.length : Int) != ss.length) = false := by simp
          have b1 : (0 : Int) ≤ ss.length := by omega
          have b2 : (ss.length : Int) ≤ nc := by omega
          have d2 : decide ((ss.length : Int) < ss.length) = false := by simp
          have d3 : ((k : Int) == 2) = false := by rw [beq_eq_false_iff_ne]; omega
          have d4 : ((ss.length : Int) == ss.length) = true := by simp
          go_wp2_with fail
          refine (laws_sameTexts _ _ ss ss _ HN.out HB.out).mono ?_
          rw [show decide (ss = ss) = true from decide_eq_true rfl]
          rintro e w9 ⟨rfl, x9⟩
          replace P := P.ext x9
          replace X := X.trans x9
          replace FD := Lib.hid (FD.out.ext x9)
          replace HA := Lib.hid (HA.out.ext x9)
          replace HB := Lib.hid (HB.out.ext x9)
          replace XR := XR.trans x9
          go_wp2
          go_roundw
          case rel => exact ⟨k + 1, by omega, by go_num, XR⟩
          case measure => simp [intOf]; omega
        · have hlen : (L ++ [t]).length = L.length + 1 := by simp
          have HN2 := Lib.hid (show Strs w8 (.slice na (L.length + 1) nc) (L ++ [t]) by rw [← hlen]; exact HN.out)
          have HTK := Lib.hid (show Strs w8 (.slice na L.length nc) L by have := strs_take HN2.out L.length (by omega); rwa [List.take_left] at this)
          obtain ⟨nb, no, rfl, hnb, e1⟩ : ∃ nb no, na = some ⟨nb, no, none⟩ ∧ nb < w8.heap.size ∧ w8.cell? ⟨nb, no + L.length, none⟩ = some (.string t) := by
            obtain ⟨-, a9, c9, hv9, -, -, h9⟩ := HN2.out
            injection hv9 with q1 q2 q3
            subst q1
            rcases h9 with h9 | ⟨nb, no, q4, hnb, h9⟩
            · omega
            · exact ⟨nb, no, q4, hnb, h9 L.length _ (by simp)⟩
          rw [hlen] at hnl
          clear hlen HN2 HN
          have d1 : ((L.length : Int) + 1 != L.length) = true := by rw [bne_iff_ne]; omega
          have d1b : ((L.length : Int) + 1 != (L.length : Int) + 1) = false := by simp
          have b1 : (0 : Int) ≤ L.length := by omega
          have b2 : (L.length : Int) ≤ nc := by omega
          have b3 : (L.length : Int) < (L.length : Int) + 1 := by omega
          have d2 : decide ((L.length : Int) < (L.length : Int) + 1) = true := decide_eq_true (by omega)
          have d4 : ((L.length : Int) + 1 == L.length) = false := by rw [beq_eq_false_iff_ne]; omega
          have d5 : (t.toList != t.toList) = false := by simp
          cases d3 : ((k : Int) == 2)
          · go_wp2_with fail
            refine (laws_sameTexts _ _ L L _ HTK.out HB.out).mono ?_
            rw [show decide (L = L) = true from decide_eq_true rfl]
            rintro e w9 ⟨rfl, x9⟩
            replace e1 := (x9.cell nb _ hnb).trans e1
            replace P := P.ext x9
            replace X := X.trans x9
            replace FD := Lib.hid (FD.out.ext x9)
            replace HA := Lib.hid (HA.out.ext x9)
            replace HB := Lib.hid (HB.out.ext x9)
            replace XR := XR.trans x9
            go_wp2
            go_roundw
            case rel => exact ⟨k + 1, by omega, by go_num, XR⟩
            case measure => simp [intOf]; omega
          · go_wp2_with fail
            refine (laws_sameTexts _ _ L L _ HTK.out HB.out).mono ?_
            rw [show decide (L = L) = true from decide_eq_true rfl]
            rintro e w9 ⟨rfl, x9⟩
            replace e1 := (x9.cell nb _ hnb).trans e1
            replace P := P.ext x9
            replace X := X.trans x9
            replace FD := Lib.hid (FD.out.ext x9)
            replace HA := Lib.hid (HA.out.ext x9)
            replace HB := Lib.hid (HB.out.ext x9)
            replace XR := XR.trans x9
            go_wp2
            go_roundw
            case rel => exact ⟨k + 1, by omega, by go_num, XR⟩
            case measure => simp [intOf]; omega
    · obtain rfl : k = 3 := by omega
      have X9 := X
      clear P FD HA HB HPr
      go_wp2
      go_ret
      exact ⟨rfl, X9⟩
end Go.Proofs.Ytckipgijfgeghaa
