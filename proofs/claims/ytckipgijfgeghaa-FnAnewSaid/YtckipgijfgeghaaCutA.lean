/- Operations on a disk that are cut short by a loss of power: the program. -/
import Derived.Test.YtckipgijfgeghaaLose
import Derived.Test.YtckipgijfgeghaaDskP
import Derived.Deep.DeepCutAuto
namespace Go.Proofs.Ytckipgijfgeghaa
open Go.RowKit

theorem acs_take {w : World} {a : Option Addr} {n c : Nat} {qs : List ActV} (h : Acs w (.slice a n c) qs) (m : Nat) (hm : m ≤ qs.length) : Acs w (.slice a m c) (qs.take m) := by
  obtain ⟨hl, a1, c1, hv, h1, h2, h3⟩ := h
  injection hv with e1 e2 e3
  subst e1 e2 e3
  have hml : (qs.take m).length = m := by rw [List.length_take]; omega
  refine ⟨by rw [flat_length ActV.cells_len], a, c, by rw [hml], by omega, h2, ?_⟩
  rcases h3 with h0 | ⟨b, o, ha, hb, hc⟩
  · exact Or.inl (by omega)
  · refine Or.inr ⟨b, o, ha, hb, fun j u hu => hc j u ?_⟩
    have e : qs.flatMap ActV.cells = (qs.take m).flatMap ActV.cells ++ (qs.drop m).flatMap ActV.cells := by rw [← List.flatMap_append, List.take_append_drop]
    rw [e, List.getElem?_append_left (List.getElem?_eq_some_iff.1 hu).1]
    exact hu
theorem steps_take {qs : List ActV} {st : Nat → List Fil} (h : StepsI qs st) (m : Nat) : StepsI (qs.take m) st := by
  intro k hk a c w hf hs
  rw [List.length_take] at hk
  have := h k (by omega) a c w hf hs
  simpa using this
set_option maxRecDepth 100000 in
set_option maxHeartbeats 3200000 in
theorem impl_CutActs (v l lf : Value) (qs : List ActV) (st : Nat → List Fil) (js : List Int) (m : Nat) (hm : m ≤ qs.length) (w : World) (h : Fls w v (st 0)) (hv : Solid v) (hb : (st 0).length ≤ 30) (hl : Acs w l qs) (hs : StepsI qs st)
    (ho : diskOk (st m) = true) (hbm : (st m).length ≤ 30) (hj : Row w 1 lf js.length (js.map (Value.int .i64))) (hf : ∀ f ∈ st m, 0 ≤ f.kept ∧ f.kept ≤ f.text.size ∧ f.text.size ≤ 20000) (hft : FilFit (st m)) :
    Calls Try.prog 21 #[.agg #[v], l, .int .i64 m, lf] w fun e w' => ∃ (ys : List Fil) (a : Option Addr) (c : Nat), e = .returned (.tuple #[.agg #[.slice a ys.length c], .bool true]) ∧ OwnFls w' w.heap.size (.slice a ys.length c) ys ∧ Lost (st m) ys ∧ Ext w w' := by
  have HS := Lib.hid (steps_take hs m)
  clear hs
  have HF := Lib.hid hf
  have HO := Lib.hid ho
  clear hf ho
  have HI := Lib.hid (inB_true.2 (show (0 : Int) ≤ m ∧ (m : Int) ≤ qs.length by omega))
  obtain ⟨a1, c1, rfl⟩ := h.form
  obtain ⟨-, a2, c2, hlv, hc2, hm2, -⟩ := id hl
  subst hlv
  unfold maxLen at hm2
  have HA := Lib.hid (acs_take hl m hm)
  have hml : (qs.take m).length = m := by rw [List.length_take]; omega
  have HML := Lib.hid hml
  clear hml hl
  have P8 := Bx.new (w.alloc (Obj.cells #[.slice a1 (st 0).length c1] 38)) #[.slice none 0 0] 38
  have P := Bx.new w #[.slice a1 (st 0).length c1] 38
  have X : Ext w ((w.alloc (Obj.cells #[.slice a1 (st 0).length c1] 38)).alloc (Obj.cells #[.slice none 0 0] 38)) := ((Ext.refl w).alloc _).alloc _
  replace P := P.ext (show Ext _ ((w.alloc (Obj.cells #[.slice a1 (st 0).length c1] 38)).alloc (Obj.cells #[.slice none 0 0] 38)) from (Ext.refl _).alloc _)
  rw [World.size_alloc] at P8
  go_enter Try.func21, Try.ntmps21
  go_wp2_with fail
  generalize (w.alloc (Obj.cells #[.slice a1 (st 0).length c1] 38)).alloc (Obj.cells #[.slice none 0 0] 38) = w0 at *
  refine (impl_in _ _ _ _).mono ?_
  rw [HI.out]
  rintro e w' ⟨rfl, rfl⟩
  have HD := Lib.hid (h.ext X)
  have HV := Lib.hid hv
  clear h hv
  go_upto_region 3 with (fail)
  go_cut [10, 11] (fun s10 s11 wx => CutD w0 wx s10 s11 (st m) (.int .i64 m))
  case first =>
    have XL := Ext.refl w0
    have l_P := P.1
    refine wp_region_held_drew (S := (fun W => W.cell? ⟨w.heap.size, 0, none⟩ = some (.slice a1 (st 0).length c1))) (by kernel_rfl) (by exact P.2.1 0 _ rfl) (fun hHeld => ?_)
    have xd : Ext w0 w0.drew := (Ext.refl w0).drew
    replace P := P.ext xd
    replace XL := XL.trans xd
    generalize w0.drew = y0 at *
    have i0 : (0 : Int) ≤ m := by omega
    have i1 : (m : Int) ≤ c2 := by omega
    have i2 : ¬ (m : Int) < 0 := by omega
    have i3 : ¬ (c2 : Int) < m := by omega
    (refine wpAnyH_take (i := 0) (v := ?_) rfl (by kernel_rfl) (by kernel_rfl) (by kernel_rfl) (fun _ _ _ h => h) (Or.inl ⟨by rfl, ?_⟩) (by assumption) ?_; rotate_left; focus (intro w hSw; (try dsimp only at hSw); (try simp only [zk1, zk2]); go_simp; try with_reducible rfl)); (try simp only [zk1, zk2]); (try simp only [Act.put, zk4, zk5, zk6])
    (refine wpAnyH_take (i := 1) (v := ?_) rfl (by kernel_rfl) (by kernel_rfl) (by kernel_rfl) (fun _ _ _ h => h) (Or.inl ⟨by rfl, ?_⟩) (by assumption) ?_; rotate_left; focus (intro w hSw; (try dsimp only at hSw); (try simp only [zk1, zk2, zk3]); go_simp; try with_reducible rfl)); (try simp only [zk1, zk2, zk3]); (try simp only [Act.put, zk4, zk5, zk6])
    (refine wpAnyH_take (i := 2) (v := ?_) rfl (by kernel_rfl) (by kernel_rfl) (by kernel_rfl) (fun _ _ _ h => h) (Or.inl ⟨by rfl, ?_⟩) (by assumption) ?_; rotate_left; focus (intro w hSw; (try dsimp only at hSw); (try simp only [zk1, zk2, zk3]); go_simp; try with_reducible rfl)); (try simp only [zk1, zk2, zk3]); (try simp only [Act.put, zk4, zk5, zk6])
    (refine wpAnyH_take (i := 3) (v := .slice a2 m c2) rfl (by kernel_rfl) (by kernel_rfl) (by kernel_rfl) (fun _ _ _ h => h) (Or.inl ⟨by rfl, ?_⟩) (by assumption) ?_; focus (intro w hSw; (try dsimp only at hSw); (try simp only [zk1, zk2, zk3]); go_simp; (try simp))); (try simp only [zk1, zk2, zk3]); (try simp only [Act.put, zk4, zk5, zk6])
    refine wpAnyH_ready (rs := [4, 8]) (by kernel_rfl) (by simp) ?_
    refine AllReadyH.cons rfl (fun K hK => ?_) (AllReadyH.cons rfl (fun K hK => ?_) AllReadyH.nil)
    · (try simp only [zk1, zk2, zk3])
      go_simp
      go_at_call 48
      refine (impl_DoActs _ _ (qs.take m) st _ (HD.out.ext XL) HV.out hb (HA.out.ext (X.trans XL)) HS.out).mono ?_
      rw [HML.out]
      rintro e y1 ⟨oa, oc, rfl, ow, x1⟩
      have OWL := own_lt ow
      have sw := XL.size
      have OW := Lib.hid (own_mono ow sw)
      clear ow sw
      replace P := P.ext x1
      replace XL := XL.trans x1
      (try dsimp only)
      refine hK.out _ _ (by exact P.2.1 0 _ rfl) (fun hHeld => ?_)
      clear hK K
      (refine wpAnyH_take (i := 5) (v := ?_) rfl (by kernel_rfl) (by kernel_rfl) (by kernel_rfl) (fun _ _ _ h => h) (Or.inl ⟨by rfl, ?_⟩) (by assumption) ?_; rotate_left; focus (intro w hSw; (try dsimp only at hSw); (try simp only [zk1, zk2, zk3]); go_simp; try with_reducible rfl)); (try simp only [zk1, zk2, zk3]); (try simp only [Act.put, zk4, zk5, zk6])
      (refine wpAnyH_take (i := 6) (v := ?_) rfl (by kernel_rfl) (by kernel_rfl) (by kernel_rfl) (fun _ _ _ h => h) (Or.inl ⟨by rfl, ?_⟩) (by assumption) ?_; rotate_left; focus (intro w hSw; (try dsimp only at hSw); (try simp only [zk1, zk2, zk3]); go_simp; try with_reducible rfl)); (try simp only [zk1, zk2, zk3]); (try simp only [Act.put, zk4, zk5, zk6])
      (refine wpAnyH_take (i := 7) (v := ?_) rfl (by kernel_rfl) (by kernel_rfl) (by kernel_rfl) (fun _ _ _ h => h) (Or.inl ⟨by rfl, ?_⟩) (by assumption) ?_; rotate_left; focus (intro w hSw; (try dsimp only at hSw); (try simp only [zk1, zk2, zk3]); go_simp; try with_reducible rfl)); (try simp only [zk1, zk2, zk3]); (try simp only [Act.put, zk4, zk5, zk6])
      refine wpAnyH_ready (rs := [8]) (by kernel_rfl) (by simp) ?_
      refine AllReadyH.cons rfl (fun K hK => ?_) AllReadyH.nil
      have hne : (Value.slice oa (st m).length oc).ownBlock ≠ some y1.heap.size := fun e => by have := (OWL _ e).2; omega
      have OW := Lib.hid (own_alloc OW.out (Obj.cells #[.slice none 0 0] 38))
      (try simp only [zk1, zk2, zk3])
      go_simp
      have ez : Ext y1 (y1.alloc (Obj.cells #[.slice none 0 0] 38)) := (Ext.refl _).alloc _
      have Q := Bx.new y1 #[.slice none 0 0] 38
      have lq : w0.heap.size ≤ y1.heap.size := XL.size
      have sq := Nat.le_refl y1.heap.size
      replace P := P.ext ez
      replace XL := XL.trans ez
      generalize y1.alloc (Obj.cells #[.slice none 0 0] 38) = y2 at *
      generalize hqb : y1.heap.size = qb at *
      have HQB := Lib.hid hqb
      clear hqb sq
      (try dsimp only)
      refine hK.out _ _ (by exact P.2.1 0 _ rfl) (fun hHeld => ?_)
      clear hK K
      have z0 := Q.2.1 0 _ rfl
      have f0 := Q.2.2 0
      have QQ := Q.set 0 (.slice oa (st m).length oc) (by simp)
      have XQ := XL.setCell (p := ⟨qb, 0, none⟩) (by dsimp only; omega) (.slice oa (st m).length oc)
      have OQ := Lib.hid (own_far OW.out (b := qb) (o := 0) (fun k e e2 => by subst e2; exact hne e) (.slice oa (st m).length oc))
      skip
      have Pf := P.far (c := qb) (by omega) 0 (.slice oa (st m).length oc)
      (refine wpAnyH_ready (rs := [9]) (by kernel_rfl) (by simp) ?_; refine AllReadyH.cons rfl (fun K hK => ?_) AllReadyH.nil; (try simp only [zk1, zk2, zk3]))
      go_simp
      clear z0 f0
      clear P
      have P := Pf
      clear Pf
      generalize y2.setCell ⟨qb, 0, none⟩ (.slice oa (st m).length oc) = WF at *
      have XL := XQ
      (try dsimp only)
      refine hK.out _ _ (by exact P.2.1 0 _ rfl) (fun hHeld => ?_)
      clear hK K
      (refine wpAnyH_take (i := 10) (v := ?_) rfl (by kernel_rfl) (by kernel_rfl) (by kernel_rfl) (fun _ _ _ h => h) (Or.inl ⟨by rfl, ?_⟩) (by assumption) ?_; rotate_left; focus (intro w hSw; (try dsimp only at hSw); (try simp only [zk1, zk2, zk3]); go_simp; try with_reducible rfl)); (try simp only [zk1, zk2, zk3]); (try simp only [Act.put, zk4, zk5, zk6])
      refine wpAnyH_done (by kernel_rfl) ?_ _
      go_wp2_with fail
      go_meet
      exact ⟨qb, oa, oc, rfl, rfl, lq, QQ, OQ.out, hne, XQ⟩
    · (try simp only [zk1, zk2, zk3])
      go_simp
      have ez : Ext y0 (y0.alloc (Obj.cells #[.slice none 0 0] 38)) := (Ext.refl _).alloc _
      have Q := Bx.new y0 #[.slice none 0 0] 38
      have lq : w0.heap.size ≤ y0.heap.size := XL.size
      have sq := Nat.le_refl y0.heap.size
      replace P := P.ext ez
      replace XL := XL.trans ez
      generalize y0.alloc (Obj.cells #[.slice none 0 0] 38) = y1 at *
      generalize hqb : y0.heap.size = qb at *
      have HQB := Lib.hid hqb
      clear hqb sq
      (try dsimp only)
      refine hK.out _ _ (by exact P.2.1 0 _ rfl) (fun hHeld => ?_)
      clear hK K
      refine wpAnyH_ready (rs := [4]) (by kernel_rfl) (by simp) ?_
      refine AllReadyH.cons rfl (fun K hK => ?_) AllReadyH.nil
      (try simp only [zk1, zk2, zk3])
      go_simp
      go_at_call 48
      refine (impl_DoActs _ _ (qs.take m) st _ (HD.out.ext XL) HV.out hb (HA.out.ext (X.trans XL)) HS.out).mono ?_
      rw [HML.out]
      rintro e y2 ⟨oa, oc, rfl, ow, x1⟩
      have OWL := own_lt ow
      have sw := XL.size
      have lqs := Q.1
      have OW := Lib.hid (own_mono ow sw)
      clear ow sw
      replace P := P.ext x1
      replace XL := XL.trans x1
      replace Q := Q.ext x1
      (try dsimp only)
      refine hK.out _ _ (by exact P.2.1 0 _ rfl) (fun hHeld => ?_)
      clear hK K
      have hne : (Value.slice oa (st m).length oc).ownBlock ≠ some qb := fun e => by have := (OWL _ e).1; omega
      (refine wpAnyH_take (i := 5) (v := ?_) rfl (by kernel_rfl) (by kernel_rfl) (by kernel_rfl) (fun _ _ _ h => h) (Or.inl ⟨by rfl, ?_⟩) (by assumption) ?_; rotate_left; focus (intro w hSw; (try dsimp only at hSw); (try simp only [zk1, zk2, zk3]); go_simp; try with_reducible rfl)); (try simp only [zk1, zk2, zk3]); (try simp only [Act.put, zk4, zk5, zk6])
      (refine wpAnyH_take (i := 6) (v := ?_) rfl (by kernel_rfl) (by kernel_rfl) (by kernel_rfl) (fun _ _ _ h => h) (Or.inl ⟨by rfl, ?_⟩) (by assumption) ?_; rotate_left; focus (intro w hSw; (try dsimp only at hSw); (try simp only [zk1, zk2, zk3]); go_simp; try with_reducible rfl)); (try simp only [zk1, zk2, zk3]); (try simp only [Act.put, zk4, zk5, zk6])
      (refine wpAnyH_take (i := 7) (v := ?_) rfl (by kernel_rfl) (by kernel_rfl) (by kernel_rfl) (fun _ _ _ h => h) (Or.inl ⟨by rfl, ?_⟩) (by assumption) ?_; rotate_left; focus (intro w hSw; (try dsimp only at hSw); (try simp only [zk1, zk2, zk3]); go_simp; try with_reducible rfl)); (try simp only [zk1, zk2, zk3]); (try simp only [Act.put, zk4, zk5, zk6])
      have z0 := Q.2.1 0 _ rfl
      have f0 := Q.2.2 0
      have QQ := Q.set 0 (.slice oa (st m).length oc) (by simp)
      have XQ := XL.setCell (p := ⟨qb, 0, none⟩) (by dsimp only; omega) (.slice oa (st m).length oc)
      have OQ := Lib.hid (own_far OW.out (b := qb) (o := 0) (fun k e e2 => by subst e2; exact hne e) (.slice oa (st m).length oc))
      skip
      have Pf := P.far (c := qb) (by omega) 0 (.slice oa (st m).length oc)
      (refine wpAnyH_ready (rs := [9]) (by kernel_rfl) (by simp) ?_; refine AllReadyH.cons rfl (fun K hK => ?_) AllReadyH.nil; (try simp only [zk1, zk2, zk3]))
      go_simp
      clear z0 f0
      clear P
      have P := Pf
      clear Pf
      generalize y2.setCell ⟨qb, 0, none⟩ (.slice oa (st m).length oc) = WF at *
      have XL := XQ
      (try dsimp only)
      refine hK.out _ _ (by exact P.2.1 0 _ rfl) (fun hHeld => ?_)
      clear hK K
      (refine wpAnyH_take (i := 10) (v := ?_) rfl (by kernel_rfl) (by kernel_rfl) (by kernel_rfl) (fun _ _ _ h => h) (Or.inl ⟨by rfl, ?_⟩) (by assumption) ?_; rotate_left; focus (intro w hSw; (try dsimp only at hSw); (try simp only [zk1, zk2, zk3]); go_simp; try with_reducible rfl)); (try simp only [zk1, zk2, zk3]); (try simp only [Act.put, zk4, zk5, zk6])
      refine wpAnyH_done (by kernel_rfl) ?_ _
      go_wp2_with fail
      go_meet
      exact ⟨qb, oa, oc, rfl, rfl, lq, QQ, OQ.out, hne, XQ⟩
  case rest =>
    obtain ⟨qb, oa, oc, rfl, rfl, lq, Q, OW, hne, x2⟩ := hcut
    replace X := X.trans x2
    replace P8 := P8.ext x2
    have b8 := P8.1
    have HJ := Lib.hid (hj.ext X)
    have z10 := Q.2.1 0 _ rfl
    have lo := own_solid OW
    have FO := Lib.hid OW.fls
    clear OW x2 P hj HD HA HS
    go_wp2_with fail
    have z10 := Q.2.1 0 _ rfl
    refine (impl_LoseDisk _ _ (st m) js _ FO.out lo hft HO.out hbm HJ.out HF.out).mono ?_
    rintro e w5 ⟨ys, ya, yc, rfl, oy, hL, x5⟩
    have HL := Lib.hid hL
    have s0 := X.size
    have OY := Lib.hid oy
    have so := X.size
    clear z10 hL oy FO HJ
    replace X := X.trans x5
    replace P8 := P8.ext x5
    have z4 := P8.2.1 0 _ rfl
    have f4 := P8.2.2 0
    have XF := X.setCell (p := ⟨w.heap.size + 1, 0, none⟩) (by dsimp only; omega) (.slice ya ys.length yc)
    have RF := P8.set 0 (.slice ya ys.length yc) (by simp)
    have OF := Lib.hid (own_mono (own_below OY.out (p := ⟨w.heap.size + 1, 0, none⟩) (u := .slice ya ys.length yc) (by dsimp only; omega)) so)
    go_wp2
    generalize w5.setCell ⟨w.heap.size + 1, 0, none⟩ (.slice ya ys.length yc) = WF at *
    have k0 := RF.2.1 0 _ rfl
    refine bodyPost_ret (v := .tuple #[.agg #[.slice ya ys.length yc], .bool true]) (by simp [results, Try.results21, go_sem, k0]) rfl ?_
    exact ⟨ys, ya, yc, rfl, OF.out, HL.out, XF⟩
end Go.Proofs.Ytckipgijfgeghaa
