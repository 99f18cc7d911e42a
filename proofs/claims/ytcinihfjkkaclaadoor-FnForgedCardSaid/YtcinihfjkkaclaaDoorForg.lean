/- The draw of two proofs of one name. -/
import Derived.Test.YtcinihfjkkaclaaDoorCur3
import Derived.Test.YtcinihfjkkaclaaDoorCopy
import Derived.Test.YtcinihfjkkaclaaDoorFgP
import Derived.Test.YtcinihfjkkaclaaDoorDec
import Derived.Test.YtcinihfjkkaclaaDoorForgeP
namespace Go.Proofs.YtcinihfjkkaclaaDoor
open Go.RowKit

theorem two_grown (w : World) (b : Nat) (u v : Value) : w.grownBy ((w.setCell ⟨b, 0, none⟩ u).setCell ⟨b, 1, none⟩ v) (some b) := by
  have h1 := (Mut.refl b w).setCell 0 u
  exact h1.setCell 1 v
def lvls : List Int := [8, 7, 6, 0]
theorem lvls_ok : ∀ l ∈ lvls, inB l 0 8 = true := by decide
set_option maxRecDepth 100000 in
set_option maxHeartbeats 12800000 in
theorem spec_l11Forged (b : Nat) (w : World) (h : Cur w b) :
    Calls Tryd.prog 104 #[.pointer (some ⟨b, 0, none⟩)] w fun e w' => ∃ (nm : ByteArray) (xs ys : List Leaf) (ss : List ByteArray) (va ua vb ub : Value), e = .returned (.tuple #[.string nm, .agg #[va, ua], .agg #[vb, ub]]) ∧ nm.size ≤ 12 ∧ proofOk nm xs ss 1 = true ∧ proofOk nm ys ss 1 = true ∧ (Lvs w' va xs ∧ Strs w' ua ss ∧ Lvs w' vb ys ∧ Strs w' ub ss) ∧ (∀ k, (va.ownBlock = some k ∨ ua.ownBlock = some k ∨ vb.ownBlock = some k ∨ ub.ownBlock = some k) → w.heap.size ≤ k) ∧ Cur w' b ∧ Mut b w w' := by
  have hb := h.lt
  go_enter Tryd.func104, Tryd.ntmps104
  go_wp2_with fail
  have R3 : Bx ((w.alloc (Obj.cells #[.slice none 0 0, .slice none 0 0] 59)).alloc (Obj.cells #[.slice none 0 0, .slice none 0 0] 59)) w.heap.size [.slice none 0 0, .slice none 0 0] := (Bx.new w _ _).ext (by repeat (first | (with_reducible first | exact Ext.refl _ | assumption | apply Ext.alloc | apply Ext.drew | apply Ext.drewN | refine Ext.setCell ?_ ?_ _ | refine Ext.trans ?_ (by assumption)) | (show _ ≤ _; first | omega | (dsimp only; omega) | (simp; done) | (simp; omega))))
  have R4 : Bx ((w.alloc (Obj.cells #[.slice none 0 0, .slice none 0 0] 59)).alloc (Obj.cells #[.slice none 0 0, .slice none 0 0] 59)) (w.heap.size + 1) [.slice none 0 0, .slice none 0 0] := by
    have e := Bx.new (w.alloc (Obj.cells #[.slice none 0 0, .slice none 0 0] 59)) #[.slice none 0 0, .slice none 0 0] 59
    rw [World.size_alloc] at e
    exact e
  have e0 : Ext w ((w.alloc (Obj.cells #[.slice none 0 0, .slice none 0 0] 59)).alloc (Obj.cells #[.slice none 0 0, .slice none 0 0] 59)) := (by repeat (first | (with_reducible first | exact Ext.refl _ | assumption | apply Ext.alloc | apply Ext.drew | apply Ext.drewN | refine Ext.setCell ?_ ?_ _ | refine Ext.trans ?_ (by assumption)) | (show _ ≤ _; first | omega | (dsimp only; omega) | (simp; done) | (simp; omega))))
  have l0 : w.heap.size + 2 ≤ ((w.alloc (Obj.cells #[.slice none 0 0, .slice none 0 0] 59)).alloc (Obj.cells #[.slice none 0 0, .slice none 0 0] 59)).heap.size := by rw [World.size_alloc, World.size_alloc]; omega
  have C0 := h.ext e0
  have M0 : Mut b w ((w.alloc (Obj.cells #[.slice none 0 0, .slice none 0 0] 59)).alloc (Obj.cells #[.slice none 0 0, .slice none 0 0] 59)) := Mut.of_ext e0
  generalize (w.alloc (Obj.cells #[.slice none 0 0, .slice none 0 0] 59)).alloc (Obj.cells #[.slice none 0 0, .slice none 0 0] 59) = w0 at *
  refine (spec_l04Name b _ C0).mono ?_
  rintro e w1 ⟨nm, rfl, hnm, C1, m1⟩
  have M1 := M0.trans m1
  replace R3 := R3.grown m1 (fun e => by injection e with e; omega)
  replace R4 := R4.grown m1 (fun e => by injection e with e; omega)
  have l1 := Nat.le_trans l0 m1.size
  have HNM := Lib.hid hnm
  have hn12 := name_12 hnm
  clear hnm
  go_wp2_with fail
  have e1 : Ext w1 (w1.alloc (Obj.cells #[.int .i64 8, .int .i64 7, .int .i64 6, .int .i64 0] 3)) := (by repeat (first | (with_reducible first | exact Ext.refl _ | assumption | apply Ext.alloc | apply Ext.drew | apply Ext.drewN | refine Ext.setCell ?_ ?_ _ | refine Ext.trans ?_ (by assumption)) | (show _ ≤ _; first | omega | (dsimp only; omega) | (simp; done) | (simp; omega))))
  refine (spec_l01PickInt b _ lvls _ (C1.ext e1) (by exact ints_lit w1 lvls 4 _ _ rfl rfl (by omega)) (own_not C1.lt) (by decide) (by decide)).mono ?_
  rintro e w2 ⟨lv, hlv, rfl, C2, m2⟩
  have M2 := (M1.trans (Mut.of_ext e1)).trans m2
  replace R3 := (R3.ext e1).grown m2 (fun e => by injection e with e; omega)
  replace R4 := (R4.ext e1).grown m2 (fun e => by injection e with e; omega)
  have l2 := Nat.le_trans l1 (Nat.le_trans e1.size m2.size)
  have HLV := Lib.hid (lvls_ok lv hlv)
  clear hlv
  go_wp2_with fail
  refine (spec_l09Draw b _ C2).mono ?_
  rintro e w3 ⟨zs, za, zc, rfl, hok, h8, hown, C3, m3⟩
  have M3 := M2.trans m3
  replace R3 := R3.grown m3 (fun e => by injection e with e; omega)
  replace R4 := R4.grown m3 (fun e => by injection e with e; omega)
  have l3 := Nat.le_trans l2 m3.size
  have hpl : plOk zs nm lv 1 = true := by rw [plOk, hok, HNM.out, HLV.out]; rfl
  have HPX' := prove_ok hpl
  have hpb := plB_len zs nm lv 1
  have hps := plS_len zs nm lv 1
  go_wp2_with fail
  refine (spec_ProveLeaf _ zs nm lv 1 _ (OwnLvs.lvs hown) (ok_fit hok) (by unfold maxLen; omega)).mono ?_
  rw [hpl]
  generalize plB zs nm lv 1 = xs at *
  generalize plS zs nm lv 1 = ss at *
  rintro e w5 ⟨a, c, a2, c2, rfl, ho1, ⟨mm, -, hmm, ho2⟩, x5⟩
  have HPX := Lib.hid HPX'
  have M5 := M3.trans (Mut.of_ext x5)
  have C5 := C3.ext x5
  replace R3 := R3.ext x5
  replace R4 := R4.ext x5
  have l5 := Nat.le_trans l3 x5.size
  have la := OwnLvs.lvs ho1
  have lu := ho2.strs
  have sa := own_solid ho1
  have su := own_solid ho2
  have ga := own_lt ho1
  have gu := own_lt ho2
  clear HPX' hpl hok hown HLV ho1 ho2
  have P7' := Bx.new w5 #[.slice a xs.length c, .slice a2 ss.length c2] 59
  have p0 := P7'.2.1 0 _ rfl
  have p1 := P7'.2.1 1 _ rfl
  go_wp2_with fail
  have e6 : Ext w5 (w5.alloc (Obj.cells #[.slice a xs.length c, .slice a2 ss.length c2] 59)) := (by repeat (first | (with_reducible first | exact Ext.refl _ | assumption | apply Ext.alloc | apply Ext.drew | apply Ext.drewN | refine Ext.setCell ?_ ?_ _ | refine Ext.trans ?_ (by assumption)) | (show _ ≤ _; first | omega | (dsimp only; omega) | (simp; done) | (simp; omega))))
  refine (spec_l11Copy _ _ xs ss _ (la.ext e6) (Row.ext lu e6) sa su (by omega) (by omega)).mono ?_
  rintro e w6 ⟨a3, c3, a4, c4, rfl, ho3, ho4, x6⟩
  have E6 : Ext w5 w6 := e6.trans x6
  have q6 : w5.heap.size < w6.heap.size := Nat.lt_of_lt_of_le (by rw [World.size_alloc]; omega) x6.size
  have M6 := M5.trans (Mut.of_ext E6)
  have C6 := C5.ext E6
  replace R3 := R3.ext E6
  replace R4 := R4.ext E6
  replace la := la.ext E6
  replace lu := Row.ext lu E6
  have P7 := P7'.ext x6
  have lb := OwnLvs.lvs ho3
  have lub := ho4.strs
  have gb := own_lt ho3
  have gub := own_lt ho4
  rw [World.size_alloc] at gb gub
  clear ho3 ho4 p0 p1 P7'
  have ha6 : ∀ k, (Value.slice a xs.length c).ownBlock = some k → w.heap.size + 2 ≤ k ∧ k < w6.heap.size := fun k hk => ⟨Nat.le_trans l3 (ga k hk).1, by have := (ga k hk).2; omega⟩
  have hu6 : ∀ k, (Value.slice a2 ss.length c2).ownBlock = some k → w.heap.size + 2 ≤ k ∧ k < w6.heap.size := fun k hk => ⟨Nat.le_trans l3 (Nat.le_trans hmm (gu k hk).1), by have := (gu k hk).2; omega⟩
  have hub6 : ∀ k, (Value.slice a4 ss.length c4).ownBlock = some k → w.heap.size + 2 ≤ k ∧ k < w6.heap.size := fun k hk => ⟨by have := (gub k hk).1; omega, (gub k hk).2⟩
  have hb6 : ∀ k, (Value.slice a3 xs.length c3).ownBlock = some k → w.heap.size + 2 ≤ k ∧ k ≠ w6.heap.size := fun k hk => ⟨by have := (gb k hk).1; omega, by have := (gb k hk).2; omega⟩
  have Q9' := Bx.new w6 #[.slice a3 xs.length c3, .slice a4 ss.length c4] 59
  have e7 : Ext w6 (w6.alloc (Obj.cells #[.slice a3 xs.length c3, .slice a4 ss.length c4] 59)) := (by repeat (first | (with_reducible first | exact Ext.refl _ | assumption | apply Ext.alloc | apply Ext.drew | apply Ext.drewN | refine Ext.setCell ?_ ?_ _ | refine Ext.trans ?_ (by assumption)) | (show _ ≤ _; first | omega | (dsimp only; omega) | (simp; done) | (simp; omega))))
  have HF := Lib.hid (ok_fit (proofOk_parts HPX.out).2.1)
  have HSF := Lib.hid (fun (s : ByteArray) (hs : s ∈ ss) => show s.size ≤ maxLen by have := proof_fit HPX.out s hs; unfold maxLen; omega)
  clear ga gu gb gub
  go_wp2
  go_loopw [10] (fun i wr => ∃ (k : Nat) (ys : List Leaf) (vb : Value), i = .int .i64 k ∧ k ≤ 600 ∧ proofOk nm ys ss 1 = true ∧ Bx wr w5.heap.size [.slice a xs.length c, .slice a2 ss.length c2] ∧ Bx wr w6.heap.size [vb, .slice a4 ss.length c4] ∧ Bx wr w.heap.size [.slice none 0 0, .slice none 0 0] ∧ Bx wr (w.heap.size + 1) [.slice none 0 0, .slice none 0 0] ∧ Lvs wr (.slice a xs.length c) xs ∧ Strs wr (.slice a2 ss.length c2) ss ∧ Lvs wr vb ys ∧ Strs wr (.slice a4 ss.length c4) ss ∧ (∀ k, vb.ownBlock = some k → w.heap.size + 2 ≤ k ∧ k ≠ w6.heap.size) ∧ Cur wr b ∧ Mut b w wr ∧ w6.heap.size < wr.heap.size) (fun i _ => 600 - (intOf i).toNat)
  case atStart => exact ⟨0, xs, _, rfl, by omega, HPX.out, P7.ext e7, Q9', R3.ext e7, R4.ext e7, la.ext e7, Row.ext lu e7, lb.ext e7, Row.ext lub e7, hb6, C6.ext e7, M6.trans (Mut.of_ext e7), by rw [World.size_alloc]; omega⟩
  case round =>
    clear P7 Q9' R3 R4 la lu lb lub hb6 C6 M6 e7
    obtain ⟨k, ys, vb, rfl, hk6, hpy, P7, Q9, R3, R4, la, lu, lb, lub, hvb, hc, hm, hsz⟩ := hrel
    have HPY := Lib.hid hpy
    obtain ⟨av, cv, rfl⟩ := lb.form
    clear hpy
    by_cases hlt : k < 600
    · have hlt' : (k : Int) < 600 := by omega
      clear lb hvb HPY
      go_wp2_with fail
      refine (spec_Decimal k _ (by omega)).mono ?_
      rintro e wa ⟨dt, rfl, hdt, xa⟩
      replace P7 := P7.ext xa
      replace Q9 := Q9.ext xa
      replace R3 := R3.ext xa
      replace R4 := R4.ext xa
      replace la := la.ext xa
      replace lu := Row.ext lu xa
      replace lub := Row.ext lub xa
      replace hc := hc.ext xa
      replace hm := hm.trans (Mut.of_ext xa)
      replace hsz := Nat.lt_of_lt_of_le hsz xa.size
      have q1 : ¬ (9223372036854775807 < (⟨#[102]⟩ : ByteArray).size + dt.size) := by have : (⟨#[102]⟩ : ByteArray).size = 1 := rfl; omega
      have hfz : ((⟨#[102]⟩ : ByteArray) ++ dt).size ≤ maxLen := by rw [ByteArray.size_append]; have : (⟨#[102]⟩ : ByteArray).size = 1 := rfl; unfold maxLen; omega
      have p0 := P7.2.1 0 _ rfl
      go_wp2_with fail
      refine (spec_LeafPut _ xs nm ((⟨#[102]⟩ : ByteArray) ++ dt) _ la sa HF.out (by unfold maxLen; omega) hfz (by omega)).mono ?_
      have HPZ := Lib.hid (put_ok (u := (⟨#[102]⟩ : ByteArray) ++ dt) HPX.out)
      generalize putL xs nm ((⟨#[102]⟩ : ByteArray) ++ dt) = zs' at *
      generalize putWell xs nm ((⟨#[102]⟩ : ByteArray) ++ dt) = zw at *
      rintro e wb ⟨a', c', rfl, ho, xb⟩
      have hvb : ∀ k, (Value.slice a' zs'.length c').ownBlock = some k → w.heap.size + 2 ≤ k ∧ k ≠ w6.heap.size := fun k hk => by have := (own_lt ho k hk).1; omega
      have lb := OwnLvs.lvs ho
      replace P7 := P7.ext xb
      replace Q9 := Q9.ext xb
      replace R3 := R3.ext xb
      replace R4 := R4.ext xb
      replace la := la.ext xb
      replace lu := Row.ext lu xb
      replace lub := Row.ext lub xb
      replace hc := hc.ext xb
      replace hm := hm.trans (Mut.of_ext xb)
      replace hsz := Nat.lt_of_lt_of_le hsz xb.size
      clear ho p0
      have q0 := Q9.2.1 0 _ rfl
      have f0 := Q9.2.2 0
      have gS : wb.grownBy (wb.setCell ⟨w6.heap.size, 0, none⟩ (.slice a' zs'.length c')) (some w6.heap.size) := (Mut.refl w6.heap.size wb).setCell 0 _
      have hl6 := l5
      go_wp2_with fail
      replace Q9 := Q9.set 0 (.slice a' zs'.length c') (by simp)
      replace P7 := P7.grown gS (fun e => by injection e with e; omega)
      replace R3 := R3.grown gS (fun e => by injection e with e; omega)
      replace R4 := R4.grown gS (fun e => by injection e with e; omega)
      replace la := row_grown la gS (fun k hk e => by injection hk with hk; have := (ha6 _ e).2; omega)
      replace lu := row_grown lu gS (fun k hk e => by injection hk with hk; have := (hu6 _ e).2; omega)
      replace lub := row_grown lub gS (fun k hk e => by injection hk with hk; have := (hub6 _ e).2; omega)
      replace lb := row_grown lb gS (fun k hk e => by injection hk with hk; have := (hvb _ e).2; omega)
      replace hc := hc.grown gS (fun k hk => by injection hk with hk; omega)
      replace hm := hm.grown gS (fun k hk => by injection hk with hk; omega)
      replace hsz := Nat.lt_of_lt_of_le hsz gS.size
      clear gS q0 f0
      generalize wb.setCell ⟨w6.heap.size, 0, none⟩ (.slice a' zs'.length c') = wc at *
      have HFZ := Lib.hid (ok_fit (proofOk_parts HPZ.out).2.1)
      by_cases hq : prHash nm zs' ss 1 = prHash nm xs ss 1
      · have HQ := Lib.hid hq
        clear hq
        refine wp_region_held_drew (S := (fun W => W.cell? ⟨w5.heap.size, 0, none⟩ = some (.slice a xs.length c) ∧ W.cell? ⟨w5.heap.size, 1, none⟩ = some (.slice a2 ss.length c2) ∧ W.cell? ⟨w6.heap.size, 0, none⟩ = some (.slice a' zs'.length c') ∧ W.cell? ⟨w6.heap.size, 1, none⟩ = some (.slice a4 ss.length c4))) (by kernel_rfl) (by exact ⟨P7.2.1 0 _ rfl, P7.2.1 1 _ rfl, Q9.2.1 0 _ rfl, Q9.2.1 1 _ rfl⟩) (fun hHeld => ?_)
        have xd : Ext wc wc.drew := (Ext.refl wc).drew
        replace P7 := P7.ext xd
        replace Q9 := Q9.ext xd
        replace R3 := R3.ext xd
        replace R4 := R4.ext xd
        replace la := la.ext xd
        replace lu := Row.ext lu xd
        replace lub := Row.ext lub xd
        replace lb := Lvs.ext lb xd
        replace hc := hc.ext xd
        replace hm := hm.trans (Mut.of_ext xd)
        replace hsz := Nat.lt_of_lt_of_le hsz xd.size
        generalize wc.drew = wd at *
        (refine wpAnyH_take (i := 0) (v := ?_) rfl (by kernel_rfl) (by kernel_rfl) (by kernel_rfl) (fun _ _ _ h => h) (Or.inl ⟨by rfl, ?_⟩) (by assumption) ?_; rotate_left; focus (intro w hSw; (try dsimp only at hSw); (try simp only [List.getElem_toArray, List.getElem_cons_zero]); go_simp; try with_reducible rfl)); (try simp only [List.getElem_toArray, List.getElem_cons_zero]); (try simp only [Act.put, List.setIfInBounds_toArray, List.set_cons_zero, List.set_cons_succ])
        (refine wpAnyH_take (i := 1) (v := ?_) rfl (by kernel_rfl) (by kernel_rfl) (by kernel_rfl) (fun _ _ _ h => h) (Or.inl ⟨by rfl, ?_⟩) (by assumption) ?_; rotate_left; focus (intro w hSw; (try dsimp only at hSw); (try simp only [List.getElem_toArray, List.getElem_cons_zero, List.getElem_cons_succ]); go_simp; try with_reducible rfl)); (try simp only [List.getElem_toArray, List.getElem_cons_zero, List.getElem_cons_succ]); (try simp only [Act.put, List.setIfInBounds_toArray, List.set_cons_zero, List.set_cons_succ])
        (refine wpAnyH_take (i := 3) (v := ?_) rfl (by kernel_rfl) (by kernel_rfl) (by kernel_rfl) (fun _ _ _ h => h) (Or.inl ⟨by rfl, ?_⟩) (by assumption) ?_; rotate_left; focus (intro w hSw; (try dsimp only at hSw); (try simp only [List.getElem_toArray, List.getElem_cons_zero, List.getElem_cons_succ]); go_simp; try with_reducible rfl)); (try simp only [List.getElem_toArray, List.getElem_cons_zero, List.getElem_cons_succ]); (try simp only [Act.put, List.setIfInBounds_toArray, List.set_cons_zero, List.set_cons_succ])
        (refine wpAnyH_take (i := 4) (v := ?_) rfl (by kernel_rfl) (by kernel_rfl) (by kernel_rfl) (fun _ _ _ h => h) (Or.inl ⟨by rfl, ?_⟩) (by assumption) ?_; rotate_left; focus (intro w hSw; (try dsimp only at hSw); (try simp only [List.getElem_toArray, List.getElem_cons_zero, List.getElem_cons_succ]); go_simp; try with_reducible rfl)); (try simp only [List.getElem_toArray, List.getElem_cons_zero, List.getElem_cons_succ]); (try simp only [Act.put, List.setIfInBounds_toArray, List.set_cons_zero, List.set_cons_succ])
        (refine wpAnyH_ready (rs := [2]) (by kernel_rfl) (by simp) ?_; refine AllReadyH.cons rfl (fun K hK => ?_) AllReadyH.nil; (try simp only [List.getElem_toArray, List.getElem_cons_zero, List.getElem_cons_succ]))
        go_simp
        go_at_call 44
        refine (spec_ProofHash nm _ _ zs' ss 1 _ (by unfold maxLen; omega) lb HFZ.out lub HSF.out).mono ?_
        rintro e we ⟨rfl, xe⟩
        replace P7 := P7.ext xe
        replace Q9 := Q9.ext xe
        replace R3 := R3.ext xe
        replace R4 := R4.ext xe
        replace la := la.ext xe
        replace lu := Row.ext lu xe
        replace lub := Row.ext lub xe
        replace lb := Lvs.ext lb xe
        replace hc := hc.ext xe
        replace hm := hm.trans (Mut.of_ext xe)
        replace hsz := Nat.lt_of_lt_of_le hsz xe.size
        (try dsimp only)
        refine hK.out _ _ (by exact ⟨P7.2.1 0 _ rfl, P7.2.1 1 _ rfl, Q9.2.1 0 _ rfl, Q9.2.1 1 _ rfl⟩) (fun hHeld => ?_)
        clear hK K
        (refine wpAnyH_ready (rs := [5]) (by kernel_rfl) (by simp) ?_; refine AllReadyH.cons rfl (fun K hK => ?_) AllReadyH.nil; (try simp only [List.getElem_toArray, List.getElem_cons_zero, List.getElem_cons_succ]))
        go_simp
        go_at_call 44
        refine (spec_ProofHash nm _ _ xs ss 1 _ (by unfold maxLen; omega) la HF.out lu HSF.out).mono ?_
        rintro e wf ⟨rfl, xf⟩
        replace P7 := P7.ext xf
        replace Q9 := Q9.ext xf
        replace R3 := R3.ext xf
        replace R4 := R4.ext xf
        replace la := la.ext xf
        replace lu := Row.ext lu xf
        replace lub := Row.ext lub xf
        replace lb := Lvs.ext lb xf
        replace hc := hc.ext xf
        replace hm := hm.trans (Mut.of_ext xf)
        replace hsz := Nat.lt_of_lt_of_le hsz xf.size
        (try dsimp only)
        refine hK.out _ _ (by exact ⟨P7.2.1 0 _ rfl, P7.2.1 1 _ rfl, Q9.2.1 0 _ rfl, Q9.2.1 1 _ rfl⟩) (fun hHeld => ?_)
        clear hK K
        have HQ2 := Lib.hid (congrArg ByteArray.toList HQ.out)
        (refine wpAnyH_take (i := 6) (v := .bool true) rfl (by kernel_rfl) (by kernel_rfl) (by kernel_rfl) (fun _ _ _ h => h) (Or.inl ⟨by rfl, ?_⟩) (by assumption) ?_; focus (intro w hSw; (try dsimp only at hSw); (try simp only [List.getElem_toArray, List.getElem_cons_zero, List.getElem_cons_succ]); go_simp; simp [HQ2.out])); (try simp only [List.getElem_toArray, List.getElem_cons_zero, List.getElem_cons_succ]); (try simp only [Act.put, List.setIfInBounds_toArray, List.set_cons_zero, List.set_cons_succ])
        refine wpAnyH_done (by kernel_rfl) ?_ _
        have HPY := HPZ
        have Nla := fun k e => (ha6 k e).1
        have Nlu := fun k e => (hu6 k e).1
        have Nlub := fun k e => (hub6 k e).1
        have Nlb := fun k e => (hvb k e).1
        go_wp2_with fail
        refine wp_region_held_drew (S := (fun W => W.cell? ⟨w5.heap.size, 0, none⟩ = some (.slice a xs.length c) ∧ W.cell? ⟨w5.heap.size, 1, none⟩ = some (.slice a2 ss.length c2) ∧ W.cell? ⟨w6.heap.size, 0, none⟩ = some (.slice a' zs'.length c') ∧ W.cell? ⟨w6.heap.size, 1, none⟩ = some (.slice a4 ss.length c4))) (by kernel_rfl) (by exact ⟨P7.2.1 0 _ rfl, P7.2.1 1 _ rfl, Q9.2.1 0 _ rfl, Q9.2.1 1 _ rfl⟩) (fun hHeld => ?_)
        replace P7 := P7.ext (show Ext wf wf.drew from (by repeat (first | (with_reducible first | exact Ext.refl _ | assumption | apply Ext.alloc | apply Ext.drew | apply Ext.drewN | refine Ext.setCell ?_ ?_ _ | refine Ext.trans ?_ (by assumption)) | (show _ ≤ _; first | omega | (dsimp only; omega) | (simp; done) | (simp; omega)))))
        replace Q9 := Q9.ext (show Ext wf wf.drew from (by repeat (first | (with_reducible first | exact Ext.refl _ | assumption | apply Ext.alloc | apply Ext.drew | apply Ext.drewN | refine Ext.setCell ?_ ?_ _ | refine Ext.trans ?_ (by assumption)) | (show _ ≤ _; first | omega | (dsimp only; omega) | (simp; done) | (simp; omega)))))
        replace R3 := R3.ext (show Ext wf wf.drew from (by repeat (first | (with_reducible first | exact Ext.refl _ | assumption | apply Ext.alloc | apply Ext.drew | apply Ext.drewN | refine Ext.setCell ?_ ?_ _ | refine Ext.trans ?_ (by assumption)) | (show _ ≤ _; first | omega | (dsimp only; omega) | (simp; done) | (simp; omega)))))
        replace R4 := R4.ext (show Ext wf wf.drew from (by repeat (first | (with_reducible first | exact Ext.refl _ | assumption | apply Ext.alloc | apply Ext.drew | apply Ext.drewN | refine Ext.setCell ?_ ?_ _ | refine Ext.trans ?_ (by assumption)) | (show _ ≤ _; first | omega | (dsimp only; omega) | (simp; done) | (simp; omega)))))
        replace la := la.ext (show Ext wf wf.drew from (by repeat (first | (with_reducible first | exact Ext.refl _ | assumption | apply Ext.alloc | apply Ext.drew | apply Ext.drewN | refine Ext.setCell ?_ ?_ _ | refine Ext.trans ?_ (by assumption)) | (show _ ≤ _; first | omega | (dsimp only; omega) | (simp; done) | (simp; omega)))))
        replace lu := Row.ext lu (show Ext wf wf.drew from (by repeat (first | (with_reducible first | exact Ext.refl _ | assumption | apply Ext.alloc | apply Ext.drew | apply Ext.drewN | refine Ext.setCell ?_ ?_ _ | refine Ext.trans ?_ (by assumption)) | (show _ ≤ _; first | omega | (dsimp only; omega) | (simp; done) | (simp; omega)))))
        replace lb := lb.ext (show Ext wf wf.drew from (by repeat (first | (with_reducible first | exact Ext.refl _ | assumption | apply Ext.alloc | apply Ext.drew | apply Ext.drewN | refine Ext.setCell ?_ ?_ _ | refine Ext.trans ?_ (by assumption)) | (show _ ≤ _; first | omega | (dsimp only; omega) | (simp; done) | (simp; omega)))))
        replace lub := Row.ext lub (show Ext wf wf.drew from (by repeat (first | (with_reducible first | exact Ext.refl _ | assumption | apply Ext.alloc | apply Ext.drew | apply Ext.drewN | refine Ext.setCell ?_ ?_ _ | refine Ext.trans ?_ (by assumption)) | (show _ ≤ _; first | omega | (dsimp only; omega) | (simp; done) | (simp; omega)))))
        replace hc := hc.ext (show Ext wf wf.drew from (by repeat (first | (with_reducible first | exact Ext.refl _ | assumption | apply Ext.alloc | apply Ext.drew | apply Ext.drewN | refine Ext.setCell ?_ ?_ _ | refine Ext.trans ?_ (by assumption)) | (show _ ≤ _; first | omega | (dsimp only; omega) | (simp; done) | (simp; omega)))))
        replace hm := hm.drew
        generalize wf.drew = WD at *
        (refine wpAnyH_take (i := 0) (v := ?_) rfl (by kernel_rfl) (by kernel_rfl) (by kernel_rfl) (fun _ _ _ h => h) (Or.inl ⟨by rfl, ?_⟩) (by assumption) ?_; rotate_left; focus (intro w hSw; (try dsimp only at hSw); (try simp only [List.getElem_toArray, List.getElem_cons_zero]); go_simp; try with_reducible rfl)); (try simp only [List.getElem_toArray, List.getElem_cons_zero]); (try simp only [Act.put, List.setIfInBounds_toArray, List.set_cons_zero, List.set_cons_succ])
        (refine wpAnyH_take (i := 1) (v := ?_) rfl (by kernel_rfl) (by kernel_rfl) (by kernel_rfl) (fun _ _ _ h => h) (Or.inl ⟨by rfl, ?_⟩) (by assumption) ?_; rotate_left; focus (intro w hSw; (try dsimp only at hSw); (try simp only [List.getElem_toArray, List.getElem_cons_zero, List.getElem_cons_succ]); go_simp; try with_reducible rfl)); (try simp only [List.getElem_toArray, List.getElem_cons_zero, List.getElem_cons_succ]); (try simp only [Act.put, List.setIfInBounds_toArray, List.set_cons_zero, List.set_cons_succ])
        (refine wpAnyH_take (i := 2) (v := ?_) rfl (by kernel_rfl) (by kernel_rfl) (by kernel_rfl) (fun _ _ _ h => h) (Or.inl ⟨by rfl, ?_⟩) (by assumption) ?_; rotate_left; focus (intro w hSw; (try dsimp only at hSw); (try simp only [List.getElem_toArray, List.getElem_cons_zero, List.getElem_cons_succ]); go_simp; try with_reducible rfl)); (try simp only [List.getElem_toArray, List.getElem_cons_zero, List.getElem_cons_succ]); (try simp only [Act.put, List.setIfInBounds_toArray, List.set_cons_zero, List.set_cons_succ])
        (refine wpAnyH_take (i := 3) (v := ?_) rfl (by kernel_rfl) (by kernel_rfl) (by kernel_rfl) (fun _ _ _ h => h) (Or.inl ⟨by rfl, ?_⟩) (by assumption) ?_; rotate_left; focus (intro w hSw; (try dsimp only at hSw); (try simp only [List.getElem_toArray, List.getElem_cons_zero, List.getElem_cons_succ]); go_simp; try with_reducible rfl)); (try simp only [List.getElem_toArray, List.getElem_cons_zero, List.getElem_cons_succ]); (try simp only [Act.put, List.setIfInBounds_toArray, List.set_cons_zero, List.set_cons_succ])
        refine wpAnyH_ready (rs := [4]) (by kernel_rfl) (by simp) ?_
        refine AllReadyH.cons rfl (fun K hK => ?_) AllReadyH.nil
        (try simp only [List.getElem_toArray, List.getElem_cons_zero, List.getElem_cons_succ])
        have z0 := R3.2.1 0 _ rfl
        have z1 := R3.2.1 1 _ rfl
        have y0 := R3.2.2 0
        have y1 := R3.2.2 1
        go_simp
        clear z0 z1 y0 y1
        have gWE : WD.grownBy ((WD.setCell ⟨w.heap.size, 0, none⟩ (.slice a xs.length c)).setCell ⟨w.heap.size, 1, none⟩ (.slice a2 ss.length c2)) (some (w.heap.size)) := two_grown _ _ _ _
        replace R3 := (R3.set 0 (.slice a xs.length c) (by simp)).set 1 (.slice a2 ss.length c2) (by simp)
        replace R4 := R4.grown gWE (fun e => by injection e with e; omega)
        replace P7 := P7.grown gWE (fun e => by injection e with e; omega)
        replace Q9 := Q9.grown gWE (fun e => by injection e with e; omega)
        replace la := row_grown la gWE (fun k hk e => by injection hk with hk; have := Nla _ e; omega)
        replace lu := row_grown lu gWE (fun k hk e => by injection hk with hk; have := Nlu _ e; omega)
        replace lb := row_grown lb gWE (fun k hk e => by injection hk with hk; have := Nlb _ e; omega)
        replace lub := row_grown lub gWE (fun k hk e => by injection hk with hk; have := Nlub _ e; omega)
        replace hc := hc.grown gWE (fun k hk => by injection hk with hk; omega)
        replace hm := hm.grown gWE (fun k hk => by injection hk with hk; omega)
        generalize (WD.setCell ⟨w.heap.size, 0, none⟩ (.slice a xs.length c)).setCell ⟨w.heap.size, 1, none⟩ (.slice a2 ss.length c2) = WE at *
        (try dsimp only)
        refine hK.out _ _ (by exact ⟨P7.2.1 0 _ rfl, P7.2.1 1 _ rfl, Q9.2.1 0 _ rfl, Q9.2.1 1 _ rfl⟩) (fun hHeld => ?_)
        clear hK K
        refine wpAnyH_ready (rs := [5]) (by kernel_rfl) (by simp) ?_
        refine AllReadyH.cons rfl (fun K hK => ?_) AllReadyH.nil
        (try simp only [List.getElem_toArray, List.getElem_cons_zero, List.getElem_cons_succ])
        have z0 := R4.2.1 0 _ rfl
        have z1 := R4.2.1 1 _ rfl
        have y0 := R4.2.2 0
        have y1 := R4.2.2 1
        go_simp
        clear z0 z1 y0 y1
        have gWF : WE.grownBy ((WE.setCell ⟨w.heap.size + 1, 0, none⟩ (.slice a' zs'.length c')).setCell ⟨w.heap.size + 1, 1, none⟩ (.slice a4 ss.length c4)) (some (w.heap.size + 1)) := two_grown _ _ _ _
        replace R4 := (R4.set 0 (.slice a' zs'.length c') (by simp)).set 1 (.slice a4 ss.length c4) (by simp)
        replace R3 := R3.grown gWF (fun e => by injection e with e; omega)
        replace P7 := P7.grown gWF (fun e => by injection e with e; omega)
        replace Q9 := Q9.grown gWF (fun e => by injection e with e; omega)
        replace la := row_grown la gWF (fun k hk e => by injection hk with hk; have := Nla _ e; omega)
        replace lu := row_grown lu gWF (fun k hk e => by injection hk with hk; have := Nlu _ e; omega)
        replace lb := row_grown lb gWF (fun k hk e => by injection hk with hk; have := Nlb _ e; omega)
        replace lub := row_grown lub gWF (fun k hk e => by injection hk with hk; have := Nlub _ e; omega)
        replace hc := hc.grown gWF (fun k hk => by injection hk with hk; omega)
        replace hm := hm.grown gWF (fun k hk => by injection hk with hk; omega)
        generalize (WE.setCell ⟨w.heap.size + 1, 0, none⟩ (.slice a' zs'.length c')).setCell ⟨w.heap.size + 1, 1, none⟩ (.slice a4 ss.length c4) = WF at *
        (try dsimp only)
        refine hK.out _ _ (by exact ⟨P7.2.1 0 _ rfl, P7.2.1 1 _ rfl, Q9.2.1 0 _ rfl, Q9.2.1 1 _ rfl⟩) (fun hHeld => ?_)
        clear hK K
        refine wpAnyH_done (by kernel_rfl) ?_ _
        have k0 := R3.2.1 0 _ rfl
        have k1 := R3.2.1 1 _ rfl
        have k2 := R4.2.1 0 _ rfl
        have k3 := R4.2.1 1 _ rfl
        go_wp2
        refine bodyPost_ret (v := .tuple #[.string nm, .agg #[.slice a xs.length c, .slice a2 ss.length c2], .agg #[.slice a' zs'.length c', .slice a4 ss.length c4]]) (by simp [results, Tryd.results104, go_sem, k0, k1, k2, k3]) rfl ⟨nm, xs, zs', ss, _, _, _, _, rfl, hn12, HPX.out, HPY.out, ⟨la, lu, lb, lub⟩, (fun k e => by rcases e with e | e | e | e; (have := Nla _ e; omega); (have := Nlu _ e; omega); (have := Nlb _ e; omega); (have := Nlub _ e; omega)), hc, hm⟩
      · have HQ := Lib.hid hq
        clear hq
        refine wp_region_held_drew (S := (fun W => W.cell? ⟨w5.heap.size, 0, none⟩ = some (.slice a xs.length c) ∧ W.cell? ⟨w5.heap.size, 1, none⟩ = some (.slice a2 ss.length c2) ∧ W.cell? ⟨w6.heap.size, 0, none⟩ = some (.slice a' zs'.length c') ∧ W.cell? ⟨w6.heap.size, 1, none⟩ = some (.slice a4 ss.length c4))) (by kernel_rfl) (by exact ⟨P7.2.1 0 _ rfl, P7.2.1 1 _ rfl, Q9.2.1 0 _ rfl, Q9.2.1 1 _ rfl⟩) (fun hHeld => ?_)
        have xd : Ext wc wc.drew := (Ext.refl wc).drew
        replace P7 := P7.ext xd
        replace Q9 := Q9.ext xd
        replace R3 := R3.ext xd
        replace R4 := R4.ext xd
        replace la := la.ext xd
        replace lu := Row.ext lu xd
        replace lub := Row.ext lub xd
        replace lb := Lvs.ext lb xd
        replace hc := hc.ext xd
        replace hm := hm.trans (Mut.of_ext xd)
        replace hsz := Nat.lt_of_lt_of_le hsz xd.size
        generalize wc.drew = wd at *
        (refine wpAnyH_take (i := 0) (v := ?_) rfl (by kernel_rfl) (by kernel_rfl) (by kernel_rfl) (fun _ _ _ h => h) (Or.inl ⟨by rfl, ?_⟩) (by assumption) ?_; rotate_left; focus (intro w hSw; (try dsimp only at hSw); (try simp only [List.getElem_toArray, List.getElem_cons_zero]); go_simp; try with_reducible rfl)); (try simp only [List.getElem_toArray, List.getElem_cons_zero]); (try simp only [Act.put, List.setIfInBounds_toArray, List.set_cons_zero, List.set_cons_succ])
        (refine wpAnyH_take (i := 1) (v := ?_) rfl (by kernel_rfl) (by kernel_rfl) (by kernel_rfl) (fun _ _ _ h => h) (Or.inl ⟨by rfl, ?_⟩) (by assumption) ?_; rotate_left; focus (intro w hSw; (try dsimp only at hSw); (try simp only [List.getElem_toArray, List.getElem_cons_zero, List.getElem_cons_succ]); go_simp; try with_reducible rfl)); (try simp only [List.getElem_toArray, List.getElem_cons_zero, List.getElem_cons_succ]); (try simp only [Act.put, List.setIfInBounds_toArray, List.set_cons_zero, List.set_cons_succ])
        (refine wpAnyH_take (i := 3) (v := ?_) rfl (by kernel_rfl) (by kernel_rfl) (by kernel_rfl) (fun _ _ _ h => h) (Or.inl ⟨by rfl, ?_⟩) (by assumption) ?_; rotate_left; focus (intro w hSw; (try dsimp only at hSw); (try simp only [List.getElem_toArray, List.getElem_cons_zero, List.getElem_cons_succ]); go_simp; try with_reducible rfl)); (try simp only [List.getElem_toArray, List.getElem_cons_zero, List.getElem_cons_succ]); (try simp only [Act.put, List.setIfInBounds_toArray, List.set_cons_zero, List.set_cons_succ])
        (refine wpAnyH_take (i := 4) (v := ?_) rfl (by kernel_rfl) (by kernel_rfl) (by kernel_rfl) (fun _ _ _ h => h) (Or.inl ⟨by rfl, ?_⟩) (by assumption) ?_; rotate_left; focus (intro w hSw; (try dsimp only at hSw); (try simp only [List.getElem_toArray, List.getElem_cons_zero, List.getElem_cons_succ]); go_simp; try with_reducible rfl)); (try simp only [List.getElem_toArray, List.getElem_cons_zero, List.getElem_cons_succ]); (try simp only [Act.put, List.setIfInBounds_toArray, List.set_cons_zero, List.set_cons_succ])
        (refine wpAnyH_ready (rs := [2]) (by kernel_rfl) (by simp) ?_; refine AllReadyH.cons rfl (fun K hK => ?_) AllReadyH.nil; (try simp only [List.getElem_toArray, List.getElem_cons_zero, List.getElem_cons_succ]))
        go_simp
        go_at_call 44
        refine (spec_ProofHash nm _ _ zs' ss 1 _ (by unfold maxLen; omega) lb HFZ.out lub HSF.out).mono ?_
        rintro e we ⟨rfl, xe⟩
        replace P7 := P7.ext xe
        replace Q9 := Q9.ext xe
        replace R3 := R3.ext xe
        replace R4 := R4.ext xe
        replace la := la.ext xe
        replace lu := Row.ext lu xe
        replace lub := Row.ext lub xe
        replace lb := Lvs.ext lb xe
        replace hc := hc.ext xe
        replace hm := hm.trans (Mut.of_ext xe)
        replace hsz := Nat.lt_of_lt_of_le hsz xe.size
        (try dsimp only)
        refine hK.out _ _ (by exact ⟨P7.2.1 0 _ rfl, P7.2.1 1 _ rfl, Q9.2.1 0 _ rfl, Q9.2.1 1 _ rfl⟩) (fun hHeld => ?_)
        clear hK K
        (refine wpAnyH_ready (rs := [5]) (by kernel_rfl) (by simp) ?_; refine AllReadyH.cons rfl (fun K hK => ?_) AllReadyH.nil; (try simp only [List.getElem_toArray, List.getElem_cons_zero, List.getElem_cons_succ]))
        go_simp
        go_at_call 44
        refine (spec_ProofHash nm _ _ xs ss 1 _ (by unfold maxLen; omega) la HF.out lu HSF.out).mono ?_
        rintro e wf ⟨rfl, xf⟩
        replace P7 := P7.ext xf
        replace Q9 := Q9.ext xf
        replace R3 := R3.ext xf
        replace R4 := R4.ext xf
        replace la := la.ext xf
        replace lu := Row.ext lu xf
        replace lub := Row.ext lub xf
        replace lb := Lvs.ext lb xf
        replace hc := hc.ext xf
        replace hm := hm.trans (Mut.of_ext xf)
        replace hsz := Nat.lt_of_lt_of_le hsz xf.size
        (try dsimp only)
        refine hK.out _ _ (by exact ⟨P7.2.1 0 _ rfl, P7.2.1 1 _ rfl, Q9.2.1 0 _ rfl, Q9.2.1 1 _ rfl⟩) (fun hHeld => ?_)
        clear hK K
        (refine wpAnyH_take (i := 6) (v := .bool false) rfl (by kernel_rfl) (by kernel_rfl) (by kernel_rfl) (fun _ _ _ h => h) (Or.inl ⟨by rfl, ?_⟩) (by assumption) ?_; focus (intro w hSw; (try dsimp only at hSw); (try simp only [List.getElem_toArray, List.getElem_cons_zero, List.getElem_cons_succ]); go_simp; exact fun e => HQ.out (toList_inj.1 e))); (try simp only [List.getElem_toArray, List.getElem_cons_zero, List.getElem_cons_succ]); (try simp only [Act.put, List.setIfInBounds_toArray, List.set_cons_zero, List.set_cons_succ])
        refine wpAnyH_done (by kernel_rfl) ?_ _
        go_wp2
        go_roundw
        case rel => exact ⟨k + 1, zs', _, by go_num, by omega, HPZ.out, P7, Q9, R3, R4, la, lu, lb, lub, hvb, hc, hm, hsz⟩
        case measure => simp [intOf]; omega
    · have hlt' : ¬ (k : Int) < 600 := by omega
      have Nla := fun k e => (ha6 k e).1
      have Nlu := fun k e => (hu6 k e).1
      have Nlub := fun k e => (hub6 k e).1
      have Nlb := fun k e => (hvb k e).1
      go_wp2_with fail
      refine wp_region_held_drew (S := (fun W => W.cell? ⟨w5.heap.size, 0, none⟩ = some (.slice a xs.length c) ∧ W.cell? ⟨w5.heap.size, 1, none⟩ = some (.slice a2 ss.length c2) ∧ W.cell? ⟨w6.heap.size, 0, none⟩ = some (.slice av ys.length cv) ∧ W.cell? ⟨w6.heap.size, 1, none⟩ = some (.slice a4 ss.length c4))) (by kernel_rfl) (by exact ⟨P7.2.1 0 _ rfl, P7.2.1 1 _ rfl, Q9.2.1 0 _ rfl, Q9.2.1 1 _ rfl⟩) (fun hHeld => ?_)
      replace P7 := P7.ext (show Ext wr wr.drew from (by repeat (first | (with_reducible first | exact Ext.refl _ | assumption | apply Ext.alloc | apply Ext.drew | apply Ext.drewN | refine Ext.setCell ?_ ?_ _ | refine Ext.trans ?_ (by assumption)) | (show _ ≤ _; first | omega | (dsimp only; omega) | (simp; done) | (simp; omega)))))
      replace Q9 := Q9.ext (show Ext wr wr.drew from (by repeat (first | (with_reducible first | exact Ext.refl _ | assumption | apply Ext.alloc | apply Ext.drew | apply Ext.drewN | refine Ext.setCell ?_ ?_ _ | refine Ext.trans ?_ (by assumption)) | (show _ ≤ _; first | omega | (dsimp only; omega) | (simp; done) | (simp; omega)))))
      replace R3 := R3.ext (show Ext wr wr.drew from (by repeat (first | (with_reducible first | exact Ext.refl _ | assumption | apply Ext.alloc | apply Ext.drew | apply Ext.drewN | refine Ext.setCell ?_ ?_ _ | refine Ext.trans ?_ (by assumption)) | (show _ ≤ _; first | omega | (dsimp only; omega) | (simp; done) | (simp; omega)))))
      replace R4 := R4.ext (show Ext wr wr.drew from (by repeat (first | (with_reducible first | exact Ext.refl _ | assumption | apply Ext.alloc | apply Ext.drew | apply Ext.drewN | refine Ext.setCell ?_ ?_ _ | refine Ext.trans ?_ (by assumption)) | (show _ ≤ _; first | omega | (dsimp only; omega) | (simp; done) | (simp; omega)))))
      replace la := la.ext (show Ext wr wr.drew from (by repeat (first | (with_reducible first | exact Ext.refl _ | assumption | apply Ext.alloc | apply Ext.drew | apply Ext.drewN | refine Ext.setCell ?_ ?_ _ | refine Ext.trans ?_ (by assumption)) | (show _ ≤ _; first | omega | (dsimp only; omega) | (simp; done) | (simp; omega)))))
      replace lu := Row.ext lu (show Ext wr wr.drew from (by repeat (first | (with_reducible first | exact Ext.refl _ | assumption | apply Ext.alloc | apply Ext.drew | apply Ext.drewN | refine Ext.setCell ?_ ?_ _ | refine Ext.trans ?_ (by assumption)) | (show _ ≤ _; first | omega | (dsimp only; omega) | (simp; done) | (simp; omega)))))
      replace lb := lb.ext (show Ext wr wr.drew from (by repeat (first | (with_reducible first | exact Ext.refl _ | assumption | apply Ext.alloc | apply Ext.drew | apply Ext.drewN | refine Ext.setCell ?_ ?_ _ | refine Ext.trans ?_ (by assumption)) | (show _ ≤ _; first | omega | (dsimp only; omega) | (simp; done) | (simp; omega)))))
      replace lub := Row.ext lub (show Ext wr wr.drew from (by repeat (first | (with_reducible first | exact Ext.refl _ | assumption | apply Ext.alloc | apply Ext.drew | apply Ext.drewN | refine Ext.setCell ?_ ?_ _ | refine Ext.trans ?_ (by assumption)) | (show _ ≤ _; first | omega | (dsimp only; omega) | (simp; done) | (simp; omega)))))
      replace hc := hc.ext (show Ext wr wr.drew from (by repeat (first | (with_reducible first | exact Ext.refl _ | assumption | apply Ext.alloc | apply Ext.drew | apply Ext.drewN | refine Ext.setCell ?_ ?_ _ | refine Ext.trans ?_ (by assumption)) | (show _ ≤ _; first | omega | (dsimp only; omega) | (simp; done) | (simp; omega)))))
      replace hm := hm.drew
      generalize wr.drew = WD at *
      (refine wpAnyH_take (i := 0) (v := ?_) rfl (by kernel_rfl) (by kernel_rfl) (by kernel_rfl) (fun _ _ _ h => h) (Or.inl ⟨by rfl, ?_⟩) (by assumption) ?_; rotate_left; focus (intro w hSw; (try dsimp only at hSw); (try simp only [List.getElem_toArray, List.getElem_cons_zero]); go_simp; try with_reducible rfl)); (try simp only [List.getElem_toArray, List.getElem_cons_zero]); (try simp only [Act.put, List.setIfInBounds_toArray, List.set_cons_zero, List.set_cons_succ])
      (refine wpAnyH_take (i := 1) (v := ?_) rfl (by kernel_rfl) (by kernel_rfl) (by kernel_rfl) (fun _ _ _ h => h) (Or.inl ⟨by rfl, ?_⟩) (by assumption) ?_; rotate_left; focus (intro w hSw; (try dsimp only at hSw); (try simp only [List.getElem_toArray, List.getElem_cons_zero, List.getElem_cons_succ]); go_simp; try with_reducible rfl)); (try simp only [List.getElem_toArray, List.getElem_cons_zero, List.getElem_cons_succ]); (try simp only [Act.put, List.setIfInBounds_toArray, List.set_cons_zero, List.set_cons_succ])
      (refine wpAnyH_take (i := 2) (v := ?_) rfl (by kernel_rfl) (by kernel_rfl) (by kernel_rfl) (fun _ _ _ h => h) (Or.inl ⟨by rfl, ?_⟩) (by assumption) ?_; rotate_left; focus (intro w hSw; (try dsimp only at hSw); (try simp only [List.getElem_toArray, List.getElem_cons_zero, List.getElem_cons_succ]); go_simp; try with_reducible rfl)); (try simp only [List.getElem_toArray, List.getElem_cons_zero, List.getElem_cons_succ]); (try simp only [Act.put, List.setIfInBounds_toArray, List.set_cons_zero, List.set_cons_succ])
      (refine wpAnyH_take (i := 3) (v := ?_) rfl (by kernel_rfl) (by kernel_rfl) (by kernel_rfl) (fun _ _ _ h => h) (Or.inl ⟨by rfl, ?_⟩) (by assumption) ?_; rotate_left; focus (intro w hSw; (try dsimp only at hSw); (try simp only [List.getElem_toArray, List.getElem_cons_zero, List.getElem_cons_succ]); go_simp; try with_reducible rfl)); (try simp only [List.getElem_toArray, List.getElem_cons_zero, List.getElem_cons_succ]); (try simp only [Act.put, List.setIfInBounds_toArray, List.set_cons_zero, List.set_cons_succ])
      refine wpAnyH_ready (rs := [4]) (by kernel_rfl) (by simp) ?_
      refine AllReadyH.cons rfl (fun K hK => ?_) AllReadyH.nil
      (try simp only [List.getElem_toArray, List.getElem_cons_zero, List.getElem_cons_succ])
      have z0 := R3.2.1 0 _ rfl
      have z1 := R3.2.1 1 _ rfl
      have y0 := R3.2.2 0
      have y1 := R3.2.2 1
      go_simp
      clear z0 z1 y0 y1
      have gWE : WD.grownBy ((WD.setCell ⟨w.heap.size, 0, none⟩ (.slice a xs.length c)).setCell ⟨w.heap.size, 1, none⟩ (.slice a2 ss.length c2)) (some (w.heap.size)) := two_grown _ _ _ _
      replace R3 := (R3.set 0 (.slice a xs.length c) (by simp)).set 1 (.slice a2 ss.length c2) (by simp)
      replace R4 := R4.grown gWE (fun e => by injection e with e; omega)
      replace P7 := P7.grown gWE (fun e => by injection e with e; omega)
      replace Q9 := Q9.grown gWE (fun e => by injection e with e; omega)
      replace la := row_grown la gWE (fun k hk e => by injection hk with hk; have := Nla _ e; omega)
      replace lu := row_grown lu gWE (fun k hk e => by injection hk with hk; have := Nlu _ e; omega)
      replace lb := row_grown lb gWE (fun k hk e => by injection hk with hk; have := Nlb _ e; omega)
      replace lub := row_grown lub gWE (fun k hk e => by injection hk with hk; have := Nlub _ e; omega)
      replace hc := hc.grown gWE (fun k hk => by injection hk with hk; omega)
      replace hm := hm.grown gWE (fun k hk => by injection hk with hk; omega)
      generalize (WD.setCell ⟨w.heap.size, 0, none⟩ (.slice a xs.length c)).setCell ⟨w.heap.size, 1, none⟩ (.slice a2 ss.length c2) = WE at *
      (try dsimp only)
      refine hK.out _ _ (by exact ⟨P7.2.1 0 _ rfl, P7.2.1 1 _ rfl, Q9.2.1 0 _ rfl, Q9.2.1 1 _ rfl⟩) (fun hHeld => ?_)
      clear hK K
      refine wpAnyH_ready (rs := [5]) (by kernel_rfl) (by simp) ?_
      refine AllReadyH.cons rfl (fun K hK => ?_) AllReadyH.nil
      (try simp only [List.getElem_toArray, List.getElem_cons_zero, List.getElem_cons_succ])
      have z0 := R4.2.1 0 _ rfl
      have z1 := R4.2.1 1 _ rfl
      have y0 := R4.2.2 0
      have y1 := R4.2.2 1
      go_simp
      clear z0 z1 y0 y1
      have gWF : WE.grownBy ((WE.setCell ⟨w.heap.size + 1, 0, none⟩ (.slice av ys.length cv)).setCell ⟨w.heap.size + 1, 1, none⟩ (.slice a4 ss.length c4)) (some (w.heap.size + 1)) := two_grown _ _ _ _
      replace R4 := (R4.set 0 (.slice av ys.length cv) (by simp)).set 1 (.slice a4 ss.length c4) (by simp)
      replace R3 := R3.grown gWF (fun e => by injection e with e; omega)
      replace P7 := P7.grown gWF (fun e => by injection e with e; omega)
      replace Q9 := Q9.grown gWF (fun e => by injection e with e; omega)
      replace la := row_grown la gWF (fun k hk e => by injection hk with hk; have := Nla _ e; omega)
      replace lu := row_grown lu gWF (fun k hk e => by injection hk with hk; have := Nlu _ e; omega)
      replace lb := row_grown lb gWF (fun k hk e => by injection hk with hk; have := Nlb _ e; omega)
      replace lub := row_grown lub gWF (fun k hk e => by injection hk with hk; have := Nlub _ e; omega)
      replace hc := hc.grown gWF (fun k hk => by injection hk with hk; omega)
      replace hm := hm.grown gWF (fun k hk => by injection hk with hk; omega)
      generalize (WE.setCell ⟨w.heap.size + 1, 0, none⟩ (.slice av ys.length cv)).setCell ⟨w.heap.size + 1, 1, none⟩ (.slice a4 ss.length c4) = WF at *
      (try dsimp only)
      refine hK.out _ _ (by exact ⟨P7.2.1 0 _ rfl, P7.2.1 1 _ rfl, Q9.2.1 0 _ rfl, Q9.2.1 1 _ rfl⟩) (fun hHeld => ?_)
      clear hK K
      refine wpAnyH_done (by kernel_rfl) ?_ _
      have k0 := R3.2.1 0 _ rfl
      have k1 := R3.2.1 1 _ rfl
      have k2 := R4.2.1 0 _ rfl
      have k3 := R4.2.1 1 _ rfl
      go_wp2
      refine bodyPost_ret (v := .tuple #[.string nm, .agg #[.slice a xs.length c, .slice a2 ss.length c2], .agg #[.slice av ys.length cv, .slice a4 ss.length c4]]) (by simp [results, Tryd.results104, go_sem, k0, k1, k2, k3]) rfl ⟨nm, xs, ys, ss, _, _, _, _, rfl, hn12, HPX.out, HPY.out, ⟨la, lu, lb, lub⟩, (fun k e => by rcases e with e | e | e | e; (have := Nla _ e; omega); (have := Nlu _ e; omega); (have := Nlb _ e; omega); (have := Nlub _ e; omega)), hc, hm⟩
end Go.Proofs.YtcinihfjkkaclaaDoor
