/- Signed heads read: the program. -/
import Derived.Test.YtliebkhfddmhjaaRe
import Derived.Deep.DeepCutAuto
namespace Go.Proofs.Ytliebkhfddmhjaa
open Go.RowKit

def CutRd (W0 wx : World) (s5 : Value) (b : Nat) (t : ByteArray) (st : Int × Bool) (hh he : Int) (hr hp : ByteArray) (S : SigV) : Prop := ∃ (qb : Nat) (a1 a2 a3 : Option Addr) (c1 c2 c3 : Nat), s5 = .pointer (some ⟨qb, 0, none⟩) ∧ W0.heap.size ≤ qb ∧ Bx wx qb [.int .i64 hh, .int .i64 he, .string hr, .string hp, .int .i64 S.at_, .slice a1 S.op.length c1, .slice a2 S.sh.length c2, .slice a3 S.si.length c3] ∧ SigOwn wx W0.heap.size (.slice a1 S.op.length c1) (.slice a2 S.sh.length c2) (.slice a3 S.si.length c3) S ∧ Fld wx b t st.1 st.2 ∧ Mut b W0 wx
theorem SigOwn.mut {w w' : World} {base b : Nat} {v1 v2 v3 : Value} {s : SigV} (h : SigOwn w base v1 v2 v3 s) (hb : b < base) (hm : Mut b w w') : SigOwn w' base v1 v2 v3 s := ⟨own_mut h.1 hb hm, own_mut h.2.1 hb hm, own_mut h.2.2.1 hb hm, h.2.2.2⟩
def badE (x rk : Bool) (S : SigV) : Bool := x || (!rk || !sigWell S)
set_option maxRecDepth 100000 in
set_option maxHeartbeats 6400000 in
theorem impl_fields_seal (b : Nat) (t : ByteArray) (a : Int) (bad : Bool) (w : World) (h : Fld w b t a bad) (hb : b < w.heap.size) (ha : 0 ≤ a ∧ a ≤ t.size) (hs : t.size ≤ 1099511627776) :
    Calls Try.prog 26 #[.pointer (some ⟨b, 0, none⟩)] w fun e w' => ∃ a1 c1 a2 c2 a3 c3, e = .returned (.agg #[.int .i64 (hdH (rsT t a)), .int .i64 (hdE (rsT t a)), .string (hdR (rsT t a)), .string (hdP (rsT t a)), .int .i64 (sgRd t (shAt t a) (bad || !rsOk t a)).at_, .slice a1 (sgRd t (shAt t a) (bad || !rsOk t a)).op.length c1, .slice a2 (sgRd t (shAt t a) (bad || !rsOk t a)).sh.length c2, .slice a3 (sgRd t (shAt t a) (bad || !rsOk t a)).si.length c3]) ∧ SigOwn w' w.heap.size (.slice a1 (sgRd t (shAt t a) (bad || !rsOk t a)).op.length c1) (.slice a2 (sgRd t (shAt t a) (bad || !rsOk t a)).sh.length c2) (.slice a3 (sgRd t (shAt t a) (bad || !rsOk t a)).si.length c3) (sgRd t (shAt t a) (bad || !rsOk t a)) ∧ Fld w' b t (sgS4 t (shAt t a) (bad || !rsOk t a)).1 (badE (sgS4 t (shAt t a) (bad || !rsOk t a)).2 (rdHead (rsT t a)) (sgRd t (shAt t a) (bad || !rsOk t a))) ∧ Mut b w w' := by
  have e0 : Ext w (w.alloc (Obj.cells #[.int .i64 0, .int .i64 0, .string ⟨#[]⟩, .string ⟨#[]⟩, .int .i64 0, .slice none 0 0, .slice none 0 0, .slice none 0 0] 28)) := (Ext.refl w).alloc _
  have R := Bx.new w #[.int .i64 0, .int .i64 0, .string ⟨#[]⟩, .string ⟨#[]⟩, .int .i64 0, .slice none 0 0, .slice none 0 0, .slice none 0 0] 28
  have F0 := h.ext hb e0
  have hb0 := Nat.lt_of_lt_of_le hb e0.size
  have hwb : w.heap.size ≠ b := by omega
  have M0 : Mut b w (w.alloc (Obj.cells #[.int .i64 0, .int .i64 0, .string ⟨#[]⟩, .string ⟨#[]⟩, .int .i64 0, .slice none 0 0, .slice none 0 0, .slice none 0 0] 28)) := Mut.of_ext e0
  have hsa := shAt_bd (a := a) ha
  have hz := rsT_le t a
  generalize hht : rsT t a = ht at *
  generalize hok : rsOk t a = ok at *
  generalize hhsa : shAt t a = sa at *
  generalize ehh : hdH ht = hh at *
  generalize ehe : hdE ht = he at *
  generalize ehr : hdR ht = hr at *
  generalize ehp : hdP ht = hp at *
  generalize erk : rdHead ht = rk at *
  have HF := Lib.hid (sgRd_fit (t := t) (a := sa) (bad := bad || !ok) hsa)
  generalize hst : sgS4 t sa (bad || !ok) = st at *
  generalize hS : sgRd t sa (bad || !ok) = S at *
  have HHT := Lib.hid hht
  have HOK := Lib.hid hok
  have HSA := Lib.hid hhsa
  have E1 := Lib.hid ehh
  have E2 := Lib.hid ehe
  have E3 := Lib.hid ehr
  have E4 := Lib.hid ehp
  have E5 := Lib.hid erk
  have HST := Lib.hid hst
  have HS := Lib.hid hS
  clear hht hok hhsa ehh ehe ehr ehp erk hst hS
  skip
  go_enter Try.func26, Try.ntmps26
  go_wp2_with fail
  generalize w.alloc (Obj.cells #[.int .i64 0, .int .i64 0, .string ⟨#[]⟩, .string ⟨#[]⟩, .int .i64 0, .slice none 0 0, .slice none 0 0, .slice none 0 0] 28) = W0 at *
  refine (impl_fields_short b t a bad _ F0 hs).mono ?_
  rw [HHT.out, HOK.out, HSA.out]
  rintro e w1 ⟨rfl, M1, F1⟩
  have R1 := R.mut M1 hwb
  have hb1 := Nat.lt_of_lt_of_le hb0 M1.size
  have MA := M0.trans M1
  clear F0 R M0
  go_wp2_with fail
  refine (impl_ReadHead ht _ (by omega)).mono ?_
  rw [E1.out, E2.out, E3.out, E4.out, E5.out]
  rintro e w2 ⟨rfl, x2⟩
  have R2 := R1.ext x2
  have F2 := F1.ext hb1 x2
  have hb2 := Nat.lt_of_lt_of_le hb1 x2.size
  have MB := MA.trans (Mut.of_ext x2)
  clear F1 R1 MA
  have x3 : Ext w2 (w2.alloc (Obj.cells #[.int .i64 hh, .int .i64 he, .string hr, .string hp] 23)) := (Ext.refl _).alloc _
  have H := Bx.new w2 #[.int .i64 hh, .int .i64 he, .string hr, .string hp] 23
  have R3 := R2.ext x3
  have F3 := F2.ext hb2 x3
  have MC := MB.trans (Mut.of_ext x3)
  have hb3 := Nat.lt_of_lt_of_le hb2 x3.size
  have hbh : w2.heap.size ≠ b := by omega
  clear R2 F2 MB
  have h0 := H.2.1 0 _ rfl
  have h1 := H.2.1 1 _ rfl
  have h2 := H.2.1 2 _ rfl
  have h3 := H.2.1 3 _ rfl
  go_upto_region 2 with (fail)
  go_cut [5] (fun s5 wx => CutRd (w2.alloc (Obj.cells #[.int .i64 hh, .int .i64 he, .string hr, .string hp] 23)) wx s5 b t st hh he hr hp S)
  case first =>
    have LH := Lib.hid (show w2.heap.size < (w2.alloc (Obj.cells #[.int .i64 hh, .int .i64 he, .string hr, .string hp] 23)).heap.size from H.1)
    generalize w2.alloc (Obj.cells #[.int .i64 hh, .int .i64 he, .string hr, .string hp] 23) = w3 at *
    skip
    go_wp2_with fail
    clear h0 h1 h2 h3
    have M := Mut.refl b w3
    refine wp_region_held_drew (S := (fun W => W.cell? ⟨w2.heap.size, 0, none⟩ = some (.int .i64 hh) ∧ W.cell? ⟨w2.heap.size, 1, none⟩ = some (.int .i64 he) ∧ W.cell? ⟨w2.heap.size, 2, none⟩ = some (.string hr) ∧ W.cell? ⟨w2.heap.size, 3, none⟩ = some (.string hp))) (by kernel_rfl) (by exact ⟨H.2.1 0 _ rfl, H.2.1 1 _ rfl, H.2.1 2 _ rfl, H.2.1 3 _ rfl⟩) (fun hHeld => ?_)
    have xd : Ext w3 w3.drew := (Ext.refl w3).drew
    replace H := H.ext xd
    replace F3 := F3.ext hb3 xd
    replace hb3 := Nat.lt_of_lt_of_le hb3 (Ext.size xd)
    replace M := M.trans (Mut.of_ext xd)
    generalize w3.drew = y0 at *
    have h0 := H.2.1 0 _ rfl
    have h1 := H.2.1 1 _ rfl
    have h2 := H.2.1 2 _ rfl
    have h3 := H.2.1 3 _ rfl
    (refine wpAnyH_take (i := 0) (v := ?_) rfl (by kernel_rfl) (by kernel_rfl) (by kernel_rfl) (fun _ _ _ h => h) (Or.inl ⟨by rfl, ?_⟩) (by assumption) ?_; rotate_left; focus (intro w hSw; (try dsimp only at hSw); (try simp only [List.getElem_toArray, List.getElem_cons_zero]); go_simp; try with_reducible rfl)); (try simp only [List.getElem_toArray, List.getElem_cons_zero]); (try simp only [Act.put, List.setIfInBounds_toArray, List.set_cons_zero, List.set_cons_succ])
    (refine wpAnyH_take (i := 1) (v := ?_) rfl (by kernel_rfl) (by kernel_rfl) (by kernel_rfl) (fun _ _ _ h => h) (Or.inl ⟨by rfl, ?_⟩) (by assumption) ?_; rotate_left; focus (intro w hSw; (try dsimp only at hSw); (try simp only [List.getElem_toArray, List.getElem_cons_zero, List.getElem_cons_succ]); go_simp; try with_reducible rfl)); (try simp only [List.getElem_toArray, List.getElem_cons_zero, List.getElem_cons_succ]); (try simp only [Act.put, List.setIfInBounds_toArray, List.set_cons_zero, List.set_cons_succ])
    refine wpAnyH_ready (rs := [2, 4]) (by kernel_rfl) (by simp) ?_
    refine AllReadyH.cons rfl (fun K hK => ?_) (AllReadyH.cons rfl (fun K hK => ?_) AllReadyH.nil)
    · (try simp only [List.getElem_toArray, List.getElem_cons_zero, List.getElem_cons_succ])
      go_simp
      go_at_call 72
      refine (impl_fields_sig b t sa (bad || !ok) _ F3 hb3 hsa hs).mono ?_
      rw [HS.out, HST.out]
      rintro e y1 ⟨a1, c1, a2, c2, a3, c3, rfl, so, F4, M4⟩
      (try clear h0 h1 h2 h3)
      have H4 := H.mut M4 hbh
      have lsz : w3.heap.size ≤ y0.heap.size := M.size
      have SO := so.mono lsz
      have MM := M.trans M4
      replace hb3 := Nat.lt_of_lt_of_le hb3 M4.size
      have B0 := fun v n l (o : World.ownsRow y1 w3.heap.size 9 1 v n l) k (hk : v.ownBlock = some k) => (own_lt o k hk).2
      have B1 := fun k hk => Nat.ne_of_lt (B0 _ _ _ SO.1 k hk)
      have B2 := fun k hk => Nat.ne_of_lt (B0 _ _ _ SO.2.1 k hk)
      have B3 := fun k hk => Nat.ne_of_lt (B0 _ _ _ SO.2.2.1 k hk)
      clear B0
      clear so M F3 H
      have M := MM
      have F3 := F4
      have H := H4
      clear MM F4 H4
      (try dsimp only)
      refine hK.out _ _ (by exact ⟨H.2.1 0 _ rfl, H.2.1 1 _ rfl, H.2.1 2 _ rfl, H.2.1 3 _ rfl⟩) (fun hHeld => ?_)
      clear hK K
      (refine wpAnyH_take (i := 3) (v := ?_) rfl (by kernel_rfl) (by kernel_rfl) (by kernel_rfl) (fun _ _ _ h => h) (Or.inl ⟨by rfl, ?_⟩) (by assumption) ?_; rotate_left; focus (intro w hSw; (try dsimp only at hSw); (try simp only [List.getElem_toArray, List.getElem_cons_zero, List.getElem_cons_succ]); go_simp; try with_reducible rfl)); (try simp only [List.getElem_toArray, List.getElem_cons_zero, List.getElem_cons_succ]); (try simp only [Act.put, List.setIfInBounds_toArray, List.set_cons_zero, List.set_cons_succ])
      refine wpAnyH_ready (rs := [4]) (by kernel_rfl) (by simp) ?_
      refine AllReadyH.cons rfl (fun K hK => ?_) AllReadyH.nil
      (try simp only [List.getElem_toArray, List.getElem_cons_zero, List.getElem_cons_succ])
      go_simp
      have ez : Ext y1 (y1.alloc (Obj.cells #[.int .i64 0, .int .i64 0, .string ⟨#[]⟩, .string ⟨#[]⟩, .int .i64 0, .slice none 0 0, .slice none 0 0, .slice none 0 0] 28)) := (Ext.refl _).alloc _
      have Q := Bx.new y1 #[.int .i64 0, .int .i64 0, .string ⟨#[]⟩, .string ⟨#[]⟩, .int .i64 0, .slice none 0 0, .slice none 0 0, .slice none 0 0] 28
      have lq : w3.heap.size ≤ y1.heap.size := M.size
      have nqb : y1.heap.size ≠ b := by omega
      (try clear h0 h1 h2 h3)
      replace H := H.ext ez
      replace F3 := F3.ext hb3 ez
      replace hb3 := Nat.lt_of_lt_of_le hb3 (Ext.size ez)
      replace M := M.trans (Mut.of_ext ez)
      replace SO := SO.ext ez
      generalize y1.alloc (Obj.cells #[.int .i64 0, .int .i64 0, .string ⟨#[]⟩, .string ⟨#[]⟩, .int .i64 0, .slice none 0 0, .slice none 0 0, .slice none 0 0] 28) = y2 at *
      generalize hqb : y1.heap.size = qb at *
      clear hqb
      (try dsimp only)
      refine hK.out _ _ (by exact ⟨H.2.1 0 _ rfl, H.2.1 1 _ rfl, H.2.1 2 _ rfl, H.2.1 3 _ rfl⟩) (fun hHeld => ?_)
      clear hK K
      have z0 := Q.2.1 0 _ rfl
      have z1 := Q.2.1 1 _ rfl
      have z2 := Q.2.1 2 _ rfl
      have z3 := Q.2.1 3 _ rfl
      have z4 := Q.2.1 4 _ rfl
      have z5 := Q.2.1 5 _ rfl
      have z6 := Q.2.1 6 _ rfl
      have z7 := Q.2.1 7 _ rfl
      have f0 := Q.2.2 0
      have f1 := Q.2.2 1
      have f2 := Q.2.2 2
      have f3 := Q.2.2 3
      have f4 := Q.2.2 4
      have f5 := Q.2.2 5
      have f6 := Q.2.2 6
      have f7 := Q.2.2 7
      have nhq : qb ≠ w2.heap.size := by have := LH.out; omega
      have QQ := ((((((((Q.set 0 (.int .i64 hh) (by simp)).set 1 (.int .i64 he) (by simp)).set 2 (.string hr) (by simp)).set 3 (.string hp) (by simp)).set 4 (.int .i64 S.at_) (by simp)).set 5 (.slice a1 S.op.length c1) (by simp)).set 6 (.slice a2 S.sh.length c2) (by simp)).set 7 (.slice a3 S.si.length c3) (by simp))
      have SQ := ((((((((SO.far B1 B2 B3 0 (.int .i64 hh)).far B1 B2 B3 1 (.int .i64 he)).far B1 B2 B3 2 (.string hr)).far B1 B2 B3 3 (.string hp)).far B1 B2 B3 4 (.int .i64 S.at_)).far B1 B2 B3 5 (.slice a1 S.op.length c1)).far B1 B2 B3 6 (.slice a2 S.sh.length c2)).far B1 B2 B3 7 (.slice a3 S.si.length c3))
      have FQ := (fld_far (fld_far (fld_far (fld_far (fld_far (fld_far (fld_far (fld_far F3 nqb 0 (.int .i64 hh)) nqb 1 (.int .i64 he)) nqb 2 (.string hr)) nqb 3 (.string hp)) nqb 4 (.int .i64 S.at_)) nqb 5 (.slice a1 S.op.length c1)) nqb 6 (.slice a2 S.sh.length c2)) nqb 7 (.slice a3 S.si.length c3))
      have HQ := ((((((((H.far (c := qb) nhq 0 (.int .i64 hh)).far (c := qb) nhq 1 (.int .i64 he)).far (c := qb) nhq 2 (.string hr)).far (c := qb) nhq 3 (.string hp)).far (c := qb) nhq 4 (.int .i64 S.at_)).far (c := qb) nhq 5 (.slice a1 S.op.length c1)).far (c := qb) nhq 6 (.slice a2 S.sh.length c2)).far (c := qb) nhq 7 (.slice a3 S.si.length c3))
      have MQ : Mut b w3 ((((((((y2.setCell ⟨qb, 0, none⟩ (.int .i64 hh)).setCell ⟨qb, 1, none⟩ (.int .i64 he)).setCell ⟨qb, 2, none⟩ (.string hr)).setCell ⟨qb, 3, none⟩ (.string hp)).setCell ⟨qb, 4, none⟩ (.int .i64 S.at_)).setCell ⟨qb, 5, none⟩ (.slice a1 S.op.length c1)).setCell ⟨qb, 6, none⟩ (.slice a2 S.sh.length c2)).setCell ⟨qb, 7, none⟩ (.slice a3 S.si.length c3)) := (mut_new (mut_new (mut_new (mut_new (mut_new (mut_new (mut_new (mut_new M 0 (.int .i64 hh) lq) 1 (.int .i64 he) lq) 2 (.string hr) lq) 3 (.string hp) lq) 4 (.int .i64 S.at_) lq) 5 (.slice a1 S.op.length c1) lq) 6 (.slice a2 S.sh.length c2) lq) 7 (.slice a3 S.si.length c3) lq)
      clear H
      have H := HQ
      clear HQ
      (refine wpAnyH_ready (rs := [5]) (by kernel_rfl) (by simp) ?_; refine AllReadyH.cons rfl (fun K hK => ?_) AllReadyH.nil; (try simp only [List.getElem_toArray, List.getElem_cons_zero, List.getElem_cons_succ]))
      go_simp
      clear z0 f0 z1 f1 z2 f2 z3 f3 z4 f4 z5 f5 z6 f6 z7 f7
      generalize (((((((y2.setCell ⟨qb, 0, none⟩ (.int .i64 hh)).setCell ⟨qb, 1, none⟩ (.int .i64 he)).setCell ⟨qb, 2, none⟩ (.string hr)).setCell ⟨qb, 3, none⟩ (.string hp)).setCell ⟨qb, 4, none⟩ (.int .i64 S.at_)).setCell ⟨qb, 5, none⟩ (.slice a1 S.op.length c1)).setCell ⟨qb, 6, none⟩ (.slice a2 S.sh.length c2)).setCell ⟨qb, 7, none⟩ (.slice a3 S.si.length c3) = W6 at *
      (try dsimp only)
      refine hK.out _ _ (by exact ⟨H.2.1 0 _ rfl, H.2.1 1 _ rfl, H.2.1 2 _ rfl, H.2.1 3 _ rfl⟩) (fun hHeld => ?_)
      clear hK K
      refine wpAnyH_done (by kernel_rfl) ?_ _
      go_wp2_with fail
      go_meet
      exact ⟨qb, a1, a2, a3, c1, c2, c3, rfl, lq, QQ, SQ, FQ, MQ⟩
    · (try simp only [List.getElem_toArray, List.getElem_cons_zero, List.getElem_cons_succ])
      go_simp
      have ez : Ext y0 (y0.alloc (Obj.cells #[.int .i64 0, .int .i64 0, .string ⟨#[]⟩, .string ⟨#[]⟩, .int .i64 0, .slice none 0 0, .slice none 0 0, .slice none 0 0] 28)) := (Ext.refl _).alloc _
      have Q := Bx.new y0 #[.int .i64 0, .int .i64 0, .string ⟨#[]⟩, .string ⟨#[]⟩, .int .i64 0, .slice none 0 0, .slice none 0 0, .slice none 0 0] 28
      have lq : w3.heap.size ≤ y0.heap.size := M.size
      have nqb : y0.heap.size ≠ b := by omega
      (try clear h0 h1 h2 h3)
      replace H := H.ext ez
      replace F3 := F3.ext hb3 ez
      replace hb3 := Nat.lt_of_lt_of_le hb3 (Ext.size ez)
      replace M := M.trans (Mut.of_ext ez)
      generalize y0.alloc (Obj.cells #[.int .i64 0, .int .i64 0, .string ⟨#[]⟩, .string ⟨#[]⟩, .int .i64 0, .slice none 0 0, .slice none 0 0, .slice none 0 0] 28) = y1 at *
      generalize hqb : y0.heap.size = qb at *
      clear hqb
      (try dsimp only)
      refine hK.out _ _ (by exact ⟨H.2.1 0 _ rfl, H.2.1 1 _ rfl, H.2.1 2 _ rfl, H.2.1 3 _ rfl⟩) (fun hHeld => ?_)
      clear hK K
      (refine wpAnyH_ready (rs := [2]) (by kernel_rfl) (by simp) ?_; refine AllReadyH.cons rfl (fun K hK => ?_) AllReadyH.nil)
      (try simp only [List.getElem_toArray, List.getElem_cons_zero, List.getElem_cons_succ])
      go_simp
      go_at_call 72
      refine (impl_fields_sig b t sa (bad || !ok) _ F3 hb3 hsa hs).mono ?_
      rw [HS.out, HST.out]
      rintro e y2 ⟨a1, c1, a2, c2, a3, c3, rfl, so, F4, M4⟩
      (try clear h0 h1 h2 h3)
      have H4 := H.mut M4 hbh
      have lsz : w3.heap.size ≤ y1.heap.size := M.size
      have lqs : qb < y1.heap.size := Q.1
      have Q4 := Q.mut M4 nqb
      have B1 := fun k (hk : Value.ownBlock (.slice a1 S.op.length c1) = some k) => Nat.ne_of_gt (Nat.lt_of_lt_of_le lqs (own_lt so.1 k hk).1)
      have B2 := fun k (hk : Value.ownBlock (.slice a2 S.sh.length c2) = some k) => Nat.ne_of_gt (Nat.lt_of_lt_of_le lqs (own_lt so.2.1 k hk).1)
      have B3 := fun k (hk : Value.ownBlock (.slice a3 S.si.length c3) = some k) => Nat.ne_of_gt (Nat.lt_of_lt_of_le lqs (own_lt so.2.2.1 k hk).1)
      have SO := so.mono lsz
      have MM := M.trans M4
      replace hb3 := Nat.lt_of_lt_of_le hb3 M4.size
      clear so M F3 H Q
      have M := MM
      have F3 := F4
      have H := H4
      have Q := Q4
      clear MM F4 H4 Q4
      (try dsimp only)
      refine hK.out _ _ (by exact ⟨H.2.1 0 _ rfl, H.2.1 1 _ rfl, H.2.1 2 _ rfl, H.2.1 3 _ rfl⟩) (fun hHeld => ?_)
      clear hK K
      (refine wpAnyH_take (i := 3) (v := ?_) rfl (by kernel_rfl) (by kernel_rfl) (by kernel_rfl) (fun _ _ _ h => h) (Or.inl ⟨by rfl, ?_⟩) (by assumption) ?_; rotate_left; focus (intro w hSw; (try dsimp only at hSw); (try simp only [List.getElem_toArray, List.getElem_cons_zero, List.getElem_cons_succ]); go_simp; try with_reducible rfl)); (try simp only [List.getElem_toArray, List.getElem_cons_zero, List.getElem_cons_succ]); (try simp only [Act.put, List.setIfInBounds_toArray, List.set_cons_zero, List.set_cons_succ])
      have z0 := Q.2.1 0 _ rfl
      have z1 := Q.2.1 1 _ rfl
      have z2 := Q.2.1 2 _ rfl
      have z3 := Q.2.1 3 _ rfl
      have z4 := Q.2.1 4 _ rfl
      have z5 := Q.2.1 5 _ rfl
      have z6 := Q.2.1 6 _ rfl
      have z7 := Q.2.1 7 _ rfl
      have f0 := Q.2.2 0
      have f1 := Q.2.2 1
      have f2 := Q.2.2 2
      have f3 := Q.2.2 3
      have f4 := Q.2.2 4
      have f5 := Q.2.2 5
      have f6 := Q.2.2 6
      have f7 := Q.2.2 7
      have nhq : qb ≠ w2.heap.size := by have := LH.out; omega
      have QQ := ((((((((Q.set 0 (.int .i64 hh) (by simp)).set 1 (.int .i64 he) (by simp)).set 2 (.string hr) (by simp)).set 3 (.string hp) (by simp)).set 4 (.int .i64 S.at_) (by simp)).set 5 (.slice a1 S.op.length c1) (by simp)).set 6 (.slice a2 S.sh.length c2) (by simp)).set 7 (.slice a3 S.si.length c3) (by simp))
      have SQ := ((((((((SO.far B1 B2 B3 0 (.int .i64 hh)).far B1 B2 B3 1 (.int .i64 he)).far B1 B2 B3 2 (.string hr)).far B1 B2 B3 3 (.string hp)).far B1 B2 B3 4 (.int .i64 S.at_)).far B1 B2 B3 5 (.slice a1 S.op.length c1)).far B1 B2 B3 6 (.slice a2 S.sh.length c2)).far B1 B2 B3 7 (.slice a3 S.si.length c3))
      have FQ := (fld_far (fld_far (fld_far (fld_far (fld_far (fld_far (fld_far (fld_far F3 nqb 0 (.int .i64 hh)) nqb 1 (.int .i64 he)) nqb 2 (.string hr)) nqb 3 (.string hp)) nqb 4 (.int .i64 S.at_)) nqb 5 (.slice a1 S.op.length c1)) nqb 6 (.slice a2 S.sh.length c2)) nqb 7 (.slice a3 S.si.length c3))
      have HQ := ((((((((H.far (c := qb) nhq 0 (.int .i64 hh)).far (c := qb) nhq 1 (.int .i64 he)).far (c := qb) nhq 2 (.string hr)).far (c := qb) nhq 3 (.string hp)).far (c := qb) nhq 4 (.int .i64 S.at_)).far (c := qb) nhq 5 (.slice a1 S.op.length c1)).far (c := qb) nhq 6 (.slice a2 S.sh.length c2)).far (c := qb) nhq 7 (.slice a3 S.si.length c3))
      have MQ : Mut b w3 ((((((((y2.setCell ⟨qb, 0, none⟩ (.int .i64 hh)).setCell ⟨qb, 1, none⟩ (.int .i64 he)).setCell ⟨qb, 2, none⟩ (.string hr)).setCell ⟨qb, 3, none⟩ (.string hp)).setCell ⟨qb, 4, none⟩ (.int .i64 S.at_)).setCell ⟨qb, 5, none⟩ (.slice a1 S.op.length c1)).setCell ⟨qb, 6, none⟩ (.slice a2 S.sh.length c2)).setCell ⟨qb, 7, none⟩ (.slice a3 S.si.length c3)) := (mut_new (mut_new (mut_new (mut_new (mut_new (mut_new (mut_new (mut_new M 0 (.int .i64 hh) lq) 1 (.int .i64 he) lq) 2 (.string hr) lq) 3 (.string hp) lq) 4 (.int .i64 S.at_) lq) 5 (.slice a1 S.op.length c1) lq) 6 (.slice a2 S.sh.length c2) lq) 7 (.slice a3 S.si.length c3) lq)
      clear H
      have H := HQ
      clear HQ
      (refine wpAnyH_ready (rs := [5]) (by kernel_rfl) (by simp) ?_; refine AllReadyH.cons rfl (fun K hK => ?_) AllReadyH.nil; (try simp only [List.getElem_toArray, List.getElem_cons_zero, List.getElem_cons_succ]))
      go_simp
      clear z0 f0 z1 f1 z2 f2 z3 f3 z4 f4 z5 f5 z6 f6 z7 f7
      generalize (((((((y2.setCell ⟨qb, 0, none⟩ (.int .i64 hh)).setCell ⟨qb, 1, none⟩ (.int .i64 he)).setCell ⟨qb, 2, none⟩ (.string hr)).setCell ⟨qb, 3, none⟩ (.string hp)).setCell ⟨qb, 4, none⟩ (.int .i64 S.at_)).setCell ⟨qb, 5, none⟩ (.slice a1 S.op.length c1)).setCell ⟨qb, 6, none⟩ (.slice a2 S.sh.length c2)).setCell ⟨qb, 7, none⟩ (.slice a3 S.si.length c3) = W6 at *
      (try dsimp only)
      refine hK.out _ _ (by exact ⟨H.2.1 0 _ rfl, H.2.1 1 _ rfl, H.2.1 2 _ rfl, H.2.1 3 _ rfl⟩) (fun hHeld => ?_)
      clear hK K
      refine wpAnyH_done (by kernel_rfl) ?_ _
      go_wp2_with fail
      go_meet
      exact ⟨qb, a1, a2, a3, c1, c2, c3, rfl, lq, QQ, SQ, FQ, MQ⟩
  case rest =>
    obtain ⟨qb, a1, a2, a3, c1, c2, c3, rfl, lq, Q, SO, F4, M4⟩ := hcut
    have R4 := R3.mut M4 hwb
    have MD := MC.trans M4
    have hb4 := Nat.lt_of_lt_of_le hb3 M4.size
    have lw3 : w.heap.size < (w2.alloc (Obj.cells #[.int .i64 hh, .int .i64 he, .string hr, .string hp] 23)).heap.size := R3.1
    have nqb : qb ≠ b := by omega
    generalize wc = V at *
    clear R3 F3 H MC h0 h1 h2 h3
    have LW := Lib.hid lq
    have SO2 := SO.mono (show w.heap.size + 1 ≤ (w2.alloc (Obj.cells #[.int .i64 hh, .int .i64 he, .string hr, .string hp] 23)).heap.size from lw3)
    have hq2 : w.heap.size < qb := Nat.lt_of_lt_of_le lw3 lq
    clear SO lq LW M4
    have q0 := Q.2.1 0 _ rfl
    have q1 := Q.2.1 1 _ rfl
    have q2 := Q.2.1 2 _ rfl
    have q3 := Q.2.1 3 _ rfl
    have q4 := Q.2.1 4 _ rfl
    have q5 := Q.2.1 5 _ rfl
    have q6 := Q.2.1 6 _ rfl
    have q7 := Q.2.1 7 _ rfl
    have c2b := F4.c2
    have f2b := F4.fz 2
    have HE := Lib.hid (show badE st.2 rk S = (st.2 || (!rk || !sigWell S)) from rfl)
    cases hk1 : st.2 || !rk
    · have hst2 : st.2 = false := by cases h : st.2 <;> simp_all
      have hrk : rk = true := by cases h : rk <;> simp_all
      rw [hst2] at c2b
      have HST2 := Lib.hid hst2
      clear hk1 hst2
      subst hrk
      cases hk2 : sigWell S
      · have HK2 := Lib.hid hk2
        have HBE := Lib.hid (show badE st.2 true S = true by rw [badE, HST2.out, hk2]; rfl)
        clear hk2
        go_wp2_with fail
        refine (impl_formed _ _ _ S _ SO2.1.strs SO2.2.1.strs SO2.2.2.1.strs HF.out).mono ?_
        rw [HK2.out]
        rintro e w8 ⟨rfl, x8⟩
        clear c2b f2b q0 q1 q2 q3 q4 q5 q6 q7
        replace Q := Q.ext x8
        replace R4 := R4.ext x8
        replace SO2 := SO2.ext x8
        replace F4 := F4.ext hb4 x8
        replace MD := MD.trans (Mut.of_ext x8)
        have lb8 := Nat.lt_of_lt_of_le hb4 x8.size
        have q0 := Q.2.1 0 _ rfl
        have q1 := Q.2.1 1 _ rfl
        have q2 := Q.2.1 2 _ rfl
        have q3 := Q.2.1 3 _ rfl
        have q4 := Q.2.1 4 _ rfl
        have q5 := Q.2.1 5 _ rfl
        have q6 := Q.2.1 6 _ rfl
        have q7 := Q.2.1 7 _ rfl
        have c2b := F4.c2
        have f2b := F4.fz 2
        have FF := F4.bad true
        have MF := MD.setCell 2 (.bool true)
        have QF := Q.far (c := b) nqb.symm 2 (.bool true)
        have RF0 := R4.far (c := b) hwb.symm 2 (.bool true)
        have SF0 := SO2.mut (by omega) ((Mut.refl b w8).setCell 2 (.bool true))
        have z0 := R4.2.1 0 _ rfl
        have z1 := R4.2.1 1 _ rfl
        have z2 := R4.2.1 2 _ rfl
        have z3 := R4.2.1 3 _ rfl
        have z4 := R4.2.1 4 _ rfl
        have z5 := R4.2.1 5 _ rfl
        have z6 := R4.2.1 6 _ rfl
        have z7 := R4.2.1 7 _ rfl
        have zf0 := R4.2.2 0
        have zf1 := R4.2.2 1
        have zf2 := R4.2.2 2
        have zf3 := R4.2.2 3
        have zf4 := R4.2.2 4
        have zf5 := R4.2.2 5
        have zf6 := R4.2.2 6
        have zf7 := R4.2.2 7
        have RR := ((((((((RF0.set 0 (.int .i64 hh) (by simp)).set 1 (.int .i64 he) (by simp)).set 2 (.string hr) (by simp)).set 3 (.string hp) (by simp)).set 4 (.int .i64 S.at_) (by simp)).set 5 (.slice a1 S.op.length c1) (by simp)).set 6 (.slice a2 S.sh.length c2) (by simp)).set 7 (.slice a3 S.si.length c3) (by simp))
        have SS := ((((((((SF0.set (b := w.heap.size) (by omega) 0 (.int .i64 hh)).set (b := w.heap.size) (by omega) 1 (.int .i64 he)).set (b := w.heap.size) (by omega) 2 (.string hr)).set (b := w.heap.size) (by omega) 3 (.string hp)).set (b := w.heap.size) (by omega) 4 (.int .i64 S.at_)).set (b := w.heap.size) (by omega) 5 (.slice a1 S.op.length c1)).set (b := w.heap.size) (by omega) 6 (.slice a2 S.sh.length c2)).set (b := w.heap.size) (by omega) 7 (.slice a3 S.si.length c3))
        have FR := (fld_far (fld_far (fld_far (fld_far (fld_far (fld_far (fld_far (fld_far FF hwb 0 (.int .i64 hh)) hwb 1 (.int .i64 he)) hwb 2 (.string hr)) hwb 3 (.string hp)) hwb 4 (.int .i64 S.at_)) hwb 5 (.slice a1 S.op.length c1)) hwb 6 (.slice a2 S.sh.length c2)) hwb 7 (.slice a3 S.si.length c3))
        have MR : Mut b w (((((((((w8.setCell ⟨b, 2, none⟩ (.bool true)).setCell ⟨w.heap.size, 0, none⟩ (.int .i64 hh)).setCell ⟨w.heap.size, 1, none⟩ (.int .i64 he)).setCell ⟨w.heap.size, 2, none⟩ (.string hr)).setCell ⟨w.heap.size, 3, none⟩ (.string hp)).setCell ⟨w.heap.size, 4, none⟩ (.int .i64 S.at_)).setCell ⟨w.heap.size, 5, none⟩ (.slice a1 S.op.length c1)).setCell ⟨w.heap.size, 6, none⟩ (.slice a2 S.sh.length c2)).setCell ⟨w.heap.size, 7, none⟩ (.slice a3 S.si.length c3)) := (mut_new (mut_new (mut_new (mut_new (mut_new (mut_new (mut_new (mut_new MF 0 (.int .i64 hh)) 1 (.int .i64 he)) 2 (.string hr)) 3 (.string hp)) 4 (.int .i64 S.at_)) 5 (.slice a1 S.op.length c1)) 6 (.slice a2 S.sh.length c2)) 7 (.slice a3 S.si.length c3))
        go_wp2
        generalize ((((((((w8.setCell ⟨b, 2, none⟩ (.bool true)).setCell ⟨w.heap.size, 0, none⟩ (.int .i64 hh)).setCell ⟨w.heap.size, 1, none⟩ (.int .i64 he)).setCell ⟨w.heap.size, 2, none⟩ (.string hr)).setCell ⟨w.heap.size, 3, none⟩ (.string hp)).setCell ⟨w.heap.size, 4, none⟩ (.int .i64 S.at_)).setCell ⟨w.heap.size, 5, none⟩ (.slice a1 S.op.length c1)).setCell ⟨w.heap.size, 6, none⟩ (.slice a2 S.sh.length c2)).setCell ⟨w.heap.size, 7, none⟩ (.slice a3 S.si.length c3) = WF at *
        clear c2b f2b z0 zf0 z1 zf1 z2 zf2 z3 zf3 z4 zf4 z5 zf5 z6 zf6 z7 zf7 q0 q1 q2 q3 q4 q5 q6 q7
        have k0 := RR.2.1 0 _ rfl
        have k1 := RR.2.1 1 _ rfl
        have k2 := RR.2.1 2 _ rfl
        have k3 := RR.2.1 3 _ rfl
        have k4 := RR.2.1 4 _ rfl
        have k5 := RR.2.1 5 _ rfl
        have k6 := RR.2.1 6 _ rfl
        have k7 := RR.2.1 7 _ rfl
        refine bodyPost_ret (v := .agg #[.int .i64 hh, .int .i64 he, .string hr, .string hp, .int .i64 S.at_, .slice a1 S.op.length c1, .slice a2 S.sh.length c2, .slice a3 S.si.length c3]) (by simp [results, Try.results26, go_sem, k0, k1, k2, k3, k4, k5, k6, k7]) rfl ?_
        exact ⟨a1, c1, a2, c2, a3, c3, rfl, SS.mono (Nat.le_succ _), by rw [HBE.out]; exact FR, MR⟩
      · have HK2 := Lib.hid hk2
        have HBE := Lib.hid (show badE st.2 true S = false by rw [badE, HST2.out, hk2]; rfl)
        clear hk2
        go_wp2_with fail
        refine (impl_formed _ _ _ S _ SO2.1.strs SO2.2.1.strs SO2.2.2.1.strs HF.out).mono ?_
        rw [HK2.out]
        rintro e w8 ⟨rfl, x8⟩
        clear c2b f2b q0 q1 q2 q3 q4 q5 q6 q7
        replace Q := Q.ext x8
        replace R4 := R4.ext x8
        replace SO2 := SO2.ext x8
        replace F4 := F4.ext hb4 x8
        replace MD := MD.trans (Mut.of_ext x8)
        have lb8 := Nat.lt_of_lt_of_le hb4 x8.size
        have q0 := Q.2.1 0 _ rfl
        have q1 := Q.2.1 1 _ rfl
        have q2 := Q.2.1 2 _ rfl
        have q3 := Q.2.1 3 _ rfl
        have q4 := Q.2.1 4 _ rfl
        have q5 := Q.2.1 5 _ rfl
        have q6 := Q.2.1 6 _ rfl
        have q7 := Q.2.1 7 _ rfl
        have c2b := F4.c2
        have f2b := F4.fz 2
        have FF := F4.bad false
        have MF := MD.setCell 2 (.bool false)
        have QF := Q.far (c := b) nqb.symm 2 (.bool false)
        have RF0 := R4.far (c := b) hwb.symm 2 (.bool false)
        have SF0 := SO2.mut (by omega) ((Mut.refl b w8).setCell 2 (.bool false))
        have z0 := R4.2.1 0 _ rfl
        have z1 := R4.2.1 1 _ rfl
        have z2 := R4.2.1 2 _ rfl
        have z3 := R4.2.1 3 _ rfl
        have z4 := R4.2.1 4 _ rfl
        have z5 := R4.2.1 5 _ rfl
        have z6 := R4.2.1 6 _ rfl
        have z7 := R4.2.1 7 _ rfl
        have zf0 := R4.2.2 0
        have zf1 := R4.2.2 1
        have zf2 := R4.2.2 2
        have zf3 := R4.2.2 3
        have zf4 := R4.2.2 4
        have zf5 := R4.2.2 5
        have zf6 := R4.2.2 6
        have zf7 := R4.2.2 7
        have RR := ((((((((RF0.set 0 (.int .i64 hh) (by simp)).set 1 (.int .i64 he) (by simp)).set 2 (.string hr) (by simp)).set 3 (.string hp) (by simp)).set 4 (.int .i64 S.at_) (by simp)).set 5 (.slice a1 S.op.length c1) (by simp)).set 6 (.slice a2 S.sh.length c2) (by simp)).set 7 (.slice a3 S.si.length c3) (by simp))
        have SS := ((((((((SF0.set (b := w.heap.size) (by omega) 0 (.int .i64 hh)).set (b := w.heap.size) (by omega) 1 (.int .i64 he)).set (b := w.heap.size) (by omega) 2 (.string hr)).set (b := w.heap.size) (by omega) 3 (.string hp)).set (b := w.heap.size) (by omega) 4 (.int .i64 S.at_)).set (b := w.heap.size) (by omega) 5 (.slice a1 S.op.length c1)).set (b := w.heap.size) (by omega) 6 (.slice a2 S.sh.length c2)).set (b := w.heap.size) (by omega) 7 (.slice a3 S.si.length c3))
        have FR := (fld_far (fld_far (fld_far (fld_far (fld_far (fld_far (fld_far (fld_far FF hwb 0 (.int .i64 hh)) hwb 1 (.int .i64 he)) hwb 2 (.string hr)) hwb 3 (.string hp)) hwb 4 (.int .i64 S.at_)) hwb 5 (.slice a1 S.op.length c1)) hwb 6 (.slice a2 S.sh.length c2)) hwb 7 (.slice a3 S.si.length c3))
        have MR : Mut b w (((((((((w8.setCell ⟨b, 2, none⟩ (.bool false)).setCell ⟨w.heap.size, 0, none⟩ (.int .i64 hh)).setCell ⟨w.heap.size, 1, none⟩ (.int .i64 he)).setCell ⟨w.heap.size, 2, none⟩ (.string hr)).setCell ⟨w.heap.size, 3, none⟩ (.string hp)).setCell ⟨w.heap.size, 4, none⟩ (.int .i64 S.at_)).setCell ⟨w.heap.size, 5, none⟩ (.slice a1 S.op.length c1)).setCell ⟨w.heap.size, 6, none⟩ (.slice a2 S.sh.length c2)).setCell ⟨w.heap.size, 7, none⟩ (.slice a3 S.si.length c3)) := (mut_new (mut_new (mut_new (mut_new (mut_new (mut_new (mut_new (mut_new MF 0 (.int .i64 hh)) 1 (.int .i64 he)) 2 (.string hr)) 3 (.string hp)) 4 (.int .i64 S.at_)) 5 (.slice a1 S.op.length c1)) 6 (.slice a2 S.sh.length c2)) 7 (.slice a3 S.si.length c3))
        go_wp2
        generalize ((((((((w8.setCell ⟨b, 2, none⟩ (.bool false)).setCell ⟨w.heap.size, 0, none⟩ (.int .i64 hh)).setCell ⟨w.heap.size, 1, none⟩ (.int .i64 he)).setCell ⟨w.heap.size, 2, none⟩ (.string hr)).setCell ⟨w.heap.size, 3, none⟩ (.string hp)).setCell ⟨w.heap.size, 4, none⟩ (.int .i64 S.at_)).setCell ⟨w.heap.size, 5, none⟩ (.slice a1 S.op.length c1)).setCell ⟨w.heap.size, 6, none⟩ (.slice a2 S.sh.length c2)).setCell ⟨w.heap.size, 7, none⟩ (.slice a3 S.si.length c3) = WF at *
        clear c2b f2b z0 zf0 z1 zf1 z2 zf2 z3 zf3 z4 zf4 z5 zf5 z6 zf6 z7 zf7 q0 q1 q2 q3 q4 q5 q6 q7
        have k0 := RR.2.1 0 _ rfl
        have k1 := RR.2.1 1 _ rfl
        have k2 := RR.2.1 2 _ rfl
        have k3 := RR.2.1 3 _ rfl
        have k4 := RR.2.1 4 _ rfl
        have k5 := RR.2.1 5 _ rfl
        have k6 := RR.2.1 6 _ rfl
        have k7 := RR.2.1 7 _ rfl
        refine bodyPost_ret (v := .agg #[.int .i64 hh, .int .i64 he, .string hr, .string hp, .int .i64 S.at_, .slice a1 S.op.length c1, .slice a2 S.sh.length c2, .slice a3 S.si.length c3]) (by simp [results, Try.results26, go_sem, k0, k1, k2, k3, k4, k5, k6, k7]) rfl ?_
        exact ⟨a1, c1, a2, c2, a3, c3, rfl, SS.mono (Nat.le_succ _), by rw [HBE.out]; exact FR, MR⟩
    · have HBE := Lib.hid (show badE st.2 rk S = true by rw [badE]; cases h1 : st.2 <;> cases h2 : rk <;> simp_all)
      have HK1 := Lib.hid hk1
      have hc : (st.2 = true) ∨ (st.2 = false ∧ rk = false) := by cases h1 : st.2 <;> cases h2 : rk <;> simp_all
      clear hk1
      rcases hc with hc | ⟨hc, rfl⟩
      · rw [hc] at c2b
        clear hc
        have FF := F4.bad true
        have MF := MD.setCell 2 (.bool true)
        have QF := Q.far (c := b) nqb.symm 2 (.bool true)
        have RF0 := R4.far (c := b) hwb.symm 2 (.bool true)
        have SF0 := SO2.mut (by omega) ((Mut.refl b V).setCell 2 (.bool true))
        have z0 := R4.2.1 0 _ rfl
        have z1 := R4.2.1 1 _ rfl
        have z2 := R4.2.1 2 _ rfl
        have z3 := R4.2.1 3 _ rfl
        have z4 := R4.2.1 4 _ rfl
        have z5 := R4.2.1 5 _ rfl
        have z6 := R4.2.1 6 _ rfl
        have z7 := R4.2.1 7 _ rfl
        have zf0 := R4.2.2 0
        have zf1 := R4.2.2 1
        have zf2 := R4.2.2 2
        have zf3 := R4.2.2 3
        have zf4 := R4.2.2 4
        have zf5 := R4.2.2 5
        have zf6 := R4.2.2 6
        have zf7 := R4.2.2 7
        have RR := ((((((((RF0.set 0 (.int .i64 hh) (by simp)).set 1 (.int .i64 he) (by simp)).set 2 (.string hr) (by simp)).set 3 (.string hp) (by simp)).set 4 (.int .i64 S.at_) (by simp)).set 5 (.slice a1 S.op.length c1) (by simp)).set 6 (.slice a2 S.sh.length c2) (by simp)).set 7 (.slice a3 S.si.length c3) (by simp))
        have SS := ((((((((SF0.set (b := w.heap.size) (by omega) 0 (.int .i64 hh)).set (b := w.heap.size) (by omega) 1 (.int .i64 he)).set (b := w.heap.size) (by omega) 2 (.string hr)).set (b := w.heap.size) (by omega) 3 (.string hp)).set (b := w.heap.size) (by omega) 4 (.int .i64 S.at_)).set (b := w.heap.size) (by omega) 5 (.slice a1 S.op.length c1)).set (b := w.heap.size) (by omega) 6 (.slice a2 S.sh.length c2)).set (b := w.heap.size) (by omega) 7 (.slice a3 S.si.length c3))
        have FR := (fld_far (fld_far (fld_far (fld_far (fld_far (fld_far (fld_far (fld_far FF hwb 0 (.int .i64 hh)) hwb 1 (.int .i64 he)) hwb 2 (.string hr)) hwb 3 (.string hp)) hwb 4 (.int .i64 S.at_)) hwb 5 (.slice a1 S.op.length c1)) hwb 6 (.slice a2 S.sh.length c2)) hwb 7 (.slice a3 S.si.length c3))
        have MR : Mut b w (((((((((V.setCell ⟨b, 2, none⟩ (.bool true)).setCell ⟨w.heap.size, 0, none⟩ (.int .i64 hh)).setCell ⟨w.heap.size, 1, none⟩ (.int .i64 he)).setCell ⟨w.heap.size, 2, none⟩ (.string hr)).setCell ⟨w.heap.size, 3, none⟩ (.string hp)).setCell ⟨w.heap.size, 4, none⟩ (.int .i64 S.at_)).setCell ⟨w.heap.size, 5, none⟩ (.slice a1 S.op.length c1)).setCell ⟨w.heap.size, 6, none⟩ (.slice a2 S.sh.length c2)).setCell ⟨w.heap.size, 7, none⟩ (.slice a3 S.si.length c3)) := (mut_new (mut_new (mut_new (mut_new (mut_new (mut_new (mut_new (mut_new MF 0 (.int .i64 hh)) 1 (.int .i64 he)) 2 (.string hr)) 3 (.string hp)) 4 (.int .i64 S.at_)) 5 (.slice a1 S.op.length c1)) 6 (.slice a2 S.sh.length c2)) 7 (.slice a3 S.si.length c3))
        go_wp2
        generalize ((((((((V.setCell ⟨b, 2, none⟩ (.bool true)).setCell ⟨w.heap.size, 0, none⟩ (.int .i64 hh)).setCell ⟨w.heap.size, 1, none⟩ (.int .i64 he)).setCell ⟨w.heap.size, 2, none⟩ (.string hr)).setCell ⟨w.heap.size, 3, none⟩ (.string hp)).setCell ⟨w.heap.size, 4, none⟩ (.int .i64 S.at_)).setCell ⟨w.heap.size, 5, none⟩ (.slice a1 S.op.length c1)).setCell ⟨w.heap.size, 6, none⟩ (.slice a2 S.sh.length c2)).setCell ⟨w.heap.size, 7, none⟩ (.slice a3 S.si.length c3) = WF at *
        clear c2b f2b z0 zf0 z1 zf1 z2 zf2 z3 zf3 z4 zf4 z5 zf5 z6 zf6 z7 zf7 q0 q1 q2 q3 q4 q5 q6 q7
        have k0 := RR.2.1 0 _ rfl
        have k1 := RR.2.1 1 _ rfl
        have k2 := RR.2.1 2 _ rfl
        have k3 := RR.2.1 3 _ rfl
        have k4 := RR.2.1 4 _ rfl
        have k5 := RR.2.1 5 _ rfl
        have k6 := RR.2.1 6 _ rfl
        have k7 := RR.2.1 7 _ rfl
        refine bodyPost_ret (v := .agg #[.int .i64 hh, .int .i64 he, .string hr, .string hp, .int .i64 S.at_, .slice a1 S.op.length c1, .slice a2 S.sh.length c2, .slice a3 S.si.length c3]) (by simp [results, Try.results26, go_sem, k0, k1, k2, k3, k4, k5, k6, k7]) rfl ?_
        exact ⟨a1, c1, a2, c2, a3, c3, rfl, SS.mono (Nat.le_succ _), by rw [HBE.out]; exact FR, MR⟩
      · rw [hc] at c2b
        clear hc
        have FF := F4.bad true
        have MF := MD.setCell 2 (.bool true)
        have QF := Q.far (c := b) nqb.symm 2 (.bool true)
        have RF0 := R4.far (c := b) hwb.symm 2 (.bool true)
        have SF0 := SO2.mut (by omega) ((Mut.refl b V).setCell 2 (.bool true))
        have z0 := R4.2.1 0 _ rfl
        have z1 := R4.2.1 1 _ rfl
        have z2 := R4.2.1 2 _ rfl
        have z3 := R4.2.1 3 _ rfl
        have z4 := R4.2.1 4 _ rfl
        have z5 := R4.2.1 5 _ rfl
        have z6 := R4.2.1 6 _ rfl
        have z7 := R4.2.1 7 _ rfl
        have zf0 := R4.2.2 0
        have zf1 := R4.2.2 1
        have zf2 := R4.2.2 2
        have zf3 := R4.2.2 3
        have zf4 := R4.2.2 4
        have zf5 := R4.2.2 5
        have zf6 := R4.2.2 6
        have zf7 := R4.2.2 7
        have RR := ((((((((RF0.set 0 (.int .i64 hh) (by simp)).set 1 (.int .i64 he) (by simp)).set 2 (.string hr) (by simp)).set 3 (.string hp) (by simp)).set 4 (.int .i64 S.at_) (by simp)).set 5 (.slice a1 S.op.length c1) (by simp)).set 6 (.slice a2 S.sh.length c2) (by simp)).set 7 (.slice a3 S.si.length c3) (by simp))
        have SS := ((((((((SF0.set (b := w.heap.size) (by omega) 0 (.int .i64 hh)).set (b := w.heap.size) (by omega) 1 (.int .i64 he)).set (b := w.heap.size) (by omega) 2 (.string hr)).set (b := w.heap.size) (by omega) 3 (.string hp)).set (b := w.heap.size) (by omega) 4 (.int .i64 S.at_)).set (b := w.heap.size) (by omega) 5 (.slice a1 S.op.length c1)).set (b := w.heap.size) (by omega) 6 (.slice a2 S.sh.length c2)).set (b := w.heap.size) (by omega) 7 (.slice a3 S.si.length c3))
        have FR := (fld_far (fld_far (fld_far (fld_far (fld_far (fld_far (fld_far (fld_far FF hwb 0 (.int .i64 hh)) hwb 1 (.int .i64 he)) hwb 2 (.string hr)) hwb 3 (.string hp)) hwb 4 (.int .i64 S.at_)) hwb 5 (.slice a1 S.op.length c1)) hwb 6 (.slice a2 S.sh.length c2)) hwb 7 (.slice a3 S.si.length c3))
        have MR : Mut b w (((((((((V.setCell ⟨b, 2, none⟩ (.bool true)).setCell ⟨w.heap.size, 0, none⟩ (.int .i64 hh)).setCell ⟨w.heap.size, 1, none⟩ (.int .i64 he)).setCell ⟨w.heap.size, 2, none⟩ (.string hr)).setCell ⟨w.heap.size, 3, none⟩ (.string hp)).setCell ⟨w.heap.size, 4, none⟩ (.int .i64 S.at_)).setCell ⟨w.heap.size, 5, none⟩ (.slice a1 S.op.length c1)).setCell ⟨w.heap.size, 6, none⟩ (.slice a2 S.sh.length c2)).setCell ⟨w.heap.size, 7, none⟩ (.slice a3 S.si.length c3)) := (mut_new (mut_new (mut_new (mut_new (mut_new (mut_new (mut_new (mut_new MF 0 (.int .i64 hh)) 1 (.int .i64 he)) 2 (.string hr)) 3 (.string hp)) 4 (.int .i64 S.at_)) 5 (.slice a1 S.op.length c1)) 6 (.slice a2 S.sh.length c2)) 7 (.slice a3 S.si.length c3))
        go_wp2
        generalize ((((((((V.setCell ⟨b, 2, none⟩ (.bool true)).setCell ⟨w.heap.size, 0, none⟩ (.int .i64 hh)).setCell ⟨w.heap.size, 1, none⟩ (.int .i64 he)).setCell ⟨w.heap.size, 2, none⟩ (.string hr)).setCell ⟨w.heap.size, 3, none⟩ (.string hp)).setCell ⟨w.heap.size, 4, none⟩ (.int .i64 S.at_)).setCell ⟨w.heap.size, 5, none⟩ (.slice a1 S.op.length c1)).setCell ⟨w.heap.size, 6, none⟩ (.slice a2 S.sh.length c2)).setCell ⟨w.heap.size, 7, none⟩ (.slice a3 S.si.length c3) = WF at *
        clear c2b f2b z0 zf0 z1 zf1 z2 zf2 z3 zf3 z4 zf4 z5 zf5 z6 zf6 z7 zf7 q0 q1 q2 q3 q4 q5 q6 q7
        have k0 := RR.2.1 0 _ rfl
        have k1 := RR.2.1 1 _ rfl
        have k2 := RR.2.1 2 _ rfl
        have k3 := RR.2.1 3 _ rfl
        have k4 := RR.2.1 4 _ rfl
        have k5 := RR.2.1 5 _ rfl
        have k6 := RR.2.1 6 _ rfl
        have k7 := RR.2.1 7 _ rfl
        refine bodyPost_ret (v := .agg #[.int .i64 hh, .int .i64 he, .string hr, .string hp, .int .i64 S.at_, .slice a1 S.op.length c1, .slice a2 S.sh.length c2, .slice a3 S.si.length c3]) (by simp [results, Try.results26, go_sem, k0, k1, k2, k3, k4, k5, k6, k7]) rfl ?_
        exact ⟨a1, c1, a2, c2, a3, c3, rfl, SS.mono (Nat.le_succ _), by rw [HBE.out]; exact FR, MR⟩
end Go.Proofs.Ytliebkhfddmhjaa
