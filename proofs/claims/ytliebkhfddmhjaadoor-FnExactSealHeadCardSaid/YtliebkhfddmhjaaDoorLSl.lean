/- The law on SealHead: the walk. -/
import Derived.Test.YtliebkhfddmhjaaDoorStL
import Derived.Test.YtliebkhfddmhjaaDoorMkSl
import Derived.Test.YtliebkhfddmhjaaDoorSigA
import Derived.Deep.DeepCutAuto
namespace Go.Proofs.YtliebkhfddmhjaaDoor
open Go.RowKit

/-- what a call that returns a signed head leaves behind in two slots -/
def CutSeal (W0 wx : World) (s8 s9 : Value) (S : SigV) (ok : Bool) (h ep : Int) (r p : ByteArray) : Prop := ∃ (qb : Nat) (a1 a2 a3 : Option Addr) (c1 c2 c3 : Nat), s8 = .pointer (some ⟨qb, 0, none⟩) ∧ s9 = .bool ok ∧ W0.heap.size ≤ qb ∧ Bx wx qb [.int .i64 (slI ok h), .int .i64 (slI ok ep), .string (slS ok r), .string (slS ok p), .int .i64 S.at_, .slice a1 S.op.length c1, .slice a2 S.sh.length c2, .slice a3 S.si.length c3] ∧ SigOwn wx W0.heap.size (.slice a1 S.op.length c1) (.slice a2 S.sh.length c2) (.slice a3 S.si.length c3) S ∧ (∀ k, Value.ownBlock (.slice a1 S.op.length c1) = some k → k ≠ qb) ∧ (∀ k, Value.ownBlock (.slice a2 S.sh.length c2) = some k → k ≠ qb) ∧ (∀ k, Value.ownBlock (.slice a3 S.si.length c3) = some k → k ≠ qb) ∧ Ext W0 wx
set_option maxRecDepth 100000 in
set_option maxHeartbeats 12800000 in
theorem laws_FnExactSealHead (seed : ByteArray) (v : Value) (pool : List ByteArray) (h ep : Int) (r p : ByteArray) (w : World) (hsd : seed.size ≤ maxLen) (hst : Strs w v pool) (hs : ∀ s ∈ pool, s.size ≤ maxLen) (hr : r.size ≤ maxLen) (hp : p.size ≤ maxLen) (hT : Tabs w) :
    Calls Tryd.prog 4 #[.string seed, v, .agg #[.int .i64 h, .int .i64 ep, .string r, .string p]] w fun e w' => e = .returned (.bool true) ∧ Ext w w' := by
  obtain ⟨a, c, rfl⟩ := hst.form
  have HT := Lib.hid hT
  have HS := Lib.hid hs
  have HR := Lib.hid hr
  have HP := Lib.hid hp
  have hsd' := hsd
  unfold maxLen at hsd'
  clear hT hs hr hp
  by_cases hbig : 1048576 < seed.size
  · go_enter Tryd.func4, Tryd.ntmps4
    go_wp2
    go_ret
    exact ⟨rfl, (by repeat (first | (with_reducible first | exact Ext.refl _ | assumption | apply Ext.alloc | apply Ext.drew | apply Ext.drewN | refine Ext.setCell ?_ ?_ _ | refine Ext.trans ?_ (by assumption)) | (show _ ≤ _; first | omega | (dsimp only; omega) | (simp; done) | (simp; omega))))⟩
  rcases szr_cases (pool.length + sizes pool) with ⟨hz, -⟩ | ⟨z, hz, hz0, hz1, hz2⟩
  · have HZ := Lib.hid hz
    clear hz
    go_enter Tryd.func4, Tryd.ntmps4
    go_wp2_with (go_at_call 11; refine (laws_szStringS _ pool _ _ (hst.ext (by repeat (first | (with_reducible first | exact Ext.refl _ | assumption | apply Ext.alloc | apply Ext.drew | apply Ext.drewN | refine Ext.setCell ?_ ?_ _ | refine Ext.trans ?_ (by assumption)) | (show _ ≤ _; first | omega | (dsimp only; omega) | (simp; done) | (simp; omega))))) (by omega) HS.out).mono ?_; rw [HZ.out]; rintro e w' ⟨rfl, rfl⟩)
    go_ret
    exact ⟨rfl, (by repeat (first | (with_reducible first | exact Ext.refl _ | assumption | apply Ext.alloc | apply Ext.drew | apply Ext.drewN | refine Ext.setCell ?_ ?_ _ | refine Ext.trans ?_ (by assumption)) | (show _ ≤ _; first | omega | (dsimp only; omega) | (simp; done) | (simp; omega))))⟩
  have HZ := Lib.hid hz
  have hlen : pool.length ≤ 1048576 := by omega
  have hlen2 : pool.length ≤ 1099511627776 := by omega
  clear hz
  have e0 : Ext w (w.alloc (Obj.cells #[.int .i64 h, .int .i64 ep, .string r, .string p] 24)) := (Ext.refl w).alloc _
  have P := Bx.new w #[.int .i64 h, .int .i64 ep, .string r, .string p] 24
  have p0 := P.2.1 0 _ rfl
  have p1 := P.2.1 1 _ rfl
  have p2 := P.2.1 2 _ rfl
  have p3 := P.2.1 3 _ rfl
  rcases szr_two z (r.size + p.size) (by omega) with hy | ⟨y, hy, hy0, -, -⟩
  · have HY := Lib.hid hy
    clear hy
    go_enter Tryd.func4, Tryd.ntmps4
    go_wp2_with fail
    generalize w.alloc (Obj.cells #[.int .i64 h, .int .i64 ep, .string r, .string p] 24) = W0 at *
    refine (laws_szStringS _ pool _ _ (hst.ext e0) (by omega) HS.out).mono ?_
    rw [HZ.out]
    rintro e w' ⟨rfl, rfl⟩
    go_wp2_with fail
    refine (laws_szHead h ep _ r p _ (by omega) HR.out HP.out).mono ?_
    rw [HY.out]
    rintro e w1 ⟨rfl, x1⟩
    go_wp2
    go_ret
    exact ⟨rfl, e0.trans x1⟩
  have HY := Lib.hid hy
  clear hy
  go_enter Tryd.func4, Tryd.ntmps4
  go_wp2_with fail
  generalize w.alloc (Obj.cells #[.int .i64 h, .int .i64 ep, .string r, .string p] 24) = W0 at *
  refine (laws_szStringS _ pool _ _ (hst.ext e0) (by omega) HS.out).mono ?_
  rw [HZ.out]
  rintro e w' ⟨rfl, rfl⟩
  go_wp2_with fail
  refine (laws_szHead h ep _ r p _ (by omega) HR.out HP.out).mono ?_
  rw [HY.out]
  rintro e w1 ⟨rfl, x1⟩
  have X := e0.trans x1
  clear p0 p1 p2 p3
  replace P := P.ext x1
  have ST := Lib.hid (hst.ext X)
  clear hst e0
  have SV := Lib.hid (slV_len seed pool h ep r p)
  have PW := Lib.hid (show w.heap.size < w1.heap.size from P.1)
  go_upto_region 10 with (fail)
  go_cut [8, 9] (fun s8 s9 wx => CutSeal w1 wx s8 s9 (slV seed pool h ep r p) (slK seed pool h ep r p) h ep r p)
  case first =>
    have XL := Ext.refl w1
    have p0 := P.2.1 0 _ rfl
    have p1 := P.2.1 1 _ rfl
    have p2 := P.2.1 2 _ rfl
    have p3 := P.2.1 3 _ rfl
    go_wp2_with fail
    clear p0 p1 p2 p3
    refine wp_region_held_drew (S := (fun W => W.cell? ⟨w.heap.size, 0, none⟩ = some (.int .i64 h) ∧ W.cell? ⟨w.heap.size, 1, none⟩ = some (.int .i64 ep) ∧ W.cell? ⟨w.heap.size, 2, none⟩ = some (.string r) ∧ W.cell? ⟨w.heap.size, 3, none⟩ = some (.string p))) (by kernel_rfl) (by exact ⟨P.2.1 0 _ rfl, P.2.1 1 _ rfl, P.2.1 2 _ rfl, P.2.1 3 _ rfl⟩) (fun hHeld => ?_)
    have xd : Ext w1 w1.drew := (Ext.refl w1).drew
    replace P := P.ext xd
    replace ST := Lib.hid (ST.out.ext xd)
    replace X := X.trans xd
    replace XL := XL.trans xd
    generalize w1.drew = y0 at *
    have p0 := P.2.1 0 _ rfl
    have p1 := P.2.1 1 _ rfl
    have p2 := P.2.1 2 _ rfl
    have p3 := P.2.1 3 _ rfl
    (refine wpAnyH_take (i := 0) (v := ?_) rfl (by kernel_rfl) (by kernel_rfl) (by kernel_rfl) (fun _ _ _ h => h) (Or.inl ⟨by rfl, ?_⟩) (by assumption) ?_; rotate_left; focus (intro w hSw; (try dsimp only at hSw); (try simp only [List.getElem_toArray, List.getElem_cons_zero]); go_simp; try with_reducible rfl)); (try simp only [List.getElem_toArray, List.getElem_cons_zero]); (try simp only [Act.put, List.setIfInBounds_toArray, List.set_cons_zero, List.set_cons_succ])
    (refine wpAnyH_take (i := 1) (v := ?_) rfl (by kernel_rfl) (by kernel_rfl) (by kernel_rfl) (fun _ _ _ h => h) (Or.inl ⟨by rfl, ?_⟩) (by assumption) ?_; rotate_left; focus (intro w hSw; (try dsimp only at hSw); (try simp only [List.getElem_toArray, List.getElem_cons_zero, List.getElem_cons_succ]); go_simp; try with_reducible rfl)); (try simp only [List.getElem_toArray, List.getElem_cons_zero, List.getElem_cons_succ]); (try simp only [Act.put, List.setIfInBounds_toArray, List.set_cons_zero, List.set_cons_succ])
    (refine wpAnyH_take (i := 3) (v := ?_) rfl (by kernel_rfl) (by kernel_rfl) (by kernel_rfl) (fun _ _ _ h => h) (Or.inl ⟨by rfl, ?_⟩) (by assumption) ?_; rotate_left; focus (intro w hSw; (try dsimp only at hSw); (try simp only [List.getElem_toArray, List.getElem_cons_zero, List.getElem_cons_succ]); go_simp; try with_reducible rfl)); (try simp only [List.getElem_toArray, List.getElem_cons_zero, List.getElem_cons_succ]); (try simp only [Act.put, List.setIfInBounds_toArray, List.set_cons_zero, List.set_cons_succ])
    refine wpAnyH_ready (rs := [2, 9]) (by kernel_rfl) (by simp) ?_
    refine AllReadyH.cons rfl (fun K hK => ?_) (AllReadyH.cons rfl (fun K hK => ?_) AllReadyH.nil)
    · (try simp only [List.getElem_toArray, List.getElem_cons_zero, List.getElem_cons_succ])
      go_simp
      go_at_call 14
      refine (laws_toStringS _ pool _ ST.out hlen2).mono ?_
      rintro e y1 ⟨a9, c9, rfl, o9, x9⟩
      (try clear p0 p1 p2 p3)
      have O2 := Lib.hid (o9.mono (Nat.zero_le _))
      clear o9
      replace P := P.ext x9
      replace ST := Lib.hid (ST.out.ext x9)
      replace X := X.trans x9
      replace XL := XL.trans x9
      (try dsimp only)
      refine hK.out _ _ (by exact ⟨P.2.1 0 _ rfl, P.2.1 1 _ rfl, P.2.1 2 _ rfl, P.2.1 3 _ rfl⟩) (fun hHeld => ?_)
      clear hK K
      refine wpAnyH_ready (rs := [4, 9]) (by kernel_rfl) (by simp) ?_
      refine AllReadyH.cons rfl (fun K hK => ?_) (AllReadyH.cons rfl (fun K hK => ?_) AllReadyH.nil)
      · (try simp only [List.getElem_toArray, List.getElem_cons_zero, List.getElem_cons_succ])
        go_simp
        go_at_call 15
        refine (laws_toHead h ep r p _).mono ?_
        rintro e y2 ⟨rfl, x9⟩
        (try clear p0 p1 p2 p3)
        replace P := P.ext x9
        replace ST := Lib.hid (ST.out.ext x9)
        replace X := X.trans x9
        replace XL := XL.trans x9
        replace O2 := Lib.hid (O2.out.ext x9)
        (try dsimp only)
        refine hK.out _ _ (by exact ⟨P.2.1 0 _ rfl, P.2.1 1 _ rfl, P.2.1 2 _ rfl, P.2.1 3 _ rfl⟩) (fun hHeld => ?_)
        clear hK K
        refine wpAnyH_ready (rs := [5, 9]) (by kernel_rfl) (by simp) ?_
        refine AllReadyH.cons rfl (fun K hK => ?_) (AllReadyH.cons rfl (fun K hK => ?_) AllReadyH.nil)
        · (try simp only [List.getElem_toArray, List.getElem_cons_zero, List.getElem_cons_succ])
          go_simp
          go_at_call 22
          have hsol := own_solid O2.out
          refine (spec_SealHead seed _ pool h ep r p _ O2.out.strs HS.out hsol).mono ?_
          generalize hS : slV seed pool h ep r p = S at *
          generalize hok : slK seed pool h ep r p = ok at *
          clear hS hok
          rintro e y3 ⟨a1, c1, a2, c2, a3, c3, rfl, so, x9⟩
          have SO := so.mono (show w1.heap.size ≤ y2.heap.size from XL.size)
          clear so
          have B0 := fun v n l (o : World.ownsRow y3 (w1.heap.size) 9 1 v n l) k (hk : v.ownBlock = some k) => (own_lt o k hk).2
          have B1 := fun k hk => Nat.ne_of_lt (B0 _ _ _ SO.1 k hk)
          have B2 := fun k hk => Nat.ne_of_lt (B0 _ _ _ SO.2.1 k hk)
          have B3 := fun k hk => Nat.ne_of_lt (B0 _ _ _ SO.2.2.1 k hk)
          clear B0
          replace P := P.ext x9
          replace ST := Lib.hid (ST.out.ext x9)
          replace X := X.trans x9
          replace XL := XL.trans x9
          replace O2 := Lib.hid (O2.out.ext x9)
          (try dsimp only)
          refine hK.out _ _ (by exact ⟨P.2.1 0 _ rfl, P.2.1 1 _ rfl, P.2.1 2 _ rfl, P.2.1 3 _ rfl⟩) (fun hHeld => ?_)
          clear hK K
          (refine wpAnyH_take (i := 6) (v := ?_) rfl (by kernel_rfl) (by kernel_rfl) (by kernel_rfl) (fun _ _ _ h => h) (Or.inl ⟨by rfl, ?_⟩) (by assumption) ?_; rotate_left; focus (intro w hSw; (try dsimp only at hSw); (try simp only [List.getElem_toArray, List.getElem_cons_zero, List.getElem_cons_succ]); go_simp; try with_reducible rfl)); (try simp only [List.getElem_toArray, List.getElem_cons_zero, List.getElem_cons_succ]); (try simp only [Act.put, List.setIfInBounds_toArray, List.set_cons_zero, List.set_cons_succ])
          (refine wpAnyH_take (i := 7) (v := ?_) rfl (by kernel_rfl) (by kernel_rfl) (by kernel_rfl) (fun _ _ _ h => h) (Or.inl ⟨by rfl, ?_⟩) (by assumption) ?_; rotate_left; focus (intro w hSw; (try dsimp only at hSw); (try simp only [List.getElem_toArray, List.getElem_cons_zero, List.getElem_cons_succ]); go_simp; try with_reducible rfl)); (try simp only [List.getElem_toArray, List.getElem_cons_zero, List.getElem_cons_succ]); (try simp only [Act.put, List.setIfInBounds_toArray, List.set_cons_zero, List.set_cons_succ])
          (refine wpAnyH_take (i := 8) (v := ?_) rfl (by kernel_rfl) (by kernel_rfl) (by kernel_rfl) (fun _ _ _ h => h) (Or.inl ⟨by rfl, ?_⟩) (by assumption) ?_; rotate_left; focus (intro w hSw; (try dsimp only at hSw); (try simp only [List.getElem_toArray, List.getElem_cons_zero, List.getElem_cons_succ]); go_simp; try with_reducible rfl)); (try simp only [List.getElem_toArray, List.getElem_cons_zero, List.getElem_cons_succ]); (try simp only [Act.put, List.setIfInBounds_toArray, List.set_cons_zero, List.set_cons_succ])
          refine wpAnyH_ready (rs := [9]) (by kernel_rfl) (by simp) ?_
          refine AllReadyH.cons rfl (fun K hK => ?_) AllReadyH.nil
          (try simp only [List.getElem_toArray, List.getElem_cons_zero, List.getElem_cons_succ])
          go_simp
          have ez : Ext y3 (y3.alloc (Obj.cells #[.int .i64 0, .int .i64 0, .string ⟨#[]⟩, .string ⟨#[]⟩, .int .i64 0, .slice none 0 0, .slice none 0 0, .slice none 0 0] 39)) := (Ext.refl _).alloc _
          have Q := Bx.new y3 #[.int .i64 0, .int .i64 0, .string ⟨#[]⟩, .string ⟨#[]⟩, .int .i64 0, .slice none 0 0, .slice none 0 0, .slice none 0 0] 39
          have lq : w1.heap.size ≤ y3.heap.size := XL.size
          (try clear p0 p1 p2 p3)
          replace P := P.ext ez
          replace ST := Lib.hid (ST.out.ext ez)
          replace X := X.trans ez
          replace XL := XL.trans ez
          replace O2 := Lib.hid (O2.out.ext ez)
          replace SO := SO.ext ez
          generalize y3.alloc (Obj.cells #[.int .i64 0, .int .i64 0, .string ⟨#[]⟩, .string ⟨#[]⟩, .int .i64 0, .slice none 0 0, .slice none 0 0, .slice none 0 0] 39) = y4 at *
          generalize hqb : y3.heap.size = qb at *
          clear hqb
          (try dsimp only)
          refine hK.out _ _ (by exact ⟨P.2.1 0 _ rfl, P.2.1 1 _ rfl, P.2.1 2 _ rfl, P.2.1 3 _ rfl⟩) (fun hHeld => ?_)
          clear hK K
          have z0 := Q.2.1 0 _ rfl
          have z1 := Q.2.1 1 _ rfl
          have z2 := Q.2.1 2 _ rfl
          have z3 := Q.2.1 3 _ rfl
          have z4 := Q.2.1 4 _ rfl
          have z5 := Q.2.1 5 _ rfl
          have z6 := Q.2.1 6 _ rfl
          have z7 := Q.2.1 7 _ rfl
          have f0 := Q.2.2 0
          have f1 := Q.2.2 1
          have f2 := Q.2.2 2
          have f3 := Q.2.2 3
          have f4 := Q.2.2 4
          have f5 := Q.2.2 5
          have f6 := Q.2.2 6
          have f7 := Q.2.2 7
          have hnq : qb ≠ w.heap.size := by have := PW.out; omega
          have XQ : Ext w1 ((((((((y4.setCell ⟨qb, 0, none⟩ (.int .i64 (slI ok h))).setCell ⟨qb, 1, none⟩ (.int .i64 (slI ok ep))).setCell ⟨qb, 2, none⟩ (.string (slS ok r))).setCell ⟨qb, 3, none⟩ (.string (slS ok p))).setCell ⟨qb, 4, none⟩ (.int .i64 S.at_)).setCell ⟨qb, 5, none⟩ (.slice a1 S.op.length c1)).setCell ⟨qb, 6, none⟩ (.slice a2 S.sh.length c2)).setCell ⟨qb, 7, none⟩ (.slice a3 S.si.length c3)) := ((((((((XL.setCell (by dsimp only; omega) _).setCell (by dsimp only; omega) _).setCell (by dsimp only; omega) _).setCell (by dsimp only; omega) _).setCell (by dsimp only; omega) _).setCell (by dsimp only; omega) _).setCell (by dsimp only; omega) _).setCell (by dsimp only; omega) _)
          have QQ := ((((((((Q.set 0 (.int .i64 (slI ok h)) (by simp)).set 1 (.int .i64 (slI ok ep)) (by simp)).set 2 (.string (slS ok r)) (by simp)).set 3 (.string (slS ok p)) (by simp)).set 4 (.int .i64 S.at_) (by simp)).set 5 (.slice a1 S.op.length c1) (by simp)).set 6 (.slice a2 S.sh.length c2) (by simp)).set 7 (.slice a3 S.si.length c3) (by simp))
          have SQ := ((((((((SO.far B1 B2 B3 0 (.int .i64 (slI ok h))).far B1 B2 B3 1 (.int .i64 (slI ok ep))).far B1 B2 B3 2 (.string (slS ok r))).far B1 B2 B3 3 (.string (slS ok p))).far B1 B2 B3 4 (.int .i64 S.at_)).far B1 B2 B3 5 (.slice a1 S.op.length c1)).far B1 B2 B3 6 (.slice a2 S.sh.length c2)).far B1 B2 B3 7 (.slice a3 S.si.length c3))
          have PQ := ((((((((P.far (c := qb) hnq 0 (.int .i64 (slI ok h))).far (c := qb) hnq 1 (.int .i64 (slI ok ep))).far (c := qb) hnq 2 (.string (slS ok r))).far (c := qb) hnq 3 (.string (slS ok p))).far (c := qb) hnq 4 (.int .i64 S.at_)).far (c := qb) hnq 5 (.slice a1 S.op.length c1)).far (c := qb) hnq 6 (.slice a2 S.sh.length c2)).far (c := qb) hnq 7 (.slice a3 S.si.length c3))
          clear ST SO Q P
          (refine wpAnyH_ready (rs := [10]) (by kernel_rfl) (by simp) ?_; refine AllReadyH.cons rfl (fun K hK => ?_) AllReadyH.nil; (try simp only [List.getElem_toArray, List.getElem_cons_zero, List.getElem_cons_succ]))
          go_simp
          clear z0 f0 z1 f1 z2 f2 z3 f3 z4 f4 z5 f5 z6 f6 z7 f7
          have P := PQ
          clear PQ
          generalize (((((((y4.setCell ⟨qb, 0, none⟩ (.int .i64 (slI ok h))).setCell ⟨qb, 1, none⟩ (.int .i64 (slI ok ep))).setCell ⟨qb, 2, none⟩ (.string (slS ok r))).setCell ⟨qb, 3, none⟩ (.string (slS ok p))).setCell ⟨qb, 4, none⟩ (.int .i64 S.at_)).setCell ⟨qb, 5, none⟩ (.slice a1 S.op.length c1)).setCell ⟨qb, 6, none⟩ (.slice a2 S.sh.length c2)).setCell ⟨qb, 7, none⟩ (.slice a3 S.si.length c3) = W6 at *
          (try dsimp only)
          refine hK.out _ _ (by exact ⟨P.2.1 0 _ rfl, P.2.1 1 _ rfl, P.2.1 2 _ rfl, P.2.1 3 _ rfl⟩) (fun hHeld => ?_)
          clear hK K
          (refine wpAnyH_take (i := 11) (v := ?_) rfl (by kernel_rfl) (by kernel_rfl) (by kernel_rfl) (fun _ _ _ h => h) (Or.inl ⟨by rfl, ?_⟩) (by assumption) ?_; rotate_left; focus (intro w hSw; (try dsimp only at hSw); (try simp only [List.getElem_toArray, List.getElem_cons_zero, List.getElem_cons_succ]); go_simp; try with_reducible rfl)); (try simp only [List.getElem_toArray, List.getElem_cons_zero, List.getElem_cons_succ]); (try simp only [Act.put, List.setIfInBounds_toArray, List.set_cons_zero, List.set_cons_succ])
          refine wpAnyH_done (by kernel_rfl) ?_ _
          go_wp2_with fail
          go_meet
          exact ⟨qb, a1, a2, a3, c1, c2, c3, rfl, rfl, lq, QQ, SQ, B1, B2, B3, XQ⟩
        · (try simp only [List.getElem_toArray, List.getElem_cons_zero, List.getElem_cons_succ])
          go_simp
          have ez : Ext y2 (y2.alloc (Obj.cells #[.int .i64 0, .int .i64 0, .string ⟨#[]⟩, .string ⟨#[]⟩, .int .i64 0, .slice none 0 0, .slice none 0 0, .slice none 0 0] 39)) := (Ext.refl _).alloc _
          have Q := Bx.new y2 #[.int .i64 0, .int .i64 0, .string ⟨#[]⟩, .string ⟨#[]⟩, .int .i64 0, .slice none 0 0, .slice none 0 0, .slice none 0 0] 39
          have lq : w1.heap.size ≤ y2.heap.size := XL.size
          (try clear p0 p1 p2 p3)
          replace P := P.ext ez
          replace ST := Lib.hid (ST.out.ext ez)
          replace X := X.trans ez
          replace XL := XL.trans ez
          replace O2 := Lib.hid (O2.out.ext ez)
          generalize y2.alloc (Obj.cells #[.int .i64 0, .int .i64 0, .string ⟨#[]⟩, .string ⟨#[]⟩, .int .i64 0, .slice none 0 0, .slice none 0 0, .slice none 0 0] 39) = y3 at *
          generalize hqb : y2.heap.size = qb at *
          clear hqb
          (try dsimp only)
          refine hK.out _ _ (by exact ⟨P.2.1 0 _ rfl, P.2.1 1 _ rfl, P.2.1 2 _ rfl, P.2.1 3 _ rfl⟩) (fun hHeld => ?_)
          clear hK K
          (refine wpAnyH_ready (rs := [5]) (by kernel_rfl) (by simp) ?_; refine AllReadyH.cons rfl (fun K hK => ?_) AllReadyH.nil)
          (try simp only [List.getElem_toArray, List.getElem_cons_zero, List.getElem_cons_succ])
          go_simp
          go_at_call 22
          have hsol := own_solid O2.out
          refine (spec_SealHead seed _ pool h ep r p _ O2.out.strs HS.out hsol).mono ?_
          generalize hS : slV seed pool h ep r p = S at *
          generalize hok : slK seed pool h ep r p = ok at *
          clear hS hok
          rintro e y4 ⟨a1, c1, a2, c2, a3, c3, rfl, so, x9⟩
          have lqs : qb < y3.heap.size := Q.1
          have B1 := fun k (hk : Value.ownBlock (.slice a1 S.op.length c1) = some k) => Nat.ne_of_gt (Nat.lt_of_lt_of_le lqs (own_lt so.1 k hk).1)
          have B2 := fun k (hk : Value.ownBlock (.slice a2 S.sh.length c2) = some k) => Nat.ne_of_gt (Nat.lt_of_lt_of_le lqs (own_lt so.2.1 k hk).1)
          have B3 := fun k (hk : Value.ownBlock (.slice a3 S.si.length c3) = some k) => Nat.ne_of_gt (Nat.lt_of_lt_of_le lqs (own_lt so.2.2.1 k hk).1)
          have SO := so.mono (show w1.heap.size ≤ y3.heap.size from XL.size)
          clear so
          replace P := P.ext x9
          replace ST := Lib.hid (ST.out.ext x9)
          replace X := X.trans x9
          replace XL := XL.trans x9
          replace O2 := Lib.hid (O2.out.ext x9)
          replace Q := Q.ext x9
          (try dsimp only)
          refine hK.out _ _ (by exact ⟨P.2.1 0 _ rfl, P.2.1 1 _ rfl, P.2.1 2 _ rfl, P.2.1 3 _ rfl⟩) (fun hHeld => ?_)
          clear hK K
          (refine wpAnyH_take (i := 6) (v := ?_) rfl (by kernel_rfl) (by kernel_rfl) (by kernel_rfl) (fun _ _ _ h => h) (Or.inl ⟨by rfl, ?_⟩) (by assumption) ?_; rotate_left; focus (intro w hSw; (try dsimp only at hSw); (try simp only [List.getElem_toArray, List.getElem_cons_zero, List.getElem_cons_succ]); go_simp; try with_reducible rfl)); (try simp only [List.getElem_toArray, List.getElem_cons_zero, List.getElem_cons_succ]); (try simp only [Act.put, List.setIfInBounds_toArray, List.set_cons_zero, List.set_cons_succ])
          (refine wpAnyH_take (i := 7) (v := ?_) rfl (by kernel_rfl) (by kernel_rfl) (by kernel_rfl) (fun _ _ _ h => h) (Or.inl ⟨by rfl, ?_⟩) (by assumption) ?_; rotate_left; focus (intro w hSw; (try dsimp only at hSw); (try simp only [List.getElem_toArray, List.getElem_cons_zero, List.getElem_cons_succ]); go_simp; try with_reducible rfl)); (try simp only [List.getElem_toArray, List.getElem_cons_zero, List.getElem_cons_succ]); (try simp only [Act.put, List.setIfInBounds_toArray, List.set_cons_zero, List.set_cons_succ])
          (refine wpAnyH_take (i := 8) (v := ?_) rfl (by kernel_rfl) (by kernel_rfl) (by kernel_rfl) (fun _ _ _ h => h) (Or.inl ⟨by rfl, ?_⟩) (by assumption) ?_; rotate_left; focus (intro w hSw; (try dsimp only at hSw); (try simp only [List.getElem_toArray, List.getElem_cons_zero, List.getElem_cons_succ]); go_simp; try with_reducible rfl)); (try simp only [List.getElem_toArray, List.getElem_cons_zero, List.getElem_cons_succ]); (try simp only [Act.put, List.setIfInBounds_toArray, List.set_cons_zero, List.set_cons_succ])
          have z0 := Q.2.1 0 _ rfl
          have z1 := Q.2.1 1 _ rfl
          have z2 := Q.2.1 2 _ rfl
          have z3 := Q.2.1 3 _ rfl
          have z4 := Q.2.1 4 _ rfl
          have z5 := Q.2.1 5 _ rfl
          have z6 := Q.2.1 6 _ rfl
          have z7 := Q.2.1 7 _ rfl
          have f0 := Q.2.2 0
          have f1 := Q.2.2 1
          have f2 := Q.2.2 2
          have f3 := Q.2.2 3
          have f4 := Q.2.2 4
          have f5 := Q.2.2 5
          have f6 := Q.2.2 6
          have f7 := Q.2.2 7
          have hnq : qb ≠ w.heap.size := by have := PW.out; omega
          have XQ : Ext w1 ((((((((y4.setCell ⟨qb, 0, none⟩ (.int .i64 (slI ok h))).setCell ⟨qb, 1, none⟩ (.int .i64 (slI ok ep))).setCell ⟨qb, 2, none⟩ (.string (slS ok r))).setCell ⟨qb, 3, none⟩ (.string (slS ok p))).setCell ⟨qb, 4, none⟩ (.int .i64 S.at_)).setCell ⟨qb, 5, none⟩ (.slice a1 S.op.length c1)).setCell ⟨qb, 6, none⟩ (.slice a2 S.sh.length c2)).setCell ⟨qb, 7, none⟩ (.slice a3 S.si.length c3)) := ((((((((XL.setCell (by dsimp only; omega) _).setCell (by dsimp only; omega) _).setCell (by dsimp only; omega) _).setCell (by dsimp only; omega) _).setCell (by dsimp only; omega) _).setCell (by dsimp only; omega) _).setCell (by dsimp only; omega) _).setCell (by dsimp only; omega) _)
          have QQ := ((((((((Q.set 0 (.int .i64 (slI ok h)) (by simp)).set 1 (.int .i64 (slI ok ep)) (by simp)).set 2 (.string (slS ok r)) (by simp)).set 3 (.string (slS ok p)) (by simp)).set 4 (.int .i64 S.at_) (by simp)).set 5 (.slice a1 S.op.length c1) (by simp)).set 6 (.slice a2 S.sh.length c2) (by simp)).set 7 (.slice a3 S.si.length c3) (by simp))
          have SQ := ((((((((SO.far B1 B2 B3 0 (.int .i64 (slI ok h))).far B1 B2 B3 1 (.int .i64 (slI ok ep))).far B1 B2 B3 2 (.string (slS ok r))).far B1 B2 B3 3 (.string (slS ok p))).far B1 B2 B3 4 (.int .i64 S.at_)).far B1 B2 B3 5 (.slice a1 S.op.length c1)).far B1 B2 B3 6 (.slice a2 S.sh.length c2)).far B1 B2 B3 7 (.slice a3 S.si.length c3))
          have PQ := ((((((((P.far (c := qb) hnq 0 (.int .i64 (slI ok h))).far (c := qb) hnq 1 (.int .i64 (slI ok ep))).far (c := qb) hnq 2 (.string (slS ok r))).far (c := qb) hnq 3 (.string (slS ok p))).far (c := qb) hnq 4 (.int .i64 S.at_)).far (c := qb) hnq 5 (.slice a1 S.op.length c1)).far (c := qb) hnq 6 (.slice a2 S.sh.length c2)).far (c := qb) hnq 7 (.slice a3 S.si.length c3))
          clear ST SO Q P
          (refine wpAnyH_ready (rs := [10]) (by kernel_rfl) (by simp) ?_; refine AllReadyH.cons rfl (fun K hK => ?_) AllReadyH.nil; (try simp only [List.getElem_toArray, List.getElem_cons_zero, List.getElem_cons_succ]))
          go_simp
          clear z0 f0 z1 f1 z2 f2 z3 f3 z4 f4 z5 f5 z6 f6 z7 f7
          have P := PQ
          clear PQ
          generalize (((((((y4.setCell ⟨qb, 0, none⟩ (.int .i64 (slI ok h))).setCell ⟨qb, 1, none⟩ (.int .i64 (slI ok ep))).setCell ⟨qb, 2, none⟩ (.string (slS ok r))).setCell ⟨qb, 3, none⟩ (.string (slS ok p))).setCell ⟨qb, 4, none⟩ (.int .i64 S.at_)).setCell ⟨qb, 5, none⟩ (.slice a1 S.op.length c1)).setCell ⟨qb, 6, none⟩ (.slice a2 S.sh.length c2)).setCell ⟨qb, 7, none⟩ (.slice a3 S.si.length c3) = W6 at *
          (try dsimp only)
          refine hK.out _ _ (by exact ⟨P.2.1 0 _ rfl, P.2.1 1 _ rfl, P.2.1 2 _ rfl, P.2.1 3 _ rfl⟩) (fun hHeld => ?_)
          clear hK K
          (refine wpAnyH_take (i := 11) (v := ?_) rfl (by kernel_rfl) (by kernel_rfl) (by kernel_rfl) (fun _ _ _ h => h) (Or.inl ⟨by rfl, ?_⟩) (by assumption) ?_; rotate_left; focus (intro w hSw; (try dsimp only at hSw); (try simp only [List.getElem_toArray, List.getElem_cons_zero, List.getElem_cons_succ]); go_simp; try with_reducible rfl)); (try simp only [List.getElem_toArray, List.getElem_cons_zero, List.getElem_cons_succ]); (try simp only [Act.put, List.setIfInBounds_toArray, List.set_cons_zero, List.set_cons_succ])
          refine wpAnyH_done (by kernel_rfl) ?_ _
          go_wp2_with fail
          go_meet
          exact ⟨qb, a1, a2, a3, c1, c2, c3, rfl, rfl, lq, QQ, SQ, B1, B2, B3, XQ⟩
      · (try simp only [List.getElem_toArray, List.getElem_cons_zero, List.getElem_cons_succ])
        go_simp
        have ez : Ext y1 (y1.alloc (Obj.cells #[.int .i64 0, .int .i64 0, .string ⟨#[]⟩, .string ⟨#[]⟩, .int .i64 0, .slice none 0 0, .slice none 0 0, .slice none 0 0] 39)) := (Ext.refl _).alloc _
        have Q := Bx.new y1 #[.int .i64 0, .int .i64 0, .string ⟨#[]⟩, .string ⟨#[]⟩, .int .i64 0, .slice none 0 0, .slice none 0 0, .slice none 0 0] 39
        have lq : w1.heap.size ≤ y1.heap.size := XL.size
        (try clear p0 p1 p2 p3)
        replace P := P.ext ez
        replace ST := Lib.hid (ST.out.ext ez)
        replace X := X.trans ez
        replace XL := XL.trans ez
        replace O2 := Lib.hid (O2.out.ext ez)
        generalize y1.alloc (Obj.cells #[.int .i64 0, .int .i64 0, .string ⟨#[]⟩, .string ⟨#[]⟩, .int .i64 0, .slice none 0 0, .slice none 0 0, .slice none 0 0] 39) = y2 at *
        generalize hqb : y1.heap.size = qb at *
        clear hqb
        (try dsimp only)
        refine hK.out _ _ (by exact ⟨P.2.1 0 _ rfl, P.2.1 1 _ rfl, P.2.1 2 _ rfl, P.2.1 3 _ rfl⟩) (fun hHeld => ?_)
        clear hK K
        (refine wpAnyH_ready (rs := [4]) (by kernel_rfl) (by simp) ?_; refine AllReadyH.cons rfl (fun K hK => ?_) AllReadyH.nil)
        (try simp only [List.getElem_toArray, List.getElem_cons_zero, List.getElem_cons_succ])
        go_simp
        go_at_call 15
        refine (laws_toHead h ep r p _).mono ?_
        rintro e y3 ⟨rfl, x9⟩
        (try clear p0 p1 p2 p3)
        replace P := P.ext x9
        replace ST := Lib.hid (ST.out.ext x9)
        replace X := X.trans x9
        replace XL := XL.trans x9
        replace O2 := Lib.hid (O2.out.ext x9)
        replace Q := Q.ext x9
        (try dsimp only)
        refine hK.out _ _ (by exact ⟨P.2.1 0 _ rfl, P.2.1 1 _ rfl, P.2.1 2 _ rfl, P.2.1 3 _ rfl⟩) (fun hHeld => ?_)
        clear hK K
        (refine wpAnyH_ready (rs := [5]) (by kernel_rfl) (by simp) ?_; refine AllReadyH.cons rfl (fun K hK => ?_) AllReadyH.nil)
        (try simp only [List.getElem_toArray, List.getElem_cons_zero, List.getElem_cons_succ])
        go_simp
        go_at_call 22
        have hsol := own_solid O2.out
        refine (spec_SealHead seed _ pool h ep r p _ O2.out.strs HS.out hsol).mono ?_
        generalize hS : slV seed pool h ep r p = S at *
        generalize hok : slK seed pool h ep r p = ok at *
        clear hS hok
        rintro e y4 ⟨a1, c1, a2, c2, a3, c3, rfl, so, x9⟩
        have lqs : qb < y3.heap.size := Q.1
        have B1 := fun k (hk : Value.ownBlock (.slice a1 S.op.length c1) = some k) => Nat.ne_of_gt (Nat.lt_of_lt_of_le lqs (own_lt so.1 k hk).1)
        have B2 := fun k (hk : Value.ownBlock (.slice a2 S.sh.length c2) = some k) => Nat.ne_of_gt (Nat.lt_of_lt_of_le lqs (own_lt so.2.1 k hk).1)
        have B3 := fun k (hk : Value.ownBlock (.slice a3 S.si.length c3) = some k) => Nat.ne_of_gt (Nat.lt_of_lt_of_le lqs (own_lt so.2.2.1 k hk).1)
        have SO := so.mono (show w1.heap.size ≤ y3.heap.size from XL.size)
        clear so
        replace P := P.ext x9
        replace ST := Lib.hid (ST.out.ext x9)
        replace X := X.trans x9
        replace XL := XL.trans x9
        replace O2 := Lib.hid (O2.out.ext x9)
        replace Q := Q.ext x9
        (try dsimp only)
        refine hK.out _ _ (by exact ⟨P.2.1 0 _ rfl, P.2.1 1 _ rfl, P.2.1 2 _ rfl, P.2.1 3 _ rfl⟩) (fun hHeld => ?_)
        clear hK K
        (refine wpAnyH_take (i := 6) (v := ?_) rfl (by kernel_rfl) (by kernel_rfl) (by kernel_rfl) (fun _ _ _ h => h) (Or.inl ⟨by rfl, ?_⟩) (by assumption) ?_; rotate_left; focus (intro w hSw; (try dsimp only at hSw); (try simp only [List.getElem_toArray, List.getElem_cons_zero, List.getElem_cons_succ]); go_simp; try with_reducible rfl)); (try simp only [List.getElem_toArray, List.getElem_cons_zero, List.getElem_cons_succ]); (try simp only [Act.put, List.setIfInBounds_toArray, List.set_cons_zero, List.set_cons_succ])
        (refine wpAnyH_take (i := 7) (v := ?_) rfl (by kernel_rfl) (by kernel_rfl) (by kernel_rfl) (fun _ _ _ h => h) (Or.inl ⟨by rfl, ?_⟩) (by assumption) ?_; rotate_left; focus (intro w hSw; (try dsimp only at hSw); (try simp only [List.getElem_toArray, List.getElem_cons_zero, List.getElem_cons_succ]); go_simp; try with_reducible rfl)); (try simp only [List.getElem_toArray, List.getElem_cons_zero, List.getElem_cons_succ]); (try simp only [Act.put, List.setIfInBounds_toArray, List.set_cons_zero, List.set_cons_succ])
        (refine wpAnyH_take (i := 8) (v := ?_) rfl (by kernel_rfl) (by kernel_rfl) (by kernel_rfl) (fun _ _ _ h => h) (Or.inl ⟨by rfl, ?_⟩) (by assumption) ?_; rotate_left; focus (intro w hSw; (try dsimp only at hSw); (try simp only [List.getElem_toArray, List.getElem_cons_zero, List.getElem_cons_succ]); go_simp; try with_reducible rfl)); (try simp only [List.getElem_toArray, List.getElem_cons_zero, List.getElem_cons_succ]); (try simp only [Act.put, List.setIfInBounds_toArray, List.set_cons_zero, List.set_cons_succ])
        have z0 := Q.2.1 0 _ rfl
        have z1 := Q.2.1 1 _ rfl
        have z2 := Q.2.1 2 _ rfl
        have z3 := Q.2.1 3 _ rfl
        have z4 := Q.2.1 4 _ rfl
        have z5 := Q.2.1 5 _ rfl
        have z6 := Q.2.1 6 _ rfl
        have z7 := Q.2.1 7 _ rfl
        have f0 := Q.2.2 0
        have f1 := Q.2.2 1
        have f2 := Q.2.2 2
        have f3 := Q.2.2 3
        have f4 := Q.2.2 4
        have f5 := Q.2.2 5
        have f6 := Q.2.2 6
        have f7 := Q.2.2 7
        have hnq : qb ≠ w.heap.size := by have := PW.out; omega
        have XQ : Ext w1 ((((((((y4.setCell ⟨qb, 0, none⟩ (.int .i64 (slI ok h))).setCell ⟨qb, 1, none⟩ (.int .i64 (slI ok ep))).setCell ⟨qb, 2, none⟩ (.string (slS ok r))).setCell ⟨qb, 3, none⟩ (.string (slS ok p))).setCell ⟨qb, 4, none⟩ (.int .i64 S.at_)).setCell ⟨qb, 5, none⟩ (.slice a1 S.op.length c1)).setCell ⟨qb, 6, none⟩ (.slice a2 S.sh.length c2)).setCell ⟨qb, 7, none⟩ (.slice a3 S.si.length c3)) := ((((((((XL.setCell (by dsimp only; omega) _).setCell (by dsimp only; omega) _).setCell (by dsimp only; omega) _).setCell (by dsimp only; omega) _).setCell (by dsimp only; omega) _).setCell (by dsimp only; omega) _).setCell (by dsimp only; omega) _).setCell (by dsimp only; omega) _)
        have QQ := ((((((((Q.set 0 (.int .i64 (slI ok h)) (by simp)).set 1 (.int .i64 (slI ok ep)) (by simp)).set 2 (.string (slS ok r)) (by simp)).set 3 (.string (slS ok p)) (by simp)).set 4 (.int .i64 S.at_) (by simp)).set 5 (.slice a1 S.op.length c1) (by simp)).set 6 (.slice a2 S.sh.length c2) (by simp)).set 7 (.slice a3 S.si.length c3) (by simp))
        have SQ := ((((((((SO.far B1 B2 B3 0 (.int .i64 (slI ok h))).far B1 B2 B3 1 (.int .i64 (slI ok ep))).far B1 B2 B3 2 (.string (slS ok r))).far B1 B2 B3 3 (.string (slS ok p))).far B1 B2 B3 4 (.int .i64 S.at_)).far B1 B2 B3 5 (.slice a1 S.op.length c1)).far B1 B2 B3 6 (.slice a2 S.sh.length c2)).far B1 B2 B3 7 (.slice a3 S.si.length c3))
        have PQ := ((((((((P.far (c := qb) hnq 0 (.int .i64 (slI ok h))).far (c := qb) hnq 1 (.int .i64 (slI ok ep))).far (c := qb) hnq 2 (.string (slS ok r))).far (c := qb) hnq 3 (.string (slS ok p))).far (c := qb) hnq 4 (.int .i64 S.at_)).far (c := qb) hnq 5 (.slice a1 S.op.length c1)).far (c := qb) hnq 6 (.slice a2 S.sh.length c2)).far (c := qb) hnq 7 (.slice a3 S.si.length c3))
        clear ST SO Q P
        (refine wpAnyH_ready (rs := [10]) (by kernel_rfl) (by simp) ?_; refine AllReadyH.cons rfl (fun K hK => ?_) AllReadyH.nil; (try simp only [List.getElem_toArray, List.getElem_cons_zero, List.getElem_cons_succ]))
        go_simp
        clear z0 f0 z1 f1 z2 f2 z3 f3 z4 f4 z5 f5 z6 f6 z7 f7
        have P := PQ
        clear PQ
        generalize (((((((y4.setCell ⟨qb, 0, none⟩ (.int .i64 (slI ok h))).setCell ⟨qb, 1, none⟩ (.int .i64 (slI ok ep))).setCell ⟨qb, 2, none⟩ (.string (slS ok r))).setCell ⟨qb, 3, none⟩ (.string (slS ok p))).setCell ⟨qb, 4, none⟩ (.int .i64 S.at_)).setCell ⟨qb, 5, none⟩ (.slice a1 S.op.length c1)).setCell ⟨qb, 6, none⟩ (.slice a2 S.sh.length c2)).setCell ⟨qb, 7, none⟩ (.slice a3 S.si.length c3) = W6 at *
        (try dsimp only)
        refine hK.out _ _ (by exact ⟨P.2.1 0 _ rfl, P.2.1 1 _ rfl, P.2.1 2 _ rfl, P.2.1 3 _ rfl⟩) (fun hHeld => ?_)
        clear hK K
        (refine wpAnyH_take (i := 11) (v := ?_) rfl (by kernel_rfl) (by kernel_rfl) (by kernel_rfl) (fun _ _ _ h => h) (Or.inl ⟨by rfl, ?_⟩) (by assumption) ?_; rotate_left; focus (intro w hSw; (try dsimp only at hSw); (try simp only [List.getElem_toArray, List.getElem_cons_zero, List.getElem_cons_succ]); go_simp; try with_reducible rfl)); (try simp only [List.getElem_toArray, List.getElem_cons_zero, List.getElem_cons_succ]); (try simp only [Act.put, List.setIfInBounds_toArray, List.set_cons_zero, List.set_cons_succ])
        refine wpAnyH_done (by kernel_rfl) ?_ _
        go_wp2_with fail
        go_meet
        exact ⟨qb, a1, a2, a3, c1, c2, c3, rfl, rfl, lq, QQ, SQ, B1, B2, B3, XQ⟩
    · (try simp only [List.getElem_toArray, List.getElem_cons_zero, List.getElem_cons_succ])
      go_simp
      have ez : Ext y0 (y0.alloc (Obj.cells #[.int .i64 0, .int .i64 0, .string ⟨#[]⟩, .string ⟨#[]⟩, .int .i64 0, .slice none 0 0, .slice none 0 0, .slice none 0 0] 39)) := (Ext.refl _).alloc _
      have Q := Bx.new y0 #[.int .i64 0, .int .i64 0, .string ⟨#[]⟩, .string ⟨#[]⟩, .int .i64 0, .slice none 0 0, .slice none 0 0, .slice none 0 0] 39
      have lq : w1.heap.size ≤ y0.heap.size := XL.size
      (try clear p0 p1 p2 p3)
      replace P := P.ext ez
      replace ST := Lib.hid (ST.out.ext ez)
      replace X := X.trans ez
      replace XL := XL.trans ez
      generalize y0.alloc (Obj.cells #[.int .i64 0, .int .i64 0, .string ⟨#[]⟩, .string ⟨#[]⟩, .int .i64 0, .slice none 0 0, .slice none 0 0, .slice none 0 0] 39) = y1 at *
      generalize hqb : y0.heap.size = qb at *
      clear hqb
      (try dsimp only)
      refine hK.out _ _ (by exact ⟨P.2.1 0 _ rfl, P.2.1 1 _ rfl, P.2.1 2 _ rfl, P.2.1 3 _ rfl⟩) (fun hHeld => ?_)
      clear hK K
      (refine wpAnyH_ready (rs := [2]) (by kernel_rfl) (by simp) ?_; refine AllReadyH.cons rfl (fun K hK => ?_) AllReadyH.nil)
      (try simp only [List.getElem_toArray, List.getElem_cons_zero, List.getElem_cons_succ])
      go_simp
      go_at_call 14
      refine (laws_toStringS _ pool _ ST.out hlen2).mono ?_
      rintro e y2 ⟨a9, c9, rfl, o9, x9⟩
      (try clear p0 p1 p2 p3)
      have O2 := Lib.hid (o9.mono (Nat.zero_le _))
      clear o9
      replace P := P.ext x9
      replace ST := Lib.hid (ST.out.ext x9)
      replace X := X.trans x9
      replace XL := XL.trans x9
      replace Q := Q.ext x9
      (try dsimp only)
      refine hK.out _ _ (by exact ⟨P.2.1 0 _ rfl, P.2.1 1 _ rfl, P.2.1 2 _ rfl, P.2.1 3 _ rfl⟩) (fun hHeld => ?_)
      clear hK K
      (refine wpAnyH_ready (rs := [4]) (by kernel_rfl) (by simp) ?_; refine AllReadyH.cons rfl (fun K hK => ?_) AllReadyH.nil)
      (try simp only [List.getElem_toArray, List.getElem_cons_zero, List.getElem_cons_succ])
      go_simp
      go_at_call 15
      refine (laws_toHead h ep r p _).mono ?_
      rintro e y3 ⟨rfl, x9⟩
      (try clear p0 p1 p2 p3)
      replace P := P.ext x9
      replace ST := Lib.hid (ST.out.ext x9)
      replace X := X.trans x9
      replace XL := XL.trans x9
      replace Q := Q.ext x9
      replace O2 := Lib.hid (O2.out.ext x9)
      (try dsimp only)
      refine hK.out _ _ (by exact ⟨P.2.1 0 _ rfl, P.2.1 1 _ rfl, P.2.1 2 _ rfl, P.2.1 3 _ rfl⟩) (fun hHeld => ?_)
      clear hK K
      (refine wpAnyH_ready (rs := [5]) (by kernel_rfl) (by simp) ?_; refine AllReadyH.cons rfl (fun K hK => ?_) AllReadyH.nil)
      (try simp only [List.getElem_toArray, List.getElem_cons_zero, List.getElem_cons_succ])
      go_simp
      go_at_call 22
      have hsol := own_solid O2.out
      refine (spec_SealHead seed _ pool h ep r p _ O2.out.strs HS.out hsol).mono ?_
      generalize hS : slV seed pool h ep r p = S at *
      generalize hok : slK seed pool h ep r p = ok at *
      clear hS hok
      rintro e y4 ⟨a1, c1, a2, c2, a3, c3, rfl, so, x9⟩
      have lqs : qb < y3.heap.size := Q.1
      have B1 := fun k (hk : Value.ownBlock (.slice a1 S.op.length c1) = some k) => Nat.ne_of_gt (Nat.lt_of_lt_of_le lqs (own_lt so.1 k hk).1)
      have B2 := fun k (hk : Value.ownBlock (.slice a2 S.sh.length c2) = some k) => Nat.ne_of_gt (Nat.lt_of_lt_of_le lqs (own_lt so.2.1 k hk).1)
      have B3 := fun k (hk : Value.ownBlock (.slice a3 S.si.length c3) = some k) => Nat.ne_of_gt (Nat.lt_of_lt_of_le lqs (own_lt so.2.2.1 k hk).1)
      have SO := so.mono (show w1.heap.size ≤ y3.heap.size from XL.size)
      clear so
      replace P := P.ext x9
      replace ST := Lib.hid (ST.out.ext x9)
      replace X := X.trans x9
      replace XL := XL.trans x9
      replace Q := Q.ext x9
      replace O2 := Lib.hid (O2.out.ext x9)
      (try dsimp only)
      refine hK.out _ _ (by exact ⟨P.2.1 0 _ rfl, P.2.1 1 _ rfl, P.2.1 2 _ rfl, P.2.1 3 _ rfl⟩) (fun hHeld => ?_)
      clear hK K
      (refine wpAnyH_take (i := 6) (v := ?_) rfl (by kernel_rfl) (by kernel_rfl) (by kernel_rfl) (fun _ _ _ h => h) (Or.inl ⟨by rfl, ?_⟩) (by assumption) ?_; rotate_left; focus (intro w hSw; (try dsimp only at hSw); (try simp only [List.getElem_toArray, List.getElem_cons_zero, List.getElem_cons_succ]); go_simp; try with_reducible rfl)); (try simp only [List.getElem_toArray, List.getElem_cons_zero, List.getElem_cons_succ]); (try simp only [Act.put, List.setIfInBounds_toArray, List.set_cons_zero, List.set_cons_succ])
      (refine wpAnyH_take (i := 7) (v := ?_) rfl (by kernel_rfl) (by kernel_rfl) (by kernel_rfl) (fun _ _ _ h => h) (Or.inl ⟨by rfl, ?_⟩) (by assumption) ?_; rotate_left; focus (intro w hSw; (try dsimp only at hSw); (try simp only [List.getElem_toArray, List.getElem_cons_zero, List.getElem_cons_succ]); go_simp; try with_reducible rfl)); (try simp only [List.getElem_toArray, List.getElem_cons_zero, List.getElem_cons_succ]); (try simp only [Act.put, List.setIfInBounds_toArray, List.set_cons_zero, List.set_cons_succ])
      (refine wpAnyH_take (i := 8) (v := ?_) rfl (by kernel_rfl) (by kernel_rfl) (by kernel_rfl) (fun _ _ _ h => h) (Or.inl ⟨by rfl, ?_⟩) (by assumption) ?_; rotate_left; focus (intro w hSw; (try dsimp only at hSw); (try simp only [List.getElem_toArray, List.getElem_cons_zero, List.getElem_cons_succ]); go_simp; try with_reducible rfl)); (try simp only [List.getElem_toArray, List.getElem_cons_zero, List.getElem_cons_succ]); (try simp only [Act.put, List.setIfInBounds_toArray, List.set_cons_zero, List.set_cons_succ])
      have z0 := Q.2.1 0 _ rfl
      have z1 := Q.2.1 1 _ rfl
      have z2 := Q.2.1 2 _ rfl
      have z3 := Q.2.1 3 _ rfl
      have z4 := Q.2.1 4 _ rfl
      have z5 := Q.2.1 5 _ rfl
      have z6 := Q.2.1 6 _ rfl
      have z7 := Q.2.1 7 _ rfl
      have f0 := Q.2.2 0
      have f1 := Q.2.2 1
      have f2 := Q.2.2 2
      have f3 := Q.2.2 3
      have f4 := Q.2.2 4
      have f5 := Q.2.2 5
      have f6 := Q.2.2 6
      have f7 := Q.2.2 7
      have hnq : qb ≠ w.heap.size := by have := PW.out; omega
      have XQ : Ext w1 ((((((((y4.setCell ⟨qb, 0, none⟩ (.int .i64 (slI ok h))).setCell ⟨qb, 1, none⟩ (.int .i64 (slI ok ep))).setCell ⟨qb, 2, none⟩ (.string (slS ok r))).setCell ⟨qb, 3, none⟩ (.string (slS ok p))).setCell ⟨qb, 4, none⟩ (.int .i64 S.at_)).setCell ⟨qb, 5, none⟩ (.slice a1 S.op.length c1)).setCell ⟨qb, 6, none⟩ (.slice a2 S.sh.length c2)).setCell ⟨qb, 7, none⟩ (.slice a3 S.si.length c3)) := ((((((((XL.setCell (by dsimp only; omega) _).setCell (by dsimp only; omega) _).setCell (by dsimp only; omega) _).setCell (by dsimp only; omega) _).setCell (by dsimp only; omega) _).setCell (by dsimp only; omega) _).setCell (by dsimp only; omega) _).setCell (by dsimp only; omega) _)
      have QQ := ((((((((Q.set 0 (.int .i64 (slI ok h)) (by simp)).set 1 (.int .i64 (slI ok ep)) (by simp)).set 2 (.string (slS ok r)) (by simp)).set 3 (.string (slS ok p)) (by simp)).set 4 (.int .i64 S.at_) (by simp)).set 5 (.slice a1 S.op.length c1) (by simp)).set 6 (.slice a2 S.sh.length c2) (by simp)).set 7 (.slice a3 S.si.length c3) (by simp))
      have SQ := ((((((((SO.far B1 B2 B3 0 (.int .i64 (slI ok h))).far B1 B2 B3 1 (.int .i64 (slI ok ep))).far B1 B2 B3 2 (.string (slS ok r))).far B1 B2 B3 3 (.string (slS ok p))).far B1 B2 B3 4 (.int .i64 S.at_)).far B1 B2 B3 5 (.slice a1 S.op.length c1)).far B1 B2 B3 6 (.slice a2 S.sh.length c2)).far B1 B2 B3 7 (.slice a3 S.si.length c3))
      have PQ := ((((((((P.far (c := qb) hnq 0 (.int .i64 (slI ok h))).far (c := qb) hnq 1 (.int .i64 (slI ok ep))).far (c := qb) hnq 2 (.string (slS ok r))).far (c := qb) hnq 3 (.string (slS ok p))).far (c := qb) hnq 4 (.int .i64 S.at_)).far (c := qb) hnq 5 (.slice a1 S.op.length c1)).far (c := qb) hnq 6 (.slice a2 S.sh.length c2)).far (c := qb) hnq 7 (.slice a3 S.si.length c3))
      clear ST SO Q P
      (refine wpAnyH_ready (rs := [10]) (by kernel_rfl) (by simp) ?_; refine AllReadyH.cons rfl (fun K hK => ?_) AllReadyH.nil; (try simp only [List.getElem_toArray, List.getElem_cons_zero, List.getElem_cons_succ]))
      go_simp
      clear z0 f0 z1 f1 z2 f2 z3 f3 z4 f4 z5 f5 z6 f6 z7 f7
      have P := PQ
      clear PQ
      generalize (((((((y4.setCell ⟨qb, 0, none⟩ (.int .i64 (slI ok h))).setCell ⟨qb, 1, none⟩ (.int .i64 (slI ok ep))).setCell ⟨qb, 2, none⟩ (.string (slS ok r))).setCell ⟨qb, 3, none⟩ (.string (slS ok p))).setCell ⟨qb, 4, none⟩ (.int .i64 S.at_)).setCell ⟨qb, 5, none⟩ (.slice a1 S.op.length c1)).setCell ⟨qb, 6, none⟩ (.slice a2 S.sh.length c2)).setCell ⟨qb, 7, none⟩ (.slice a3 S.si.length c3) = W6 at *
      (try dsimp only)
      refine hK.out _ _ (by exact ⟨P.2.1 0 _ rfl, P.2.1 1 _ rfl, P.2.1 2 _ rfl, P.2.1 3 _ rfl⟩) (fun hHeld => ?_)
      clear hK K
      (refine wpAnyH_take (i := 11) (v := ?_) rfl (by kernel_rfl) (by kernel_rfl) (by kernel_rfl) (fun _ _ _ h => h) (Or.inl ⟨by rfl, ?_⟩) (by assumption) ?_; rotate_left; focus (intro w hSw; (try dsimp only at hSw); (try simp only [List.getElem_toArray, List.getElem_cons_zero, List.getElem_cons_succ]); go_simp; try with_reducible rfl)); (try simp only [List.getElem_toArray, List.getElem_cons_zero, List.getElem_cons_succ]); (try simp only [Act.put, List.setIfInBounds_toArray, List.set_cons_zero, List.set_cons_succ])
      refine wpAnyH_done (by kernel_rfl) ?_ _
      go_wp2_with fail
      go_meet
      exact ⟨qb, a1, a2, a3, c1, c2, c3, rfl, rfl, lq, QQ, SQ, B1, B2, B3, XQ⟩
  case rest =>
    obtain ⟨qb, a1, a2, a3, c1, c2, c3, rfl, rfl, lq, Q, SO, b1, b2, b3, x2⟩ := hcut
    generalize hS : slV seed pool h ep r p = S at *
    generalize hok : slK seed pool h ep r p = ok at *
    have HSV := Lib.hid hS
    have HOK := Lib.hid hok
    clear hS hok PW
    have hSV := SV.out
    generalize wc = V1 at *
    replace P := P.ext x2
    replace ST := Lib.hid (ST.out.ext x2)
    replace X := X.trans x2
    have B1 := own_lt SO.1
    have lb := Q.1
    have XV := Ext.refl V1
    have QV := Q
    have SV1 := SO
    have PV := P
    have STV := ST
    have X1V := X
    go_wp2_with fail
    refine (laws_toStringS _ pool _ ST.out hlen2).mono ?_
    rintro e w2 ⟨ax, cx, rfl, ox, x3⟩
    have O2 := Lib.hid ox
    have LX := Lib.hid (own_lt ox)
    have s23 := x3.size
    clear ox
    replace P := P.ext x3
    replace ST := Lib.hid (ST.out.ext x3)
    replace X := X.trans x3
    replace Q := Q.ext x3
    replace SO := SO.ext x3
    replace XV := XV.trans x3
    have p0 := P.2.1 0 _ rfl
    have p1 := P.2.1 1 _ rfl
    have p2 := P.2.1 2 _ rfl
    have p3 := P.2.1 3 _ rfl
    go_wp2_with fail
    refine (laws_toHead h ep r p _).mono ?_
    rintro e w3 ⟨rfl, x4⟩
    clear p0 p1 p2 p3
    replace P := P.ext x4
    replace ST := Lib.hid (ST.out.ext x4)
    replace X := X.trans x4
    replace Q := Q.ext x4
    replace SO := SO.ext x4
    replace XV := XV.trans x4
    replace O2 := Lib.hid (O2.out.ext x4)
    have hsol := own_solid O2.out
    go_wp2_with fail
    refine (impl_SealHead seed _ pool h ep r p _ O2.out.strs HS.out hsol (HT.out.ext X)).mono ?_
    rw [HSV.out, HOK.out]
    rintro e w4 ⟨d1, e1, d2, e2, d3, e3, rfl, TO, x5⟩
    clear hsol
    replace P := P.ext x5
    replace ST := Lib.hid (ST.out.ext x5)
    replace X := X.trans x5
    replace Q := Q.ext x5
    replace SO := SO.ext x5
    replace XV := XV.trans x5
    replace O2 := Lib.hid (O2.out.ext x5)
    have xr : Ext w4 (w4.alloc (Obj.cells #[.int .i64 (slI ok h), .int .i64 (slI ok ep), .string (slS ok r), .string (slS ok p), .int .i64 S.at_, .slice d1 S.op.length e1, .slice d2 S.sh.length e2, .slice d3 S.si.length e3] 39)) := (Ext.refl w4).alloc _
    have R := Bx.new w4 #[.int .i64 (slI ok h), .int .i64 (slI ok ep), .string (slS ok r), .string (slS ok p), .int .i64 S.at_, .slice d1 S.op.length e1, .slice d2 S.sh.length e2, .slice d3 S.si.length e3] 39
    have lr : w2.heap.size ≤ w4.heap.size := Nat.le_trans x4.size x5.size
    have t1 := own_lt TO.1
    have t2 := own_lt TO.2.1
    have t3 := own_lt TO.2.2.1
    have LT := Lib.hid (fun k e => Nat.le_trans x4.size (t1 k e).1)
    have LT2 := Lib.hid (fun k e => Nat.le_trans x4.size (t2 k e).1)
    have LT3 := Lib.hid (fun k e => Nat.le_trans x4.size (t3 k e).1)
    have k1 := fun k hk => Nat.ne_of_lt (t1 k hk).2
    have k2 := fun k hk => Nat.ne_of_lt (t2 k hk).2
    have k3 := fun k hk => Nat.ne_of_lt (t3 k hk).2
    clear t1 t2 t3
    replace TO := TO.mono x4.size
    replace P := P.ext xr
    replace ST := Lib.hid (ST.out.ext xr)
    replace X := X.trans xr
    replace Q := Q.ext xr
    replace SO := SO.ext xr
    replace XV := XV.trans xr
    replace O2 := Lib.hid (O2.out.ext xr)
    replace TO := TO.ext xr
    have m0 := R.2.1 0 _ rfl
    have m1 := R.2.1 1 _ rfl
    have m2 := R.2.1 2 _ rfl
    have m3 := R.2.1 3 _ rfl
    have m4 := R.2.1 4 _ rfl
    have m5 := R.2.1 5 _ rfl
    have m6 := R.2.1 6 _ rfl
    have m7 := R.2.1 7 _ rfl
    have q0 := Q.2.1 0 _ rfl
    have q1 := Q.2.1 1 _ rfl
    have q2 := Q.2.1 2 _ rfl
    have q3 := Q.2.1 3 _ rfl
    have q4 := Q.2.1 4 _ rfl
    have q5 := Q.2.1 5 _ rfl
    have q6 := Q.2.1 6 _ rfl
    have q7 := Q.2.1 7 _ rfl
    go_wp2_with fail
    generalize w4.alloc (Obj.cells #[.int .i64 (slI ok h), .int .i64 (slI ok ep), .string (slS ok r), .string (slS ok p), .int .i64 S.at_, .slice d1 S.op.length e1, .slice d2 S.sh.length e2, .slice d3 S.si.length e3] 39) = V2 at *
    generalize w4.heap.size = rb at *
    refine (laws_eqSealT _ _ _ _ _ _ _ _ _ _ S _ TO.1.strs TO.2.1.strs TO.2.2.1.strs SO.1.strs SO.2.1.strs SO.2.2.1.strs).mono ?_
    rintro e y2 ⟨rfl, xe⟩
    clear m0 q0 m1 q1 m2 q2 m3 q3 m4 q4 m5 q5 m6 q6 m7 q7
    replace P := P.ext xe
    replace ST := Lib.hid (ST.out.ext xe)
    replace X := X.trans xe
    replace Q := Q.ext xe
    replace SO := SO.ext xe
    replace XV := XV.trans xe
    replace O2 := Lib.hid (O2.out.ext xe)
    replace TO := TO.ext xe
    replace R := R.ext xe
    go_wp2_with fail
    refine (laws_toStringS _ pool _ ST.out hlen2).mono ?_
    rintro e w3 ⟨ay, cy, rfl, oy, x6⟩
    have O3 := Lib.hid (OwnStrs.strs oy)
    clear oy
    replace P := P.ext x6
    replace ST := Lib.hid (ST.out.ext x6)
    replace X := X.trans x6
    replace Q := Q.ext x6
    replace SO := SO.ext x6
    replace XV := XV.trans x6
    replace O2 := Lib.hid (O2.out.ext x6)
    replace TO := TO.ext x6
    replace R := R.ext x6
    go_wp2_with fail
    refine (laws_eqStringS _ _ pool pool _ O2.out.strs O3.out).mono ?_
    rw [show decide (pool = pool) = true from decide_eq_true rfl]
    rintro e w4 ⟨rfl, x7⟩
    clear O3
    replace P := P.ext x7
    replace ST := Lib.hid (ST.out.ext x7)
    replace X := X.trans x7
    replace Q := Q.ext x7
    replace SO := SO.ext x7
    replace XV := XV.trans x7
    replace O2 := Lib.hid (O2.out.ext x7)
    replace TO := TO.ext x7
    replace R := R.ext x7
    go_wp2_with fail
    refine (laws_markStringS _ pool 1 _ _ O2.out (by omega)).mono ?_
    rintro e w5 ⟨rfl, -, gx⟩
    have nx : ∀ k, Value.ownBlock (.slice ax pool.length cx) = some k → V1.heap.size ≤ k ∧ k < w2.heap.size := LX.out
    have XM : Ext V1 w5 := XV.grown gx (fun k hk => (nx k hk).1)
    have RM := R.grown gx (fun e => by have := (nx _ e).2; omega)
    have TM : SigOwn w5 w2.heap.size (.slice d1 S.op.length e1) (.slice d2 S.sh.length e2) (.slice d3 S.si.length e3) S := ⟨own_grown2 TO.1 gx (fun k hk e => by have h1 := (nx k hk).2; have h2 := LT.out k e; omega), own_grown2 TO.2.1 gx (fun k hk e => by have h1 := (nx k hk).2; have h2 := LT2.out k e; omega), own_grown2 TO.2.2.1 gx (fun k hk e => by have h1 := (nx k hk).2; have h2 := LT3.out k e; omega), TO.2.2.2⟩
    clear R TO Q SO P ST X XV O2 gx
    have R := RM
    have TO := TM
    have Q := QV.ext XM
    have SO := SV1.ext XM
    have P := PV.ext XM
    have ST := Lib.hid (STV.out.ext XM)
    have X := X1V.trans XM
    have XV := XM
    clear RM TM XM
    have hkn : ¬ ((1 : Int) + pool.length < 0) := by omega
    have m0 := R.2.1 0 _ rfl
    have m1 := R.2.1 1 _ rfl
    have m2 := R.2.1 2 _ rfl
    have m3 := R.2.1 3 _ rfl
    have m4 := R.2.1 4 _ rfl
    have m5 := R.2.1 5 _ rfl
    have m6 := R.2.1 6 _ rfl
    have m7 := R.2.1 7 _ rfl
    have q0 := Q.2.1 0 _ rfl
    have q1 := Q.2.1 1 _ rfl
    have q2 := Q.2.1 2 _ rfl
    have q3 := Q.2.1 3 _ rfl
    have q4 := Q.2.1 4 _ rfl
    have q5 := Q.2.1 5 _ rfl
    have q6 := Q.2.1 6 _ rfl
    have q7 := Q.2.1 7 _ rfl
    go_wp2_with fail
    refine (laws_eqSealT _ _ _ _ _ _ _ _ _ _ S _ TO.1.strs TO.2.1.strs TO.2.2.1.strs SO.1.strs SO.2.1.strs SO.2.2.1.strs).mono ?_
    rintro e y4 ⟨rfl, xe⟩
    clear m0 q0 m1 q1 m2 q2 m3 q3 m4 q4 m5 q5 m6 q6 m7 q7
    replace P := P.ext xe
    replace ST := Lib.hid (ST.out.ext xe)
    replace X := X.trans xe
    replace Q := Q.ext xe
    replace SO := SO.ext xe
    replace XV := XV.trans xe
    replace R := R.ext xe
    replace TO := TO.ext xe
    have m0 := R.2.1 0 _ rfl
    have m1 := R.2.1 1 _ rfl
    have m2 := R.2.1 2 _ rfl
    have m3 := R.2.1 3 _ rfl
    have m4 := R.2.1 4 _ rfl
    have m5 := R.2.1 5 _ rfl
    have m6 := R.2.1 6 _ rfl
    have m7 := R.2.1 7 _ rfl
    go_wp2_with fail
    refine (laws_markSeal _ _ _ _ _ _ _ S 1 _ _ TO (by omega)).mono ?_
    rintro e w6 ⟨rfl, j1, j2, j3, mm⟩
    clear m0 m1 m2 m3 m4 m5 m6 m7
    have XM : Ext V1 w6 := mm.ext _ TO XV (by omega)
    have RM := mm.bx R k1 k2 k3
    clear R TO Q SO P ST X XV mm
    have R := RM
    have Q := QV.ext XM
    have SO := SV1.ext XM
    have P := PV.ext XM
    have ST := Lib.hid (STV.out.ext XM)
    have X := X1V.trans XM
    have J1 := j1.strs
    have J2 := j2.strs
    have J3 := j3.strs
    clear RM XM j1 j2 j3 QV SV1 PV STV X1V
    have hn2 : ¬ ((1 : Int) + S.op.length + S.sh.length + S.si.length < 0) := by omega
    have m0 := R.2.1 0 _ rfl
    have m1 := R.2.1 1 _ rfl
    have m2 := R.2.1 2 _ rfl
    have m3 := R.2.1 3 _ rfl
    have m4 := R.2.1 4 _ rfl
    have m5 := R.2.1 5 _ rfl
    have m6 := R.2.1 6 _ rfl
    have m7 := R.2.1 7 _ rfl
    go_wp2_with fail
    refine (laws_heldSeal _ _ _ _ _ _ _ _ S.op.length S.sh.length S.si.length 1 _ J1 J2 J3 (by omega)).mono ?_
    rintro e w7 ⟨rfl, xh⟩
    clear m0 m1 m2 m3 m4 m5 m6 m7
    replace P := P.ext xh
    replace ST := Lib.hid (ST.out.ext xh)
    replace X := X.trans xh
    replace Q := Q.ext xh
    replace SO := SO.ext xh
    replace R := R.ext xh
    replace J1 := J1.ext xh
    replace J2 := J2.ext xh
    replace J3 := J3.ext xh
    have PW := Lib.hid (show w.heap.size < w7.heap.size from P.1)
    go_upto_region 29 with (fail)
    go_cut [16, 17] (fun s16 s17 wx => CutSeal w7 wx s16 s17 S ok h ep r p)
    case first =>
      have XL := Ext.refl w7
      have p0 := P.2.1 0 _ rfl
      have p1 := P.2.1 1 _ rfl
      have p2 := P.2.1 2 _ rfl
      have p3 := P.2.1 3 _ rfl
      go_wp2_with fail
      clear p0 p1 p2 p3
      refine wp_region_held_drew (S := (fun W => W.cell? ⟨w.heap.size, 0, none⟩ = some (.int .i64 h) ∧ W.cell? ⟨w.heap.size, 1, none⟩ = some (.int .i64 ep) ∧ W.cell? ⟨w.heap.size, 2, none⟩ = some (.string r) ∧ W.cell? ⟨w.heap.size, 3, none⟩ = some (.string p))) (by kernel_rfl) (by exact ⟨P.2.1 0 _ rfl, P.2.1 1 _ rfl, P.2.1 2 _ rfl, P.2.1 3 _ rfl⟩) (fun hHeld => ?_)
      have xd : Ext w7 w7.drew := (Ext.refl w7).drew
      replace P := P.ext xd
      replace ST := Lib.hid (ST.out.ext xd)
      replace X := X.trans xd
      replace XL := XL.trans xd
      generalize w7.drew = y0 at *
      have p0 := P.2.1 0 _ rfl
      have p1 := P.2.1 1 _ rfl
      have p2 := P.2.1 2 _ rfl
      have p3 := P.2.1 3 _ rfl
      (refine wpAnyH_take (i := 0) (v := ?_) rfl (by kernel_rfl) (by kernel_rfl) (by kernel_rfl) (fun _ _ _ h => h) (Or.inl ⟨by rfl, ?_⟩) (by assumption) ?_; rotate_left; focus (intro w hSw; (try dsimp only at hSw); (try simp only [List.getElem_toArray, List.getElem_cons_zero]); go_simp; try with_reducible rfl)); (try simp only [List.getElem_toArray, List.getElem_cons_zero]); (try simp only [Act.put, List.setIfInBounds_toArray, List.set_cons_zero, List.set_cons_succ])
      (refine wpAnyH_take (i := 1) (v := ?_) rfl (by kernel_rfl) (by kernel_rfl) (by kernel_rfl) (fun _ _ _ h => h) (Or.inl ⟨by rfl, ?_⟩) (by assumption) ?_; rotate_left; focus (intro w hSw; (try dsimp only at hSw); (try simp only [List.getElem_toArray, List.getElem_cons_zero, List.getElem_cons_succ]); go_simp; try with_reducible rfl)); (try simp only [List.getElem_toArray, List.getElem_cons_zero, List.getElem_cons_succ]); (try simp only [Act.put, List.setIfInBounds_toArray, List.set_cons_zero, List.set_cons_succ])
      (refine wpAnyH_take (i := 3) (v := ?_) rfl (by kernel_rfl) (by kernel_rfl) (by kernel_rfl) (fun _ _ _ h => h) (Or.inl ⟨by rfl, ?_⟩) (by assumption) ?_; rotate_left; focus (intro w hSw; (try dsimp only at hSw); (try simp only [List.getElem_toArray, List.getElem_cons_zero, List.getElem_cons_succ]); go_simp; try with_reducible rfl)); (try simp only [List.getElem_toArray, List.getElem_cons_zero, List.getElem_cons_succ]); (try simp only [Act.put, List.setIfInBounds_toArray, List.set_cons_zero, List.set_cons_succ])
      refine wpAnyH_ready (rs := [2, 9]) (by kernel_rfl) (by simp) ?_
      refine AllReadyH.cons rfl (fun K hK => ?_) (AllReadyH.cons rfl (fun K hK => ?_) AllReadyH.nil)
      · (try simp only [List.getElem_toArray, List.getElem_cons_zero, List.getElem_cons_succ])
        go_simp
        go_at_call 14
        refine (laws_toStringS _ pool _ ST.out hlen2).mono ?_
        rintro e y1 ⟨a9, c9, rfl, o9, x9⟩
        (try clear p0 p1 p2 p3)
        have O2 := Lib.hid (o9.mono (Nat.zero_le _))
        clear o9
        replace P := P.ext x9
        replace ST := Lib.hid (ST.out.ext x9)
        replace X := X.trans x9
        replace XL := XL.trans x9
        (try dsimp only)
        refine hK.out _ _ (by exact ⟨P.2.1 0 _ rfl, P.2.1 1 _ rfl, P.2.1 2 _ rfl, P.2.1 3 _ rfl⟩) (fun hHeld => ?_)
        clear hK K
        refine wpAnyH_ready (rs := [4, 9]) (by kernel_rfl) (by simp) ?_
        refine AllReadyH.cons rfl (fun K hK => ?_) (AllReadyH.cons rfl (fun K hK => ?_) AllReadyH.nil)
        · (try simp only [List.getElem_toArray, List.getElem_cons_zero, List.getElem_cons_succ])
          go_simp
          go_at_call 15
          refine (laws_toHead h ep r p _).mono ?_
          rintro e y2 ⟨rfl, x9⟩
          (try clear p0 p1 p2 p3)
          replace P := P.ext x9
          replace ST := Lib.hid (ST.out.ext x9)
          replace X := X.trans x9
          replace XL := XL.trans x9
          replace O2 := Lib.hid (O2.out.ext x9)
          (try dsimp only)
          refine hK.out _ _ (by exact ⟨P.2.1 0 _ rfl, P.2.1 1 _ rfl, P.2.1 2 _ rfl, P.2.1 3 _ rfl⟩) (fun hHeld => ?_)
          clear hK K
          refine wpAnyH_ready (rs := [5, 9]) (by kernel_rfl) (by simp) ?_
          refine AllReadyH.cons rfl (fun K hK => ?_) (AllReadyH.cons rfl (fun K hK => ?_) AllReadyH.nil)
          · (try simp only [List.getElem_toArray, List.getElem_cons_zero, List.getElem_cons_succ])
            go_simp
            go_at_call 23
            have hsol := own_solid O2.out
            refine (impl_SealHead seed _ pool h ep r p _ O2.out.strs HS.out hsol (HT.out.ext X)).mono ?_
            rw [HSV.out, HOK.out]
            skip
            rintro e y3 ⟨a1, c1, a2, c2, a3, c3, rfl, so, x9⟩
            have SO := so.mono (show w7.heap.size ≤ y2.heap.size from XL.size)
            clear so
            have B0 := fun v n l (o : World.ownsRow y3 (w7.heap.size) 9 1 v n l) k (hk : v.ownBlock = some k) => (own_lt o k hk).2
            have B1 := fun k hk => Nat.ne_of_lt (B0 _ _ _ SO.1 k hk)
            have B2 := fun k hk => Nat.ne_of_lt (B0 _ _ _ SO.2.1 k hk)
            have B3 := fun k hk => Nat.ne_of_lt (B0 _ _ _ SO.2.2.1 k hk)
            clear B0
            replace P := P.ext x9
            replace ST := Lib.hid (ST.out.ext x9)
            replace X := X.trans x9
            replace XL := XL.trans x9
            replace O2 := Lib.hid (O2.out.ext x9)
            (try dsimp only)
            refine hK.out _ _ (by exact ⟨P.2.1 0 _ rfl, P.2.1 1 _ rfl, P.2.1 2 _ rfl, P.2.1 3 _ rfl⟩) (fun hHeld => ?_)
            clear hK K
            (refine wpAnyH_take (i := 6) (v := ?_) rfl (by kernel_rfl) (by kernel_rfl) (by kernel_rfl) (fun _ _ _ h => h) (Or.inl ⟨by rfl, ?_⟩) (by assumption) ?_; rotate_left; focus (intro w hSw; (try dsimp only at hSw); (try simp only [List.getElem_toArray, List.getElem_cons_zero, List.getElem_cons_succ]); go_simp; try with_reducible rfl)); (try simp only [List.getElem_toArray, List.getElem_cons_zero, List.getElem_cons_succ]); (try simp only [Act.put, List.setIfInBounds_toArray, List.set_cons_zero, List.set_cons_succ])
            (refine wpAnyH_take (i := 7) (v := ?_) rfl (by kernel_rfl) (by kernel_rfl) (by kernel_rfl) (fun _ _ _ h => h) (Or.inl ⟨by rfl, ?_⟩) (by assumption) ?_; rotate_left; focus (intro w hSw; (try dsimp only at hSw); (try simp only [List.getElem_toArray, List.getElem_cons_zero, List.getElem_cons_succ]); go_simp; try with_reducible rfl)); (try simp only [List.getElem_toArray, List.getElem_cons_zero, List.getElem_cons_succ]); (try simp only [Act.put, List.setIfInBounds_toArray, List.set_cons_zero, List.set_cons_succ])
            (refine wpAnyH_take (i := 8) (v := ?_) rfl (by kernel_rfl) (by kernel_rfl) (by kernel_rfl) (fun _ _ _ h => h) (Or.inl ⟨by rfl, ?_⟩) (by assumption) ?_; rotate_left; focus (intro w hSw; (try dsimp only at hSw); (try simp only [List.getElem_toArray, List.getElem_cons_zero, List.getElem_cons_succ]); go_simp; try with_reducible rfl)); (try simp only [List.getElem_toArray, List.getElem_cons_zero, List.getElem_cons_succ]); (try simp only [Act.put, List.setIfInBounds_toArray, List.set_cons_zero, List.set_cons_succ])
            refine wpAnyH_ready (rs := [9]) (by kernel_rfl) (by simp) ?_
            refine AllReadyH.cons rfl (fun K hK => ?_) AllReadyH.nil
            (try simp only [List.getElem_toArray, List.getElem_cons_zero, List.getElem_cons_succ])
            go_simp
            have ez : Ext y3 (y3.alloc (Obj.cells #[.int .i64 0, .int .i64 0, .string ⟨#[]⟩, .string ⟨#[]⟩, .int .i64 0, .slice none 0 0, .slice none 0 0, .slice none 0 0] 39)) := (Ext.refl _).alloc _
            have Q := Bx.new y3 #[.int .i64 0, .int .i64 0, .string ⟨#[]⟩, .string ⟨#[]⟩, .int .i64 0, .slice none 0 0, .slice none 0 0, .slice none 0 0] 39
            have lq : w7.heap.size ≤ y3.heap.size := XL.size
            (try clear p0 p1 p2 p3)
            replace P := P.ext ez
            replace ST := Lib.hid (ST.out.ext ez)
            replace X := X.trans ez
            replace XL := XL.trans ez
            replace O2 := Lib.hid (O2.out.ext ez)
            replace SO := SO.ext ez
            generalize y3.alloc (Obj.cells #[.int .i64 0, .int .i64 0, .string ⟨#[]⟩, .string ⟨#[]⟩, .int .i64 0, .slice none 0 0, .slice none 0 0, .slice none 0 0] 39) = y4 at *
            generalize hqb : y3.heap.size = qb at *
            clear hqb
            (try dsimp only)
            refine hK.out _ _ (by exact ⟨P.2.1 0 _ rfl, P.2.1 1 _ rfl, P.2.1 2 _ rfl, P.2.1 3 _ rfl⟩) (fun hHeld => ?_)
            clear hK K
            have z0 := Q.2.1 0 _ rfl
            have z1 := Q.2.1 1 _ rfl
            have z2 := Q.2.1 2 _ rfl
            have z3 := Q.2.1 3 _ rfl
            have z4 := Q.2.1 4 _ rfl
            have z5 := Q.2.1 5 _ rfl
            have z6 := Q.2.1 6 _ rfl
            have z7 := Q.2.1 7 _ rfl
            have f0 := Q.2.2 0
            have f1 := Q.2.2 1
            have f2 := Q.2.2 2
            have f3 := Q.2.2 3
            have f4 := Q.2.2 4
            have f5 := Q.2.2 5
            have f6 := Q.2.2 6
            have f7 := Q.2.2 7
            have hnq : qb ≠ w.heap.size := by have := PW.out; omega
            have XQ : Ext w7 ((((((((y4.setCell ⟨qb, 0, none⟩ (.int .i64 (slI ok h))).setCell ⟨qb, 1, none⟩ (.int .i64 (slI ok ep))).setCell ⟨qb, 2, none⟩ (.string (slS ok r))).setCell ⟨qb, 3, none⟩ (.string (slS ok p))).setCell ⟨qb, 4, none⟩ (.int .i64 S.at_)).setCell ⟨qb, 5, none⟩ (.slice a1 S.op.length c1)).setCell ⟨qb, 6, none⟩ (.slice a2 S.sh.length c2)).setCell ⟨qb, 7, none⟩ (.slice a3 S.si.length c3)) := ((((((((XL.setCell (by dsimp only; omega) _).setCell (by dsimp only; omega) _).setCell (by dsimp only; omega) _).setCell (by dsimp only; omega) _).setCell (by dsimp only; omega) _).setCell (by dsimp only; omega) _).setCell (by dsimp only; omega) _).setCell (by dsimp only; omega) _)
            have QQ := ((((((((Q.set 0 (.int .i64 (slI ok h)) (by simp)).set 1 (.int .i64 (slI ok ep)) (by simp)).set 2 (.string (slS ok r)) (by simp)).set 3 (.string (slS ok p)) (by simp)).set 4 (.int .i64 S.at_) (by simp)).set 5 (.slice a1 S.op.length c1) (by simp)).set 6 (.slice a2 S.sh.length c2) (by simp)).set 7 (.slice a3 S.si.length c3) (by simp))
            have SQ := ((((((((SO.far B1 B2 B3 0 (.int .i64 (slI ok h))).far B1 B2 B3 1 (.int .i64 (slI ok ep))).far B1 B2 B3 2 (.string (slS ok r))).far B1 B2 B3 3 (.string (slS ok p))).far B1 B2 B3 4 (.int .i64 S.at_)).far B1 B2 B3 5 (.slice a1 S.op.length c1)).far B1 B2 B3 6 (.slice a2 S.sh.length c2)).far B1 B2 B3 7 (.slice a3 S.si.length c3))
            have PQ := ((((((((P.far (c := qb) hnq 0 (.int .i64 (slI ok h))).far (c := qb) hnq 1 (.int .i64 (slI ok ep))).far (c := qb) hnq 2 (.string (slS ok r))).far (c := qb) hnq 3 (.string (slS ok p))).far (c := qb) hnq 4 (.int .i64 S.at_)).far (c := qb) hnq 5 (.slice a1 S.op.length c1)).far (c := qb) hnq 6 (.slice a2 S.sh.length c2)).far (c := qb) hnq 7 (.slice a3 S.si.length c3))
            clear ST SO Q P
            (refine wpAnyH_ready (rs := [10]) (by kernel_rfl) (by simp) ?_; refine AllReadyH.cons rfl (fun K hK => ?_) AllReadyH.nil; (try simp only [List.getElem_toArray, List.getElem_cons_zero, List.getElem_cons_succ]))
            go_simp
            clear z0 f0 z1 f1 z2 f2 z3 f3 z4 f4 z5 f5 z6 f6 z7 f7
            have P := PQ
            clear PQ
            generalize (((((((y4.setCell ⟨qb, 0, none⟩ (.int .i64 (slI ok h))).setCell ⟨qb, 1, none⟩ (.int .i64 (slI ok ep))).setCell ⟨qb, 2, none⟩ (.string (slS ok r))).setCell ⟨qb, 3, none⟩ (.string (slS ok p))).setCell ⟨qb, 4, none⟩ (.int .i64 S.at_)).setCell ⟨qb, 5, none⟩ (.slice a1 S.op.length c1)).setCell ⟨qb, 6, none⟩ (.slice a2 S.sh.length c2)).setCell ⟨qb, 7, none⟩ (.slice a3 S.si.length c3) = W6 at *
            (try dsimp only)
            refine hK.out _ _ (by exact ⟨P.2.1 0 _ rfl, P.2.1 1 _ rfl, P.2.1 2 _ rfl, P.2.1 3 _ rfl⟩) (fun hHeld => ?_)
            clear hK K
            (refine wpAnyH_take (i := 11) (v := ?_) rfl (by kernel_rfl) (by kernel_rfl) (by kernel_rfl) (fun _ _ _ h => h) (Or.inl ⟨by rfl, ?_⟩) (by assumption) ?_; rotate_left; focus (intro w hSw; (try dsimp only at hSw); (try simp only [List.getElem_toArray, List.getElem_cons_zero, List.getElem_cons_succ]); go_simp; try with_reducible rfl)); (try simp only [List.getElem_toArray, List.getElem_cons_zero, List.getElem_cons_succ]); (try simp only [Act.put, List.setIfInBounds_toArray, List.set_cons_zero, List.set_cons_succ])
            refine wpAnyH_done (by kernel_rfl) ?_ _
            go_wp2_with fail
            go_meet
            exact ⟨qb, a1, a2, a3, c1, c2, c3, rfl, rfl, lq, QQ, SQ, B1, B2, B3, XQ⟩
          · (try simp only [List.getElem_toArray, List.getElem_cons_zero, List.getElem_cons_succ])
            go_simp
            have ez : Ext y2 (y2.alloc (Obj.cells #[.int .i64 0, .int .i64 0, .string ⟨#[]⟩, .string ⟨#[]⟩, .int .i64 0, .slice none 0 0, .slice none 0 0, .slice none 0 0] 39)) := (Ext.refl _).alloc _
            have Q := Bx.new y2 #[.int .i64 0, .int .i64 0, .string ⟨#[]⟩, .string ⟨#[]⟩, .int .i64 0, .slice none 0 0, .slice none 0 0, .slice none 0 0] 39
            have lq : w7.heap.size ≤ y2.heap.size := XL.size
            (try clear p0 p1 p2 p3)
            replace P := P.ext ez
            replace ST := Lib.hid (ST.out.ext ez)
            replace X := X.trans ez
            replace XL := XL.trans ez
            replace O2 := Lib.hid (O2.out.ext ez)
            generalize y2.alloc (Obj.cells #[.int .i64 0, .int .i64 0, .string ⟨#[]⟩, .string ⟨#[]⟩, .int .i64 0, .slice none 0 0, .slice none 0 0, .slice none 0 0] 39) = y3 at *
            generalize hqb : y2.heap.size = qb at *
            clear hqb
            (try dsimp only)
            refine hK.out _ _ (by exact ⟨P.2.1 0 _ rfl, P.2.1 1 _ rfl, P.2.1 2 _ rfl, P.2.1 3 _ rfl⟩) (fun hHeld => ?_)
            clear hK K
            (refine wpAnyH_ready (rs := [5]) (by kernel_rfl) (by simp) ?_; refine AllReadyH.cons rfl (fun K hK => ?_) AllReadyH.nil)
            (try simp only [List.getElem_toArray, List.getElem_cons_zero, List.getElem_cons_succ])
            go_simp
            go_at_call 23
            have hsol := own_solid O2.out
            refine (impl_SealHead seed _ pool h ep r p _ O2.out.strs HS.out hsol (HT.out.ext X)).mono ?_
            rw [HSV.out, HOK.out]
            skip
            rintro e y4 ⟨a1, c1, a2, c2, a3, c3, rfl, so, x9⟩
            have lqs : qb < y3.heap.size := Q.1
            have B1 := fun k (hk : Value.ownBlock (.slice a1 S.op.length c1) = some k) => Nat.ne_of_gt (Nat.lt_of_lt_of_le lqs (own_lt so.1 k hk).1)
            have B2 := fun k (hk : Value.ownBlock (.slice a2 S.sh.length c2) = some k) => Nat.ne_of_gt (Nat.lt_of_lt_of_le lqs (own_lt so.2.1 k hk).1)
            have B3 := fun k (hk : Value.ownBlock (.slice a3 S.si.length c3) = some k) => Nat.ne_of_gt (Nat.lt_of_lt_of_le lqs (own_lt so.2.2.1 k hk).1)
            have SO := so.mono (show w7.heap.size ≤ y3.heap.size from XL.size)
            clear so
            replace P := P.ext x9
            replace ST := Lib.hid (ST.out.ext x9)
            replace X := X.trans x9
            replace XL := XL.trans x9
            replace O2 := Lib.hid (O2.out.ext x9)
            replace Q := Q.ext x9
            (try dsimp only)
            refine hK.out _ _ (by exact ⟨P.2.1 0 _ rfl, P.2.1 1 _ rfl, P.2.1 2 _ rfl, P.2.1 3 _ rfl⟩) (fun hHeld => ?_)
            clear hK K
            (refine wpAnyH_take (i := 6) (v := ?_) rfl (by kernel_rfl) (by kernel_rfl) (by kernel_rfl) (fun _ _ _ h => h) (Or.inl ⟨by rfl, ?_⟩) (by assumption) ?_; rotate_left; focus (intro w hSw; (try dsimp only at hSw); (try simp only [List.getElem_toArray, List.getElem_cons_zero, List.getElem_cons_succ]); go_simp; try with_reducible rfl)); (try simp only [List.getElem_toArray, List.getElem_cons_zero, List.getElem_cons_succ]); (try simp only [Act.put, List.setIfInBounds_toArray, List.set_cons_zero, List.set_cons_succ])
            (refine wpAnyH_take (i := 7) (v := ?_) rfl (by kernel_rfl) (by kernel_rfl) (by kernel_rfl) (fun _ _ _ h => h) (Or.inl ⟨by rfl, ?_⟩) (by assumption) ?_; rotate_left; focus (intro w hSw; (try dsimp only at hSw); (try simp only [List.getElem_toArray, List.getElem_cons_zero, List.getElem_cons_succ]); go_simp; try with_reducible rfl)); (try simp only [List.getElem_toArray, List.getElem_cons_zero, List.getElem_cons_succ]); (try simp only [Act.put, List.setIfInBounds_toArray, List.set_cons_zero, List.set_cons_succ])
            (refine wpAnyH_take (i := 8) (v := ?_) rfl (by kernel_rfl) (by kernel_rfl) (by kernel_rfl) (fun _ _ _ h => h) (Or.inl ⟨by rfl, ?_⟩) (by assumption) ?_; rotate_left; focus (intro w hSw; (try dsimp only at hSw); (try simp only [List.getElem_toArray, List.getElem_cons_zero, List.getElem_cons_succ]); go_simp; try with_reducible rfl)); (try simp only [List.getElem_toArray, List.getElem_cons_zero, List.getElem_cons_succ]); (try simp only [Act.put, List.setIfInBounds_toArray, List.set_cons_zero, List.set_cons_succ])
            have z0 := Q.2.1 0 _ rfl
            have z1 := Q.2.1 1 _ rfl
            have z2 := Q.2.1 2 _ rfl
            have z3 := Q.2.1 3 _ rfl
            have z4 := Q.2.1 4 _ rfl
            have z5 := Q.2.1 5 _ rfl
            have z6 := Q.2.1 6 _ rfl
            have z7 := Q.2.1 7 _ rfl
            have f0 := Q.2.2 0
            have f1 := Q.2.2 1
            have f2 := Q.2.2 2
            have f3 := Q.2.2 3
            have f4 := Q.2.2 4
            have f5 := Q.2.2 5
            have f6 := Q.2.2 6
            have f7 := Q.2.2 7
            have hnq : qb ≠ w.heap.size := by have := PW.out; omega
            have XQ : Ext w7 ((((((((y4.setCell ⟨qb, 0, none⟩ (.int .i64 (slI ok h))).setCell ⟨qb, 1, none⟩ (.int .i64 (slI ok ep))).setCell ⟨qb, 2, none⟩ (.string (slS ok r))).setCell ⟨qb, 3, none⟩ (.string (slS ok p))).setCell ⟨qb, 4, none⟩ (.int .i64 S.at_)).setCell ⟨qb, 5, none⟩ (.slice a1 S.op.length c1)).setCell ⟨qb, 6, none⟩ (.slice a2 S.sh.length c2)).setCell ⟨qb, 7, none⟩ (.slice a3 S.si.length c3)) := ((((((((XL.setCell (by dsimp only; omega) _).setCell (by dsimp only; omega) _).setCell (by dsimp only; omega) _).setCell (by dsimp only; omega) _).setCell (by dsimp only; omega) _).setCell (by dsimp only; omega) _).setCell (by dsimp only; omega) _).setCell (by dsimp only; omega) _)
            have QQ := ((((((((Q.set 0 (.int .i64 (slI ok h)) (by simp)).set 1 (.int .i64 (slI ok ep)) (by simp)).set 2 (.string (slS ok r)) (by simp)).set 3 (.string (slS ok p)) (by simp)).set 4 (.int .i64 S.at_) (by simp)).set 5 (.slice a1 S.op.length c1) (by simp)).set 6 (.slice a2 S.sh.length c2) (by simp)).set 7 (.slice a3 S.si.length c3) (by simp))
            have SQ := ((((((((SO.far B1 B2 B3 0 (.int .i64 (slI ok h))).far B1 B2 B3 1 (.int .i64 (slI ok ep))).far B1 B2 B3 2 (.string (slS ok r))).far B1 B2 B3 3 (.string (slS ok p))).far B1 B2 B3 4 (.int .i64 S.at_)).far B1 B2 B3 5 (.slice a1 S.op.length c1)).far B1 B2 B3 6 (.slice a2 S.sh.length c2)).far B1 B2 B3 7 (.slice a3 S.si.length c3))
            have PQ := ((((((((P.far (c := qb) hnq 0 (.int .i64 (slI ok h))).far (c := qb) hnq 1 (.int .i64 (slI ok ep))).far (c := qb) hnq 2 (.string (slS ok r))).far (c := qb) hnq 3 (.string (slS ok p))).far (c := qb) hnq 4 (.int .i64 S.at_)).far (c := qb) hnq 5 (.slice a1 S.op.length c1)).far (c := qb) hnq 6 (.slice a2 S.sh.length c2)).far (c := qb) hnq 7 (.slice a3 S.si.length c3))
            clear ST SO Q P
            (refine wpAnyH_ready (rs := [10]) (by kernel_rfl) (by simp) ?_; refine AllReadyH.cons rfl (fun K hK => ?_) AllReadyH.nil; (try simp only [List.getElem_toArray, List.getElem_cons_zero, List.getElem_cons_succ]))
            go_simp
            clear z0 f0 z1 f1 z2 f2 z3 f3 z4 f4 z5 f5 z6 f6 z7 f7
            have P := PQ
            clear PQ
            generalize (((((((y4.setCell ⟨qb, 0, none⟩ (.int .i64 (slI ok h))).setCell ⟨qb, 1, none⟩ (.int .i64 (slI ok ep))).setCell ⟨qb, 2, none⟩ (.string (slS ok r))).setCell ⟨qb, 3, none⟩ (.string (slS ok p))).setCell ⟨qb, 4, none⟩ (.int .i64 S.at_)).setCell ⟨qb, 5, none⟩ (.slice a1 S.op.length c1)).setCell ⟨qb, 6, none⟩ (.slice a2 S.sh.length c2)).setCell ⟨qb, 7, none⟩ (.slice a3 S.si.length c3) = W6 at *
            (try dsimp only)
            refine hK.out _ _ (by exact ⟨P.2.1 0 _ rfl, P.2.1 1 _ rfl, P.2.1 2 _ rfl, P.2.1 3 _ rfl⟩) (fun hHeld => ?_)
            clear hK K
            (refine wpAnyH_take (i := 11) (v := ?_) rfl (by kernel_rfl) (by kernel_rfl) (by kernel_rfl) (fun _ _ _ h => h) (Or.inl ⟨by rfl, ?_⟩) (by assumption) ?_; rotate_left; focus (intro w hSw; (try dsimp only at hSw); (try simp only [List.getElem_toArray, List.getElem_cons_zero, List.getElem_cons_succ]); go_simp; try with_reducible rfl)); (try simp only [List.getElem_toArray, List.getElem_cons_zero, List.getElem_cons_succ]); (try simp only [Act.put, List.setIfInBounds_toArray, List.set_cons_zero, List.set_cons_succ])
            refine wpAnyH_done (by kernel_rfl) ?_ _
            go_wp2_with fail
            go_meet
            exact ⟨qb, a1, a2, a3, c1, c2, c3, rfl, rfl, lq, QQ, SQ, B1, B2, B3, XQ⟩
        · (try simp only [List.getElem_toArray, List.getElem_cons_zero, List.getElem_cons_succ])
          go_simp
          have ez : Ext y1 (y1.alloc (Obj.cells #[.int .i64 0, .int .i64 0, .string ⟨#[]⟩, .string ⟨#[]⟩, .int .i64 0, .slice none 0 0, .slice none 0 0, .slice none 0 0] 39)) := (Ext.refl _).alloc _
          have Q := Bx.new y1 #[.int .i64 0, .int .i64 0, .string ⟨#[]⟩, .string ⟨#[]⟩, .int .i64 0, .slice none 0 0, .slice none 0 0, .slice none 0 0] 39
          have lq : w7.heap.size ≤ y1.heap.size := XL.size
          (try clear p0 p1 p2 p3)
          replace P := P.ext ez
          replace ST := Lib.hid (ST.out.ext ez)
          replace X := X.trans ez
          replace XL := XL.trans ez
          replace O2 := Lib.hid (O2.out.ext ez)
          generalize y1.alloc (Obj.cells #[.int .i64 0, .int .i64 0, .string ⟨#[]⟩, .string ⟨#[]⟩, .int .i64 0, .slice none 0 0, .slice none 0 0, .slice none 0 0] 39) = y2 at *
          generalize hqb : y1.heap.size = qb at *
          clear hqb
          (try dsimp only)
          refine hK.out _ _ (by exact ⟨P.2.1 0 _ rfl, P.2.1 1 _ rfl, P.2.1 2 _ rfl, P.2.1 3 _ rfl⟩) (fun hHeld => ?_)
          clear hK K
          (refine wpAnyH_ready (rs := [4]) (by kernel_rfl) (by simp) ?_; refine AllReadyH.cons rfl (fun K hK => ?_) AllReadyH.nil)
          (try simp only [List.getElem_toArray, List.getElem_cons_zero, List.getElem_cons_succ])
          go_simp
          go_at_call 15
          refine (laws_toHead h ep r p _).mono ?_
          rintro e y3 ⟨rfl, x9⟩
          (try clear p0 p1 p2 p3)
          replace P := P.ext x9
          replace ST := Lib.hid (ST.out.ext x9)
          replace X := X.trans x9
          replace XL := XL.trans x9
          replace O2 := Lib.hid (O2.out.ext x9)
          replace Q := Q.ext x9
          (try dsimp only)
          refine hK.out _ _ (by exact ⟨P.2.1 0 _ rfl, P.2.1 1 _ rfl, P.2.1 2 _ rfl, P.2.1 3 _ rfl⟩) (fun hHeld => ?_)
          clear hK K
          (refine wpAnyH_ready (rs := [5]) (by kernel_rfl) (by simp) ?_; refine AllReadyH.cons rfl (fun K hK => ?_) AllReadyH.nil)
          (try simp only [List.getElem_toArray, List.getElem_cons_zero, List.getElem_cons_succ])
          go_simp
          go_at_call 23
          have hsol := own_solid O2.out
          refine (impl_SealHead seed _ pool h ep r p _ O2.out.strs HS.out hsol (HT.out.ext X)).mono ?_
          rw [HSV.out, HOK.out]
          skip
          rintro e y4 ⟨a1, c1, a2, c2, a3, c3, rfl, so, x9⟩
          have lqs : qb < y3.heap.size := Q.1
          have B1 := fun k (hk : Value.ownBlock (.slice a1 S.op.length c1) = some k) => Nat.ne_of_gt (Nat.lt_of_lt_of_le lqs (own_lt so.1 k hk).1)
          have B2 := fun k (hk : Value.ownBlock (.slice a2 S.sh.length c2) = some k) => Nat.ne_of_gt (Nat.lt_of_lt_of_le lqs (own_lt so.2.1 k hk).1)
          have B3 := fun k (hk : Value.ownBlock (.slice a3 S.si.length c3) = some k) => Nat.ne_of_gt (Nat.lt_of_lt_of_le lqs (own_lt so.2.2.1 k hk).1)
          have SO := so.mono (show w7.heap.size ≤ y3.heap.size from XL.size)
          clear so
          replace P := P.ext x9
          replace ST := Lib.hid (ST.out.ext x9)
          replace X := X.trans x9
          replace XL := XL.trans x9
          replace O2 := Lib.hid (O2.out.ext x9)
          replace Q := Q.ext x9
          (try dsimp only)
          refine hK.out _ _ (by exact ⟨P.2.1 0 _ rfl, P.2.1 1 _ rfl, P.2.1 2 _ rfl, P.2.1 3 _ rfl⟩) (fun hHeld => ?_)
          clear hK K
          (refine wpAnyH_take (i := 6) (v := ?_) rfl (by kernel_rfl) (by kernel_rfl) (by kernel_rfl) (fun _ _ _ h => h) (Or.inl ⟨by rfl, ?_⟩) (by assumption) ?_; rotate_left; focus (intro w hSw; (try dsimp only at hSw); (try simp only [List.getElem_toArray, List.getElem_cons_zero, List.getElem_cons_succ]); go_simp; try with_reducible rfl)); (try simp only [List.getElem_toArray, List.getElem_cons_zero, List.getElem_cons_succ]); (try simp only [Act.put, List.setIfInBounds_toArray, List.set_cons_zero, List.set_cons_succ])
          (refine wpAnyH_take (i := 7) (v := ?_) rfl (by kernel_rfl) (by kernel_rfl) (by kernel_rfl) (fun _ _ _ h => h) (Or.inl ⟨by rfl, ?_⟩) (by assumption) ?_; rotate_left; focus (intro w hSw; (try dsimp only at hSw); (try simp only [List.getElem_toArray, List.getElem_cons_zero, List.getElem_cons_succ]); go_simp; try with_reducible rfl)); (try simp only [List.getElem_toArray, List.getElem_cons_zero, List.getElem_cons_succ]); (try simp only [Act.put, List.setIfInBounds_toArray, List.set_cons_zero, List.set_cons_succ])
          (refine wpAnyH_take (i := 8) (v := ?_) rfl (by kernel_rfl) (by kernel_rfl) (by kernel_rfl) (fun _ _ _ h => h) (Or.inl ⟨by rfl, ?_⟩) (by assumption) ?_; rotate_left; focus (intro w hSw; (try dsimp only at hSw); (try simp only [List.getElem_toArray, List.getElem_cons_zero, List.getElem_cons_succ]); go_simp; try with_reducible rfl)); (try simp only [List.getElem_toArray, List.getElem_cons_zero, List.getElem_cons_succ]); (try simp only [Act.put, List.setIfInBounds_toArray, List.set_cons_zero, List.set_cons_succ])
          have z0 := Q.2.1 0 _ rfl
          have z1 := Q.2.1 1 _ rfl
          have z2 := Q.2.1 2 _ rfl
          have z3 := Q.2.1 3 _ rfl
          have z4 := Q.2.1 4 _ rfl
          have z5 := Q.2.1 5 _ rfl
          have z6 := Q.2.1 6 _ rfl
          have z7 := Q.2.1 7 _ rfl
          have f0 := Q.2.2 0
          have f1 := Q.2.2 1
          have f2 := Q.2.2 2
          have f3 := Q.2.2 3
          have f4 := Q.2.2 4
          have f5 := Q.2.2 5
          have f6 := Q.2.2 6
          have f7 := Q.2.2 7
          have hnq : qb ≠ w.heap.size := by have := PW.out; omega
          have XQ : Ext w7 ((((((((y4.setCell ⟨qb, 0, none⟩ (.int .i64 (slI ok h))).setCell ⟨qb, 1, none⟩ (.int .i64 (slI ok ep))).setCell ⟨qb, 2, none⟩ (.string (slS ok r))).setCell ⟨qb, 3, none⟩ (.string (slS ok p))).setCell ⟨qb, 4, none⟩ (.int .i64 S.at_)).setCell ⟨qb, 5, none⟩ (.slice a1 S.op.length c1)).setCell ⟨qb, 6, none⟩ (.slice a2 S.sh.length c2)).setCell ⟨qb, 7, none⟩ (.slice a3 S.si.length c3)) := ((((((((XL.setCell (by dsimp only; omega) _).setCell (by dsimp only; omega) _).setCell (by dsimp only; omega) _).setCell (by dsimp only; omega) _).setCell (by dsimp only; omega) _).setCell (by dsimp only; omega) _).setCell (by dsimp only; omega) _).setCell (by dsimp only; omega) _)
          have QQ := ((((((((Q.set 0 (.int .i64 (slI ok h)) (by simp)).set 1 (.int .i64 (slI ok ep)) (by simp)).set 2 (.string (slS ok r)) (by simp)).set 3 (.string (slS ok p)) (by simp)).set 4 (.int .i64 S.at_) (by simp)).set 5 (.slice a1 S.op.length c1) (by simp)).set 6 (.slice a2 S.sh.length c2) (by simp)).set 7 (.slice a3 S.si.length c3) (by simp))
          have SQ := ((((((((SO.far B1 B2 B3 0 (.int .i64 (slI ok h))).far B1 B2 B3 1 (.int .i64 (slI ok ep))).far B1 B2 B3 2 (.string (slS ok r))).far B1 B2 B3 3 (.string (slS ok p))).far B1 B2 B3 4 (.int .i64 S.at_)).far B1 B2 B3 5 (.slice a1 S.op.length c1)).far B1 B2 B3 6 (.slice a2 S.sh.length c2)).far B1 B2 B3 7 (.slice a3 S.si.length c3))
          have PQ := ((((((((P.far (c := qb) hnq 0 (.int .i64 (slI ok h))).far (c := qb) hnq 1 (.int .i64 (slI ok ep))).far (c := qb) hnq 2 (.string (slS ok r))).far (c := qb) hnq 3 (.string (slS ok p))).far (c := qb) hnq 4 (.int .i64 S.at_)).far (c := qb) hnq 5 (.slice a1 S.op.length c1)).far (c := qb) hnq 6 (.slice a2 S.sh.length c2)).far (c := qb) hnq 7 (.slice a3 S.si.length c3))
          clear ST SO Q P
          (refine wpAnyH_ready (rs := [10]) (by kernel_rfl) (by simp) ?_; refine AllReadyH.cons rfl (fun K hK => ?_) AllReadyH.nil; (try simp only [List.getElem_toArray, List.getElem_cons_zero, List.getElem_cons_succ]))
          go_simp
          clear z0 f0 z1 f1 z2 f2 z3 f3 z4 f4 z5 f5 z6 f6 z7 f7
          have P := PQ
          clear PQ
          generalize (((((((y4.setCell ⟨qb, 0, none⟩ (.int .i64 (slI ok h))).setCell ⟨qb, 1, none⟩ (.int .i64 (slI ok ep))).setCell ⟨qb, 2, none⟩ (.string (slS ok r))).setCell ⟨qb, 3, none⟩ (.string (slS ok p))).setCell ⟨qb, 4, none⟩ (.int .i64 S.at_)).setCell ⟨qb, 5, none⟩ (.slice a1 S.op.length c1)).setCell ⟨qb, 6, none⟩ (.slice a2 S.sh.length c2)).setCell ⟨qb, 7, none⟩ (.slice a3 S.si.length c3) = W6 at *
          (try dsimp only)
          refine hK.out _ _ (by exact ⟨P.2.1 0 _ rfl, P.2.1 1 _ rfl, P.2.1 2 _ rfl, P.2.1 3 _ rfl⟩) (fun hHeld => ?_)
          clear hK K
          (refine wpAnyH_take (i := 11) (v := ?_) rfl (by kernel_rfl) (by kernel_rfl) (by kernel_rfl) (fun _ _ _ h => h) (Or.inl ⟨by rfl, ?_⟩) (by assumption) ?_; rotate_left; focus (intro w hSw; (try dsimp only at hSw); (try simp only [List.getElem_toArray, List.getElem_cons_zero, List.getElem_cons_succ]); go_simp; try with_reducible rfl)); (try simp only [List.getElem_toArray, List.getElem_cons_zero, List.getElem_cons_succ]); (try simp only [Act.put, List.setIfInBounds_toArray, List.set_cons_zero, List.set_cons_succ])
          refine wpAnyH_done (by kernel_rfl) ?_ _
          go_wp2_with fail
          go_meet
          exact ⟨qb, a1, a2, a3, c1, c2, c3, rfl, rfl, lq, QQ, SQ, B1, B2, B3, XQ⟩
      · (try simp only [List.getElem_toArray, List.getElem_cons_zero, List.getElem_cons_succ])
        go_simp
        have ez : Ext y0 (y0.alloc (Obj.cells #[.int .i64 0, .int .i64 0, .string ⟨#[]⟩, .string ⟨#[]⟩, .int .i64 0, .slice none 0 0, .slice none 0 0, .slice none 0 0] 39)) := (Ext.refl _).alloc _
        have Q := Bx.new y0 #[.int .i64 0, .int .i64 0, .string ⟨#[]⟩, .string ⟨#[]⟩, .int .i64 0, .slice none 0 0, .slice none 0 0, .slice none 0 0] 39
        have lq : w7.heap.size ≤ y0.heap.size := XL.size
        (try clear p0 p1 p2 p3)
        replace P := P.ext ez
        replace ST := Lib.hid (ST.out.ext ez)
        replace X := X.trans ez
        replace XL := XL.trans ez
        generalize y0.alloc (Obj.cells #[.int .i64 0, .int .i64 0, .string ⟨#[]⟩, .string ⟨#[]⟩, .int .i64 0, .slice none 0 0, .slice none 0 0, .slice none 0 0] 39) = y1 at *
        generalize hqb : y0.heap.size = qb at *
        clear hqb
        (try dsimp only)
        refine hK.out _ _ (by exact ⟨P.2.1 0 _ rfl, P.2.1 1 _ rfl, P.2.1 2 _ rfl, P.2.1 3 _ rfl⟩) (fun hHeld => ?_)
        clear hK K
        (refine wpAnyH_ready (rs := [2]) (by kernel_rfl) (by simp) ?_; refine AllReadyH.cons rfl (fun K hK => ?_) AllReadyH.nil)
        (try simp only [List.getElem_toArray, List.getElem_cons_zero, List.getElem_cons_succ])
        go_simp
        go_at_call 14
        refine (laws_toStringS _ pool _ ST.out hlen2).mono ?_
        rintro e y2 ⟨a9, c9, rfl, o9, x9⟩
        (try clear p0 p1 p2 p3)
        have O2 := Lib.hid (o9.mono (Nat.zero_le _))
        clear o9
        replace P := P.ext x9
        replace ST := Lib.hid (ST.out.ext x9)
        replace X := X.trans x9
        replace XL := XL.trans x9
        replace Q := Q.ext x9
        (try dsimp only)
        refine hK.out _ _ (by exact ⟨P.2.1 0 _ rfl, P.2.1 1 _ rfl, P.2.1 2 _ rfl, P.2.1 3 _ rfl⟩) (fun hHeld => ?_)
        clear hK K
        (refine wpAnyH_ready (rs := [4]) (by kernel_rfl) (by simp) ?_; refine AllReadyH.cons rfl (fun K hK => ?_) AllReadyH.nil)
        (try simp only [List.getElem_toArray, List.getElem_cons_zero, List.getElem_cons_succ])
        go_simp
        go_at_call 15
        refine (laws_toHead h ep r p _).mono ?_
        rintro e y3 ⟨rfl, x9⟩
        (try clear p0 p1 p2 p3)
        replace P := P.ext x9
        replace ST := Lib.hid (ST.out.ext x9)
        replace X := X.trans x9
        replace XL := XL.trans x9
        replace Q := Q.ext x9
        replace O2 := Lib.hid (O2.out.ext x9)
        (try dsimp only)
        refine hK.out _ _ (by exact ⟨P.2.1 0 _ rfl, P.2.1 1 _ rfl, P.2.1 2 _ rfl, P.2.1 3 _ rfl⟩) (fun hHeld => ?_)
        clear hK K
        (refine wpAnyH_ready (rs := [5]) (by kernel_rfl) (by simp) ?_; refine AllReadyH.cons rfl (fun K hK => ?_) AllReadyH.nil)
        (try simp only [List.getElem_toArray, List.getElem_cons_zero, List.getElem_cons_succ])
        go_simp
        go_at_call 23
        have hsol := own_solid O2.out
        refine (impl_SealHead seed _ pool h ep r p _ O2.out.strs HS.out hsol (HT.out.ext X)).mono ?_
        rw [HSV.out, HOK.out]
        skip
        rintro e y4 ⟨a1, c1, a2, c2, a3, c3, rfl, so, x9⟩
        have lqs : qb < y3.heap.size := Q.1
        have B1 := fun k (hk : Value.ownBlock (.slice a1 S.op.length c1) = some k) => Nat.ne_of_gt (Nat.lt_of_lt_of_le lqs (own_lt so.1 k hk).1)
        have B2 := fun k (hk : Value.ownBlock (.slice a2 S.sh.length c2) = some k) => Nat.ne_of_gt (Nat.lt_of_lt_of_le lqs (own_lt so.2.1 k hk).1)
        have B3 := fun k (hk : Value.ownBlock (.slice a3 S.si.length c3) = some k) => Nat.ne_of_gt (Nat.lt_of_lt_of_le lqs (own_lt so.2.2.1 k hk).1)
        have SO := so.mono (show w7.heap.size ≤ y3.heap.size from XL.size)
        clear so
        replace P := P.ext x9
        replace ST := Lib.hid (ST.out.ext x9)
        replace X := X.trans x9
        replace XL := XL.trans x9
        replace Q := Q.ext x9
        replace O2 := Lib.hid (O2.out.ext x9)
        (try dsimp only)
        refine hK.out _ _ (by exact ⟨P.2.1 0 _ rfl, P.2.1 1 _ rfl, P.2.1 2 _ rfl, P.2.1 3 _ rfl⟩) (fun hHeld => ?_)
        clear hK K
        (refine wpAnyH_take (i := 6) (v := ?_) rfl (by kernel_rfl) (by kernel_rfl) (by kernel_rfl) (fun _ _ _ h => h) (Or.inl ⟨by rfl, ?_⟩) (by assumption) ?_; rotate_left; focus (intro w hSw; (try dsimp only at hSw); (try simp only [List.getElem_toArray, List.getElem_cons_zero, List.getElem_cons_succ]); go_simp; try with_reducible rfl)); (try simp only [List.getElem_toArray, List.getElem_cons_zero, List.getElem_cons_succ]); (try simp only [Act.put, List.setIfInBounds_toArray, List.set_cons_zero, List.set_cons_succ])
        (refine wpAnyH_take (i := 7) (v := ?_) rfl (by kernel_rfl) (by kernel_rfl) (by kernel_rfl) (fun _ _ _ h => h) (Or.inl ⟨by rfl, ?_⟩) (by assumption) ?_; rotate_left; focus (intro w hSw; (try dsimp only at hSw); (try simp only [List.getElem_toArray, List.getElem_cons_zero, List.getElem_cons_succ]); go_simp; try with_reducible rfl)); (try simp only [List.getElem_toArray, List.getElem_cons_zero, List.getElem_cons_succ]); (try simp only [Act.put, List.setIfInBounds_toArray, List.set_cons_zero, List.set_cons_succ])
        (refine wpAnyH_take (i := 8) (v := ?_) rfl (by kernel_rfl) (by kernel_rfl) (by kernel_rfl) (fun _ _ _ h => h) (Or.inl ⟨by rfl, ?_⟩) (by assumption) ?_; rotate_left; focus (intro w hSw; (try dsimp only at hSw); (try simp only [List.getElem_toArray, List.getElem_cons_zero, List.getElem_cons_succ]); go_simp; try with_reducible rfl)); (try simp only [List.getElem_toArray, List.getElem_cons_zero, List.getElem_cons_succ]); (try simp only [Act.put, List.setIfInBounds_toArray, List.set_cons_zero, List.set_cons_succ])
        have z0 := Q.2.1 0 _ rfl
        have z1 := Q.2.1 1 _ rfl
        have z2 := Q.2.1 2 _ rfl
        have z3 := Q.2.1 3 _ rfl
        have z4 := Q.2.1 4 _ rfl
        have z5 := Q.2.1 5 _ rfl
        have z6 := Q.2.1 6 _ rfl
        have z7 := Q.2.1 7 _ rfl
        have f0 := Q.2.2 0
        have f1 := Q.2.2 1
        have f2 := Q.2.2 2
        have f3 := Q.2.2 3
        have f4 := Q.2.2 4
        have f5 := Q.2.2 5
        have f6 := Q.2.2 6
        have f7 := Q.2.2 7
        have hnq : qb ≠ w.heap.size := by have := PW.out; omega
        have XQ : Ext w7 ((((((((y4.setCell ⟨qb, 0, none⟩ (.int .i64 (slI ok h))).setCell ⟨qb, 1, none⟩ (.int .i64 (slI ok ep))).setCell ⟨qb, 2, none⟩ (.string (slS ok r))).setCell ⟨qb, 3, none⟩ (.string (slS ok p))).setCell ⟨qb, 4, none⟩ (.int .i64 S.at_)).setCell ⟨qb, 5, none⟩ (.slice a1 S.op.length c1)).setCell ⟨qb, 6, none⟩ (.slice a2 S.sh.length c2)).setCell ⟨qb, 7, none⟩ (.slice a3 S.si.length c3)) := ((((((((XL.setCell (by dsimp only; omega) _).setCell (by dsimp only; omega) _).setCell (by dsimp only; omega) _).setCell (by dsimp only; omega) _).setCell (by dsimp only; omega) _).setCell (by dsimp only; omega) _).setCell (by dsimp only; omega) _).setCell (by dsimp only; omega) _)
        have QQ := ((((((((Q.set 0 (.int .i64 (slI ok h)) (by simp)).set 1 (.int .i64 (slI ok ep)) (by simp)).set 2 (.string (slS ok r)) (by simp)).set 3 (.string (slS ok p)) (by simp)).set 4 (.int .i64 S.at_) (by simp)).set 5 (.slice a1 S.op.length c1) (by simp)).set 6 (.slice a2 S.sh.length c2) (by simp)).set 7 (.slice a3 S.si.length c3) (by simp))
        have SQ := ((((((((SO.far B1 B2 B3 0 (.int .i64 (slI ok h))).far B1 B2 B3 1 (.int .i64 (slI ok ep))).far B1 B2 B3 2 (.string (slS ok r))).far B1 B2 B3 3 (.string (slS ok p))).far B1 B2 B3 4 (.int .i64 S.at_)).far B1 B2 B3 5 (.slice a1 S.op.length c1)).far B1 B2 B3 6 (.slice a2 S.sh.length c2)).far B1 B2 B3 7 (.slice a3 S.si.length c3))
        have PQ := ((((((((P.far (c := qb) hnq 0 (.int .i64 (slI ok h))).far (c := qb) hnq 1 (.int .i64 (slI ok ep))).far (c := qb) hnq 2 (.string (slS ok r))).far (c := qb) hnq 3 (.string (slS ok p))).far (c := qb) hnq 4 (.int .i64 S.at_)).far (c := qb) hnq 5 (.slice a1 S.op.length c1)).far (c := qb) hnq 6 (.slice a2 S.sh.length c2)).far (c := qb) hnq 7 (.slice a3 S.si.length c3))
        clear ST SO Q P
        (refine wpAnyH_ready (rs := [10]) (by kernel_rfl) (by simp) ?_; refine AllReadyH.cons rfl (fun K hK => ?_) AllReadyH.nil; (try simp only [List.getElem_toArray, List.getElem_cons_zero, List.getElem_cons_succ]))
        go_simp
        clear z0 f0 z1 f1 z2 f2 z3 f3 z4 f4 z5 f5 z6 f6 z7 f7
        have P := PQ
        clear PQ
        generalize (((((((y4.setCell ⟨qb, 0, none⟩ (.int .i64 (slI ok h))).setCell ⟨qb, 1, none⟩ (.int .i64 (slI ok ep))).setCell ⟨qb, 2, none⟩ (.string (slS ok r))).setCell ⟨qb, 3, none⟩ (.string (slS ok p))).setCell ⟨qb, 4, none⟩ (.int .i64 S.at_)).setCell ⟨qb, 5, none⟩ (.slice a1 S.op.length c1)).setCell ⟨qb, 6, none⟩ (.slice a2 S.sh.length c2)).setCell ⟨qb, 7, none⟩ (.slice a3 S.si.length c3) = W6 at *
        (try dsimp only)
        refine hK.out _ _ (by exact ⟨P.2.1 0 _ rfl, P.2.1 1 _ rfl, P.2.1 2 _ rfl, P.2.1 3 _ rfl⟩) (fun hHeld => ?_)
        clear hK K
        (refine wpAnyH_take (i := 11) (v := ?_) rfl (by kernel_rfl) (by kernel_rfl) (by kernel_rfl) (fun _ _ _ h => h) (Or.inl ⟨by rfl, ?_⟩) (by assumption) ?_; rotate_left; focus (intro w hSw; (try dsimp only at hSw); (try simp only [List.getElem_toArray, List.getElem_cons_zero, List.getElem_cons_succ]); go_simp; try with_reducible rfl)); (try simp only [List.getElem_toArray, List.getElem_cons_zero, List.getElem_cons_succ]); (try simp only [Act.put, List.setIfInBounds_toArray, List.set_cons_zero, List.set_cons_succ])
        refine wpAnyH_done (by kernel_rfl) ?_ _
        go_wp2_with fail
        go_meet
        exact ⟨qb, a1, a2, a3, c1, c2, c3, rfl, rfl, lq, QQ, SQ, B1, B2, B3, XQ⟩
    case rest =>
      obtain ⟨tb, g1, g2, g3, f1, f2, f3, rfl, rfl, lt, T, UO, i1, i2, i3, x8⟩ := hcut
      generalize wc = V3 at *
      clear PW
      replace P := P.ext x8
      replace ST := Lib.hid (ST.out.ext x8)
      replace X := X.trans x8
      replace Q := Q.ext x8
      replace SO := SO.ext x8
      replace R := R.ext x8
      replace J1 := J1.ext x8
      replace J2 := J2.ext x8
      replace J3 := J3.ext x8
      have m0 := T.2.1 0 _ rfl
      have m1 := T.2.1 1 _ rfl
      have m2 := T.2.1 2 _ rfl
      have m3 := T.2.1 3 _ rfl
      have m4 := T.2.1 4 _ rfl
      have m5 := T.2.1 5 _ rfl
      have m6 := T.2.1 6 _ rfl
      have m7 := T.2.1 7 _ rfl
      have q0 := Q.2.1 0 _ rfl
      have q1 := Q.2.1 1 _ rfl
      have q2 := Q.2.1 2 _ rfl
      have q3 := Q.2.1 3 _ rfl
      have q4 := Q.2.1 4 _ rfl
      have q5 := Q.2.1 5 _ rfl
      have q6 := Q.2.1 6 _ rfl
      have q7 := Q.2.1 7 _ rfl
      go_wp2_with fail
      refine (laws_eqSealT _ _ _ _ _ _ _ _ _ _ S _ UO.1.strs UO.2.1.strs UO.2.2.1.strs SO.1.strs SO.2.1.strs SO.2.2.1.strs).mono ?_
      rintro e y6 ⟨rfl, xe⟩
      clear m0 q0 m1 q1 m2 q2 m3 q3 m4 q4 m5 q5 m6 q6 m7 q7
      replace P := P.ext xe
      replace ST := Lib.hid (ST.out.ext xe)
      replace X := X.trans xe
      replace Q := Q.ext xe
      replace SO := SO.ext xe
      replace R := R.ext xe
      replace J1 := J1.ext xe
      replace J2 := J2.ext xe
      replace J3 := J3.ext xe
      replace T := T.ext xe
      replace UO := UO.ext xe
      have m0 := R.2.1 0 _ rfl
      have m1 := R.2.1 1 _ rfl
      have m2 := R.2.1 2 _ rfl
      have m3 := R.2.1 3 _ rfl
      have m4 := R.2.1 4 _ rfl
      have m5 := R.2.1 5 _ rfl
      have m6 := R.2.1 6 _ rfl
      have m7 := R.2.1 7 _ rfl
      go_wp2_with fail
      refine (laws_heldSeal _ _ _ _ _ _ _ _ S.op.length S.sh.length S.si.length 1 _ J1 J2 J3 (by omega)).mono ?_
      rintro e w8 ⟨rfl, xh⟩
      clear m0 m1 m2 m3 m4 m5 m6 m7
      replace P := P.ext xh
      replace ST := Lib.hid (ST.out.ext xh)
      replace X := X.trans xh
      replace Q := Q.ext xh
      replace SO := SO.ext xh
      replace R := R.ext xh
      replace J1 := J1.ext xh
      replace J2 := J2.ext xh
      replace J3 := J3.ext xh
      replace T := T.ext xh
      replace UO := UO.ext xh
      go_wp2
      go_ret
      exact ⟨rfl, X⟩
end Go.Proofs.YtliebkhfddmhjaaDoor
