/- StL, SigC, SigV. -/
import Derived.Test.YtkphipgfcbckcaaGreatDoorK10
import Derived.Maps.AppendAt
namespace Go.Proofs.YtkphipgfcbckcaaGreatDoor
open Go.RowKit
set_option maxRecDepth 100000 in
set_option maxHeartbeats 6400000 in
theorem impl_SealHead (seed : ByteArray) (v : Value) (pool : List ByteArray) (h ep : Int) (r p : ByteArray) (w : World) (hst : Strs w v pool) (hs : ∀ s ∈ pool, s.size ≤ maxLen) (hsol : Solid v) (hT : Tabs w) :
    Calls Tryz.prog 6 #[.string seed, v, .agg #[.int .i64 h, .int .i64 ep, .string r, .string p]] w fun e w' => ∃ a1 c1 a2 c2 a3 c3, e = .returned (.tuple #[.agg #[.int .i64 (slI (slK seed pool h ep r p) h), .int .i64 (slI (slK seed pool h ep r p) ep), .string (slS (slK seed pool h ep r p) r), .string (slS (slK seed pool h ep r p) p), .int .i64 (slV seed pool h ep r p).at_, .slice a1 (slV seed pool h ep r p).op.length c1, .slice a2 (slV seed pool h ep r p).sh.length c2, .slice a3 (slV seed pool h ep r p).si.length c3], .bool (slK seed pool h ep r p)]) ∧ SigOwn w' w.heap.size (.slice a1 (slV seed pool h ep r p).op.length c1) (.slice a2 (slV seed pool h ep r p).sh.length c2) (.slice a3 (slV seed pool h ep r p).si.length c3) (slV seed pool h ep r p) ∧ Ext w w' := by
  have HT := Lib.hid hT
  clear hT
  obtain ⟨pa, pc, rfl⟩ := hst.form
  have HST := Lib.hid hst
  clear hst
  cases hh : headOk h ep r p
  · have HV := Lib.hid (show slV seed pool h ep r p = ⟨0, [], [], []⟩ by rw [slV, if_neg (by rw [hh]; decide)])
    have HK := Lib.hid (show slK seed pool h ep r p = false by rw [slK, hh]; rfl)
    have HH := Lib.hid hh
    clear hh
    go_enter Tryz.func6, Tryz.ntmps6
    go_wp2_with fail
    have P : Bx ((w.alloc (Obj.cells #[.int .i64 h, .int .i64 ep, .string r, .string p] 26)).alloc (Obj.cells #[.int .i64 0, .int .i64 0, .string ⟨#[]⟩, .string ⟨#[]⟩, .int .i64 0, .slice none 0 0, .slice none 0 0, .slice none 0 0] 32)) w.heap.size [.int .i64 h, .int .i64 ep, .string r, .string p] := (Bx.new w _ _).ext ((Ext.refl _).alloc _)
    have R := Bx.new (w.alloc (Obj.cells #[.int .i64 h, .int .i64 ep, .string r, .string p] 26)) #[.int .i64 0, .int .i64 0, .string ⟨#[]⟩, .string ⟨#[]⟩, .int .i64 0, .slice none 0 0, .slice none 0 0, .slice none 0 0] 32
    rw [World.size_alloc] at R
    have X : Ext w ((w.alloc (Obj.cells #[.int .i64 h, .int .i64 ep, .string r, .string p] 26)).alloc (Obj.cells #[.int .i64 0, .int .i64 0, .string ⟨#[]⟩, .string ⟨#[]⟩, .int .i64 0, .slice none 0 0, .slice none 0 0, .slice none 0 0] 32)) := ((Ext.refl w).alloc _).alloc _
    replace HST := Lib.hid (HST.out.ext X)
    generalize (w.alloc (Obj.cells #[.int .i64 h, .int .i64 ep, .string r, .string p] 26)).alloc (Obj.cells #[.int .i64 0, .int .i64 0, .string ⟨#[]⟩, .string ⟨#[]⟩, .int .i64 0, .slice none 0 0, .slice none 0 0, .slice none 0 0] 32) = W0 at *
    refine (impl_HeadOk _ _ _ _ _).mono ?_
    rw [HH.out]
    rintro e w1 ⟨rfl, x1⟩
    replace P := P.ext x1
    replace R := R.ext x1
    replace HST := Lib.hid (HST.out.ext x1)
    replace X := X.trans x1
    have z0 := R.2.1 0 _ rfl
    have z1 := R.2.1 1 _ rfl
    have z2 := R.2.1 2 _ rfl
    have z3 := R.2.1 3 _ rfl
    have z4 := R.2.1 4 _ rfl
    have z5 := R.2.1 5 _ rfl
    have z6 := R.2.1 6 _ rfl
    have z7 := R.2.1 7 _ rfl
    have f0 := R.2.2 0
    have f1 := R.2.2 1
    have f2 := R.2.2 2
    have f3 := R.2.2 3
    have f4 := R.2.2 4
    have f5 := R.2.2 5
    have f6 := R.2.2 6
    have f7 := R.2.2 7
    have XF : Ext w ((((((((w1.setCell ⟨w.heap.size + 1, 0, none⟩ (.int .i64 0)).setCell ⟨w.heap.size + 1, 1, none⟩ (.int .i64 0)).setCell ⟨w.heap.size + 1, 2, none⟩ (.string ⟨#[]⟩)).setCell ⟨w.heap.size + 1, 3, none⟩ (.string ⟨#[]⟩)).setCell ⟨w.heap.size + 1, 4, none⟩ (.int .i64 0)).setCell ⟨w.heap.size + 1, 5, none⟩ (.slice none 0 0)).setCell ⟨w.heap.size + 1, 6, none⟩ (.slice none 0 0)).setCell ⟨w.heap.size + 1, 7, none⟩ (.slice none 0 0)) := ((((((((X.setCell (by dsimp only; omega) _).setCell (by dsimp only; omega) _).setCell (by dsimp only; omega) _).setCell (by dsimp only; omega) _).setCell (by dsimp only; omega) _).setCell (by dsimp only; omega) _).setCell (by dsimp only; omega) _).setCell (by dsimp only; omega) _)
    have RF := ((((((((R.set 0 (.int .i64 0) (by simp)).set 1 (.int .i64 0) (by simp)).set 2 (.string ⟨#[]⟩) (by simp)).set 3 (.string ⟨#[]⟩) (by simp)).set 4 (.int .i64 0) (by simp)).set 5 (.slice none 0 0) (by simp)).set 6 (.slice none 0 0) (by simp)).set 7 (.slice none 0 0) (by simp))
    go_wp2
    generalize (((((((w1.setCell ⟨w.heap.size + 1, 0, none⟩ (.int .i64 0)).setCell ⟨w.heap.size + 1, 1, none⟩ (.int .i64 0)).setCell ⟨w.heap.size + 1, 2, none⟩ (.string ⟨#[]⟩)).setCell ⟨w.heap.size + 1, 3, none⟩ (.string ⟨#[]⟩)).setCell ⟨w.heap.size + 1, 4, none⟩ (.int .i64 0)).setCell ⟨w.heap.size + 1, 5, none⟩ (.slice none 0 0)).setCell ⟨w.heap.size + 1, 6, none⟩ (.slice none 0 0)).setCell ⟨w.heap.size + 1, 7, none⟩ (.slice none 0 0) = WF at *
    have k0 := RF.2.1 0 _ rfl
    have k1 := RF.2.1 1 _ rfl
    have k2 := RF.2.1 2 _ rfl
    have k3 := RF.2.1 3 _ rfl
    have k4 := RF.2.1 4 _ rfl
    have k5 := RF.2.1 5 _ rfl
    have k6 := RF.2.1 6 _ rfl
    have k7 := RF.2.1 7 _ rfl
    refine bodyPost_ret (v := .tuple #[.agg #[.int .i64 0, .int .i64 0, .string ⟨#[]⟩, .string ⟨#[]⟩, .int .i64 0, .slice none 0 0, .slice none 0 0, .slice none 0 0], .bool false]) (by simp [results, Tryz.results6, go_sem, k0, k1, k2, k3, k4, k5, k6, k7]) rfl ?_
    rw [HV.out, HK.out]
    exact ⟨_, _, _, _, _, _, rfl, sigOwn_nil _ _, XF⟩
  · have HV := Lib.hid (show slV seed pool h ep r p = sgnV seed pool (sealAt ep) (headH h ep r p) by rw [slV, if_pos hh])
    have HK := Lib.hid (show slK seed pool h ep r p = sgnOk seed pool (sealAt ep) (headH h ep r p) by rw [slK, hh]; rfl)
    have HH := Lib.hid hh
    clear hh
    rw [HV.out, HK.out]
    clear HV HK
    go_enter Tryz.func6, Tryz.ntmps6
    go_wp2_with fail
    have P : Bx ((w.alloc (Obj.cells #[.int .i64 h, .int .i64 ep, .string r, .string p] 26)).alloc (Obj.cells #[.int .i64 0, .int .i64 0, .string ⟨#[]⟩, .string ⟨#[]⟩, .int .i64 0, .slice none 0 0, .slice none 0 0, .slice none 0 0] 32)) w.heap.size [.int .i64 h, .int .i64 ep, .string r, .string p] := (Bx.new w _ _).ext ((Ext.refl _).alloc _)
    have R := Bx.new (w.alloc (Obj.cells #[.int .i64 h, .int .i64 ep, .string r, .string p] 26)) #[.int .i64 0, .int .i64 0, .string ⟨#[]⟩, .string ⟨#[]⟩, .int .i64 0, .slice none 0 0, .slice none 0 0, .slice none 0 0] 32
    rw [World.size_alloc] at R
    have X : Ext w ((w.alloc (Obj.cells #[.int .i64 h, .int .i64 ep, .string r, .string p] 26)).alloc (Obj.cells #[.int .i64 0, .int .i64 0, .string ⟨#[]⟩, .string ⟨#[]⟩, .int .i64 0, .slice none 0 0, .slice none 0 0, .slice none 0 0] 32)) := ((Ext.refl w).alloc _).alloc _
    replace HST := Lib.hid (HST.out.ext X)
    generalize (w.alloc (Obj.cells #[.int .i64 h, .int .i64 ep, .string r, .string p] 26)).alloc (Obj.cells #[.int .i64 0, .int .i64 0, .string ⟨#[]⟩, .string ⟨#[]⟩, .int .i64 0, .slice none 0 0, .slice none 0 0, .slice none 0 0] 32) = W0 at *
    refine (impl_HeadOk _ _ _ _ _).mono ?_
    rw [HH.out]
    rintro e w1 ⟨rfl, x1⟩
    replace P := P.ext x1
    replace R := R.ext x1
    replace HST := Lib.hid (HST.out.ext x1)
    replace X := X.trans x1
    have p0 := P.2.1 0 _ rfl
    have p1 := P.2.1 1 _ rfl
    have p2 := P.2.1 2 _ rfl
    have p3 := P.2.1 3 _ rfl
    go_wp2_with fail
    clear p0 p1 p2 p3
    refine wp_region_held_drew (S := (fun W => W.cell? ⟨w.heap.size, 0, none⟩ = some (.int .i64 h) ∧ W.cell? ⟨w.heap.size, 1, none⟩ = some (.int .i64 ep) ∧ W.cell? ⟨w.heap.size, 2, none⟩ = some (.string r) ∧ W.cell? ⟨w.heap.size, 3, none⟩ = some (.string p))) (by kernel_rfl) (by exact ⟨P.2.1 0 _ rfl, P.2.1 1 _ rfl, P.2.1 2 _ rfl, P.2.1 3 _ rfl⟩) (fun hHeld => ?_)
    have xd : Ext w1 w1.drew := (Ext.refl w1).drew
    replace P := P.ext xd
    replace R := R.ext xd
    replace HST := Lib.hid (HST.out.ext xd)
    replace X := X.trans xd
    generalize w1.drew = w2 at *
    have p0 := P.2.1 0 _ rfl
    have p1 := P.2.1 1 _ rfl
    have p2 := P.2.1 2 _ rfl
    have p3 := P.2.1 3 _ rfl
    (refine wpAnyH_take (i := 0) (v := ?_) rfl (by kernel_rfl) (by kernel_rfl) (by kernel_rfl) (fun _ _ _ h => h) (Or.inl ⟨by rfl, ?_⟩) (by assumption) ?_; rotate_left; focus (intro w hSw; (try dsimp only at hSw); (try simp only [zk1, zk2]); go_simp; try with_reducible rfl)); (try simp only [zk1, zk2]); (try simp only [Act.put, zk4, zk5, zk6])
    (refine wpAnyH_take (i := 1) (v := ?_) rfl (by kernel_rfl) (by kernel_rfl) (by kernel_rfl) (fun _ _ _ h => h) (Or.inl ⟨by rfl, ?_⟩) (by assumption) ?_; rotate_left; focus (intro w hSw; (try dsimp only at hSw); (try simp only [zk1, zk2, zk3]); go_simp; try with_reducible rfl)); (try simp only [zk1, zk2, zk3]); (try simp only [Act.put, zk4, zk5, zk6])
    (refine wpAnyH_take (i := 2) (v := ?_) rfl (by kernel_rfl) (by kernel_rfl) (by kernel_rfl) (fun _ _ _ h => h) (Or.inl ⟨by rfl, ?_⟩) (by assumption) ?_; rotate_left; focus (intro w hSw; (try dsimp only at hSw); (try simp only [zk1, zk2, zk3]); go_simp; try with_reducible rfl)); (try simp only [zk1, zk2, zk3]); (try simp only [Act.put, zk4, zk5, zk6])
    (refine wpAnyH_take (i := 3) (v := ?_) rfl (by kernel_rfl) (by kernel_rfl) (by kernel_rfl) (fun _ _ _ h => h) (Or.inl ⟨by rfl, ?_⟩) (by assumption) ?_; rotate_left; focus (intro w hSw; (try dsimp only at hSw); (try simp only [zk1, zk2, zk3]); go_simp; try with_reducible rfl)); (try simp only [zk1, zk2, zk3]); (try simp only [Act.put, zk4, zk5, zk6])
    (refine wpAnyH_take (i := 5) (v := ?_) rfl (by kernel_rfl) (by kernel_rfl) (by kernel_rfl) (fun _ _ _ h => h) (Or.inl ⟨by rfl, ?_⟩) (by assumption) ?_; rotate_left; focus (intro w hSw; (try dsimp only at hSw); (try simp only [zk1, zk2, zk3]); go_simp; try with_reducible rfl)); (try simp only [zk1, zk2, zk3]); (try simp only [Act.put, zk4, zk5, zk6])
    refine wpAnyH_ready (rs := [4, 11]) (by kernel_rfl) (by simp) ?_
    refine AllReadyH.cons rfl (fun K hK => ?_) (AllReadyH.cons rfl (fun K hK => ?_) AllReadyH.nil)
    · (try simp only [zk1, zk2, zk3])
      go_simp
      go_at_call 18
      refine (impl_SealAt ep _).mono ?_
      generalize hsa : sealAt ep = sa at *
      have HSA := Lib.hid hsa
      clear hsa
      rintro e w' ⟨rfl, rfl⟩
      (try dsimp only)
      refine hK.out _ _ (by exact ⟨P.2.1 0 _ rfl, P.2.1 1 _ rfl, P.2.1 2 _ rfl, P.2.1 3 _ rfl⟩) (fun hHeld => ?_)
      clear hK K
      refine wpAnyH_ready (rs := [6, 11]) (by kernel_rfl) (by simp) ?_
      refine AllReadyH.cons rfl (fun K hK => ?_) (AllReadyH.cons rfl (fun K hK => ?_) AllReadyH.nil)
      · (try simp only [zk1, zk2, zk3])
        go_simp
        go_at_call 27
        refine (impl_HeadHash h ep r p _ (HT.out.ext X)).mono ?_
        generalize htx : headH h ep r p = tx at *
        have HTX := Lib.hid htx
        clear htx
        rintro e u4 ⟨rfl, xh⟩
        (try clear p0 p1 p2 p3)
        replace P := P.ext xh
        replace R := R.ext xh
        replace HST := Lib.hid (HST.out.ext xh)
        replace X := X.trans xh
        (try dsimp only)
        refine hK.out _ _ (by exact ⟨P.2.1 0 _ rfl, P.2.1 1 _ rfl, P.2.1 2 _ rfl, P.2.1 3 _ rfl⟩) (fun hHeld => ?_)
        clear hK K
        refine wpAnyH_ready (rs := [7, 11]) (by kernel_rfl) (by simp) ?_
        refine AllReadyH.cons rfl (fun K hK => ?_) (AllReadyH.cons rfl (fun K hK => ?_) AllReadyH.nil)
        · (try simp only [zk1, zk2, zk3])
          go_simp
          go_at_call 26
          refine (impl_SignText seed tx _ pool sa _ HST.out hs hsol (HT.out.ext X)).mono ?_
          generalize hS : sgnV seed pool sa tx = S at *
          generalize hok : sgnOk seed pool sa tx = ok at *
          have HS := Lib.hid hS
          have HO := Lib.hid hok
          have HZ := Lib.hid (show ok = false → S = ⟨0, [], [], []⟩ from fun e => by rw [← hS]; exact sgn_no (hok.trans e))
          clear hS hok
          rintro e u5 ⟨a1, c1, a2, c2, a3, c3, rfl, so, xs⟩
          have lr : w.heap.size + 1 < u4.heap.size := R.1
          have SO := so.mono (show w.heap.size + 2 ≤ u4.heap.size by omega)
          clear so
          have B0 := fun v n l (o : World.ownsRow u5 (w.heap.size + 2) 9 1 v n l) k (hk : v.ownBlock = some k) => (own_lt o k hk).2
          have B1 := fun k hk => Nat.ne_of_lt (B0 _ _ _ SO.1 k hk)
          have B2 := fun k hk => Nat.ne_of_lt (B0 _ _ _ SO.2.1 k hk)
          have B3 := fun k hk => Nat.ne_of_lt (B0 _ _ _ SO.2.2.1 k hk)
          clear B0
          replace P := P.ext xs
          replace R := R.ext xs
          replace HST := Lib.hid (HST.out.ext xs)
          replace X := X.trans xs
          (try dsimp only)
          refine hK.out _ _ (by exact ⟨P.2.1 0 _ rfl, P.2.1 1 _ rfl, P.2.1 2 _ rfl, P.2.1 3 _ rfl⟩) (fun hHeld => ?_)
          clear hK K
          (refine wpAnyH_take (i := 8) (v := ?_) rfl (by kernel_rfl) (by kernel_rfl) (by kernel_rfl) (fun _ _ _ h => h) (Or.inl ⟨by rfl, ?_⟩) (by assumption) ?_; rotate_left; focus (intro w hSw; (try dsimp only at hSw); (try simp only [zk1, zk2, zk3]); go_simp; try with_reducible rfl)); (try simp only [zk1, zk2, zk3]); (try simp only [Act.put, zk4, zk5, zk6])
          (refine wpAnyH_take (i := 9) (v := ?_) rfl (by kernel_rfl) (by kernel_rfl) (by kernel_rfl) (fun _ _ _ h => h) (Or.inl ⟨by rfl, ?_⟩) (by assumption) ?_; rotate_left; focus (intro w hSw; (try dsimp only at hSw); (try simp only [zk1, zk2, zk3]); go_simp; try with_reducible rfl)); (try simp only [zk1, zk2, zk3]); (try simp only [Act.put, zk4, zk5, zk6])
          (refine wpAnyH_take (i := 10) (v := ?_) rfl (by kernel_rfl) (by kernel_rfl) (by kernel_rfl) (fun _ _ _ h => h) (Or.inl ⟨by rfl, ?_⟩) (by assumption) ?_; rotate_left; focus (intro w hSw; (try dsimp only at hSw); (try simp only [zk1, zk2, zk3]); go_simp; try with_reducible rfl)); (try simp only [zk1, zk2, zk3]); (try simp only [Act.put, zk4, zk5, zk6])
          refine wpAnyH_ready (rs := [11]) (by kernel_rfl) (by simp) ?_
          refine AllReadyH.cons rfl (fun K hK => ?_) AllReadyH.nil
          (try simp only [zk1, zk2, zk3])
          go_simp
          have ez : Ext u5 (u5.alloc (Obj.cells #[.int .i64 0, .slice none 0 0, .slice none 0 0, .slice none 0 0] 30)) := (Ext.refl _).alloc _
          have Q := Bx.new u5 #[.int .i64 0, .slice none 0 0, .slice none 0 0, .slice none 0 0] 30
          have lq : w.heap.size + 1 < u5.heap.size := R.1
          replace P := P.ext ez
          replace R := R.ext ez
          replace HST := Lib.hid (HST.out.ext ez)
          replace X := X.trans ez
          replace SO := SO.ext ez
          generalize u5.alloc (Obj.cells #[.int .i64 0, .slice none 0 0, .slice none 0 0, .slice none 0 0] 30) = u6 at *
          generalize hqb : u5.heap.size = qb at *
          clear hqb
          (try dsimp only)
          refine hK.out _ _ (by exact ⟨P.2.1 0 _ rfl, P.2.1 1 _ rfl, P.2.1 2 _ rfl, P.2.1 3 _ rfl⟩) (fun hHeld => ?_)
          clear hK K
          have lr2 : qb ≠ w.heap.size + 1 := by omega
          have z0 := Q.2.1 0 _ rfl
          have z1 := Q.2.1 1 _ rfl
          have z2 := Q.2.1 2 _ rfl
          have z3 := Q.2.1 3 _ rfl
          have f0 := Q.2.2 0
          have f1 := Q.2.2 1
          have f2 := Q.2.2 2
          have f3 := Q.2.2 3
          have XQ : Ext w ((((u6.setCell ⟨qb, 0, none⟩ (.int .i64 S.at_)).setCell ⟨qb, 1, none⟩ (.slice a1 S.op.length c1)).setCell ⟨qb, 2, none⟩ (.slice a2 S.sh.length c2)).setCell ⟨qb, 3, none⟩ (.slice a3 S.si.length c3)) := ((((X.setCell (by dsimp only; omega) _).setCell (by dsimp only; omega) _).setCell (by dsimp only; omega) _).setCell (by dsimp only; omega) _)
          have QQ := ((((Q.set 0 (.int .i64 S.at_) (by simp)).set 1 (.slice a1 S.op.length c1) (by simp)).set 2 (.slice a2 S.sh.length c2) (by simp)).set 3 (.slice a3 S.si.length c3) (by simp))
          have PQ := ((((P.far (c := qb) (by omega) 0 (.int .i64 S.at_)).far (c := qb) (by omega) 1 (.slice a1 S.op.length c1)).far (c := qb) (by omega) 2 (.slice a2 S.sh.length c2)).far (c := qb) (by omega) 3 (.slice a3 S.si.length c3))
          have RQ := ((((R.far (c := qb) (by omega) 0 (.int .i64 S.at_)).far (c := qb) (by omega) 1 (.slice a1 S.op.length c1)).far (c := qb) (by omega) 2 (.slice a2 S.sh.length c2)).far (c := qb) (by omega) 3 (.slice a3 S.si.length c3))
          have SQ := ((((SO.far B1 B2 B3 0 (.int .i64 S.at_)).far B1 B2 B3 1 (.slice a1 S.op.length c1)).far B1 B2 B3 2 (.slice a2 S.sh.length c2)).far B1 B2 B3 3 (.slice a3 S.si.length c3))
          clear HST
          (refine wpAnyH_ready (rs := [12]) (by kernel_rfl) (by simp) ?_; refine AllReadyH.cons rfl (fun K hK => ?_) AllReadyH.nil; (try simp only [zk1, zk2, zk3]))
          go_simp
          clear z0 z1 z2 z3 f0 f1 f2 f3
          replace P := PQ
          replace Q := QQ
          replace R := RQ
          replace SO := SQ
          replace X := XQ
          clear PQ QQ RQ SQ XQ
          generalize (((u6.setCell ⟨qb, 0, none⟩ (.int .i64 S.at_)).setCell ⟨qb, 1, none⟩ (.slice a1 S.op.length c1)).setCell ⟨qb, 2, none⟩ (.slice a2 S.sh.length c2)).setCell ⟨qb, 3, none⟩ (.slice a3 S.si.length c3) = W6 at *
          (try dsimp only)
          refine hK.out _ _ (by exact ⟨P.2.1 0 _ rfl, P.2.1 1 _ rfl, P.2.1 2 _ rfl, P.2.1 3 _ rfl⟩) (fun hHeld => ?_)
          clear hK K
          (refine wpAnyH_take (i := 13) (v := ?_) rfl (by kernel_rfl) (by kernel_rfl) (by kernel_rfl) (fun _ _ _ h => h) (Or.inl ⟨by rfl, ?_⟩) (by assumption) ?_; rotate_left; focus (intro w hSw; (try dsimp only at hSw); (try simp only [zk1, zk2, zk3]); go_simp; try with_reducible rfl)); (try simp only [zk1, zk2, zk3]); (try simp only [Act.put, zk4, zk5, zk6])
          refine wpAnyH_done (by kernel_rfl) ?_ _
          cases ok
          · have hz := HZ.out rfl
            clear HZ
            subst hz
            have z0 := R.2.1 0 _ rfl
            have z1 := R.2.1 1 _ rfl
            have z2 := R.2.1 2 _ rfl
            have z3 := R.2.1 3 _ rfl
            have z4 := R.2.1 4 _ rfl
            have z5 := R.2.1 5 _ rfl
            have z6 := R.2.1 6 _ rfl
            have z7 := R.2.1 7 _ rfl
            have f0 := R.2.2 0
            have f1 := R.2.2 1
            have f2 := R.2.2 2
            have f3 := R.2.2 3
            have f4 := R.2.2 4
            have f5 := R.2.2 5
            have f6 := R.2.2 6
            have f7 := R.2.2 7
            have XF : Ext w ((((((((W6.setCell ⟨w.heap.size + 1, 0, none⟩ (.int .i64 0)).setCell ⟨w.heap.size + 1, 1, none⟩ (.int .i64 0)).setCell ⟨w.heap.size + 1, 2, none⟩ (.string ⟨#[]⟩)).setCell ⟨w.heap.size + 1, 3, none⟩ (.string ⟨#[]⟩)).setCell ⟨w.heap.size + 1, 4, none⟩ (.int .i64 0)).setCell ⟨w.heap.size + 1, 5, none⟩ (.slice none 0 0)).setCell ⟨w.heap.size + 1, 6, none⟩ (.slice none 0 0)).setCell ⟨w.heap.size + 1, 7, none⟩ (.slice none 0 0)) := ((((((((X.setCell (by dsimp only; omega) _).setCell (by dsimp only; omega) _).setCell (by dsimp only; omega) _).setCell (by dsimp only; omega) _).setCell (by dsimp only; omega) _).setCell (by dsimp only; omega) _).setCell (by dsimp only; omega) _).setCell (by dsimp only; omega) _)
            have RF := ((((((((R.set 0 (.int .i64 0) (by simp)).set 1 (.int .i64 0) (by simp)).set 2 (.string ⟨#[]⟩) (by simp)).set 3 (.string ⟨#[]⟩) (by simp)).set 4 (.int .i64 0) (by simp)).set 5 (.slice none 0 0) (by simp)).set 6 (.slice none 0 0) (by simp)).set 7 (.slice none 0 0) (by simp))
            skip
            go_wp2
            generalize (((((((W6.setCell ⟨w.heap.size + 1, 0, none⟩ (.int .i64 0)).setCell ⟨w.heap.size + 1, 1, none⟩ (.int .i64 0)).setCell ⟨w.heap.size + 1, 2, none⟩ (.string ⟨#[]⟩)).setCell ⟨w.heap.size + 1, 3, none⟩ (.string ⟨#[]⟩)).setCell ⟨w.heap.size + 1, 4, none⟩ (.int .i64 0)).setCell ⟨w.heap.size + 1, 5, none⟩ (.slice none 0 0)).setCell ⟨w.heap.size + 1, 6, none⟩ (.slice none 0 0)).setCell ⟨w.heap.size + 1, 7, none⟩ (.slice none 0 0) = WF at *
            have k0 := RF.2.1 0 _ rfl
            have k1 := RF.2.1 1 _ rfl
            have k2 := RF.2.1 2 _ rfl
            have k3 := RF.2.1 3 _ rfl
            have k4 := RF.2.1 4 _ rfl
            have k5 := RF.2.1 5 _ rfl
            have k6 := RF.2.1 6 _ rfl
            have k7 := RF.2.1 7 _ rfl
            refine bodyPost_ret (v := .tuple #[.agg #[.int .i64 0, .int .i64 0, .string ⟨#[]⟩, .string ⟨#[]⟩, .int .i64 0, .slice none 0 0, .slice none 0 0, .slice none 0 0], .bool false]) (by simp [results, Tryz.results6, go_sem, k0, k1, k2, k3, k4, k5, k6, k7]) rfl ?_
            rw [HSA.out, HTX.out, HS.out, HO.out]
            exact ⟨none, 0, none, 0, none, 0, rfl, sigOwn_nil _ _, XF⟩
          · have p0 := P.2.1 0 _ rfl
            have p1 := P.2.1 1 _ rfl
            have p2 := P.2.1 2 _ rfl
            have p3 := P.2.1 3 _ rfl
            have q0 := Q.2.1 0 _ rfl
            have q1 := Q.2.1 1 _ rfl
            have q2 := Q.2.1 2 _ rfl
            have q3 := Q.2.1 3 _ rfl
            have z0 := R.2.1 0 _ rfl
            have z1 := R.2.1 1 _ rfl
            have z2 := R.2.1 2 _ rfl
            have z3 := R.2.1 3 _ rfl
            have z4 := R.2.1 4 _ rfl
            have z5 := R.2.1 5 _ rfl
            have z6 := R.2.1 6 _ rfl
            have z7 := R.2.1 7 _ rfl
            have f0 := R.2.2 0
            have f1 := R.2.2 1
            have f2 := R.2.2 2
            have f3 := R.2.2 3
            have f4 := R.2.2 4
            have f5 := R.2.2 5
            have f6 := R.2.2 6
            have f7 := R.2.2 7
            have XF : Ext w ((((((((W6.setCell ⟨w.heap.size + 1, 0, none⟩ (.int .i64 h)).setCell ⟨w.heap.size + 1, 1, none⟩ (.int .i64 ep)).setCell ⟨w.heap.size + 1, 2, none⟩ (.string r)).setCell ⟨w.heap.size + 1, 3, none⟩ (.string p)).setCell ⟨w.heap.size + 1, 4, none⟩ (.int .i64 S.at_)).setCell ⟨w.heap.size + 1, 5, none⟩ (.slice a1 S.op.length c1)).setCell ⟨w.heap.size + 1, 6, none⟩ (.slice a2 S.sh.length c2)).setCell ⟨w.heap.size + 1, 7, none⟩ (.slice a3 S.si.length c3)) := ((((((((X.setCell (by dsimp only; omega) _).setCell (by dsimp only; omega) _).setCell (by dsimp only; omega) _).setCell (by dsimp only; omega) _).setCell (by dsimp only; omega) _).setCell (by dsimp only; omega) _).setCell (by dsimp only; omega) _).setCell (by dsimp only; omega) _)
            have RF := ((((((((R.set 0 (.int .i64 h) (by simp)).set 1 (.int .i64 ep) (by simp)).set 2 (.string r) (by simp)).set 3 (.string p) (by simp)).set 4 (.int .i64 S.at_) (by simp)).set 5 (.slice a1 S.op.length c1) (by simp)).set 6 (.slice a2 S.sh.length c2) (by simp)).set 7 (.slice a3 S.si.length c3) (by simp))
            have SF := (((((((SO.set (b := w.heap.size + 1) (by omega) 0 (.int .i64 h)).set (b := w.heap.size + 1) (by omega) 1 (.int .i64 ep)).set (b := w.heap.size + 1) (by omega) 2 (.string r)).set (b := w.heap.size + 1) (by omega) 3 (.string p)).set (b := w.heap.size + 1) (by omega) 4 (.int .i64 S.at_)).set (b := w.heap.size + 1) (by omega) 5 (.slice a1 S.op.length c1)).set (b := w.heap.size + 1) (by omega) 6 (.slice a2 S.sh.length c2)).set (b := w.heap.size + 1) (by omega) 7 (.slice a3 S.si.length c3)
            go_wp2
            generalize (((((((W6.setCell ⟨w.heap.size + 1, 0, none⟩ (.int .i64 h)).setCell ⟨w.heap.size + 1, 1, none⟩ (.int .i64 ep)).setCell ⟨w.heap.size + 1, 2, none⟩ (.string r)).setCell ⟨w.heap.size + 1, 3, none⟩ (.string p)).setCell ⟨w.heap.size + 1, 4, none⟩ (.int .i64 S.at_)).setCell ⟨w.heap.size + 1, 5, none⟩ (.slice a1 S.op.length c1)).setCell ⟨w.heap.size + 1, 6, none⟩ (.slice a2 S.sh.length c2)).setCell ⟨w.heap.size + 1, 7, none⟩ (.slice a3 S.si.length c3) = WF at *
            have k0 := RF.2.1 0 _ rfl
            have k1 := RF.2.1 1 _ rfl
            have k2 := RF.2.1 2 _ rfl
            have k3 := RF.2.1 3 _ rfl
            have k4 := RF.2.1 4 _ rfl
            have k5 := RF.2.1 5 _ rfl
            have k6 := RF.2.1 6 _ rfl
            have k7 := RF.2.1 7 _ rfl
            refine bodyPost_ret (v := .tuple #[.agg #[.int .i64 h, .int .i64 ep, .string r, .string p, .int .i64 S.at_, .slice a1 S.op.length c1, .slice a2 S.sh.length c2, .slice a3 S.si.length c3], .bool true]) (by simp [results, Tryz.results6, go_sem, k0, k1, k2, k3, k4, k5, k6, k7]) rfl ?_
            rw [HSA.out, HTX.out, HS.out, HO.out]
            exact ⟨a1, c1, a2, c2, a3, c3, rfl, SF.mono (by omega), XF⟩
        · (try simp only [zk1, zk2, zk3])
          go_simp
          have ez : Ext u4 (u4.alloc (Obj.cells #[.int .i64 0, .slice none 0 0, .slice none 0 0, .slice none 0 0] 30)) := (Ext.refl _).alloc _
          have Q := Bx.new u4 #[.int .i64 0, .slice none 0 0, .slice none 0 0, .slice none 0 0] 30
          have lq : w.heap.size + 1 < u4.heap.size := R.1
          replace P := P.ext ez
          replace R := R.ext ez
          replace HST := Lib.hid (HST.out.ext ez)
          replace X := X.trans ez
          generalize u4.alloc (Obj.cells #[.int .i64 0, .slice none 0 0, .slice none 0 0, .slice none 0 0] 30) = u5 at *
          generalize hqb : u4.heap.size = qb at *
          clear hqb
          (try dsimp only)
          refine hK.out _ _ (by exact ⟨P.2.1 0 _ rfl, P.2.1 1 _ rfl, P.2.1 2 _ rfl, P.2.1 3 _ rfl⟩) (fun hHeld => ?_)
          clear hK K
          (refine wpAnyH_ready (rs := [7]) (by kernel_rfl) (by simp) ?_; refine AllReadyH.cons rfl (fun K hK => ?_) AllReadyH.nil)
          (try simp only [zk1, zk2, zk3])
          go_simp
          go_at_call 26
          refine (impl_SignText seed tx _ pool sa _ HST.out hs hsol (HT.out.ext X)).mono ?_
          generalize hS : sgnV seed pool sa tx = S at *
          generalize hok : sgnOk seed pool sa tx = ok at *
          have HS := Lib.hid hS
          have HO := Lib.hid hok
          have HZ := Lib.hid (show ok = false → S = ⟨0, [], [], []⟩ from fun e => by rw [← hS]; exact sgn_no (hok.trans e))
          clear hS hok
          rintro e u6 ⟨a1, c1, a2, c2, a3, c3, rfl, so, xs⟩
          have lr : w.heap.size + 1 < u5.heap.size := R.1
          have lqs : qb < u5.heap.size := Q.1
          have nq : qb ≠ w.heap.size + 1 := by omega
          have B1 := fun k (hk : Value.ownBlock (.slice a1 S.op.length c1) = some k) => Nat.ne_of_gt (Nat.lt_of_lt_of_le lqs (own_lt so.1 k hk).1)
          have B2 := fun k (hk : Value.ownBlock (.slice a2 S.sh.length c2) = some k) => Nat.ne_of_gt (Nat.lt_of_lt_of_le lqs (own_lt so.2.1 k hk).1)
          have B3 := fun k (hk : Value.ownBlock (.slice a3 S.si.length c3) = some k) => Nat.ne_of_gt (Nat.lt_of_lt_of_le lqs (own_lt so.2.2.1 k hk).1)
          have SO := so.mono (show w.heap.size + 2 ≤ u5.heap.size by omega)
          clear so
          replace P := P.ext xs
          replace R := R.ext xs
          replace HST := Lib.hid (HST.out.ext xs)
          replace X := X.trans xs
          replace Q := Q.ext xs
          (try dsimp only)
          refine hK.out _ _ (by exact ⟨P.2.1 0 _ rfl, P.2.1 1 _ rfl, P.2.1 2 _ rfl, P.2.1 3 _ rfl⟩) (fun hHeld => ?_)
          clear hK K
          (refine wpAnyH_take (i := 8) (v := ?_) rfl (by kernel_rfl) (by kernel_rfl) (by kernel_rfl) (fun _ _ _ h => h) (Or.inl ⟨by rfl, ?_⟩) (by assumption) ?_; rotate_left; focus (intro w hSw; (try dsimp only at hSw); (try simp only [zk1, zk2, zk3]); go_simp; try with_reducible rfl)); (try simp only [zk1, zk2, zk3]); (try simp only [Act.put, zk4, zk5, zk6])
          (refine wpAnyH_take (i := 9) (v := ?_) rfl (by kernel_rfl) (by kernel_rfl) (by kernel_rfl) (fun _ _ _ h => h) (Or.inl ⟨by rfl, ?_⟩) (by assumption) ?_; rotate_left; focus (intro w hSw; (try dsimp only at hSw); (try simp only [zk1, zk2, zk3]); go_simp; try with_reducible rfl)); (try simp only [zk1, zk2, zk3]); (try simp only [Act.put, zk4, zk5, zk6])
          (refine wpAnyH_take (i := 10) (v := ?_) rfl (by kernel_rfl) (by kernel_rfl) (by kernel_rfl) (fun _ _ _ h => h) (Or.inl ⟨by rfl, ?_⟩) (by assumption) ?_; rotate_left; focus (intro w hSw; (try dsimp only at hSw); (try simp only [zk1, zk2, zk3]); go_simp; try with_reducible rfl)); (try simp only [zk1, zk2, zk3]); (try simp only [Act.put, zk4, zk5, zk6])
          have lr2 : qb ≠ w.heap.size + 1 := by omega
          have z0 := Q.2.1 0 _ rfl
          have z1 := Q.2.1 1 _ rfl
          have z2 := Q.2.1 2 _ rfl
          have z3 := Q.2.1 3 _ rfl
          have f0 := Q.2.2 0
          have f1 := Q.2.2 1
          have f2 := Q.2.2 2
          have f3 := Q.2.2 3
          have XQ : Ext w ((((u6.setCell ⟨qb, 0, none⟩ (.int .i64 S.at_)).setCell ⟨qb, 1, none⟩ (.slice a1 S.op.length c1)).setCell ⟨qb, 2, none⟩ (.slice a2 S.sh.length c2)).setCell ⟨qb, 3, none⟩ (.slice a3 S.si.length c3)) := ((((X.setCell (by dsimp only; omega) _).setCell (by dsimp only; omega) _).setCell (by dsimp only; omega) _).setCell (by dsimp only; omega) _)
          have QQ := ((((Q.set 0 (.int .i64 S.at_) (by simp)).set 1 (.slice a1 S.op.length c1) (by simp)).set 2 (.slice a2 S.sh.length c2) (by simp)).set 3 (.slice a3 S.si.length c3) (by simp))
          have PQ := ((((P.far (c := qb) (by omega) 0 (.int .i64 S.at_)).far (c := qb) (by omega) 1 (.slice a1 S.op.length c1)).far (c := qb) (by omega) 2 (.slice a2 S.sh.length c2)).far (c := qb) (by omega) 3 (.slice a3 S.si.length c3))
          have RQ := ((((R.far (c := qb) (by omega) 0 (.int .i64 S.at_)).far (c := qb) (by omega) 1 (.slice a1 S.op.length c1)).far (c := qb) (by omega) 2 (.slice a2 S.sh.length c2)).far (c := qb) (by omega) 3 (.slice a3 S.si.length c3))
          have SQ := ((((SO.far B1 B2 B3 0 (.int .i64 S.at_)).far B1 B2 B3 1 (.slice a1 S.op.length c1)).far B1 B2 B3 2 (.slice a2 S.sh.length c2)).far B1 B2 B3 3 (.slice a3 S.si.length c3))
          clear HST
          (refine wpAnyH_ready (rs := [12]) (by kernel_rfl) (by simp) ?_; refine AllReadyH.cons rfl (fun K hK => ?_) AllReadyH.nil; (try simp only [zk1, zk2, zk3]))
          go_simp
          clear z0 z1 z2 z3 f0 f1 f2 f3
          replace P := PQ
          replace Q := QQ
          replace R := RQ
          replace SO := SQ
          replace X := XQ
          clear PQ QQ RQ SQ XQ
          generalize (((u6.setCell ⟨qb, 0, none⟩ (.int .i64 S.at_)).setCell ⟨qb, 1, none⟩ (.slice a1 S.op.length c1)).setCell ⟨qb, 2, none⟩ (.slice a2 S.sh.length c2)).setCell ⟨qb, 3, none⟩ (.slice a3 S.si.length c3) = W6 at *
          (try dsimp only)
          refine hK.out _ _ (by exact ⟨P.2.1 0 _ rfl, P.2.1 1 _ rfl, P.2.1 2 _ rfl, P.2.1 3 _ rfl⟩) (fun hHeld => ?_)
          clear hK K
          (refine wpAnyH_take (i := 13) (v := ?_) rfl (by kernel_rfl) (by kernel_rfl) (by kernel_rfl) (fun _ _ _ h => h) (Or.inl ⟨by rfl, ?_⟩) (by assumption) ?_; rotate_left; focus (intro w hSw; (try dsimp only at hSw); (try simp only [zk1, zk2, zk3]); go_simp; try with_reducible rfl)); (try simp only [zk1, zk2, zk3]); (try simp only [Act.put, zk4, zk5, zk6])
          refine wpAnyH_done (by kernel_rfl) ?_ _
          cases ok
          · have hz := HZ.out rfl
            clear HZ
            subst hz
            have z0 := R.2.1 0 _ rfl
            have z1 := R.2.1 1 _ rfl
            have z2 := R.2.1 2 _ rfl
            have z3 := R.2.1 3 _ rfl
            have z4 := R.2.1 4 _ rfl
            have z5 := R.2.1 5 _ rfl
            have z6 := R.2.1 6 _ rfl
            have z7 := R.2.1 7 _ rfl
            have f0 := R.2.2 0
            have f1 := R.2.2 1
            have f2 := R.2.2 2
            have f3 := R.2.2 3
            have f4 := R.2.2 4
            have f5 := R.2.2 5
            have f6 := R.2.2 6
            have f7 := R.2.2 7
            have XF : Ext w ((((((((W6.setCell ⟨w.heap.size + 1, 0, none⟩ (.int .i64 0)).setCell ⟨w.heap.size + 1, 1, none⟩ (.int .i64 0)).setCell ⟨w.heap.size + 1, 2, none⟩ (.string ⟨#[]⟩)).setCell ⟨w.heap.size + 1, 3, none⟩ (.string ⟨#[]⟩)).setCell ⟨w.heap.size + 1, 4, none⟩ (.int .i64 0)).setCell ⟨w.heap.size + 1, 5, none⟩ (.slice none 0 0)).setCell ⟨w.heap.size + 1, 6, none⟩ (.slice none 0 0)).setCell ⟨w.heap.size + 1, 7, none⟩ (.slice none 0 0)) := ((((((((X.setCell (by dsimp only; omega) _).setCell (by dsimp only; omega) _).setCell (by dsimp only; omega) _).setCell (by dsimp only; omega) _).setCell (by dsimp only; omega) _).setCell (by dsimp only; omega) _).setCell (by dsimp only; omega) _).setCell (by dsimp only; omega) _)
            have RF := ((((((((R.set 0 (.int .i64 0) (by simp)).set 1 (.int .i64 0) (by simp)).set 2 (.string ⟨#[]⟩) (by simp)).set 3 (.string ⟨#[]⟩) (by simp)).set 4 (.int .i64 0) (by simp)).set 5 (.slice none 0 0) (by simp)).set 6 (.slice none 0 0) (by simp)).set 7 (.slice none 0 0) (by simp))
            skip
            go_wp2
            generalize (((((((W6.setCell ⟨w.heap.size + 1, 0, none⟩ (.int .i64 0)).setCell ⟨w.heap.size + 1, 1, none⟩ (.int .i64 0)).setCell ⟨w.heap.size + 1, 2, none⟩ (.string ⟨#[]⟩)).setCell ⟨w.heap.size + 1, 3, none⟩ (.string ⟨#[]⟩)).setCell ⟨w.heap.size + 1, 4, none⟩ (.int .i64 0)).setCell ⟨w.heap.size + 1, 5, none⟩ (.slice none 0 0)).setCell ⟨w.heap.size + 1, 6, none⟩ (.slice none 0 0)).setCell ⟨w.heap.size + 1, 7, none⟩ (.slice none 0 0) = WF at *
            have k0 := RF.2.1 0 _ rfl
            have k1 := RF.2.1 1 _ rfl
            have k2 := RF.2.1 2 _ rfl
            have k3 := RF.2.1 3 _ rfl
            have k4 := RF.2.1 4 _ rfl
            have k5 := RF.2.1 5 _ rfl
            have k6 := RF.2.1 6 _ rfl
            have k7 := RF.2.1 7 _ rfl
            refine bodyPost_ret (v := .tuple #[.agg #[.int .i64 0, .int .i64 0, .string ⟨#[]⟩, .string ⟨#[]⟩, .int .i64 0, .slice none 0 0, .slice none 0 0, .slice none 0 0], .bool false]) (by simp [results, Tryz.results6, go_sem, k0, k1, k2, k3, k4, k5, k6, k7]) rfl ?_
            rw [HSA.out, HTX.out, HS.out, HO.out]
            exact ⟨none, 0, none, 0, none, 0, rfl, sigOwn_nil _ _, XF⟩
          · have p0 := P.2.1 0 _ rfl
            have p1 := P.2.1 1 _ rfl
            have p2 := P.2.1 2 _ rfl
            have p3 := P.2.1 3 _ rfl
            have q0 := Q.2.1 0 _ rfl
            have q1 := Q.2.1 1 _ rfl
            have q2 := Q.2.1 2 _ rfl
            have q3 := Q.2.1 3 _ rfl
            have z0 := R.2.1 0 _ rfl
            have z1 := R.2.1 1 _ rfl
            have z2 := R.2.1 2 _ rfl
            have z3 := R.2.1 3 _ rfl
            have z4 := R.2.1 4 _ rfl
            have z5 := R.2.1 5 _ rfl
            have z6 := R.2.1 6 _ rfl
            have z7 := R.2.1 7 _ rfl
            have f0 := R.2.2 0
            have f1 := R.2.2 1
            have f2 := R.2.2 2
            have f3 := R.2.2 3
            have f4 := R.2.2 4
            have f5 := R.2.2 5
            have f6 := R.2.2 6
            have f7 := R.2.2 7
            have XF : Ext w ((((((((W6.setCell ⟨w.heap.size + 1, 0, none⟩ (.int .i64 h)).setCell ⟨w.heap.size + 1, 1, none⟩ (.int .i64 ep)).setCell ⟨w.heap.size + 1, 2, none⟩ (.string r)).setCell ⟨w.heap.size + 1, 3, none⟩ (.string p)).setCell ⟨w.heap.size + 1, 4, none⟩ (.int .i64 S.at_)).setCell ⟨w.heap.size + 1, 5, none⟩ (.slice a1 S.op.length c1)).setCell ⟨w.heap.size + 1, 6, none⟩ (.slice a2 S.sh.length c2)).setCell ⟨w.heap.size + 1, 7, none⟩ (.slice a3 S.si.length c3)) := ((((((((X.setCell (by dsimp only; omega) _).setCell (by dsimp only; omega) _).setCell (by dsimp only; omega) _).setCell (by dsimp only; omega) _).setCell (by dsimp only; omega) _).setCell (by dsimp only; omega) _).setCell (by dsimp only; omega) _).setCell (by dsimp only; omega) _)
            have RF := ((((((((R.set 0 (.int .i64 h) (by simp)).set 1 (.int .i64 ep) (by simp)).set 2 (.string r) (by simp)).set 3 (.string p) (by simp)).set 4 (.int .i64 S.at_) (by simp)).set 5 (.slice a1 S.op.length c1) (by simp)).set 6 (.slice a2 S.sh.length c2) (by simp)).set 7 (.slice a3 S.si.length c3) (by simp))
            have SF := (((((((SO.set (b := w.heap.size + 1) (by omega) 0 (.int .i64 h)).set (b := w.heap.size + 1) (by omega) 1 (.int .i64 ep)).set (b := w.heap.size + 1) (by omega) 2 (.string r)).set (b := w.heap.size + 1) (by omega) 3 (.string p)).set (b := w.heap.size + 1) (by omega) 4 (.int .i64 S.at_)).set (b := w.heap.size + 1) (by omega) 5 (.slice a1 S.op.length c1)).set (b := w.heap.size + 1) (by omega) 6 (.slice a2 S.sh.length c2)).set (b := w.heap.size + 1) (by omega) 7 (.slice a3 S.si.length c3)
            go_wp2
            generalize (((((((W6.setCell ⟨w.heap.size + 1, 0, none⟩ (.int .i64 h)).setCell ⟨w.heap.size + 1, 1, none⟩ (.int .i64 ep)).setCell ⟨w.heap.size + 1, 2, none⟩ (.string r)).setCell ⟨w.heap.size + 1, 3, none⟩ (.string p)).setCell ⟨w.heap.size + 1, 4, none⟩ (.int .i64 S.at_)).setCell ⟨w.heap.size + 1, 5, none⟩ (.slice a1 S.op.length c1)).setCell ⟨w.heap.size + 1, 6, none⟩ (.slice a2 S.sh.length c2)).setCell ⟨w.heap.size + 1, 7, none⟩ (.slice a3 S.si.length c3) = WF at *
            have k0 := RF.2.1 0 _ rfl
            have k1 := RF.2.1 1 _ rfl
            have k2 := RF.2.1 2 _ rfl
            have k3 := RF.2.1 3 _ rfl
            have k4 := RF.2.1 4 _ rfl
            have k5 := RF.2.1 5 _ rfl
            have k6 := RF.2.1 6 _ rfl
            have k7 := RF.2.1 7 _ rfl
            refine bodyPost_ret (v := .tuple #[.agg #[.int .i64 h, .int .i64 ep, .string r, .string p, .int .i64 S.at_, .slice a1 S.op.length c1, .slice a2 S.sh.length c2, .slice a3 S.si.length c3], .bool true]) (by simp [results, Tryz.results6, go_sem, k0, k1, k2, k3, k4, k5, k6, k7]) rfl ?_
            rw [HSA.out, HTX.out, HS.out, HO.out]
            exact ⟨a1, c1, a2, c2, a3, c3, rfl, SF.mono (by omega), XF⟩
      · (try simp only [zk1, zk2, zk3])
        go_simp
        have ez : Ext w2 (w2.alloc (Obj.cells #[.int .i64 0, .slice none 0 0, .slice none 0 0, .slice none 0 0] 30)) := (Ext.refl _).alloc _
        have Q := Bx.new w2 #[.int .i64 0, .slice none 0 0, .slice none 0 0, .slice none 0 0] 30
        have lq : w.heap.size + 1 < w2.heap.size := R.1
        replace P := P.ext ez
        replace R := R.ext ez
        replace HST := Lib.hid (HST.out.ext ez)
        replace X := X.trans ez
        generalize w2.alloc (Obj.cells #[.int .i64 0, .slice none 0 0, .slice none 0 0, .slice none 0 0] 30) = u4 at *
        generalize hqb : w2.heap.size = qb at *
        clear hqb
        (try dsimp only)
        refine hK.out _ _ (by exact ⟨P.2.1 0 _ rfl, P.2.1 1 _ rfl, P.2.1 2 _ rfl, P.2.1 3 _ rfl⟩) (fun hHeld => ?_)
        clear hK K
        (refine wpAnyH_ready (rs := [6]) (by kernel_rfl) (by simp) ?_; refine AllReadyH.cons rfl (fun K hK => ?_) AllReadyH.nil)
        (try simp only [zk1, zk2, zk3])
        go_simp
        go_at_call 27
        refine (impl_HeadHash h ep r p _ (HT.out.ext X)).mono ?_
        generalize htx : headH h ep r p = tx at *
        have HTX := Lib.hid htx
        clear htx
        rintro e u5 ⟨rfl, xh⟩
        (try clear p0 p1 p2 p3)
        replace P := P.ext xh
        replace R := R.ext xh
        replace HST := Lib.hid (HST.out.ext xh)
        replace X := X.trans xh
        replace Q := Q.ext xh
        (try dsimp only)
        refine hK.out _ _ (by exact ⟨P.2.1 0 _ rfl, P.2.1 1 _ rfl, P.2.1 2 _ rfl, P.2.1 3 _ rfl⟩) (fun hHeld => ?_)
        clear hK K
        (refine wpAnyH_ready (rs := [7]) (by kernel_rfl) (by simp) ?_; refine AllReadyH.cons rfl (fun K hK => ?_) AllReadyH.nil)
        (try simp only [zk1, zk2, zk3])
        go_simp
        go_at_call 26
        refine (impl_SignText seed tx _ pool sa _ HST.out hs hsol (HT.out.ext X)).mono ?_
        generalize hS : sgnV seed pool sa tx = S at *
        generalize hok : sgnOk seed pool sa tx = ok at *
        have HS := Lib.hid hS
        have HO := Lib.hid hok
        have HZ := Lib.hid (show ok = false → S = ⟨0, [], [], []⟩ from fun e => by rw [← hS]; exact sgn_no (hok.trans e))
        clear hS hok
        rintro e u6 ⟨a1, c1, a2, c2, a3, c3, rfl, so, xs⟩
        have lr : w.heap.size + 1 < u5.heap.size := R.1
        have lqs : qb < u5.heap.size := Q.1
        have nq : qb ≠ w.heap.size + 1 := by omega
        have B1 := fun k (hk : Value.ownBlock (.slice a1 S.op.length c1) = some k) => Nat.ne_of_gt (Nat.lt_of_lt_of_le lqs (own_lt so.1 k hk).1)
        have B2 := fun k (hk : Value.ownBlock (.slice a2 S.sh.length c2) = some k) => Nat.ne_of_gt (Nat.lt_of_lt_of_le lqs (own_lt so.2.1 k hk).1)
        have B3 := fun k (hk : Value.ownBlock (.slice a3 S.si.length c3) = some k) => Nat.ne_of_gt (Nat.lt_of_lt_of_le lqs (own_lt so.2.2.1 k hk).1)
        have SO := so.mono (show w.heap.size + 2 ≤ u5.heap.size by omega)
        clear so
        replace P := P.ext xs
        replace R := R.ext xs
        replace HST := Lib.hid (HST.out.ext xs)
        replace X := X.trans xs
        replace Q := Q.ext xs
        (try dsimp only)
        refine hK.out _ _ (by exact ⟨P.2.1 0 _ rfl, P.2.1 1 _ rfl, P.2.1 2 _ rfl, P.2.1 3 _ rfl⟩) (fun hHeld => ?_)
        clear hK K
        (refine wpAnyH_take (i := 8) (v := ?_) rfl (by kernel_rfl) (by kernel_rfl) (by kernel_rfl) (fun _ _ _ h => h) (Or.inl ⟨by rfl, ?_⟩) (by assumption) ?_; rotate_left; focus (intro w hSw; (try dsimp only at hSw); (try simp only [zk1, zk2, zk3]); go_simp; try with_reducible rfl)); (try simp only [zk1, zk2, zk3]); (try simp only [Act.put, zk4, zk5, zk6])
        (refine wpAnyH_take (i := 9) (v := ?_) rfl (by kernel_rfl) (by kernel_rfl) (by kernel_rfl) (fun _ _ _ h => h) (Or.inl ⟨by rfl, ?_⟩) (by assumption) ?_; rotate_left; focus (intro w hSw; (try dsimp only at hSw); (try simp only [zk1, zk2, zk3]); go_simp; try with_reducible rfl)); (try simp only [zk1, zk2, zk3]); (try simp only [Act.put, zk4, zk5, zk6])
        (refine wpAnyH_take (i := 10) (v := ?_) rfl (by kernel_rfl) (by kernel_rfl) (by kernel_rfl) (fun _ _ _ h => h) (Or.inl ⟨by rfl, ?_⟩) (by assumption) ?_; rotate_left; focus (intro w hSw; (try dsimp only at hSw); (try simp only [zk1, zk2, zk3]); go_simp; try with_reducible rfl)); (try simp only [zk1, zk2, zk3]); (try simp only [Act.put, zk4, zk5, zk6])
        have lr2 : qb ≠ w.heap.size + 1 := by omega
        have z0 := Q.2.1 0 _ rfl
        have z1 := Q.2.1 1 _ rfl
        have z2 := Q.2.1 2 _ rfl
        have z3 := Q.2.1 3 _ rfl
        have f0 := Q.2.2 0
        have f1 := Q.2.2 1
        have f2 := Q.2.2 2
        have f3 := Q.2.2 3
        have XQ : Ext w ((((u6.setCell ⟨qb, 0, none⟩ (.int .i64 S.at_)).setCell ⟨qb, 1, none⟩ (.slice a1 S.op.length c1)).setCell ⟨qb, 2, none⟩ (.slice a2 S.sh.length c2)).setCell ⟨qb, 3, none⟩ (.slice a3 S.si.length c3)) := ((((X.setCell (by dsimp only; omega) _).setCell (by dsimp only; omega) _).setCell (by dsimp only; omega) _).setCell (by dsimp only; omega) _)
        have QQ := ((((Q.set 0 (.int .i64 S.at_) (by simp)).set 1 (.slice a1 S.op.length c1) (by simp)).set 2 (.slice a2 S.sh.length c2) (by simp)).set 3 (.slice a3 S.si.length c3) (by simp))
        have PQ := ((((P.far (c := qb) (by omega) 0 (.int .i64 S.at_)).far (c := qb) (by omega) 1 (.slice a1 S.op.length c1)).far (c := qb) (by omega) 2 (.slice a2 S.sh.length c2)).far (c := qb) (by omega) 3 (.slice a3 S.si.length c3))
        have RQ := ((((R.far (c := qb) (by omega) 0 (.int .i64 S.at_)).far (c := qb) (by omega) 1 (.slice a1 S.op.length c1)).far (c := qb) (by omega) 2 (.slice a2 S.sh.length c2)).far (c := qb) (by omega) 3 (.slice a3 S.si.length c3))
        have SQ := ((((SO.far B1 B2 B3 0 (.int .i64 S.at_)).far B1 B2 B3 1 (.slice a1 S.op.length c1)).far B1 B2 B3 2 (.slice a2 S.sh.length c2)).far B1 B2 B3 3 (.slice a3 S.si.length c3))
        clear HST
        (refine wpAnyH_ready (rs := [12]) (by kernel_rfl) (by simp) ?_; refine AllReadyH.cons rfl (fun K hK => ?_) AllReadyH.nil; (try simp only [zk1, zk2, zk3]))
        go_simp
        clear z0 z1 z2 z3 f0 f1 f2 f3
        replace P := PQ
        replace Q := QQ
        replace R := RQ
        replace SO := SQ
        replace X := XQ
        clear PQ QQ RQ SQ XQ
        generalize (((u6.setCell ⟨qb, 0, none⟩ (.int .i64 S.at_)).setCell ⟨qb, 1, none⟩ (.slice a1 S.op.length c1)).setCell ⟨qb, 2, none⟩ (.slice a2 S.sh.length c2)).setCell ⟨qb, 3, none⟩ (.slice a3 S.si.length c3) = W6 at *
        (try dsimp only)
        refine hK.out _ _ (by exact ⟨P.2.1 0 _ rfl, P.2.1 1 _ rfl, P.2.1 2 _ rfl, P.2.1 3 _ rfl⟩) (fun hHeld => ?_)
        clear hK K
        (refine wpAnyH_take (i := 13) (v := ?_) rfl (by kernel_rfl) (by kernel_rfl) (by kernel_rfl) (fun _ _ _ h => h) (Or.inl ⟨by rfl, ?_⟩) (by assumption) ?_; rotate_left; focus (intro w hSw; (try dsimp only at hSw); (try simp only [zk1, zk2, zk3]); go_simp; try with_reducible rfl)); (try simp only [zk1, zk2, zk3]); (try simp only [Act.put, zk4, zk5, zk6])
        refine wpAnyH_done (by kernel_rfl) ?_ _
        cases ok
        · have hz := HZ.out rfl
          clear HZ
          subst hz
          have z0 := R.2.1 0 _ rfl
          have z1 := R.2.1 1 _ rfl
          have z2 := R.2.1 2 _ rfl
          have z3 := R.2.1 3 _ rfl
          have z4 := R.2.1 4 _ rfl
          have z5 := R.2.1 5 _ rfl
          have z6 := R.2.1 6 _ rfl
          have z7 := R.2.1 7 _ rfl
          have f0 := R.2.2 0
          have f1 := R.2.2 1
          have f2 := R.2.2 2
          have f3 := R.2.2 3
          have f4 := R.2.2 4
          have f5 := R.2.2 5
          have f6 := R.2.2 6
          have f7 := R.2.2 7
          have XF : Ext w ((((((((W6.setCell ⟨w.heap.size + 1, 0, none⟩ (.int .i64 0)).setCell ⟨w.heap.size + 1, 1, none⟩ (.int .i64 0)).setCell ⟨w.heap.size + 1, 2, none⟩ (.string ⟨#[]⟩)).setCell ⟨w.heap.size + 1, 3, none⟩ (.string ⟨#[]⟩)).setCell ⟨w.heap.size + 1, 4, none⟩ (.int .i64 0)).setCell ⟨w.heap.size + 1, 5, none⟩ (.slice none 0 0)).setCell ⟨w.heap.size + 1, 6, none⟩ (.slice none 0 0)).setCell ⟨w.heap.size + 1, 7, none⟩ (.slice none 0 0)) := ((((((((X.setCell (by dsimp only; omega) _).setCell (by dsimp only; omega) _).setCell (by dsimp only; omega) _).setCell (by dsimp only; omega) _).setCell (by dsimp only; omega) _).setCell (by dsimp only; omega) _).setCell (by dsimp only; omega) _).setCell (by dsimp only; omega) _)
          have RF := ((((((((R.set 0 (.int .i64 0) (by simp)).set 1 (.int .i64 0) (by simp)).set 2 (.string ⟨#[]⟩) (by simp)).set 3 (.string ⟨#[]⟩) (by simp)).set 4 (.int .i64 0) (by simp)).set 5 (.slice none 0 0) (by simp)).set 6 (.slice none 0 0) (by simp)).set 7 (.slice none 0 0) (by simp))
          skip
          go_wp2
          generalize (((((((W6.setCell ⟨w.heap.size + 1, 0, none⟩ (.int .i64 0)).setCell ⟨w.heap.size + 1, 1, none⟩ (.int .i64 0)).setCell ⟨w.heap.size + 1, 2, none⟩ (.string ⟨#[]⟩)).setCell ⟨w.heap.size + 1, 3, none⟩ (.string ⟨#[]⟩)).setCell ⟨w.heap.size + 1, 4, none⟩ (.int .i64 0)).setCell ⟨w.heap.size + 1, 5, none⟩ (.slice none 0 0)).setCell ⟨w.heap.size + 1, 6, none⟩ (.slice none 0 0)).setCell ⟨w.heap.size + 1, 7, none⟩ (.slice none 0 0) = WF at *
          have k0 := RF.2.1 0 _ rfl
          have k1 := RF.2.1 1 _ rfl
          have k2 := RF.2.1 2 _ rfl
          have k3 := RF.2.1 3 _ rfl
          have k4 := RF.2.1 4 _ rfl
          have k5 := RF.2.1 5 _ rfl
          have k6 := RF.2.1 6 _ rfl
          have k7 := RF.2.1 7 _ rfl
          refine bodyPost_ret (v := .tuple #[.agg #[.int .i64 0, .int .i64 0, .string ⟨#[]⟩, .string ⟨#[]⟩, .int .i64 0, .slice none 0 0, .slice none 0 0, .slice none 0 0], .bool false]) (by simp [results, Tryz.results6, go_sem, k0, k1, k2, k3, k4, k5, k6, k7]) rfl ?_
          rw [HSA.out, HTX.out, HS.out, HO.out]
          exact ⟨none, 0, none, 0, none, 0, rfl, sigOwn_nil _ _, XF⟩
        · have p0 := P.2.1 0 _ rfl
          have p1 := P.2.1 1 _ rfl
          have p2 := P.2.1 2 _ rfl
          have p3 := P.2.1 3 _ rfl
          have q0 := Q.2.1 0 _ rfl
          have q1 := Q.2.1 1 _ rfl
          have q2 := Q.2.1 2 _ rfl
          have q3 := Q.2.1 3 _ rfl
          have z0 := R.2.1 0 _ rfl
          have z1 := R.2.1 1 _ rfl
          have z2 := R.2.1 2 _ rfl
          have z3 := R.2.1 3 _ rfl
          have z4 := R.2.1 4 _ rfl
          have z5 := R.2.1 5 _ rfl
          have z6 := R.2.1 6 _ rfl
          have z7 := R.2.1 7 _ rfl
          have f0 := R.2.2 0
          have f1 := R.2.2 1
          have f2 := R.2.2 2
          have f3 := R.2.2 3
          have f4 := R.2.2 4
          have f5 := R.2.2 5
          have f6 := R.2.2 6
          have f7 := R.2.2 7
          have XF : Ext w ((((((((W6.setCell ⟨w.heap.size + 1, 0, none⟩ (.int .i64 h)).setCell ⟨w.heap.size + 1, 1, none⟩ (.int .i64 ep)).setCell ⟨w.heap.size + 1, 2, none⟩ (.string r)).setCell ⟨w.heap.size + 1, 3, none⟩ (.string p)).setCell ⟨w.heap.size + 1, 4, none⟩ (.int .i64 S.at_)).setCell ⟨w.heap.size + 1, 5, none⟩ (.slice a1 S.op.length c1)).setCell ⟨w.heap.size + 1, 6, none⟩ (.slice a2 S.sh.length c2)).setCell ⟨w.heap.size + 1, 7, none⟩ (.slice a3 S.si.length c3)) := ((((((((X.setCell (by dsimp only; omega) _).setCell (by dsimp only; omega) _).setCell (by dsimp only; omega) _).setCell (by dsimp only; omega) _).setCell (by dsimp only; omega) _).setCell (by dsimp only; omega) _).setCell (by dsimp only; omega) _).setCell (by dsimp only; omega) _)
          have RF := ((((((((R.set 0 (.int .i64 h) (by simp)).set 1 (.int .i64 ep) (by simp)).set 2 (.string r) (by simp)).set 3 (.string p) (by simp)).set 4 (.int .i64 S.at_) (by simp)).set 5 (.slice a1 S.op.length c1) (by simp)).set 6 (.slice a2 S.sh.length c2) (by simp)).set 7 (.slice a3 S.si.length c3) (by simp))
          have SF := (((((((SO.set (b := w.heap.size + 1) (by omega) 0 (.int .i64 h)).set (b := w.heap.size + 1) (by omega) 1 (.int .i64 ep)).set (b := w.heap.size + 1) (by omega) 2 (.string r)).set (b := w.heap.size + 1) (by omega) 3 (.string p)).set (b := w.heap.size + 1) (by omega) 4 (.int .i64 S.at_)).set (b := w.heap.size + 1) (by omega) 5 (.slice a1 S.op.length c1)).set (b := w.heap.size + 1) (by omega) 6 (.slice a2 S.sh.length c2)).set (b := w.heap.size + 1) (by omega) 7 (.slice a3 S.si.length c3)
          go_wp2
          generalize (((((((W6.setCell ⟨w.heap.size + 1, 0, none⟩ (.int .i64 h)).setCell ⟨w.heap.size + 1, 1, none⟩ (.int .i64 ep)).setCell ⟨w.heap.size + 1, 2, none⟩ (.string r)).setCell ⟨w.heap.size + 1, 3, none⟩ (.string p)).setCell ⟨w.heap.size + 1, 4, none⟩ (.int .i64 S.at_)).setCell ⟨w.heap.size + 1, 5, none⟩ (.slice a1 S.op.length c1)).setCell ⟨w.heap.size + 1, 6, none⟩ (.slice a2 S.sh.length c2)).setCell ⟨w.heap.size + 1, 7, none⟩ (.slice a3 S.si.length c3) = WF at *
          have k0 := RF.2.1 0 _ rfl
          have k1 := RF.2.1 1 _ rfl
          have k2 := RF.2.1 2 _ rfl
          have k3 := RF.2.1 3 _ rfl
          have k4 := RF.2.1 4 _ rfl
          have k5 := RF.2.1 5 _ rfl
          have k6 := RF.2.1 6 _ rfl
          have k7 := RF.2.1 7 _ rfl
          refine bodyPost_ret (v := .tuple #[.agg #[.int .i64 h, .int .i64 ep, .string r, .string p, .int .i64 S.at_, .slice a1 S.op.length c1, .slice a2 S.sh.length c2, .slice a3 S.si.length c3], .bool true]) (by simp [results, Tryz.results6, go_sem, k0, k1, k2, k3, k4, k5, k6, k7]) rfl ?_
          rw [HSA.out, HTX.out, HS.out, HO.out]
          exact ⟨a1, c1, a2, c2, a3, c3, rfl, SF.mono (by omega), XF⟩
    · (try simp only [zk1, zk2, zk3])
      go_simp
      have ez : Ext w2 (w2.alloc (Obj.cells #[.int .i64 0, .slice none 0 0, .slice none 0 0, .slice none 0 0] 30)) := (Ext.refl _).alloc _
      have Q := Bx.new w2 #[.int .i64 0, .slice none 0 0, .slice none 0 0, .slice none 0 0] 30
      have lq : w.heap.size + 1 < w2.heap.size := R.1
      replace P := P.ext ez
      replace R := R.ext ez
      replace HST := Lib.hid (HST.out.ext ez)
      replace X := X.trans ez
      generalize w2.alloc (Obj.cells #[.int .i64 0, .slice none 0 0, .slice none 0 0, .slice none 0 0] 30) = u3 at *
      generalize hqb : w2.heap.size = qb at *
      clear hqb
      (try dsimp only)
      refine hK.out _ _ (by exact ⟨P.2.1 0 _ rfl, P.2.1 1 _ rfl, P.2.1 2 _ rfl, P.2.1 3 _ rfl⟩) (fun hHeld => ?_)
      clear hK K
      (refine wpAnyH_ready (rs := [4]) (by kernel_rfl) (by simp) ?_; refine AllReadyH.cons rfl (fun K hK => ?_) AllReadyH.nil)
      (try simp only [zk1, zk2, zk3])
      go_simp
      go_at_call 18
      refine (impl_SealAt ep _).mono ?_
      generalize hsa : sealAt ep = sa at *
      have HSA := Lib.hid hsa
      clear hsa
      rintro e w' ⟨rfl, rfl⟩
      (try dsimp only)
      refine hK.out _ _ (by exact ⟨P.2.1 0 _ rfl, P.2.1 1 _ rfl, P.2.1 2 _ rfl, P.2.1 3 _ rfl⟩) (fun hHeld => ?_)
      clear hK K
      (refine wpAnyH_ready (rs := [6]) (by kernel_rfl) (by simp) ?_; refine AllReadyH.cons rfl (fun K hK => ?_) AllReadyH.nil)
      (try simp only [zk1, zk2, zk3])
      go_simp
      go_at_call 27
      refine (impl_HeadHash h ep r p _ (HT.out.ext X)).mono ?_
      generalize htx : headH h ep r p = tx at *
      have HTX := Lib.hid htx
      clear htx
      rintro e u5 ⟨rfl, xh⟩
      (try clear p0 p1 p2 p3)
      replace P := P.ext xh
      replace R := R.ext xh
      replace HST := Lib.hid (HST.out.ext xh)
      replace X := X.trans xh
      replace Q := Q.ext xh
      (try dsimp only)
      refine hK.out _ _ (by exact ⟨P.2.1 0 _ rfl, P.2.1 1 _ rfl, P.2.1 2 _ rfl, P.2.1 3 _ rfl⟩) (fun hHeld => ?_)
      clear hK K
      (refine wpAnyH_ready (rs := [7]) (by kernel_rfl) (by simp) ?_; refine AllReadyH.cons rfl (fun K hK => ?_) AllReadyH.nil)
      (try simp only [zk1, zk2, zk3])
      go_simp
      go_at_call 26
      refine (impl_SignText seed tx _ pool sa _ HST.out hs hsol (HT.out.ext X)).mono ?_
      generalize hS : sgnV seed pool sa tx = S at *
      generalize hok : sgnOk seed pool sa tx = ok at *
      have HS := Lib.hid hS
      have HO := Lib.hid hok
      have HZ := Lib.hid (show ok = false → S = ⟨0, [], [], []⟩ from fun e => by rw [← hS]; exact sgn_no (hok.trans e))
      clear hS hok
      rintro e u6 ⟨a1, c1, a2, c2, a3, c3, rfl, so, xs⟩
      have lr : w.heap.size + 1 < u5.heap.size := R.1
      have lqs : qb < u5.heap.size := Q.1
      have nq : qb ≠ w.heap.size + 1 := by omega
      have B1 := fun k (hk : Value.ownBlock (.slice a1 S.op.length c1) = some k) => Nat.ne_of_gt (Nat.lt_of_lt_of_le lqs (own_lt so.1 k hk).1)
      have B2 := fun k (hk : Value.ownBlock (.slice a2 S.sh.length c2) = some k) => Nat.ne_of_gt (Nat.lt_of_lt_of_le lqs (own_lt so.2.1 k hk).1)
      have B3 := fun k (hk : Value.ownBlock (.slice a3 S.si.length c3) = some k) => Nat.ne_of_gt (Nat.lt_of_lt_of_le lqs (own_lt so.2.2.1 k hk).1)
      have SO := so.mono (show w.heap.size + 2 ≤ u5.heap.size by omega)
      clear so
      replace P := P.ext xs
      replace R := R.ext xs
      replace HST := Lib.hid (HST.out.ext xs)
      replace X := X.trans xs
      replace Q := Q.ext xs
      (try dsimp only)
      refine hK.out _ _ (by exact ⟨P.2.1 0 _ rfl, P.2.1 1 _ rfl, P.2.1 2 _ rfl, P.2.1 3 _ rfl⟩) (fun hHeld => ?_)
      clear hK K
      (refine wpAnyH_take (i := 8) (v := ?_) rfl (by kernel_rfl) (by kernel_rfl) (by kernel_rfl) (fun _ _ _ h => h) (Or.inl ⟨by rfl, ?_⟩) (by assumption) ?_; rotate_left; focus (intro w hSw; (try dsimp only at hSw); (try simp only [zk1, zk2, zk3]); go_simp; try with_reducible rfl)); (try simp only [zk1, zk2, zk3]); (try simp only [Act.put, zk4, zk5, zk6])
      (refine wpAnyH_take (i := 9) (v := ?_) rfl (by kernel_rfl) (by kernel_rfl) (by kernel_rfl) (fun _ _ _ h => h) (Or.inl ⟨by rfl, ?_⟩) (by assumption) ?_; rotate_left; focus (intro w hSw; (try dsimp only at hSw); (try simp only [zk1, zk2, zk3]); go_simp; try with_reducible rfl)); (try simp only [zk1, zk2, zk3]); (try simp only [Act.put, zk4, zk5, zk6])
      (refine wpAnyH_take (i := 10) (v := ?_) rfl (by kernel_rfl) (by kernel_rfl) (by kernel_rfl) (fun _ _ _ h => h) (Or.inl ⟨by rfl, ?_⟩) (by assumption) ?_; rotate_left; focus (intro w hSw; (try dsimp only at hSw); (try simp only [zk1, zk2, zk3]); go_simp; try with_reducible rfl)); (try simp only [zk1, zk2, zk3]); (try simp only [Act.put, zk4, zk5, zk6])
      have lr2 : qb ≠ w.heap.size + 1 := by omega
      have z0 := Q.2.1 0 _ rfl
      have z1 := Q.2.1 1 _ rfl
      have z2 := Q.2.1 2 _ rfl
      have z3 := Q.2.1 3 _ rfl
      have f0 := Q.2.2 0
      have f1 := Q.2.2 1
      have f2 := Q.2.2 2
      have f3 := Q.2.2 3
      have XQ : Ext w ((((u6.setCell ⟨qb, 0, none⟩ (.int .i64 S.at_)).setCell ⟨qb, 1, none⟩ (.slice a1 S.op.length c1)).setCell ⟨qb, 2, none⟩ (.slice a2 S.sh.length c2)).setCell ⟨qb, 3, none⟩ (.slice a3 S.si.length c3)) := ((((X.setCell (by dsimp only; omega) _).setCell (by dsimp only; omega) _).setCell (by dsimp only; omega) _).setCell (by dsimp only; omega) _)
      have QQ := ((((Q.set 0 (.int .i64 S.at_) (by simp)).set 1 (.slice a1 S.op.length c1) (by simp)).set 2 (.slice a2 S.sh.length c2) (by simp)).set 3 (.slice a3 S.si.length c3) (by simp))
      have PQ := ((((P.far (c := qb) (by omega) 0 (.int .i64 S.at_)).far (c := qb) (by omega) 1 (.slice a1 S.op.length c1)).far (c := qb) (by omega) 2 (.slice a2 S.sh.length c2)).far (c := qb) (by omega) 3 (.slice a3 S.si.length c3))
      have RQ := ((((R.far (c := qb) (by omega) 0 (.int .i64 S.at_)).far (c := qb) (by omega) 1 (.slice a1 S.op.length c1)).far (c := qb) (by omega) 2 (.slice a2 S.sh.length c2)).far (c := qb) (by omega) 3 (.slice a3 S.si.length c3))
      have SQ := ((((SO.far B1 B2 B3 0 (.int .i64 S.at_)).far B1 B2 B3 1 (.slice a1 S.op.length c1)).far B1 B2 B3 2 (.slice a2 S.sh.length c2)).far B1 B2 B3 3 (.slice a3 S.si.length c3))
      clear HST
      (refine wpAnyH_ready (rs := [12]) (by kernel_rfl) (by simp) ?_; refine AllReadyH.cons rfl (fun K hK => ?_) AllReadyH.nil; (try simp only [zk1, zk2, zk3]))
      go_simp
      clear z0 z1 z2 z3 f0 f1 f2 f3
      replace P := PQ
      replace Q := QQ
      replace R := RQ
      replace SO := SQ
      replace X := XQ
      clear PQ QQ RQ SQ XQ
      generalize (((u6.setCell ⟨qb, 0, none⟩ (.int .i64 S.at_)).setCell ⟨qb, 1, none⟩ (.slice a1 S.op.length c1)).setCell ⟨qb, 2, none⟩ (.slice a2 S.sh.length c2)).setCell ⟨qb, 3, none⟩ (.slice a3 S.si.length c3) = W6 at *
      (try dsimp only)
      refine hK.out _ _ (by exact ⟨P.2.1 0 _ rfl, P.2.1 1 _ rfl, P.2.1 2 _ rfl, P.2.1 3 _ rfl⟩) (fun hHeld => ?_)
      clear hK K
      (refine wpAnyH_take (i := 13) (v := ?_) rfl (by kernel_rfl) (by kernel_rfl) (by kernel_rfl) (fun _ _ _ h => h) (Or.inl ⟨by rfl, ?_⟩) (by assumption) ?_; rotate_left; focus (intro w hSw; (try dsimp only at hSw); (try simp only [zk1, zk2, zk3]); go_simp; try with_reducible rfl)); (try simp only [zk1, zk2, zk3]); (try simp only [Act.put, zk4, zk5, zk6])
      refine wpAnyH_done (by kernel_rfl) ?_ _
      cases ok
      · have hz := HZ.out rfl
        clear HZ
        subst hz
        have z0 := R.2.1 0 _ rfl
        have z1 := R.2.1 1 _ rfl
        have z2 := R.2.1 2 _ rfl
        have z3 := R.2.1 3 _ rfl
        have z4 := R.2.1 4 _ rfl
        have z5 := R.2.1 5 _ rfl
        have z6 := R.2.1 6 _ rfl
        have z7 := R.2.1 7 _ rfl
        have f0 := R.2.2 0
        have f1 := R.2.2 1
        have f2 := R.2.2 2
        have f3 := R.2.2 3
        have f4 := R.2.2 4
        have f5 := R.2.2 5
        have f6 := R.2.2 6
        have f7 := R.2.2 7
        have XF : Ext w ((((((((W6.setCell ⟨w.heap.size + 1, 0, none⟩ (.int .i64 0)).setCell ⟨w.heap.size + 1, 1, none⟩ (.int .i64 0)).setCell ⟨w.heap.size + 1, 2, none⟩ (.string ⟨#[]⟩)).setCell ⟨w.heap.size + 1, 3, none⟩ (.string ⟨#[]⟩)).setCell ⟨w.heap.size + 1, 4, none⟩ (.int .i64 0)).setCell ⟨w.heap.size + 1, 5, none⟩ (.slice none 0 0)).setCell ⟨w.heap.size + 1, 6, none⟩ (.slice none 0 0)).setCell ⟨w.heap.size + 1, 7, none⟩ (.slice none 0 0)) := ((((((((X.setCell (by dsimp only; omega) _).setCell (by dsimp only; omega) _).setCell (by dsimp only; omega) _).setCell (by dsimp only; omega) _).setCell (by dsimp only; omega) _).setCell (by dsimp only; omega) _).setCell (by dsimp only; omega) _).setCell (by dsimp only; omega) _)
        have RF := ((((((((R.set 0 (.int .i64 0) (by simp)).set 1 (.int .i64 0) (by simp)).set 2 (.string ⟨#[]⟩) (by simp)).set 3 (.string ⟨#[]⟩) (by simp)).set 4 (.int .i64 0) (by simp)).set 5 (.slice none 0 0) (by simp)).set 6 (.slice none 0 0) (by simp)).set 7 (.slice none 0 0) (by simp))
        skip
        go_wp2
        generalize (((((((W6.setCell ⟨w.heap.size + 1, 0, none⟩ (.int .i64 0)).setCell ⟨w.heap.size + 1, 1, none⟩ (.int .i64 0)).setCell ⟨w.heap.size + 1, 2, none⟩ (.string ⟨#[]⟩)).setCell ⟨w.heap.size + 1, 3, none⟩ (.string ⟨#[]⟩)).setCell ⟨w.heap.size + 1, 4, none⟩ (.int .i64 0)).setCell ⟨w.heap.size + 1, 5, none⟩ (.slice none 0 0)).setCell ⟨w.heap.size + 1, 6, none⟩ (.slice none 0 0)).setCell ⟨w.heap.size + 1, 7, none⟩ (.slice none 0 0) = WF at *
        have k0 := RF.2.1 0 _ rfl
        have k1 := RF.2.1 1 _ rfl
        have k2 := RF.2.1 2 _ rfl
        have k3 := RF.2.1 3 _ rfl
        have k4 := RF.2.1 4 _ rfl
        have k5 := RF.2.1 5 _ rfl
        have k6 := RF.2.1 6 _ rfl
        have k7 := RF.2.1 7 _ rfl
        refine bodyPost_ret (v := .tuple #[.agg #[.int .i64 0, .int .i64 0, .string ⟨#[]⟩, .string ⟨#[]⟩, .int .i64 0, .slice none 0 0, .slice none 0 0, .slice none 0 0], .bool false]) (by simp [results, Tryz.results6, go_sem, k0, k1, k2, k3, k4, k5, k6, k7]) rfl ?_
        rw [HSA.out, HTX.out, HS.out, HO.out]
        exact ⟨none, 0, none, 0, none, 0, rfl, sigOwn_nil _ _, XF⟩
      · have p0 := P.2.1 0 _ rfl
        have p1 := P.2.1 1 _ rfl
        have p2 := P.2.1 2 _ rfl
        have p3 := P.2.1 3 _ rfl
        have q0 := Q.2.1 0 _ rfl
        have q1 := Q.2.1 1 _ rfl
        have q2 := Q.2.1 2 _ rfl
        have q3 := Q.2.1 3 _ rfl
        have z0 := R.2.1 0 _ rfl
        have z1 := R.2.1 1 _ rfl
        have z2 := R.2.1 2 _ rfl
        have z3 := R.2.1 3 _ rfl
        have z4 := R.2.1 4 _ rfl
        have z5 := R.2.1 5 _ rfl
        have z6 := R.2.1 6 _ rfl
        have z7 := R.2.1 7 _ rfl
        have f0 := R.2.2 0
        have f1 := R.2.2 1
        have f2 := R.2.2 2
        have f3 := R.2.2 3
        have f4 := R.2.2 4
        have f5 := R.2.2 5
        have f6 := R.2.2 6
        have f7 := R.2.2 7
        have XF : Ext w ((((((((W6.setCell ⟨w.heap.size + 1, 0, none⟩ (.int .i64 h)).setCell ⟨w.heap.size + 1, 1, none⟩ (.int .i64 ep)).setCell ⟨w.heap.size + 1, 2, none⟩ (.string r)).setCell ⟨w.heap.size + 1, 3, none⟩ (.string p)).setCell ⟨w.heap.size + 1, 4, none⟩ (.int .i64 S.at_)).setCell ⟨w.heap.size + 1, 5, none⟩ (.slice a1 S.op.length c1)).setCell ⟨w.heap.size + 1, 6, none⟩ (.slice a2 S.sh.length c2)).setCell ⟨w.heap.size + 1, 7, none⟩ (.slice a3 S.si.length c3)) := ((((((((X.setCell (by dsimp only; omega) _).setCell (by dsimp only; omega) _).setCell (by dsimp only; omega) _).setCell (by dsimp only; omega) _).setCell (by dsimp only; omega) _).setCell (by dsimp only; omega) _).setCell (by dsimp only; omega) _).setCell (by dsimp only; omega) _)
        have RF := ((((((((R.set 0 (.int .i64 h) (by simp)).set 1 (.int .i64 ep) (by simp)).set 2 (.string r) (by simp)).set 3 (.string p) (by simp)).set 4 (.int .i64 S.at_) (by simp)).set 5 (.slice a1 S.op.length c1) (by simp)).set 6 (.slice a2 S.sh.length c2) (by simp)).set 7 (.slice a3 S.si.length c3) (by simp))
        have SF := (((((((SO.set (b := w.heap.size + 1) (by omega) 0 (.int .i64 h)).set (b := w.heap.size + 1) (by omega) 1 (.int .i64 ep)).set (b := w.heap.size + 1) (by omega) 2 (.string r)).set (b := w.heap.size + 1) (by omega) 3 (.string p)).set (b := w.heap.size + 1) (by omega) 4 (.int .i64 S.at_)).set (b := w.heap.size + 1) (by omega) 5 (.slice a1 S.op.length c1)).set (b := w.heap.size + 1) (by omega) 6 (.slice a2 S.sh.length c2)).set (b := w.heap.size + 1) (by omega) 7 (.slice a3 S.si.length c3)
        go_wp2
        generalize (((((((W6.setCell ⟨w.heap.size + 1, 0, none⟩ (.int .i64 h)).setCell ⟨w.heap.size + 1, 1, none⟩ (.int .i64 ep)).setCell ⟨w.heap.size + 1, 2, none⟩ (.string r)).setCell ⟨w.heap.size + 1, 3, none⟩ (.string p)).setCell ⟨w.heap.size + 1, 4, none⟩ (.int .i64 S.at_)).setCell ⟨w.heap.size + 1, 5, none⟩ (.slice a1 S.op.length c1)).setCell ⟨w.heap.size + 1, 6, none⟩ (.slice a2 S.sh.length c2)).setCell ⟨w.heap.size + 1, 7, none⟩ (.slice a3 S.si.length c3) = WF at *
        have k0 := RF.2.1 0 _ rfl
        have k1 := RF.2.1 1 _ rfl
        have k2 := RF.2.1 2 _ rfl
        have k3 := RF.2.1 3 _ rfl
        have k4 := RF.2.1 4 _ rfl
        have k5 := RF.2.1 5 _ rfl
        have k6 := RF.2.1 6 _ rfl
        have k7 := RF.2.1 7 _ rfl
        refine bodyPost_ret (v := .tuple #[.agg #[.int .i64 h, .int .i64 ep, .string r, .string p, .int .i64 S.at_, .slice a1 S.op.length c1, .slice a2 S.sh.length c2, .slice a3 S.si.length c3], .bool true]) (by simp [results, Tryz.results6, go_sem, k0, k1, k2, k3, k4, k5, k6, k7]) rfl ?_
        rw [HSA.out, HTX.out, HS.out, HO.out]
        exact ⟨a1, c1, a2, c2, a3, c3, rfl, SF.mono (by omega), XF⟩
end Go.Proofs.YtkphipgfcbckcaaGreatDoor

namespace Go.Proofs.YtkphipgfcbckcaaGreatDoor
open Go.RowKit

set_option maxRecDepth 100000 in
set_option maxHeartbeats 3200000 in
theorem spec_SigOk (root text : ByteArray) (v1 v2 v3 : Value) (s : SigV) (w : World) (h1 : Strs w v1 s.op) (h2 : Strs w v2 s.sh) (h3 : Strs w v3 s.si) (hs : SigFit s) (ht : text.size ≤ maxLen) :
    Calls Tryz.prog 46 #[.string root, .string text, .agg #[.int .i64 s.at_, v1, v2, v3]] w fun e w' => e = .returned (.bool (sigOkB root text s)) ∧ Ext w w' := by
  obtain ⟨a1, c1, rfl⟩ := h1.form
  obtain ⟨a2, c2, rfl⟩ := h2.form
  obtain ⟨a3, c3, rfl⟩ := h3.form
  unfold maxLen at ht
  by_cases hw : sigWell s = true
  case neg =>
    have hw' : sigWell s = false := by simpa using hw
    have R := Lib.hid (sigOk_no1 (root := root) (text := text) hw')
    have HW := Lib.hid hw'
    clear hw hw'
    go_enter Tryz.func46, Tryz.ntmps46
    go_wp2_with fail
    refine (spec_l05Form _ _ _ s _ (h1.ext (by repeat (first | (with_reducible first | exact Ext.refl _ | assumption | apply Ext.alloc | apply Ext.drew | apply Ext.drewN | refine Ext.setCell ?_ ?_ _ | refine Ext.trans ?_ (by assumption)) | (show _ ≤ _; first | omega | (dsimp only; omega) | (simp; done) | (simp; omega))))) (h2.ext (by repeat (first | (with_reducible first | exact Ext.refl _ | assumption | apply Ext.alloc | apply Ext.drew | apply Ext.drewN | refine Ext.setCell ?_ ?_ _ | refine Ext.trans ?_ (by assumption)) | (show _ ≤ _; first | omega | (dsimp only; omega) | (simp; done) | (simp; omega))))) (h3.ext (by repeat (first | (with_reducible first | exact Ext.refl _ | assumption | apply Ext.alloc | apply Ext.drew | apply Ext.drewN | refine Ext.setCell ?_ ?_ _ | refine Ext.trans ?_ (by assumption)) | (show _ ≤ _; first | omega | (dsimp only; omega) | (simp; done) | (simp; omega))))) hs).mono ?_
    rw [HW.out]
    rintro e w1 ⟨rfl, x1⟩
    go_wp2
    go_ret
    exact ⟨ret_bool R.out.symm, (by repeat (first | (with_reducible first | exact Ext.refl _ | assumption | apply Ext.alloc | apply Ext.drew | apply Ext.drewN | refine Ext.setCell ?_ ?_ _ | refine Ext.trans ?_ (by assumption)) | (show _ ≤ _; first | omega | (dsimp only; omega) | (simp; done) | (simp; omega))))⟩
  by_cases h200 : text.size ≤ 200
  case neg =>
    have R := Lib.hid (sigOk_no2 (root := root) (text := text) (s := s) h200)
    have HW := Lib.hid hw
    have hgt : (200 : Int) < text.size := by omega
    clear hw h200
    go_enter Tryz.func46, Tryz.ntmps46
    go_wp2_with fail
    refine (spec_l05Form _ _ _ s _ (h1.ext (by repeat (first | (with_reducible first | exact Ext.refl _ | assumption | apply Ext.alloc | apply Ext.drew | apply Ext.drewN | refine Ext.setCell ?_ ?_ _ | refine Ext.trans ?_ (by assumption)) | (show _ ≤ _; first | omega | (dsimp only; omega) | (simp; done) | (simp; omega))))) (h2.ext (by repeat (first | (with_reducible first | exact Ext.refl _ | assumption | apply Ext.alloc | apply Ext.drew | apply Ext.drewN | refine Ext.setCell ?_ ?_ _ | refine Ext.trans ?_ (by assumption)) | (show _ ≤ _; first | omega | (dsimp only; omega) | (simp; done) | (simp; omega))))) (h3.ext (by repeat (first | (with_reducible first | exact Ext.refl _ | assumption | apply Ext.alloc | apply Ext.drew | apply Ext.drewN | refine Ext.setCell ?_ ?_ _ | refine Ext.trans ?_ (by assumption)) | (show _ ≤ _; first | omega | (dsimp only; omega) | (simp; done) | (simp; omega))))) hs).mono ?_
    rw [HW.out]
    rintro e w1 ⟨rfl, x1⟩
    go_wp2
    go_ret
    exact ⟨ret_bool R.out.symm, (by repeat (first | (with_reducible first | exact Ext.refl _ | assumption | apply Ext.alloc | apply Ext.drew | apply Ext.drewN | refine Ext.setCell ?_ ?_ _ | refine Ext.trans ?_ (by assumption)) | (show _ ≤ _; first | omega | (dsimp only; omega) | (simp; done) | (simp; omega))))⟩
  obtain ⟨i0, hi, hz0, hz1, hz2⟩ := info_parts infoString
  have R := Lib.hid (sigOk_yes (root := root) hw h200)
  obtain ⟨⟨g1, g2⟩, ⟨n1, -⟩, ⟨n2, -⟩, n3, -⟩ := sigWell_true hw
  obtain ⟨k1, k2, k3⟩ := sigWell_wide hw
  have f1 := wide16_32 k1
  have f2 := wide16_32 k2
  have f3 := wide16_32 k3
  obtain ⟨b1, o1, rfl, l1, e1⟩ := str_cell h1 (by omega)
  obtain ⟨b2, o2, rfl, l2, e2⟩ := str_cell h2 (by omega)
  obtain ⟨b3, o3, rfl, l3, e3⟩ := str_cell h3 (by omega)
  rw [n1] at e1
  rw [n2] at e2
  obtain ⟨a, ha⟩ := Int.eq_ofNat_of_zero_le g1
  have ha15 : a < 16 := by omega
  have RT := Lib.hid (show sgRoot text s = sgSt (tagH 6 (lkL (sgIdx text) s 8) 16) a s.si s.si.length by rw [sgRoot, ha, Int.toNat_natCast])
  have HA := Lib.hid ha
  have HW := Lib.hid hw
  have E1 := Lib.hid e1
  have E2 := Lib.hid e2
  have E3 := Lib.hid e3
  have F1 := Lib.hid f1
  have F2 := Lib.hid f2
  have F3 := Lib.hid f3
  have hle : ¬ (200 : Int) < text.size := by omega
  have hn1 : (8 : Int) ≤ s.op.length := by omega
  have hn2 : (8 : Int) ≤ s.sh.length := by omega
  have H200 := Lib.hid h200
  have hn3 : s.si.length ≤ 4 := by omega
  clear hw h200 e1 e2 e3 f1 f2 f3 k1 k2 k3 ha n1 n2 n3
  go_enter Tryz.func46, Tryz.ntmps46
  go_wp2_with fail
  refine (spec_l05Form _ _ _ s _ (h1.ext (by repeat (first | (with_reducible first | exact Ext.refl _ | assumption | apply Ext.alloc | apply Ext.drew | apply Ext.drewN | refine Ext.setCell ?_ ?_ _ | refine Ext.trans ?_ (by assumption)) | (show _ ≤ _; first | omega | (dsimp only; omega) | (simp; done) | (simp; omega))))) (h2.ext (by repeat (first | (with_reducible first | exact Ext.refl _ | assumption | apply Ext.alloc | apply Ext.drew | apply Ext.drewN | refine Ext.setCell ?_ ?_ _ | refine Ext.trans ?_ (by assumption)) | (show _ ≤ _; first | omega | (dsimp only; omega) | (simp; done) | (simp; omega))))) (h3.ext (by repeat (first | (with_reducible first | exact Ext.refl _ | assumption | apply Ext.alloc | apply Ext.drew | apply Ext.drewN | refine Ext.setCell ?_ ?_ _ | refine Ext.trans ?_ (by assumption)) | (show _ ≤ _; first | omega | (dsimp only; omega) | (simp; done) | (simp; omega))))) hs).mono ?_
  rw [HW.out]
  rintro e w1 ⟨rfl, x1⟩
  have E_x1 := Old.of x1; (repeat (first | (replace E_x1 := Old.undrew E_x1) | (replace E_x1 := Old.undrewN E_x1))); have c_E_x1 := Old.cell E_x1; have f_E_x1 := Old.frozen E_x1; have z_E_x1 := Old.size E_x1; try simp only [World.size_alloc] at c_E_x1 f_E_x1 z_E_x1; try have l_E_x1 := Nat.lt_of_succ_le z_E_x1; try have m_E_x1 := Nat.lt_of_succ_lt l_E_x1; try have n_E_x1 := Nat.lt_of_succ_lt m_E_x1
  have p0 := c_E_x1 (w.heap.size) 0 (by omega); simp [go_sem] at p0; have p1 := c_E_x1 (w.heap.size) 1 (by omega); simp [go_sem] at p1; have p2 := c_E_x1 (w.heap.size) 2 (by omega); simp [go_sem] at p2; have p3 := c_E_x1 (w.heap.size) 3 (by omega); simp [go_sem] at p3
  have lw := l_E_x1
  have xw1 : Ext w w1 := (by repeat (first | (with_reducible first | exact Ext.refl _ | assumption | apply Ext.alloc | apply Ext.drew | apply Ext.drewN | refine Ext.setCell ?_ ?_ _ | refine Ext.trans ?_ (by assumption)) | (show _ ≤ _; first | omega | (dsimp only; omega) | (simp; done) | (simp; omega))))
  clear c_E_x1 f_E_x1
  go_wp2_with fail
  refine (spec_SignBitsOf text _ H200.out).mono ?_
  rintro e w2 ⟨rfl, x2⟩
  have y2 : Ext w1 w2 := (by repeat (first | (with_reducible first | exact Ext.refl _ | assumption | apply Ext.alloc | apply Ext.drew | apply Ext.drewN | refine Ext.setCell ?_ ?_ _ | refine Ext.trans ?_ (by assumption)) | (show _ ≤ _; first | omega | (dsimp only; omega) | (simp; done) | (simp; omega))))
  generalize sgIdx text = idx at *
  have z2 := y2.size
  go_wp2
  go_loopw [8, 9] (fun v i wr => ∃ j : Nat, j ≤ 8 ∧ i = .int .i64 j ∧ wr.ownsRow w1.heap.size 9 1 v (j * 2) ((lkL idx s j).map Value.string) ∧ Ext w1 wr) (fun _ i _ => 8 - (intOf i).toNat)
  case atStart => exact ⟨0, by omega, rfl, World.ownsRow_lit w2 #[] 0 z2 (Nat.zero_le _) rfl, (by repeat (first | (with_reducible first | exact Ext.refl _ | assumption | apply Ext.alloc | apply Ext.drew | apply Ext.drewN | refine Ext.setCell ?_ ?_ _ | refine Ext.trans ?_ (by assumption)) | (show _ ≤ _; first | omega | (dsimp only; omega) | (simp; done) | (simp; omega))))⟩
  case round =>
    obtain ⟨j, hj, rfl, hown, hx⟩ := hrel
    obtain ⟨oa, oc, rfl⟩ := own_any hown
    have hsz := hx.size
    have xw : Ext w wr := xw1.trans hx
    have q0 := (hx.cell _ _ lw).trans p0
    have q1 := (hx.cell _ _ lw).trans p1
    have q2 := (hx.cell _ _ lw).trans p2
    have q3 := (hx.cell _ _ lw).trans p3
    have lr : w.heap.size < wr.heap.size := Nat.lt_of_lt_of_le lw hsz
    by_cases hlt : j < 8
    · have c1 := (xw.cell _ _ l1).trans (E1.out j hlt)
      have c2 := (xw.cell _ _ l2).trans (E2.out j hlt)
      have lb2 : b2 < wr.heap.size := Nat.lt_of_lt_of_le l2 xw.size
      have hi0 : (0 : Int) ≤ (j : Int) := by omega
      have hi1 : (j : Int) < (s.op.length : Int) := by omega
      have hi2 : (j : Int) < (s.sh.length : Int) := by omega
      have hj8 : (j : Int) < 8 := by omega
      have zo := le_max (getD_le F1.out j) (by omega)
      have HU := Lib.hid (lkL_succ idx s j)
      have HL0 := Lib.hid (fun h => lkPair_0 (idx := idx) (s := s) (j := j) h)
      have HL1 := Lib.hid (fun h => lkPair_1 (idx := idx) (s := s) (j := j) h)
      have HO := Lib.hid hown
      clear hown
      generalize s.op.getD j ⟨#[]⟩ = o at *
      generalize s.sh.getD j ⟨#[]⟩ = y at *
      go_wp2_with fail
      refine (spec_LockOf o _ zo).mono ?_
      generalize lkH o = lk at *
      rintro e w3 ⟨rfl, x3⟩
      have y3 : Ext wr w3 := (by repeat (first | (with_reducible first | exact Ext.refl _ | assumption | apply Ext.alloc | apply Ext.drew | apply Ext.drewN | refine Ext.setCell ?_ ?_ _ | refine Ext.trans ?_ (by assumption)) | (show _ ≤ _; first | omega | (dsimp only; omega) | (simp; done) | (simp; omega))))
      have z3 := y3.size
      have r2 := (y3.cell _ _ lr).trans q2
      have d2 := (y3.cell _ _ lb2).trans c2
      have o3' := own_ext HO.out y3
      go_wp2_with fail
      refine (spec_BitOf idx j _).mono ?_
      rcases bitT_two idx j with hb | hb
      · have HP := Lib.hid (HU.out.trans (by rw [HL0.out hb]))
        rw [hb]
        rintro e w' ⟨rfl, rfl⟩
        have own2 := World.ownsRow.alloc o3' (Obj.cells #[Value.string lk, Value.string y] 9)
        clear hb o3'
        go_wp2_with (at_builtin; refine wpList_append_own _ rfl (.tmp 39) (.tmp 46) 24 rfl w1.heap.size 9 i0 (.string ⟨#[]⟩) 1 16 Tryz.underlying24 hi hz0 hz1 hz2 rfl (by decide) _ _ _ rfl own2 ⟨w3.heap.size, 0, none⟩ 2 2 [.string lk, .string y] rfl rfl ?c1 ?c2 ?c3 ?c4 ?c5 ?_)
        case c1 => exact World.news_of_block (heap_alloc_new w3 (Obj.cells #[Value.string lk, Value.string y] 9))
        case c2 => intro u hu; simp at hu; rcases hu with rfl | rfl <;> rfl
        case c3 => unfold maxLen; omega
        case c4 => omega
        case c5 => simp; omega
        intro v' w4 own4 hgrow _
        have hx4 : Ext w1 w4 := own_ext_of ((hx.trans y3).alloc _) own2 hgrow (Nat.le_refl _)
        obtain ⟨a', c', rfl⟩ := own_any own4
        have HO4 := Lib.hid own4
        clear own4 hgrow own2
        go_wp2
        go_roundw
        case rel => exact ⟨j + 1, by omega, by go_num, by rw [HP.out, List.map_append, Nat.succ_mul]; exact HO4.out, hx4⟩
        case measure => simp [intOf]; omega
      · have HP := Lib.hid (HU.out.trans (by rw [HL1.out hb]))
        rw [hb]
        rintro e w' ⟨rfl, rfl⟩
        have own2 := World.ownsRow.alloc o3' (Obj.cells #[Value.string y, Value.string lk] 9)
        clear hb o3'
        go_wp2_with (at_builtin; refine wpList_append_own _ rfl (.tmp 48) (.tmp 55) 24 rfl w1.heap.size 9 i0 (.string ⟨#[]⟩) 1 16 Tryz.underlying24 hi hz0 hz1 hz2 rfl (by decide) _ _ _ rfl own2 ⟨w3.heap.size, 0, none⟩ 2 2 [.string y, .string lk] rfl rfl ?c1 ?c2 ?c3 ?c4 ?c5 ?_)
        case c1 => exact World.news_of_block (heap_alloc_new w3 (Obj.cells #[Value.string y, Value.string lk] 9))
        case c2 => intro u hu; simp at hu; rcases hu with rfl | rfl <;> rfl
        case c3 => unfold maxLen; omega
        case c4 => omega
        case c5 => simp; omega
        intro v' w4 own4 hgrow _
        have hx4 : Ext w1 w4 := own_ext_of ((hx.trans y3).alloc _) own2 hgrow (Nat.le_refl _)
        obtain ⟨a', c', rfl⟩ := own_any own4
        have HO4 := Lib.hid own4
        clear own4 hgrow own2
        go_wp2
        go_roundw
        case rel => exact ⟨j + 1, by omega, by go_num, by rw [HP.out, List.map_append, Nat.succ_mul]; exact HO4.out, hx4⟩
        case measure => simp [intOf]; omega
    · obtain rfl : j = 8 := by omega
      have hst : Strs wr (.slice oa 16 oc) (lkL idx s 8) := by
        have e : (lkL idx s 8).length = 16 := lkL_len idx s 8
        have := Row.of_owns hown
        unfold Strs
        rw [e]
        exact this
      have hfit : ∀ x ∈ lkL idx s 8, x.size ≤ maxLen := fun x hx => le_max (lkL_fit idx s F2.out 8 x hx) (by omega)
      clear hown
      go_wp2_with fail
      refine (spec_TagHash 6 _ (lkL idx s 8) 16 _ hst hfit).mono ?_
      have hH := tagH_le 6 (lkL idx s 8) 16
      generalize tagH 6 (lkL idx s 8) 16 = H at *
      rintro e w5 ⟨rfl, x5⟩
      have y5 : Ext wr w5 := (by repeat (first | (with_reducible first | exact Ext.refl _ | assumption | apply Ext.alloc | apply Ext.drew | apply Ext.drewN | refine Ext.setCell ?_ ?_ _ | refine Ext.trans ?_ (by assumption)) | (show _ ≤ _; first | omega | (dsimp only; omega) | (simp; done) | (simp; omega))))
      have y15 : Ext w1 w5 := hx.trans y5
      have r0 := (y5.cell _ _ lr).trans q0
      have r3 := (y5.cell _ _ lr).trans q3
      rw [HA.out] at r0
      have lr5 : w.heap.size < w5.heap.size := Nat.lt_of_lt_of_le lr y5.size
      have xw5 : Ext w w5 := xw.trans y5
      clear hst hfit q0 q1 q2 q3 p0 p1 p2
      generalize wr = W4 at *
      go_wp2
      go_loopw [11, 12, 13] (fun hv kv iv wr => ∃ j : Nat, j ≤ s.si.length ∧ iv = .int .i64 j ∧ kv = .int .i64 ((a / 2 ^ j : Nat) : Int) ∧ hv = .string (sgSt H a s.si j) ∧ Ext w5 wr) (fun _ _ iv _ => s.si.length - (intOf iv).toNat)
      case atStart => exact ⟨0, Nat.zero_le _, rfl, by simp, rfl, Ext.refl _⟩
      case round =>
        obtain ⟨j, hj, rfl, rfl, rfl, hx6⟩ := hrel
        have m3 := (hx6.cell _ _ lr5).trans r3
        have lr6 : w.heap.size < wr.heap.size := Nat.lt_of_lt_of_le lr5 hx6.size
        have xw6 : Ext w wr := xw5.trans hx6
        by_cases hlt : j < s.si.length
        · have hb16 : a / 2 ^ j < 16 := Nat.lt_of_le_of_lt (Nat.div_le_self _ _) ha15
          have hm := half_all ⟨a / 2 ^ j, hb16⟩
          dsimp only at hm
          have HS := Lib.hid (show sgSt H a s.si (j + 1) = tagH 3 (sgPair (a / 2 ^ j % 2) (sgSt H a s.si j) (s.si.getD j ⟨#[]⟩)) 16 from rfl)
          have HD := Lib.hid (show a / 2 ^ (j + 1) = a / 2 ^ j / 2 by rw [Nat.pow_succ, Nat.div_div_eq_div_mul])
          have d3 := (xw6.cell _ _ l3).trans (E3.out j hlt)
          have lb3 : b3 < wr.heap.size := Nat.lt_of_lt_of_le l3 xw6.size
          have z1 := le_max (sgSt_le H a s.si hH j) (by omega)
          have z2 := le_max (getD_le F3.out j) (by omega)
          have hi0 : (0 : Int) ≤ (j : Int) := by omega
          have hi1 : (j : Int) < (s.si.length : Int) := by omega
          generalize a / 2 ^ j = b at *
          generalize sgSt H a s.si j = h0 at *
          generalize s.si.getD j ⟨#[]⟩ = y at *
          have hd := hm.2
          rcases (by omega : b % 2 = 0 ∨ b % 2 = 1) with hb | hb
          · have HB := Lib.hid hb
            have hr : ((b : Nat) : Int).tmod 2 = 0 := by rw [hm.1, hb]; rfl
            clear hb hm
            go_wp2_with fail
            refine (spec_TagHash 3 _ [h0, y] 16 _ (by exact strs_lit2 _ _ _ _) (fit2 z1 z2)).mono ?_
            rintro e w6 ⟨rfl, x6⟩
            go_wp2
            go_roundw
            case rel => exact ⟨j + 1, by omega, by go_num, by rw [HD.out]; simp, by rw [HS.out, HB.out]; rfl, (by repeat (first | (with_reducible first | exact Ext.refl _ | assumption | apply Ext.alloc | apply Ext.drew | apply Ext.drewN | refine Ext.setCell ?_ ?_ _ | refine Ext.trans ?_ (by assumption)) | (show _ ≤ _; first | omega | (dsimp only; omega) | (simp; done) | (simp; omega))))⟩
            case measure => simp [intOf]; omega
          · have HB := Lib.hid hb
            have hr : ((b : Nat) : Int).tmod 2 = 1 := by rw [hm.1, hb]; rfl
            clear hb hm
            go_wp2_with fail
            refine (spec_TagHash 3 _ [y, h0] 16 _ (by exact strs_lit2 _ _ _ _) (fit2 z2 z1)).mono ?_
            rintro e w6 ⟨rfl, x6⟩
            go_wp2
            go_roundw
            case rel => exact ⟨j + 1, by omega, by go_num, by rw [HD.out]; simp, by rw [HS.out, HB.out]; rfl, (by repeat (first | (with_reducible first | exact Ext.refl _ | assumption | apply Ext.alloc | apply Ext.drew | apply Ext.drewN | refine Ext.setCell ?_ ?_ _ | refine Ext.trans ?_ (by assumption)) | (show _ ≤ _; first | omega | (dsimp only; omega) | (simp; done) | (simp; omega))))⟩
            case measure => simp [intOf]; omega
        · obtain rfl : j = s.si.length := by omega
          have RF := Lib.hid (R.out.trans (by rw [RT.out]))
          generalize sgSt H a s.si s.si.length = h0 at *
          go_wp2
          go_ret
          exact ⟨ret_bool (by rw [RF.out, toList_beq]), (by repeat (first | (with_reducible first | exact Ext.refl _ | assumption | apply Ext.alloc | apply Ext.drew | apply Ext.drewN | refine Ext.setCell ?_ ?_ _ | refine Ext.trans ?_ (by assumption)) | (show _ ≤ _; first | omega | (dsimp only; omega) | (simp; done) | (simp; omega))))⟩
end Go.Proofs.YtkphipgfcbckcaaGreatDoor

namespace Go.Proofs.YtkphipgfcbckcaaGreatDoor
open Go.RowKit

set_option maxRecDepth 100000 in
set_option maxHeartbeats 1600000 in
theorem impl_add (kind : Int) (v : Value) (ps : List ByteArray) (B base : Nat) (oa : Option Addr) (oc : Nat) (L : List ByteArray) (w : World) (hps : Strs w v ps) (hfit : ∀ s ∈ ps, s.size ≤ maxLen) (hB : B < w.heap.size) (hBb : B < base) (hbs : base ≤ w.heap.size) (hc : w.cell? ⟨B, 0, none⟩ = some (.slice oa L.length oc)) (hf : w.frozen? ⟨B, 0, none⟩ = false)
    (hown : w.ownsRow base 9 1 (.slice oa L.length oc) L.length (L.map Value.string)) (hL : L.length ≤ 1000) (W0 : World) (hT : Tabs W0) (hx0 : Ext W0 w) (h0B : W0.heap.size ≤ B) :
    Calls Tryz.prog 96 #[.int .i64 kind, v, .pointer (some ⟨B, 0, none⟩)] w fun e w' => e = .returned (.string (cutT (tagTx kind ps) 16)) ∧ ∃ (oa' : Option Addr) (oc' : Nat) (wa wb : World), Ext w wa ∧ wa.grownBy wb (Value.slice oa L.length oc).ownBlock ∧ Ext (wb.setCell ⟨B, 0, none⟩ (.slice oa' (L.length + 1) oc')) w' ∧ wb.ownsRow base 9 1 (.slice oa' (L.length + 1) oc') (L.length + 1) ((L ++ [tagTx kind ps]).map Value.string) ∧ ((Value.slice oa' (L.length + 1) oc').ownBlock = (Value.slice oa L.length oc).ownBlock ∨ (Value.slice oa' (L.length + 1) oc').ownBlock = some wa.heap.size) ∧ wb.cell? ⟨B, 0, none⟩ = some (.slice oa L.length oc) ∧ wb.frozen? ⟨B, 0, none⟩ = false ∧ Ext W0 w' := by
  obtain ⟨i0, hi, hz0, hz1, hz2⟩ := info_parts infoString
  have htz := tagTx_size kind ps
  have HO := Lib.hid hown
  have HT := Lib.hid hT
  have HF := Lib.hid hfit
  obtain ⟨pa, pc, rfl⟩ := hps.form
  clear hown hT hfit
  go_enter Tryz.func96, Tryz.ntmps96
  go_wp2_with fail
  refine (impl_TagText kind _ ps _ hps HF.out).mono ?_
  generalize hTg : tagTx kind ps = T at *
  have HTG := Lib.hid hTg
  clear hTg
  rintro e w1 ⟨rfl, x1⟩
  have c1 := (x1.cell _ _ hB).trans hc
  have f1 := (x1.frozen _ 0 hB).trans hf
  have lB : B < w1.heap.size := Nat.lt_of_lt_of_le hB x1.size
  have z1 := x1.size
  have own1 := own_ext HO.out x1
  have own2 := World.ownsRow.alloc own1 (Obj.cells #[Value.string T] 9)
  have y1 : Ext w (w1.alloc (Obj.cells #[Value.string T] 9)) := x1.alloc _
  go_wp2_with (at_builtin; refine wpList_append_own_at _ rfl (.tmp 14) (.tmp 16) 24 rfl base 9 i0 (.string ⟨#[]⟩) 1 16 Tryz.underlying24 hi hz0 hz1 hz2 rfl (by decide) _ _ _ rfl own2 ⟨w1.heap.size, 0, none⟩ 1 1 [.string T] rfl rfl ?c1 ?c2 ?c3 ?c4 ?c5 ?_)
  case c1 => exact news1 _ _ _
  case c2 => exact fun u hu => by rw [List.mem_singleton] at hu; rw [hu]; rfl
  case c3 => unfold maxLen; omega
  case c4 => omega
  case c5 => simp; omega
  intro v' w2 own3 hgrow _ hat
  have lB2 : B < (w1.alloc (Obj.cells #[Value.string T] 9)).heap.size := by rw [World.size_alloc]; omega
  have hne : some B ≠ (Value.slice oa L.length oc).ownBlock := fun e => by have := (own_lt own1 B e.symm).1; omega
  have c2 : w2.cell? ⟨B, 0, none⟩ = some (.slice oa L.length oc) := by
    rw [hgrow.cell_far ⟨B, 0, none⟩ lB2 hne, World.cell?_alloc_past _ _ _ lB]
    exact c1
  have f2 : w2.frozen? ⟨B, 0, none⟩ = false := by
    rw [hgrow.frozen_far ⟨B, 0, none⟩ lB2 hne]
    simpa [go_sem, lB] using f1
  obtain ⟨a', c', rfl⟩ := own_any own3
  have x02 : Ext W0 (w2.setCell ⟨B, 0, none⟩ (.slice a' (L.length + 1) c')) := ((hx0.trans y1).grown hgrow (fun k hk => by have := (own_lt own1 k hk).1; omega)).setCell h0B _
  have X02 := Lib.hid x02
  have HO3 := Lib.hid own3
  have HG := Lib.hid hgrow
  have HAT := Lib.hid hat
  have Y1 := Lib.hid y1
  clear own3 own2 own1 hgrow hat y1 x1 x02 hx0
  go_wp2_with fail
  refine (impl_CutDigest T 16 _ htz (by exact HT.out.ext X02.out)).mono ?_
  rintro e w3 ⟨rfl, x3⟩
  go_wp2
  go_ret
  rw [HTG.out]
  refine ⟨ret_str rfl, a', c', _, w2, Y1.out, HG.out, x3, by rw [List.map_append]; exact HO3.out, ?_, c2, f2, X02.out.trans x3⟩
  rw [World.size_alloc]
  exact HAT.out
end Go.Proofs.YtkphipgfcbckcaaGreatDoor
namespace Go.Proofs.YtkphipgfcbckcaaGreatDoor
open Go.RowKit

/-- what lies in the captured variable, and off another row -/
def Outs (W : World) (B base : Nat) (L : List ByteArray) (lv : Value) : Prop := ∃ (oa : Option Addr) (oc : Nat), W.cell? ⟨B, 0, none⟩ = some (.slice oa L.length oc) ∧ W.frozen? ⟨B, 0, none⟩ = false ∧ B < W.heap.size ∧ base ≤ W.heap.size ∧ W.ownsRow base 9 1 (.slice oa L.length oc) L.length (L.map Value.string) ∧ Off lv (.slice oa L.length oc) ∧ Off (.slice oa L.length oc) lv
theorem Outs.ext {W W' : World} {B base : Nat} {L : List ByteArray} {lv : Value} (h : Outs W B base L lv) (hx : Ext W W') : Outs W' B base L lv := by
  obtain ⟨oa, oc, h1, h2, h3, h4, h5, h6, h7⟩ := h
  exact ⟨oa, oc, (hx.cell _ _ h3).trans h1, (hx.frozen _ _ h3).trans h2, Nat.lt_of_lt_of_le h3 hx.size, Nat.le_trans h4 hx.size, own_ext h5 hx, h6, h7⟩
/-- a text more: what 'add' does, the other row as it was -/
theorem impl_addO (kind : Int) (v : Value) (ps : List ByteArray) (B base : Nat) (L : List ByteArray) (lv : Value) (n : Nat) (ls : List Value) (w : World) (hps : Strs w v ps) (hfit : ∀ s ∈ ps, s.size ≤ maxLen) (hBb : B < base) (h : Outs w B base L lv) (hlv : w.ownsRow base 9 1 lv n ls)
    (hL : L.length ≤ 1000) (W0 : World) (hT : Tabs W0) (hx0 : Ext W0 w) (h0B : W0.heap.size ≤ B) :
    Calls Tryz.prog 96 #[.int .i64 kind, v, .pointer (some ⟨B, 0, none⟩)] w fun e w' => e = .returned (.string (cutT (tagTx kind ps) 16)) ∧ Outs w' B base (L ++ [tagTx kind ps]) lv ∧ w'.ownsRow base 9 1 lv n ls ∧ Ext W0 w' ∧ w.heap.size ≤ w'.heap.size := by
  obtain ⟨oa, oc, h1, h2, h3, h4, h5, h6, h7⟩ := h
  refine (impl_add kind v ps B base oa oc L w hps hfit h3 hBb h4 h1 h2 h5 hL W0 hT hx0 h0B).mono ?_
  rintro e w' ⟨rfl, oa', oc', wa, wb, xa, gb, xb, ob, hat, cb, fb, x0⟩
  have lb : B < wb.heap.size := Nat.lt_of_lt_of_le (Nat.lt_of_lt_of_le h3 xa.size) gb.size
  have hl1 : (L ++ [tagTx kind ps]).length = L.length + 1 := by simp
  have hlva := own_ext hlv xa
  have hlvb : wb.ownsRow base 9 1 lv n ls := own_grown2 hlva gb (fun k hk hv => h6 k hv hk)
  have zs : w.heap.size ≤ w'.heap.size := by
    have z1 := xa.size
    have z2 := gb.size
    have z3 := xb.size
    rw [World.size_setCell] at z3
    omega
  have hbz : ∀ g, lv.ownBlock = some g → g < wa.heap.size := fun g hg => (own_lt hlva g hg).2
  refine ⟨rfl, ⟨oa', oc', ?_, ?_, ?_, ?_, ?_, ?_, ?_⟩, own_ext (own_below hlvb (by dsimp only; exact hBb)) xb, x0, zs⟩
  · rw [hl1, xb.cell _ _ (by rw [World.size_setCell]; exact lb)]
    simp [go_sem, cb]
  · rw [xb.frozen _ _ (by rw [World.size_setCell]; exact lb)]
    simp [go_sem, fb]
  · exact Nat.lt_of_lt_of_le h3 zs
  · exact Nat.le_trans h4 zs
  · rw [hl1]
    exact own_ext (own_below ob (by dsimp only; exact hBb)) xb
  · rw [hl1]
    intro g hg hr
    rcases hat with hat | hat
    · rw [hat] at hr; exact h6 g hg hr
    · rw [hat] at hr
      injection hr with hr
      have := hbz g hg
      omega
  · rw [hl1]
    exact off_next h7 hat hbz
end Go.Proofs.YtkphipgfcbckcaaGreatDoor
