/- StLs, DSl in one text. -/
import Derived.Test.YtliebkhfddmhjaaDoorSgnA
import Derived.Test.YtliebkhfddmhjaaDoorSgLA
import Derived.Test.YtliebkhfddmhjaaDoorDrawH
import Derived.Test.YtliebkhfddmhjaaDoorApp
import Derived.Test.YtliebkhfddmhjaaDoorPool
import Derived.Test.YtliebkhfddmhjaaDoorStTD
namespace Go.Proofs.YtliebkhfddmhjaaDoor
open Go.RowKit

/-- what a signed head is -/
def slV (seed : ByteArray) (pool : List ByteArray) (h ep : Int) (r p : ByteArray) : SigV := if headOk h ep r p = true then sgnV seed pool (sealAt ep) (headH h ep r p) else ⟨0, [], [], []⟩
def slK (seed : ByteArray) (pool : List ByteArray) (h ep : Int) (r p : ByteArray) : Bool := headOk h ep r p && sgnOk seed pool (sealAt ep) (headH h ep r p)
def slI (ok : Bool) (h : Int) : Int := if ok = true then h else 0
def slS (ok : Bool) (r : ByteArray) : ByteArray := if ok = true then r else ⟨#[]⟩
theorem slV_len (seed : ByteArray) (pool : List ByteArray) (h ep : Int) (r p : ByteArray) : (slV seed pool h ep r p).op.length + (slV seed pool h ep r p).sh.length + (slV seed pool h ep r p).si.length ≤ 20 := by
  rw [slV]
  split
  · exact sgnV_len _ _ _ _
  · exact Nat.zero_le _
set_option maxRecDepth 100000 in
set_option maxHeartbeats 6400000 in
theorem spec_SealHead (seed : ByteArray) (v : Value) (pool : List ByteArray) (h ep : Int) (r p : ByteArray) (w : World) (hst : Strs w v pool) (hs : ∀ s ∈ pool, s.size ≤ maxLen) (hsol : Solid v) :
    Calls Tryd.prog 22 #[.string seed, v, .agg #[.int .i64 h, .int .i64 ep, .string r, .string p]] w fun e w' => ∃ a1 c1 a2 c2 a3 c3, e = .returned (.tuple #[.agg #[.int .i64 (slI (slK seed pool h ep r p) h), .int .i64 (slI (slK seed pool h ep r p) ep), .string (slS (slK seed pool h ep r p) r), .string (slS (slK seed pool h ep r p) p), .int .i64 (slV seed pool h ep r p).at_, .slice a1 (slV seed pool h ep r p).op.length c1, .slice a2 (slV seed pool h ep r p).sh.length c2, .slice a3 (slV seed pool h ep r p).si.length c3], .bool (slK seed pool h ep r p)]) ∧ SigOwn w' w.heap.size (.slice a1 (slV seed pool h ep r p).op.length c1) (.slice a2 (slV seed pool h ep r p).sh.length c2) (.slice a3 (slV seed pool h ep r p).si.length c3) (slV seed pool h ep r p) ∧ Ext w w' := by
  obtain ⟨pa, pc, rfl⟩ := hst.form
  have HST := Lib.hid hst
  clear hst
  cases hh : headOk h ep r p
  · have HV := Lib.hid (show slV seed pool h ep r p = ⟨0, [], [], []⟩ by rw [slV, if_neg (by rw [hh]; decide)])
    have HK := Lib.hid (show slK seed pool h ep r p = false by rw [slK, hh]; rfl)
    have HH := Lib.hid hh
    clear hh
    go_enter Tryd.func22, Tryd.ntmps22
    go_wp2_with fail
    have P : Bx ((w.alloc (Obj.cells #[.int .i64 h, .int .i64 ep, .string r, .string p] 32)).alloc (Obj.cells #[.int .i64 0, .int .i64 0, .string ⟨#[]⟩, .string ⟨#[]⟩, .int .i64 0, .slice none 0 0, .slice none 0 0, .slice none 0 0] 39)) w.heap.size [.int .i64 h, .int .i64 ep, .string r, .string p] := (Bx.new w _ _).ext ((Ext.refl _).alloc _)
    have R := Bx.new (w.alloc (Obj.cells #[.int .i64 h, .int .i64 ep, .string r, .string p] 32)) #[.int .i64 0, .int .i64 0, .string ⟨#[]⟩, .string ⟨#[]⟩, .int .i64 0, .slice none 0 0, .slice none 0 0, .slice none 0 0] 39
    rw [World.size_alloc] at R
    have X : Ext w ((w.alloc (Obj.cells #[.int .i64 h, .int .i64 ep, .string r, .string p] 32)).alloc (Obj.cells #[.int .i64 0, .int .i64 0, .string ⟨#[]⟩, .string ⟨#[]⟩, .int .i64 0, .slice none 0 0, .slice none 0 0, .slice none 0 0] 39)) := ((Ext.refl w).alloc _).alloc _
    replace HST := Lib.hid (HST.out.ext X)
    generalize (w.alloc (Obj.cells #[.int .i64 h, .int .i64 ep, .string r, .string p] 32)).alloc (Obj.cells #[.int .i64 0, .int .i64 0, .string ⟨#[]⟩, .string ⟨#[]⟩, .int .i64 0, .slice none 0 0, .slice none 0 0, .slice none 0 0] 39) = W0 at *
    refine (spec_HeadOk _ _ _ _ _).mono ?_
    rw [HH.out]
    rintro e w1 ⟨rfl, x1⟩
    replace P := P.ext x1
    replace R := R.ext x1
    replace HST := Lib.hid (HST.out.ext x1)
    replace X := X.trans x1
    have z0 := R.2.1 0 _ rfl
    have z1 := R.2.1 1 _ rfl
    have z2 := R.2.1 2 _ rfl
    have z3 := R.2.1 3 _ rfl
    have z4 := R.2.1 4 _ rfl
    have z5 := R.2.1 5 _ rfl
    have z6 := R.2.1 6 _ rfl
    have z7 := R.2.1 7 _ rfl
    have f0 := R.2.2 0
    have f1 := R.2.2 1
    have f2 := R.2.2 2
    have f3 := R.2.2 3
    have f4 := R.2.2 4
    have f5 := R.2.2 5
    have f6 := R.2.2 6
    have f7 := R.2.2 7
    have XF : Ext w ((((((((w1.setCell ⟨w.heap.size + 1, 0, none⟩ (.int .i64 0)).setCell ⟨w.heap.size + 1, 1, none⟩ (.int .i64 0)).setCell ⟨w.heap.size + 1, 2, none⟩ (.string ⟨#[]⟩)).setCell ⟨w.heap.size + 1, 3, none⟩ (.string ⟨#[]⟩)).setCell ⟨w.heap.size + 1, 4, none⟩ (.int .i64 0)).setCell ⟨w.heap.size + 1, 5, none⟩ (.slice none 0 0)).setCell ⟨w.heap.size + 1, 6, none⟩ (.slice none 0 0)).setCell ⟨w.heap.size + 1, 7, none⟩ (.slice none 0 0)) := ((((((((X.setCell (by dsimp only; omega) _).setCell (by dsimp only; omega) _).setCell (by dsimp only; omega) _).setCell (by dsimp only; omega) _).setCell (by dsimp only; omega) _).setCell (by dsimp only; omega) _).setCell (by dsimp only; omega) _).setCell (by dsimp only; omega) _)
    have RF := ((((((((R.set 0 (.int .i64 0) (by simp)).set 1 (.int .i64 0) (by simp)).set 2 (.string ⟨#[]⟩) (by simp)).set 3 (.string ⟨#[]⟩) (by simp)).set 4 (.int .i64 0) (by simp)).set 5 (.slice none 0 0) (by simp)).set 6 (.slice none 0 0) (by simp)).set 7 (.slice none 0 0) (by simp))
    go_wp2
    generalize (((((((w1.setCell ⟨w.heap.size + 1, 0, none⟩ (.int .i64 0)).setCell ⟨w.heap.size + 1, 1, none⟩ (.int .i64 0)).setCell ⟨w.heap.size + 1, 2, none⟩ (.string ⟨#[]⟩)).setCell ⟨w.heap.size + 1, 3, none⟩ (.string ⟨#[]⟩)).setCell ⟨w.heap.size + 1, 4, none⟩ (.int .i64 0)).setCell ⟨w.heap.size + 1, 5, none⟩ (.slice none 0 0)).setCell ⟨w.heap.size + 1, 6, none⟩ (.slice none 0 0)).setCell ⟨w.heap.size + 1, 7, none⟩ (.slice none 0 0) = WF at *
    have k0 := RF.2.1 0 _ rfl
    have k1 := RF.2.1 1 _ rfl
    have k2 := RF.2.1 2 _ rfl
    have k3 := RF.2.1 3 _ rfl
    have k4 := RF.2.1 4 _ rfl
    have k5 := RF.2.1 5 _ rfl
    have k6 := RF.2.1 6 _ rfl
    have k7 := RF.2.1 7 _ rfl
    refine bodyPost_ret (v := .tuple #[.agg #[.int .i64 0, .int .i64 0, .string ⟨#[]⟩, .string ⟨#[]⟩, .int .i64 0, .slice none 0 0, .slice none 0 0, .slice none 0 0], .bool false]) (by simp [results, Tryd.results22, go_sem, k0, k1, k2, k3, k4, k5, k6, k7]) rfl ?_
    rw [HV.out, HK.out]
    exact ⟨_, _, _, _, _, _, rfl, sigOwn_nil _ _, XF⟩
  · have HV := Lib.hid (show slV seed pool h ep r p = sgnV seed pool (sealAt ep) (headH h ep r p) by rw [slV, if_pos hh])
    have HK := Lib.hid (show slK seed pool h ep r p = sgnOk seed pool (sealAt ep) (headH h ep r p) by rw [slK, hh]; rfl)
    have HH := Lib.hid hh
    clear hh
    rw [HV.out, HK.out]
    clear HV HK
    go_enter Tryd.func22, Tryd.ntmps22
    go_wp2_with fail
    have P : Bx ((w.alloc (Obj.cells #[.int .i64 h, .int .i64 ep, .string r, .string p] 32)).alloc (Obj.cells #[.int .i64 0, .int .i64 0, .string ⟨#[]⟩, .string ⟨#[]⟩, .int .i64 0, .slice none 0 0, .slice none 0 0, .slice none 0 0] 39)) w.heap.size [.int .i64 h, .int .i64 ep, .string r, .string p] := (Bx.new w _ _).ext ((Ext.refl _).alloc _)
    have R := Bx.new (w.alloc (Obj.cells #[.int .i64 h, .int .i64 ep, .string r, .string p] 32)) #[.int .i64 0, .int .i64 0, .string ⟨#[]⟩, .string ⟨#[]⟩, .int .i64 0, .slice none 0 0, .slice none 0 0, .slice none 0 0] 39
    rw [World.size_alloc] at R
    have X : Ext w ((w.alloc (Obj.cells #[.int .i64 h, .int .i64 ep, .string r, .string p] 32)).alloc (Obj.cells #[.int .i64 0, .int .i64 0, .string ⟨#[]⟩, .string ⟨#[]⟩, .int .i64 0, .slice none 0 0, .slice none 0 0, .slice none 0 0] 39)) := ((Ext.refl w).alloc _).alloc _
    replace HST := Lib.hid (HST.out.ext X)
    generalize (w.alloc (Obj.cells #[.int .i64 h, .int .i64 ep, .string r, .string p] 32)).alloc (Obj.cells #[.int .i64 0, .int .i64 0, .string ⟨#[]⟩, .string ⟨#[]⟩, .int .i64 0, .slice none 0 0, .slice none 0 0, .slice none 0 0] 39) = W0 at *
    refine (spec_HeadOk _ _ _ _ _).mono ?_
    rw [HH.out]
    rintro e w1 ⟨rfl, x1⟩
    replace P := P.ext x1
    replace R := R.ext x1
    replace HST := Lib.hid (HST.out.ext x1)
    replace X := X.trans x1
    have p0 := P.2.1 0 _ rfl
    have p1 := P.2.1 1 _ rfl
    have p2 := P.2.1 2 _ rfl
    have p3 := P.2.1 3 _ rfl
    go_wp2_with fail
    clear p0 p1 p2 p3
    refine wp_region_held_drew (S := (fun W => W.cell? ⟨w.heap.size, 0, none⟩ = some (.int .i64 h) ∧ W.cell? ⟨w.heap.size, 1, none⟩ = some (.int .i64 ep) ∧ W.cell? ⟨w.heap.size, 2, none⟩ = some (.string r) ∧ W.cell? ⟨w.heap.size, 3, none⟩ = some (.string p))) (by kernel_rfl) (by exact ⟨P.2.1 0 _ rfl, P.2.1 1 _ rfl, P.2.1 2 _ rfl, P.2.1 3 _ rfl⟩) (fun hHeld => ?_)
    have xd : Ext w1 w1.drew := (Ext.refl w1).drew
    replace P := P.ext xd
    replace R := R.ext xd
    replace HST := Lib.hid (HST.out.ext xd)
    replace X := X.trans xd
    generalize w1.drew = w2 at *
    have p0 := P.2.1 0 _ rfl
    have p1 := P.2.1 1 _ rfl
    have p2 := P.2.1 2 _ rfl
    have p3 := P.2.1 3 _ rfl
    (refine wpAnyH_take (i := 0) (v := ?_) rfl (by kernel_rfl) (by kernel_rfl) (by kernel_rfl) (fun _ _ _ h => h) (Or.inl ⟨by rfl, ?_⟩) (by assumption) ?_; rotate_left; focus (intro w hSw; (try dsimp only at hSw); (try simp only [zk1, zk2]); go_simp; try with_reducible rfl)); (try simp only [zk1, zk2]); (try simp only [Act.put, zk4, zk5, zk6])
    (refine wpAnyH_take (i := 1) (v := ?_) rfl (by kernel_rfl) (by kernel_rfl) (by kernel_rfl) (fun _ _ _ h => h) (Or.inl ⟨by rfl, ?_⟩) (by assumption) ?_; rotate_left; focus (intro w hSw; (try dsimp only at hSw); (try simp only [zk1, zk2, zk3]); go_simp; try with_reducible rfl)); (try simp only [zk1, zk2, zk3]); (try simp only [Act.put, zk4, zk5, zk6])
    (refine wpAnyH_take (i := 2) (v := ?_) rfl (by kernel_rfl) (by kernel_rfl) (by kernel_rfl) (fun _ _ _ h => h) (Or.inl ⟨by rfl, ?_⟩) (by assumption) ?_; rotate_left; focus (intro w hSw; (try dsimp only at hSw); (try simp only [zk1, zk2, zk3]); go_simp; try with_reducible rfl)); (try simp only [zk1, zk2, zk3]); (try simp only [Act.put, zk4, zk5, zk6])
    (refine wpAnyH_take (i := 3) (v := ?_) rfl (by kernel_rfl) (by kernel_rfl) (by kernel_rfl) (fun _ _ _ h => h) (Or.inl ⟨by rfl, ?_⟩) (by assumption) ?_; rotate_left; focus (intro w hSw; (try dsimp only at hSw); (try simp only [zk1, zk2, zk3]); go_simp; try with_reducible rfl)); (try simp only [zk1, zk2, zk3]); (try simp only [Act.put, zk4, zk5, zk6])
    (refine wpAnyH_take (i := 5) (v := ?_) rfl (by kernel_rfl) (by kernel_rfl) (by kernel_rfl) (fun _ _ _ h => h) (Or.inl ⟨by rfl, ?_⟩) (by assumption) ?_; rotate_left; focus (intro w hSw; (try dsimp only at hSw); (try simp only [zk1, zk2, zk3]); go_simp; try with_reducible rfl)); (try simp only [zk1, zk2, zk3]); (try simp only [Act.put, zk4, zk5, zk6])
    refine wpAnyH_ready (rs := [4, 11]) (by kernel_rfl) (by simp) ?_
    refine AllReadyH.cons rfl (fun K hK => ?_) (AllReadyH.cons rfl (fun K hK => ?_) AllReadyH.nil)
    · (try simp only [zk1, zk2, zk3])
      go_simp
      go_at_call 92
      refine (spec_SealAt ep _).mono ?_
      generalize hsa : sealAt ep = sa at *
      have HSA := Lib.hid hsa
      clear hsa
      rintro e w' ⟨rfl, rfl⟩
      (try dsimp only)
      refine hK.out _ _ (by exact ⟨P.2.1 0 _ rfl, P.2.1 1 _ rfl, P.2.1 2 _ rfl, P.2.1 3 _ rfl⟩) (fun hHeld => ?_)
      clear hK K
      refine wpAnyH_ready (rs := [6, 11]) (by kernel_rfl) (by simp) ?_
      refine AllReadyH.cons rfl (fun K hK => ?_) (AllReadyH.cons rfl (fun K hK => ?_) AllReadyH.nil)
      · (try simp only [zk1, zk2, zk3])
        go_simp
        go_at_call 47
        refine (spec_HeadHash h ep r p _).mono ?_
        generalize htx : headH h ep r p = tx at *
        have HTX := Lib.hid htx
        clear htx
        rintro e u4 ⟨rfl, xh⟩
        (try clear p0 p1 p2 p3)
        replace P := P.ext xh
        replace R := R.ext xh
        replace HST := Lib.hid (HST.out.ext xh)
        replace X := X.trans xh
        (try dsimp only)
        refine hK.out _ _ (by exact ⟨P.2.1 0 _ rfl, P.2.1 1 _ rfl, P.2.1 2 _ rfl, P.2.1 3 _ rfl⟩) (fun hHeld => ?_)
        clear hK K
        refine wpAnyH_ready (rs := [7, 11]) (by kernel_rfl) (by simp) ?_
        refine AllReadyH.cons rfl (fun K hK => ?_) (AllReadyH.cons rfl (fun K hK => ?_) AllReadyH.nil)
        · (try simp only [zk1, zk2, zk3])
          go_simp
          go_at_call 84
          refine (spec_SignText seed tx _ pool sa _ HST.out hs hsol).mono ?_
          generalize hS : sgnV seed pool sa tx = S at *
          generalize hok : sgnOk seed pool sa tx = ok at *
          have HS := Lib.hid hS
          have HO := Lib.hid hok
          have HZ := Lib.hid (show ok = false → S = ⟨0, [], [], []⟩ from fun e => by rw [← hS]; exact sgn_no (hok.trans e))
          clear hS hok
          rintro e u5 ⟨a1, c1, a2, c2, a3, c3, rfl, so, xs⟩
          have lr : w.heap.size + 1 < u4.heap.size := R.1
          have SO := so.mono (show w.heap.size + 2 ≤ u4.heap.size by omega)
          clear so
          have B0 := fun v n l (o : World.ownsRow u5 (w.heap.size + 2) 9 1 v n l) k (hk : v.ownBlock = some k) => (own_lt o k hk).2
          have B1 := fun k hk => Nat.ne_of_lt (B0 _ _ _ SO.1 k hk)
          have B2 := fun k hk => Nat.ne_of_lt (B0 _ _ _ SO.2.1 k hk)
          have B3 := fun k hk => Nat.ne_of_lt (B0 _ _ _ SO.2.2.1 k hk)
          clear B0
          replace P := P.ext xs
          replace R := R.ext xs
          replace HST := Lib.hid (HST.out.ext xs)
          replace X := X.trans xs
          (try dsimp only)
          refine hK.out _ _ (by exact ⟨P.2.1 0 _ rfl, P.2.1 1 _ rfl, P.2.1 2 _ rfl, P.2.1 3 _ rfl⟩) (fun hHeld => ?_)
          clear hK K
          (refine wpAnyH_take (i := 8) (v := ?_) rfl (by kernel_rfl) (by kernel_rfl) (by kernel_rfl) (fun _ _ _ h => h) (Or.inl ⟨by rfl, ?_⟩) (by assumption) ?_; rotate_left; focus (intro w hSw; (try dsimp only at hSw); (try simp only [zk1, zk2, zk3]); go_simp; try with_reducible rfl)); (try simp only [zk1, zk2, zk3]); (try simp only [Act.put, zk4, zk5, zk6])
          (refine wpAnyH_take (i := 9) (v := ?_) rfl (by kernel_rfl) (by kernel_rfl) (by kernel_rfl) (fun _ _ _ h => h) (Or.inl ⟨by rfl, ?_⟩) (by assumption) ?_; rotate_left; focus (intro w hSw; (try dsimp only at hSw); (try simp only [zk1, zk2, zk3]); go_simp; try with_reducible rfl)); (try simp only [zk1, zk2, zk3]); (try simp only [Act.put, zk4, zk5, zk6])
          (refine wpAnyH_take (i := 10) (v := ?_) rfl (by kernel_rfl) (by kernel_rfl) (by kernel_rfl) (fun _ _ _ h => h) (Or.inl ⟨by rfl, ?_⟩) (by assumption) ?_; rotate_left; focus (intro w hSw; (try dsimp only at hSw); (try simp only [zk1, zk2, zk3]); go_simp; try with_reducible rfl)); (try simp only [zk1, zk2, zk3]); (try simp only [Act.put, zk4, zk5, zk6])
          refine wpAnyH_ready (rs := [11]) (by kernel_rfl) (by simp) ?_
          refine AllReadyH.cons rfl (fun K hK => ?_) AllReadyH.nil
          (try simp only [zk1, zk2, zk3])
          go_simp
          have ez : Ext u5 (u5.alloc (Obj.cells #[.int .i64 0, .slice none 0 0, .slice none 0 0, .slice none 0 0] 28)) := (Ext.refl _).alloc _
          have Q := Bx.new u5 #[.int .i64 0, .slice none 0 0, .slice none 0 0, .slice none 0 0] 28
          have lq : w.heap.size + 1 < u5.heap.size := R.1
          replace P := P.ext ez
          replace R := R.ext ez
          replace HST := Lib.hid (HST.out.ext ez)
          replace X := X.trans ez
          replace SO := SO.ext ez
          generalize u5.alloc (Obj.cells #[.int .i64 0, .slice none 0 0, .slice none 0 0, .slice none 0 0] 28) = u6 at *
          generalize hqb : u5.heap.size = qb at *
          clear hqb
          (try dsimp only)
          refine hK.out _ _ (by exact ⟨P.2.1 0 _ rfl, P.2.1 1 _ rfl, P.2.1 2 _ rfl, P.2.1 3 _ rfl⟩) (fun hHeld => ?_)
          clear hK K
          have lr2 : qb ≠ w.heap.size + 1 := by omega
          have z0 := Q.2.1 0 _ rfl
          have z1 := Q.2.1 1 _ rfl
          have z2 := Q.2.1 2 _ rfl
          have z3 := Q.2.1 3 _ rfl
          have f0 := Q.2.2 0
          have f1 := Q.2.2 1
          have f2 := Q.2.2 2
          have f3 := Q.2.2 3
          have XQ : Ext w ((((u6.setCell ⟨qb, 0, none⟩ (.int .i64 S.at_)).setCell ⟨qb, 1, none⟩ (.slice a1 S.op.length c1)).setCell ⟨qb, 2, none⟩ (.slice a2 S.sh.length c2)).setCell ⟨qb, 3, none⟩ (.slice a3 S.si.length c3)) := ((((X.setCell (by dsimp only; omega) _).setCell (by dsimp only; omega) _).setCell (by dsimp only; omega) _).setCell (by dsimp only; omega) _)
          have QQ := ((((Q.set 0 (.int .i64 S.at_) (by simp)).set 1 (.slice a1 S.op.length c1) (by simp)).set 2 (.slice a2 S.sh.length c2) (by simp)).set 3 (.slice a3 S.si.length c3) (by simp))
          have PQ := ((((P.far (c := qb) (by omega) 0 (.int .i64 S.at_)).far (c := qb) (by omega) 1 (.slice a1 S.op.length c1)).far (c := qb) (by omega) 2 (.slice a2 S.sh.length c2)).far (c := qb) (by omega) 3 (.slice a3 S.si.length c3))
          have RQ := ((((R.far (c := qb) (by omega) 0 (.int .i64 S.at_)).far (c := qb) (by omega) 1 (.slice a1 S.op.length c1)).far (c := qb) (by omega) 2 (.slice a2 S.sh.length c2)).far (c := qb) (by omega) 3 (.slice a3 S.si.length c3))
          have SQ := ((((SO.far B1 B2 B3 0 (.int .i64 S.at_)).far B1 B2 B3 1 (.slice a1 S.op.length c1)).far B1 B2 B3 2 (.slice a2 S.sh.length c2)).far B1 B2 B3 3 (.slice a3 S.si.length c3))
          clear HST
          (refine wpAnyH_ready (rs := [12]) (by kernel_rfl) (by simp) ?_; refine AllReadyH.cons rfl (fun K hK => ?_) AllReadyH.nil; (try simp only [zk1, zk2, zk3]))
          go_simp
          clear z0 z1 z2 z3 f0 f1 f2 f3
          replace P := PQ
          replace Q := QQ
          replace R := RQ
          replace SO := SQ
          replace X := XQ
          clear PQ QQ RQ SQ XQ
          generalize (((u6.setCell ⟨qb, 0, none⟩ (.int .i64 S.at_)).setCell ⟨qb, 1, none⟩ (.slice a1 S.op.length c1)).setCell ⟨qb, 2, none⟩ (.slice a2 S.sh.length c2)).setCell ⟨qb, 3, none⟩ (.slice a3 S.si.length c3) = W6 at *
          (try dsimp only)
          refine hK.out _ _ (by exact ⟨P.2.1 0 _ rfl, P.2.1 1 _ rfl, P.2.1 2 _ rfl, P.2.1 3 _ rfl⟩) (fun hHeld => ?_)
          clear hK K
          (refine wpAnyH_take (i := 13) (v := ?_) rfl (by kernel_rfl) (by kernel_rfl) (by kernel_rfl) (fun _ _ _ h => h) (Or.inl ⟨by rfl, ?_⟩) (by assumption) ?_; rotate_left; focus (intro w hSw; (try dsimp only at hSw); (try simp only [zk1, zk2, zk3]); go_simp; try with_reducible rfl)); (try simp only [zk1, zk2, zk3]); (try simp only [Act.put, zk4, zk5, zk6])
          refine wpAnyH_done (by kernel_rfl) ?_ _
          cases ok
          · have hz := HZ.out rfl
            clear HZ
            subst hz
            have z0 := R.2.1 0 _ rfl
            have z1 := R.2.1 1 _ rfl
            have z2 := R.2.1 2 _ rfl
            have z3 := R.2.1 3 _ rfl
            have z4 := R.2.1 4 _ rfl
            have z5 := R.2.1 5 _ rfl
            have z6 := R.2.1 6 _ rfl
            have z7 := R.2.1 7 _ rfl
            have f0 := R.2.2 0
            have f1 := R.2.2 1
            have f2 := R.2.2 2
            have f3 := R.2.2 3
            have f4 := R.2.2 4
            have f5 := R.2.2 5
            have f6 := R.2.2 6
            have f7 := R.2.2 7
            have XF : Ext w ((((((((W6.setCell ⟨w.heap.size + 1, 0, none⟩ (.int .i64 0)).setCell ⟨w.heap.size + 1, 1, none⟩ (.int .i64 0)).setCell ⟨w.heap.size + 1, 2, none⟩ (.string ⟨#[]⟩)).setCell ⟨w.heap.size + 1, 3, none⟩ (.string ⟨#[]⟩)).setCell ⟨w.heap.size + 1, 4, none⟩ (.int .i64 0)).setCell ⟨w.heap.size + 1, 5, none⟩ (.slice none 0 0)).setCell ⟨w.heap.size + 1, 6, none⟩ (.slice none 0 0)).setCell ⟨w.heap.size + 1, 7, none⟩ (.slice none 0 0)) := ((((((((X.setCell (by dsimp only; omega) _).setCell (by dsimp only; omega) _).setCell (by dsimp only; omega) _).setCell (by dsimp only; omega) _).setCell (by dsimp only; omega) _).setCell (by dsimp only; omega) _).setCell (by dsimp only; omega) _).setCell (by dsimp only; omega) _)
            have RF := ((((((((R.set 0 (.int .i64 0) (by simp)).set 1 (.int .i64 0) (by simp)).set 2 (.string ⟨#[]⟩) (by simp)).set 3 (.string ⟨#[]⟩) (by simp)).set 4 (.int .i64 0) (by simp)).set 5 (.slice none 0 0) (by simp)).set 6 (.slice none 0 0) (by simp)).set 7 (.slice none 0 0) (by simp))
            skip
            go_wp2
            generalize (((((((W6.setCell ⟨w.heap.size + 1, 0, none⟩ (.int .i64 0)).setCell ⟨w.heap.size + 1, 1, none⟩ (.int .i64 0)).setCell ⟨w.heap.size + 1, 2, none⟩ (.string ⟨#[]⟩)).setCell ⟨w.heap.size + 1, 3, none⟩ (.string ⟨#[]⟩)).setCell ⟨w.heap.size + 1, 4, none⟩ (.int .i64 0)).setCell ⟨w.heap.size + 1, 5, none⟩ (.slice none 0 0)).setCell ⟨w.heap.size + 1, 6, none⟩ (.slice none 0 0)).setCell ⟨w.heap.size + 1, 7, none⟩ (.slice none 0 0) = WF at *
            have k0 := RF.2.1 0 _ rfl
            have k1 := RF.2.1 1 _ rfl
            have k2 := RF.2.1 2 _ rfl
            have k3 := RF.2.1 3 _ rfl
            have k4 := RF.2.1 4 _ rfl
            have k5 := RF.2.1 5 _ rfl
            have k6 := RF.2.1 6 _ rfl
            have k7 := RF.2.1 7 _ rfl
            refine bodyPost_ret (v := .tuple #[.agg #[.int .i64 0, .int .i64 0, .string ⟨#[]⟩, .string ⟨#[]⟩, .int .i64 0, .slice none 0 0, .slice none 0 0, .slice none 0 0], .bool false]) (by simp [results, Tryd.results22, go_sem, k0, k1, k2, k3, k4, k5, k6, k7]) rfl ?_
            rw [HSA.out, HTX.out, HS.out, HO.out]
            exact ⟨none, 0, none, 0, none, 0, rfl, sigOwn_nil _ _, XF⟩
          · have p0 := P.2.1 0 _ rfl
            have p1 := P.2.1 1 _ rfl
            have p2 := P.2.1 2 _ rfl
            have p3 := P.2.1 3 _ rfl
            have q0 := Q.2.1 0 _ rfl
            have q1 := Q.2.1 1 _ rfl
            have q2 := Q.2.1 2 _ rfl
            have q3 := Q.2.1 3 _ rfl
            have z0 := R.2.1 0 _ rfl
            have z1 := R.2.1 1 _ rfl
            have z2 := R.2.1 2 _ rfl
            have z3 := R.2.1 3 _ rfl
            have z4 := R.2.1 4 _ rfl
            have z5 := R.2.1 5 _ rfl
            have z6 := R.2.1 6 _ rfl
            have z7 := R.2.1 7 _ rfl
            have f0 := R.2.2 0
            have f1 := R.2.2 1
            have f2 := R.2.2 2
            have f3 := R.2.2 3
            have f4 := R.2.2 4
            have f5 := R.2.2 5
            have f6 := R.2.2 6
            have f7 := R.2.2 7
            have XF : Ext w ((((((((W6.setCell ⟨w.heap.size + 1, 0, none⟩ (.int .i64 h)).setCell ⟨w.heap.size + 1, 1, none⟩ (.int .i64 ep)).setCell ⟨w.heap.size + 1, 2, none⟩ (.string r)).setCell ⟨w.heap.size + 1, 3, none⟩ (.string p)).setCell ⟨w.heap.size + 1, 4, none⟩ (.int .i64 S.at_)).setCell ⟨w.heap.size + 1, 5, none⟩ (.slice a1 S.op.length c1)).setCell ⟨w.heap.size + 1, 6, none⟩ (.slice a2 S.sh.length c2)).setCell ⟨w.heap.size + 1, 7, none⟩ (.slice a3 S.si.length c3)) := ((((((((X.setCell (by dsimp only; omega) _).setCell (by dsimp only; omega) _).setCell (by dsimp only; omega) _).setCell (by dsimp only; omega) _).setCell (by dsimp only; omega) _).setCell (by dsimp only; omega) _).setCell (by dsimp only; omega) _).setCell (by dsimp only; omega) _)
            have RF := ((((((((R.set 0 (.int .i64 h) (by simp)).set 1 (.int .i64 ep) (by simp)).set 2 (.string r) (by simp)).set 3 (.string p) (by simp)).set 4 (.int .i64 S.at_) (by simp)).set 5 (.slice a1 S.op.length c1) (by simp)).set 6 (.slice a2 S.sh.length c2) (by simp)).set 7 (.slice a3 S.si.length c3) (by simp))
            have SF := (((((((SO.set (b := w.heap.size + 1) (by omega) 0 (.int .i64 h)).set (b := w.heap.size + 1) (by omega) 1 (.int .i64 ep)).set (b := w.heap.size + 1) (by omega) 2 (.string r)).set (b := w.heap.size + 1) (by omega) 3 (.string p)).set (b := w.heap.size + 1) (by omega) 4 (.int .i64 S.at_)).set (b := w.heap.size + 1) (by omega) 5 (.slice a1 S.op.length c1)).set (b := w.heap.size + 1) (by omega) 6 (.slice a2 S.sh.length c2)).set (b := w.heap.size + 1) (by omega) 7 (.slice a3 S.si.length c3)
            go_wp2
            generalize (((((((W6.setCell ⟨w.heap.size + 1, 0, none⟩ (.int .i64 h)).setCell ⟨w.heap.size + 1, 1, none⟩ (.int .i64 ep)).setCell ⟨w.heap.size + 1, 2, none⟩ (.string r)).setCell ⟨w.heap.size + 1, 3, none⟩ (.string p)).setCell ⟨w.heap.size + 1, 4, none⟩ (.int .i64 S.at_)).setCell ⟨w.heap.size + 1, 5, none⟩ (.slice a1 S.op.length c1)).setCell ⟨w.heap.size + 1, 6, none⟩ (.slice a2 S.sh.length c2)).setCell ⟨w.heap.size + 1, 7, none⟩ (.slice a3 S.si.length c3) = WF at *
            have k0 := RF.2.1 0 _ rfl
            have k1 := RF.2.1 1 _ rfl
            have k2 := RF.2.1 2 _ rfl
            have k3 := RF.2.1 3 _ rfl
            have k4 := RF.2.1 4 _ rfl
            have k5 := RF.2.1 5 _ rfl
            have k6 := RF.2.1 6 _ rfl
            have k7 := RF.2.1 7 _ rfl
            refine bodyPost_ret (v := .tuple #[.agg #[.int .i64 h, .int .i64 ep, .string r, .string p, .int .i64 S.at_, .slice a1 S.op.length c1, .slice a2 S.sh.length c2, .slice a3 S.si.length c3], .bool true]) (by simp [results, Tryd.results22, go_sem, k0, k1, k2, k3, k4, k5, k6, k7]) rfl ?_
            rw [HSA.out, HTX.out, HS.out, HO.out]
            exact ⟨a1, c1, a2, c2, a3, c3, rfl, SF.mono (by omega), XF⟩
        · (try simp only [zk1, zk2, zk3])
          go_simp
          have ez : Ext u4 (u4.alloc (Obj.cells #[.int .i64 0, .slice none 0 0, .slice none 0 0, .slice none 0 0] 28)) := (Ext.refl _).alloc _
          have Q := Bx.new u4 #[.int .i64 0, .slice none 0 0, .slice none 0 0, .slice none 0 0] 28
          have lq : w.heap.size + 1 < u4.heap.size := R.1
          replace P := P.ext ez
          replace R := R.ext ez
          replace HST := Lib.hid (HST.out.ext ez)
          replace X := X.trans ez
          generalize u4.alloc (Obj.cells #[.int .i64 0, .slice none 0 0, .slice none 0 0, .slice none 0 0] 28) = u5 at *
          generalize hqb : u4.heap.size = qb at *
          clear hqb
          (try dsimp only)
          refine hK.out _ _ (by exact ⟨P.2.1 0 _ rfl, P.2.1 1 _ rfl, P.2.1 2 _ rfl, P.2.1 3 _ rfl⟩) (fun hHeld => ?_)
          clear hK K
          (refine wpAnyH_ready (rs := [7]) (by kernel_rfl) (by simp) ?_; refine AllReadyH.cons rfl (fun K hK => ?_) AllReadyH.nil)
          (try simp only [zk1, zk2, zk3])
          go_simp
          go_at_call 84
          refine (spec_SignText seed tx _ pool sa _ HST.out hs hsol).mono ?_
          generalize hS : sgnV seed pool sa tx = S at *
          generalize hok : sgnOk seed pool sa tx = ok at *
          have HS := Lib.hid hS
          have HO := Lib.hid hok
          have HZ := Lib.hid (show ok = false → S = ⟨0, [], [], []⟩ from fun e => by rw [← hS]; exact sgn_no (hok.trans e))
          clear hS hok
          rintro e u6 ⟨a1, c1, a2, c2, a3, c3, rfl, so, xs⟩
          have lr : w.heap.size + 1 < u5.heap.size := R.1
          have lqs : qb < u5.heap.size := Q.1
          have nq : qb ≠ w.heap.size + 1 := by omega
          have B1 := fun k (hk : Value.ownBlock (.slice a1 S.op.length c1) = some k) => Nat.ne_of_gt (Nat.lt_of_lt_of_le lqs (own_lt so.1 k hk).1)
          have B2 := fun k (hk : Value.ownBlock (.slice a2 S.sh.length c2) = some k) => Nat.ne_of_gt (Nat.lt_of_lt_of_le lqs (own_lt so.2.1 k hk).1)
          have B3 := fun k (hk : Value.ownBlock (.slice a3 S.si.length c3) = some k) => Nat.ne_of_gt (Nat.lt_of_lt_of_le lqs (own_lt so.2.2.1 k hk).1)
          have SO := so.mono (show w.heap.size + 2 ≤ u5.heap.size by omega)
          clear so
          replace P := P.ext xs
          replace R := R.ext xs
          replace HST := Lib.hid (HST.out.ext xs)
          replace X := X.trans xs
          replace Q := Q.ext xs
          (try dsimp only)
          refine hK.out _ _ (by exact ⟨P.2.1 0 _ rfl, P.2.1 1 _ rfl, P.2.1 2 _ rfl, P.2.1 3 _ rfl⟩) (fun hHeld => ?_)
          clear hK K
          (refine wpAnyH_take (i := 8) (v := ?_) rfl (by kernel_rfl) (by kernel_rfl) (by kernel_rfl) (fun _ _ _ h => h) (Or.inl ⟨by rfl, ?_⟩) (by assumption) ?_; rotate_left; focus (intro w hSw; (try dsimp only at hSw); (try simp only [zk1, zk2, zk3]); go_simp; try with_reducible rfl)); (try simp only [zk1, zk2, zk3]); (try simp only [Act.put, zk4, zk5, zk6])
          (refine wpAnyH_take (i := 9) (v := ?_) rfl (by kernel_rfl) (by kernel_rfl) (by kernel_rfl) (fun _ _ _ h => h) (Or.inl ⟨by rfl, ?_⟩) (by assumption) ?_; rotate_left; focus (intro w hSw; (try dsimp only at hSw); (try simp only [zk1, zk2, zk3]); go_simp; try with_reducible rfl)); (try simp only [zk1, zk2, zk3]); (try simp only [Act.put, zk4, zk5, zk6])
          (refine wpAnyH_take (i := 10) (v := ?_) rfl (by kernel_rfl) (by kernel_rfl) (by kernel_rfl) (fun _ _ _ h => h) (Or.inl ⟨by rfl, ?_⟩) (by assumption) ?_; rotate_left; focus (intro w hSw; (try dsimp only at hSw); (try simp only [zk1, zk2, zk3]); go_simp; try with_reducible rfl)); (try simp only [zk1, zk2, zk3]); (try simp only [Act.put, zk4, zk5, zk6])
          have lr2 : qb ≠ w.heap.size + 1 := by omega
          have z0 := Q.2.1 0 _ rfl
          have z1 := Q.2.1 1 _ rfl
          have z2 := Q.2.1 2 _ rfl
          have z3 := Q.2.1 3 _ rfl
          have f0 := Q.2.2 0
          have f1 := Q.2.2 1
          have f2 := Q.2.2 2
          have f3 := Q.2.2 3
          have XQ : Ext w ((((u6.setCell ⟨qb, 0, none⟩ (.int .i64 S.at_)).setCell ⟨qb, 1, none⟩ (.slice a1 S.op.length c1)).setCell ⟨qb, 2, none⟩ (.slice a2 S.sh.length c2)).setCell ⟨qb, 3, none⟩ (.slice a3 S.si.length c3)) := ((((X.setCell (by dsimp only; omega) _).setCell (by dsimp only; omega) _).setCell (by dsimp only; omega) _).setCell (by dsimp only; omega) _)
          have QQ := ((((Q.set 0 (.int .i64 S.at_) (by simp)).set 1 (.slice a1 S.op.length c1) (by simp)).set 2 (.slice a2 S.sh.length c2) (by simp)).set 3 (.slice a3 S.si.length c3) (by simp))
          have PQ := ((((P.far (c := qb) (by omega) 0 (.int .i64 S.at_)).far (c := qb) (by omega) 1 (.slice a1 S.op.length c1)).far (c := qb) (by omega) 2 (.slice a2 S.sh.length c2)).far (c := qb) (by omega) 3 (.slice a3 S.si.length c3))
          have RQ := ((((R.far (c := qb) (by omega) 0 (.int .i64 S.at_)).far (c := qb) (by omega) 1 (.slice a1 S.op.length c1)).far (c := qb) (by omega) 2 (.slice a2 S.sh.length c2)).far (c := qb) (by omega) 3 (.slice a3 S.si.length c3))
          have SQ := ((((SO.far B1 B2 B3 0 (.int .i64 S.at_)).far B1 B2 B3 1 (.slice a1 S.op.length c1)).far B1 B2 B3 2 (.slice a2 S.sh.length c2)).far B1 B2 B3 3 (.slice a3 S.si.length c3))
          clear HST
          (refine wpAnyH_ready (rs := [12]) (by kernel_rfl) (by simp) ?_; refine AllReadyH.cons rfl (fun K hK => ?_) AllReadyH.nil; (try simp only [zk1, zk2, zk3]))
          go_simp
          clear z0 z1 z2 z3 f0 f1 f2 f3
          replace P := PQ
          replace Q := QQ
          replace R := RQ
          replace SO := SQ
          replace X := XQ
          clear PQ QQ RQ SQ XQ
          generalize (((u6.setCell ⟨qb, 0, none⟩ (.int .i64 S.at_)).setCell ⟨qb, 1, none⟩ (.slice a1 S.op.length c1)).setCell ⟨qb, 2, none⟩ (.slice a2 S.sh.length c2)).setCell ⟨qb, 3, none⟩ (.slice a3 S.si.length c3) = W6 at *
          (try dsimp only)
          refine hK.out _ _ (by exact ⟨P.2.1 0 _ rfl, P.2.1 1 _ rfl, P.2.1 2 _ rfl, P.2.1 3 _ rfl⟩) (fun hHeld => ?_)
          clear hK K
          (refine wpAnyH_take (i := 13) (v := ?_) rfl (by kernel_rfl) (by kernel_rfl) (by kernel_rfl) (fun _ _ _ h => h) (Or.inl ⟨by rfl, ?_⟩) (by assumption) ?_; rotate_left; focus (intro w hSw; (try dsimp only at hSw); (try simp only [zk1, zk2, zk3]); go_simp; try with_reducible rfl)); (try simp only [zk1, zk2, zk3]); (try simp only [Act.put, zk4, zk5, zk6])
          refine wpAnyH_done (by kernel_rfl) ?_ _
          cases ok
          · have hz := HZ.out rfl
            clear HZ
            subst hz
            have z0 := R.2.1 0 _ rfl
            have z1 := R.2.1 1 _ rfl
            have z2 := R.2.1 2 _ rfl
            have z3 := R.2.1 3 _ rfl
            have z4 := R.2.1 4 _ rfl
            have z5 := R.2.1 5 _ rfl
            have z6 := R.2.1 6 _ rfl
            have z7 := R.2.1 7 _ rfl
            have f0 := R.2.2 0
            have f1 := R.2.2 1
            have f2 := R.2.2 2
            have f3 := R.2.2 3
            have f4 := R.2.2 4
            have f5 := R.2.2 5
            have f6 := R.2.2 6
            have f7 := R.2.2 7
            have XF : Ext w ((((((((W6.setCell ⟨w.heap.size + 1, 0, none⟩ (.int .i64 0)).setCell ⟨w.heap.size + 1, 1, none⟩ (.int .i64 0)).setCell ⟨w.heap.size + 1, 2, none⟩ (.string ⟨#[]⟩)).setCell ⟨w.heap.size + 1, 3, none⟩ (.string ⟨#[]⟩)).setCell ⟨w.heap.size + 1, 4, none⟩ (.int .i64 0)).setCell ⟨w.heap.size + 1, 5, none⟩ (.slice none 0 0)).setCell ⟨w.heap.size + 1, 6, none⟩ (.slice none 0 0)).setCell ⟨w.heap.size + 1, 7, none⟩ (.slice none 0 0)) := ((((((((X.setCell (by dsimp only; omega) _).setCell (by dsimp only; omega) _).setCell (by dsimp only; omega) _).setCell (by dsimp only; omega) _).setCell (by dsimp only; omega) _).setCell (by dsimp only; omega) _).setCell (by dsimp only; omega) _).setCell (by dsimp only; omega) _)
            have RF := ((((((((R.set 0 (.int .i64 0) (by simp)).set 1 (.int .i64 0) (by simp)).set 2 (.string ⟨#[]⟩) (by simp)).set 3 (.string ⟨#[]⟩) (by simp)).set 4 (.int .i64 0) (by simp)).set 5 (.slice none 0 0) (by simp)).set 6 (.slice none 0 0) (by simp)).set 7 (.slice none 0 0) (by simp))
            skip
            go_wp2
            generalize (((((((W6.setCell ⟨w.heap.size + 1, 0, none⟩ (.int .i64 0)).setCell ⟨w.heap.size + 1, 1, none⟩ (.int .i64 0)).setCell ⟨w.heap.size + 1, 2, none⟩ (.string ⟨#[]⟩)).setCell ⟨w.heap.size + 1, 3, none⟩ (.string ⟨#[]⟩)).setCell ⟨w.heap.size + 1, 4, none⟩ (.int .i64 0)).setCell ⟨w.heap.size + 1, 5, none⟩ (.slice none 0 0)).setCell ⟨w.heap.size + 1, 6, none⟩ (.slice none 0 0)).setCell ⟨w.heap.size + 1, 7, none⟩ (.slice none 0 0) = WF at *
            have k0 := RF.2.1 0 _ rfl
            have k1 := RF.2.1 1 _ rfl
            have k2 := RF.2.1 2 _ rfl
            have k3 := RF.2.1 3 _ rfl
            have k4 := RF.2.1 4 _ rfl
            have k5 := RF.2.1 5 _ rfl
            have k6 := RF.2.1 6 _ rfl
            have k7 := RF.2.1 7 _ rfl
            refine bodyPost_ret (v := .tuple #[.agg #[.int .i64 0, .int .i64 0, .string ⟨#[]⟩, .string ⟨#[]⟩, .int .i64 0, .slice none 0 0, .slice none 0 0, .slice none 0 0], .bool false]) (by simp [results, Tryd.results22, go_sem, k0, k1, k2, k3, k4, k5, k6, k7]) rfl ?_
            rw [HSA.out, HTX.out, HS.out, HO.out]
            exact ⟨none, 0, none, 0, none, 0, rfl, sigOwn_nil _ _, XF⟩
          · have p0 := P.2.1 0 _ rfl
            have p1 := P.2.1 1 _ rfl
            have p2 := P.2.1 2 _ rfl
            have p3 := P.2.1 3 _ rfl
            have q0 := Q.2.1 0 _ rfl
            have q1 := Q.2.1 1 _ rfl
            have q2 := Q.2.1 2 _ rfl
            have q3 := Q.2.1 3 _ rfl
            have z0 := R.2.1 0 _ rfl
            have z1 := R.2.1 1 _ rfl
            have z2 := R.2.1 2 _ rfl
            have z3 := R.2.1 3 _ rfl
            have z4 := R.2.1 4 _ rfl
            have z5 := R.2.1 5 _ rfl
            have z6 := R.2.1 6 _ rfl
            have z7 := R.2.1 7 _ rfl
            have f0 := R.2.2 0
            have f1 := R.2.2 1
            have f2 := R.2.2 2
            have f3 := R.2.2 3
            have f4 := R.2.2 4
            have f5 := R.2.2 5
            have f6 := R.2.2 6
            have f7 := R.2.2 7
            have XF : Ext w ((((((((W6.setCell ⟨w.heap.size + 1, 0, none⟩ (.int .i64 h)).setCell ⟨w.heap.size + 1, 1, none⟩ (.int .i64 ep)).setCell ⟨w.heap.size + 1, 2, none⟩ (.string r)).setCell ⟨w.heap.size + 1, 3, none⟩ (.string p)).setCell ⟨w.heap.size + 1, 4, none⟩ (.int .i64 S.at_)).setCell ⟨w.heap.size + 1, 5, none⟩ (.slice a1 S.op.length c1)).setCell ⟨w.heap.size + 1, 6, none⟩ (.slice a2 S.sh.length c2)).setCell ⟨w.heap.size + 1, 7, none⟩ (.slice a3 S.si.length c3)) := ((((((((X.setCell (by dsimp only; omega) _).setCell (by dsimp only; omega) _).setCell (by dsimp only; omega) _).setCell (by dsimp only; omega) _).setCell (by dsimp only; omega) _).setCell (by dsimp only; omega) _).setCell (by dsimp only; omega) _).setCell (by dsimp only; omega) _)
            have RF := ((((((((R.set 0 (.int .i64 h) (by simp)).set 1 (.int .i64 ep) (by simp)).set 2 (.string r) (by simp)).set 3 (.string p) (by simp)).set 4 (.int .i64 S.at_) (by simp)).set 5 (.slice a1 S.op.length c1) (by simp)).set 6 (.slice a2 S.sh.length c2) (by simp)).set 7 (.slice a3 S.si.length c3) (by simp))
            have SF := (((((((SO.set (b := w.heap.size + 1) (by omega) 0 (.int .i64 h)).set (b := w.heap.size + 1) (by omega) 1 (.int .i64 ep)).set (b := w.heap.size + 1) (by omega) 2 (.string r)).set (b := w.heap.size + 1) (by omega) 3 (.string p)).set (b := w.heap.size + 1) (by omega) 4 (.int .i64 S.at_)).set (b := w.heap.size + 1) (by omega) 5 (.slice a1 S.op.length c1)).set (b := w.heap.size + 1) (by omega) 6 (.slice a2 S.sh.length c2)).set (b := w.heap.size + 1) (by omega) 7 (.slice a3 S.si.length c3)
            go_wp2
            generalize (((((((W6.setCell ⟨w.heap.size + 1, 0, none⟩ (.int .i64 h)).setCell ⟨w.heap.size + 1, 1, none⟩ (.int .i64 ep)).setCell ⟨w.heap.size + 1, 2, none⟩ (.string r)).setCell ⟨w.heap.size + 1, 3, none⟩ (.string p)).setCell ⟨w.heap.size + 1, 4, none⟩ (.int .i64 S.at_)).setCell ⟨w.heap.size + 1, 5, none⟩ (.slice a1 S.op.length c1)).setCell ⟨w.heap.size + 1, 6, none⟩ (.slice a2 S.sh.length c2)).setCell ⟨w.heap.size + 1, 7, none⟩ (.slice a3 S.si.length c3) = WF at *
            have k0 := RF.2.1 0 _ rfl
            have k1 := RF.2.1 1 _ rfl
            have k2 := RF.2.1 2 _ rfl
            have k3 := RF.2.1 3 _ rfl
            have k4 := RF.2.1 4 _ rfl
            have k5 := RF.2.1 5 _ rfl
            have k6 := RF.2.1 6 _ rfl
            have k7 := RF.2.1 7 _ rfl
            refine bodyPost_ret (v := .tuple #[.agg #[.int .i64 h, .int .i64 ep, .string r, .string p, .int .i64 S.at_, .slice a1 S.op.length c1, .slice a2 S.sh.length c2, .slice a3 S.si.length c3], .bool true]) (by simp [results, Tryd.results22, go_sem, k0, k1, k2, k3, k4, k5, k6, k7]) rfl ?_
            rw [HSA.out, HTX.out, HS.out, HO.out]
            exact ⟨a1, c1, a2, c2, a3, c3, rfl, SF.mono (by omega), XF⟩
      · (try simp only [zk1, zk2, zk3])
        go_simp
        have ez : Ext w2 (w2.alloc (Obj.cells #[.int .i64 0, .slice none 0 0, .slice none 0 0, .slice none 0 0] 28)) := (Ext.refl _).alloc _
        have Q := Bx.new w2 #[.int .i64 0, .slice none 0 0, .slice none 0 0, .slice none 0 0] 28
        have lq : w.heap.size + 1 < w2.heap.size := R.1
        replace P := P.ext ez
        replace R := R.ext ez
        replace HST := Lib.hid (HST.out.ext ez)
        replace X := X.trans ez
        generalize w2.alloc (Obj.cells #[.int .i64 0, .slice none 0 0, .slice none 0 0, .slice none 0 0] 28) = u4 at *
        generalize hqb : w2.heap.size = qb at *
        clear hqb
        (try dsimp only)
        refine hK.out _ _ (by exact ⟨P.2.1 0 _ rfl, P.2.1 1 _ rfl, P.2.1 2 _ rfl, P.2.1 3 _ rfl⟩) (fun hHeld => ?_)
        clear hK K
        (refine wpAnyH_ready (rs := [6]) (by kernel_rfl) (by simp) ?_; refine AllReadyH.cons rfl (fun K hK => ?_) AllReadyH.nil)
        (try simp only [zk1, zk2, zk3])
        go_simp
        go_at_call 47
        refine (spec_HeadHash h ep r p _).mono ?_
        generalize htx : headH h ep r p = tx at *
        have HTX := Lib.hid htx
        clear htx
        rintro e u5 ⟨rfl, xh⟩
        (try clear p0 p1 p2 p3)
        replace P := P.ext xh
        replace R := R.ext xh
        replace HST := Lib.hid (HST.out.ext xh)
        replace X := X.trans xh
        replace Q := Q.ext xh
        (try dsimp only)
        refine hK.out _ _ (by exact ⟨P.2.1 0 _ rfl, P.2.1 1 _ rfl, P.2.1 2 _ rfl, P.2.1 3 _ rfl⟩) (fun hHeld => ?_)
        clear hK K
        (refine wpAnyH_ready (rs := [7]) (by kernel_rfl) (by simp) ?_; refine AllReadyH.cons rfl (fun K hK => ?_) AllReadyH.nil)
        (try simp only [zk1, zk2, zk3])
        go_simp
        go_at_call 84
        refine (spec_SignText seed tx _ pool sa _ HST.out hs hsol).mono ?_
        generalize hS : sgnV seed pool sa tx = S at *
        generalize hok : sgnOk seed pool sa tx = ok at *
        have HS := Lib.hid hS
        have HO := Lib.hid hok
        have HZ := Lib.hid (show ok = false → S = ⟨0, [], [], []⟩ from fun e => by rw [← hS]; exact sgn_no (hok.trans e))
        clear hS hok
        rintro e u6 ⟨a1, c1, a2, c2, a3, c3, rfl, so, xs⟩
        have lr : w.heap.size + 1 < u5.heap.size := R.1
        have lqs : qb < u5.heap.size := Q.1
        have nq : qb ≠ w.heap.size + 1 := by omega
        have B1 := fun k (hk : Value.ownBlock (.slice a1 S.op.length c1) = some k) => Nat.ne_of_gt (Nat.lt_of_lt_of_le lqs (own_lt so.1 k hk).1)
        have B2 := fun k (hk : Value.ownBlock (.slice a2 S.sh.length c2) = some k) => Nat.ne_of_gt (Nat.lt_of_lt_of_le lqs (own_lt so.2.1 k hk).1)
        have B3 := fun k (hk : Value.ownBlock (.slice a3 S.si.length c3) = some k) => Nat.ne_of_gt (Nat.lt_of_lt_of_le lqs (own_lt so.2.2.1 k hk).1)
        have SO := so.mono (show w.heap.size + 2 ≤ u5.heap.size by omega)
        clear so
        replace P := P.ext xs
        replace R := R.ext xs
        replace HST := Lib.hid (HST.out.ext xs)
        replace X := X.trans xs
        replace Q := Q.ext xs
        (try dsimp only)
        refine hK.out _ _ (by exact ⟨P.2.1 0 _ rfl, P.2.1 1 _ rfl, P.2.1 2 _ rfl, P.2.1 3 _ rfl⟩) (fun hHeld => ?_)
        clear hK K
        (refine wpAnyH_take (i := 8) (v := ?_) rfl (by kernel_rfl) (by kernel_rfl) (by kernel_rfl) (fun _ _ _ h => h) (Or.inl ⟨by rfl, ?_⟩) (by assumption) ?_; rotate_left; focus (intro w hSw; (try dsimp only at hSw); (try simp only [zk1, zk2, zk3]); go_simp; try with_reducible rfl)); (try simp only [zk1, zk2, zk3]); (try simp only [Act.put, zk4, zk5, zk6])
        (refine wpAnyH_take (i := 9) (v := ?_) rfl (by kernel_rfl) (by kernel_rfl) (by kernel_rfl) (fun _ _ _ h => h) (Or.inl ⟨by rfl, ?_⟩) (by assumption) ?_; rotate_left; focus (intro w hSw; (try dsimp only at hSw); (try simp only [zk1, zk2, zk3]); go_simp; try with_reducible rfl)); (try simp only [zk1, zk2, zk3]); (try simp only [Act.put, zk4, zk5, zk6])
        (refine wpAnyH_take (i := 10) (v := ?_) rfl (by kernel_rfl) (by kernel_rfl) (by kernel_rfl) (fun _ _ _ h => h) (Or.inl ⟨by rfl, ?_⟩) (by assumption) ?_; rotate_left; focus (intro w hSw; (try dsimp only at hSw); (try simp only [zk1, zk2, zk3]); go_simp; try with_reducible rfl)); (try simp only [zk1, zk2, zk3]); (try simp only [Act.put, zk4, zk5, zk6])
        have lr2 : qb ≠ w.heap.size + 1 := by omega
        have z0 := Q.2.1 0 _ rfl
        have z1 := Q.2.1 1 _ rfl
        have z2 := Q.2.1 2 _ rfl
        have z3 := Q.2.1 3 _ rfl
        have f0 := Q.2.2 0
        have f1 := Q.2.2 1
        have f2 := Q.2.2 2
        have f3 := Q.2.2 3
        have XQ : Ext w ((((u6.setCell ⟨qb, 0, none⟩ (.int .i64 S.at_)).setCell ⟨qb, 1, none⟩ (.slice a1 S.op.length c1)).setCell ⟨qb, 2, none⟩ (.slice a2 S.sh.length c2)).setCell ⟨qb, 3, none⟩ (.slice a3 S.si.length c3)) := ((((X.setCell (by dsimp only; omega) _).setCell (by dsimp only; omega) _).setCell (by dsimp only; omega) _).setCell (by dsimp only; omega) _)
        have QQ := ((((Q.set 0 (.int .i64 S.at_) (by simp)).set 1 (.slice a1 S.op.length c1) (by simp)).set 2 (.slice a2 S.sh.length c2) (by simp)).set 3 (.slice a3 S.si.length c3) (by simp))
        have PQ := ((((P.far (c := qb) (by omega) 0 (.int .i64 S.at_)).far (c := qb) (by omega) 1 (.slice a1 S.op.length c1)).far (c := qb) (by omega) 2 (.slice a2 S.sh.length c2)).far (c := qb) (by omega) 3 (.slice a3 S.si.length c3))
        have RQ := ((((R.far (c := qb) (by omega) 0 (.int .i64 S.at_)).far (c := qb) (by omega) 1 (.slice a1 S.op.length c1)).far (c := qb) (by omega) 2 (.slice a2 S.sh.length c2)).far (c := qb) (by omega) 3 (.slice a3 S.si.length c3))
        have SQ := ((((SO.far B1 B2 B3 0 (.int .i64 S.at_)).far B1 B2 B3 1 (.slice a1 S.op.length c1)).far B1 B2 B3 2 (.slice a2 S.sh.length c2)).far B1 B2 B3 3 (.slice a3 S.si.length c3))
        clear HST
        (refine wpAnyH_ready (rs := [12]) (by kernel_rfl) (by simp) ?_; refine AllReadyH.cons rfl (fun K hK => ?_) AllReadyH.nil; (try simp only [zk1, zk2, zk3]))
        go_simp
        clear z0 z1 z2 z3 f0 f1 f2 f3
        replace P := PQ
        replace Q := QQ
        replace R := RQ
        replace SO := SQ
        replace X := XQ
        clear PQ QQ RQ SQ XQ
        generalize (((u6.setCell ⟨qb, 0, none⟩ (.int .i64 S.at_)).setCell ⟨qb, 1, none⟩ (.slice a1 S.op.length c1)).setCell ⟨qb, 2, none⟩ (.slice a2 S.sh.length c2)).setCell ⟨qb, 3, none⟩ (.slice a3 S.si.length c3) = W6 at *
        (try dsimp only)
        refine hK.out _ _ (by exact ⟨P.2.1 0 _ rfl, P.2.1 1 _ rfl, P.2.1 2 _ rfl, P.2.1 3 _ rfl⟩) (fun hHeld => ?_)
        clear hK K
        (refine wpAnyH_take (i := 13) (v := ?_) rfl (by kernel_rfl) (by kernel_rfl) (by kernel_rfl) (fun _ _ _ h => h) (Or.inl ⟨by rfl, ?_⟩) (by assumption) ?_; rotate_left; focus (intro w hSw; (try dsimp only at hSw); (try simp only [zk1, zk2, zk3]); go_simp; try with_reducible rfl)); (try simp only [zk1, zk2, zk3]); (try simp only [Act.put, zk4, zk5, zk6])
        refine wpAnyH_done (by kernel_rfl) ?_ _
        cases ok
        · have hz := HZ.out rfl
          clear HZ
          subst hz
          have z0 := R.2.1 0 _ rfl
          have z1 := R.2.1 1 _ rfl
          have z2 := R.2.1 2 _ rfl
          have z3 := R.2.1 3 _ rfl
          have z4 := R.2.1 4 _ rfl
          have z5 := R.2.1 5 _ rfl
          have z6 := R.2.1 6 _ rfl
          have z7 := R.2.1 7 _ rfl
          have f0 := R.2.2 0
          have f1 := R.2.2 1
          have f2 := R.2.2 2
          have f3 := R.2.2 3
          have f4 := R.2.2 4
          have f5 := R.2.2 5
          have f6 := R.2.2 6
          have f7 := R.2.2 7
          have XF : Ext w ((((((((W6.setCell ⟨w.heap.size + 1, 0, none⟩ (.int .i64 0)).setCell ⟨w.heap.size + 1, 1, none⟩ (.int .i64 0)).setCell ⟨w.heap.size + 1, 2, none⟩ (.string ⟨#[]⟩)).setCell ⟨w.heap.size + 1, 3, none⟩ (.string ⟨#[]⟩)).setCell ⟨w.heap.size + 1, 4, none⟩ (.int .i64 0)).setCell ⟨w.heap.size + 1, 5, none⟩ (.slice none 0 0)).setCell ⟨w.heap.size + 1, 6, none⟩ (.slice none 0 0)).setCell ⟨w.heap.size + 1, 7, none⟩ (.slice none 0 0)) := ((((((((X.setCell (by dsimp only; omega) _).setCell (by dsimp only; omega) _).setCell (by dsimp only; omega) _).setCell (by dsimp only; omega) _).setCell (by dsimp only; omega) _).setCell (by dsimp only; omega) _).setCell (by dsimp only; omega) _).setCell (by dsimp only; omega) _)
          have RF := ((((((((R.set 0 (.int .i64 0) (by simp)).set 1 (.int .i64 0) (by simp)).set 2 (.string ⟨#[]⟩) (by simp)).set 3 (.string ⟨#[]⟩) (by simp)).set 4 (.int .i64 0) (by simp)).set 5 (.slice none 0 0) (by simp)).set 6 (.slice none 0 0) (by simp)).set 7 (.slice none 0 0) (by simp))
          skip
          go_wp2
          generalize (((((((W6.setCell ⟨w.heap.size + 1, 0, none⟩ (.int .i64 0)).setCell ⟨w.heap.size + 1, 1, none⟩ (.int .i64 0)).setCell ⟨w.heap.size + 1, 2, none⟩ (.string ⟨#[]⟩)).setCell ⟨w.heap.size + 1, 3, none⟩ (.string ⟨#[]⟩)).setCell ⟨w.heap.size + 1, 4, none⟩ (.int .i64 0)).setCell ⟨w.heap.size + 1, 5, none⟩ (.slice none 0 0)).setCell ⟨w.heap.size + 1, 6, none⟩ (.slice none 0 0)).setCell ⟨w.heap.size + 1, 7, none⟩ (.slice none 0 0) = WF at *
          have k0 := RF.2.1 0 _ rfl
          have k1 := RF.2.1 1 _ rfl
          have k2 := RF.2.1 2 _ rfl
          have k3 := RF.2.1 3 _ rfl
          have k4 := RF.2.1 4 _ rfl
          have k5 := RF.2.1 5 _ rfl
          have k6 := RF.2.1 6 _ rfl
          have k7 := RF.2.1 7 _ rfl
          refine bodyPost_ret (v := .tuple #[.agg #[.int .i64 0, .int .i64 0, .string ⟨#[]⟩, .string ⟨#[]⟩, .int .i64 0, .slice none 0 0, .slice none 0 0, .slice none 0 0], .bool false]) (by simp [results, Tryd.results22, go_sem, k0, k1, k2, k3, k4, k5, k6, k7]) rfl ?_
          rw [HSA.out, HTX.out, HS.out, HO.out]
          exact ⟨none, 0, none, 0, none, 0, rfl, sigOwn_nil _ _, XF⟩
        · have p0 := P.2.1 0 _ rfl
          have p1 := P.2.1 1 _ rfl
          have p2 := P.2.1 2 _ rfl
          have p3 := P.2.1 3 _ rfl
          have q0 := Q.2.1 0 _ rfl
          have q1 := Q.2.1 1 _ rfl
          have q2 := Q.2.1 2 _ rfl
          have q3 := Q.2.1 3 _ rfl
          have z0 := R.2.1 0 _ rfl
          have z1 := R.2.1 1 _ rfl
          have z2 := R.2.1 2 _ rfl
          have z3 := R.2.1 3 _ rfl
          have z4 := R.2.1 4 _ rfl
          have z5 := R.2.1 5 _ rfl
          have z6 := R.2.1 6 _ rfl
          have z7 := R.2.1 7 _ rfl
          have f0 := R.2.2 0
          have f1 := R.2.2 1
          have f2 := R.2.2 2
          have f3 := R.2.2 3
          have f4 := R.2.2 4
          have f5 := R.2.2 5
          have f6 := R.2.2 6
          have f7 := R.2.2 7
          have XF : Ext w ((((((((W6.setCell ⟨w.heap.size + 1, 0, none⟩ (.int .i64 h)).setCell ⟨w.heap.size + 1, 1, none⟩ (.int .i64 ep)).setCell ⟨w.heap.size + 1, 2, none⟩ (.string r)).setCell ⟨w.heap.size + 1, 3, none⟩ (.string p)).setCell ⟨w.heap.size + 1, 4, none⟩ (.int .i64 S.at_)).setCell ⟨w.heap.size + 1, 5, none⟩ (.slice a1 S.op.length c1)).setCell ⟨w.heap.size + 1, 6, none⟩ (.slice a2 S.sh.length c2)).setCell ⟨w.heap.size + 1, 7, none⟩ (.slice a3 S.si.length c3)) := ((((((((X.setCell (by dsimp only; omega) _).setCell (by dsimp only; omega) _).setCell (by dsimp only; omega) _).setCell (by dsimp only; omega) _).setCell (by dsimp only; omega) _).setCell (by dsimp only; omega) _).setCell (by dsimp only; omega) _).setCell (by dsimp only; omega) _)
          have RF := ((((((((R.set 0 (.int .i64 h) (by simp)).set 1 (.int .i64 ep) (by simp)).set 2 (.string r) (by simp)).set 3 (.string p) (by simp)).set 4 (.int .i64 S.at_) (by simp)).set 5 (.slice a1 S.op.length c1) (by simp)).set 6 (.slice a2 S.sh.length c2) (by simp)).set 7 (.slice a3 S.si.length c3) (by simp))
          have SF := (((((((SO.set (b := w.heap.size + 1) (by omega) 0 (.int .i64 h)).set (b := w.heap.size + 1) (by omega) 1 (.int .i64 ep)).set (b := w.heap.size + 1) (by omega) 2 (.string r)).set (b := w.heap.size + 1) (by omega) 3 (.string p)).set (b := w.heap.size + 1) (by omega) 4 (.int .i64 S.at_)).set (b := w.heap.size + 1) (by omega) 5 (.slice a1 S.op.length c1)).set (b := w.heap.size + 1) (by omega) 6 (.slice a2 S.sh.length c2)).set (b := w.heap.size + 1) (by omega) 7 (.slice a3 S.si.length c3)
          go_wp2
          generalize (((((((W6.setCell ⟨w.heap.size + 1, 0, none⟩ (.int .i64 h)).setCell ⟨w.heap.size + 1, 1, none⟩ (.int .i64 ep)).setCell ⟨w.heap.size + 1, 2, none⟩ (.string r)).setCell ⟨w.heap.size + 1, 3, none⟩ (.string p)).setCell ⟨w.heap.size + 1, 4, none⟩ (.int .i64 S.at_)).setCell ⟨w.heap.size + 1, 5, none⟩ (.slice a1 S.op.length c1)).setCell ⟨w.heap.size + 1, 6, none⟩ (.slice a2 S.sh.length c2)).setCell ⟨w.heap.size + 1, 7, none⟩ (.slice a3 S.si.length c3) = WF at *
          have k0 := RF.2.1 0 _ rfl
          have k1 := RF.2.1 1 _ rfl
          have k2 := RF.2.1 2 _ rfl
          have k3 := RF.2.1 3 _ rfl
          have k4 := RF.2.1 4 _ rfl
          have k5 := RF.2.1 5 _ rfl
          have k6 := RF.2.1 6 _ rfl
          have k7 := RF.2.1 7 _ rfl
          refine bodyPost_ret (v := .tuple #[.agg #[.int .i64 h, .int .i64 ep, .string r, .string p, .int .i64 S.at_, .slice a1 S.op.length c1, .slice a2 S.sh.length c2, .slice a3 S.si.length c3], .bool true]) (by simp [results, Tryd.results22, go_sem, k0, k1, k2, k3, k4, k5, k6, k7]) rfl ?_
          rw [HSA.out, HTX.out, HS.out, HO.out]
          exact ⟨a1, c1, a2, c2, a3, c3, rfl, SF.mono (by omega), XF⟩
    · (try simp only [zk1, zk2, zk3])
      go_simp
      have ez : Ext w2 (w2.alloc (Obj.cells #[.int .i64 0, .slice none 0 0, .slice none 0 0, .slice none 0 0] 28)) := (Ext.refl _).alloc _
      have Q := Bx.new w2 #[.int .i64 0, .slice none 0 0, .slice none 0 0, .slice none 0 0] 28
      have lq : w.heap.size + 1 < w2.heap.size := R.1
      replace P := P.ext ez
      replace R := R.ext ez
      replace HST := Lib.hid (HST.out.ext ez)
      replace X := X.trans ez
      generalize w2.alloc (Obj.cells #[.int .i64 0, .slice none 0 0, .slice none 0 0, .slice none 0 0] 28) = u3 at *
      generalize hqb : w2.heap.size = qb at *
      clear hqb
      (try dsimp only)
      refine hK.out _ _ (by exact ⟨P.2.1 0 _ rfl, P.2.1 1 _ rfl, P.2.1 2 _ rfl, P.2.1 3 _ rfl⟩) (fun hHeld => ?_)
      clear hK K
      (refine wpAnyH_ready (rs := [4]) (by kernel_rfl) (by simp) ?_; refine AllReadyH.cons rfl (fun K hK => ?_) AllReadyH.nil)
      (try simp only [zk1, zk2, zk3])
      go_simp
      go_at_call 92
      refine (spec_SealAt ep _).mono ?_
      generalize hsa : sealAt ep = sa at *
      have HSA := Lib.hid hsa
      clear hsa
      rintro e w' ⟨rfl, rfl⟩
      (try dsimp only)
      refine hK.out _ _ (by exact ⟨P.2.1 0 _ rfl, P.2.1 1 _ rfl, P.2.1 2 _ rfl, P.2.1 3 _ rfl⟩) (fun hHeld => ?_)
      clear hK K
      (refine wpAnyH_ready (rs := [6]) (by kernel_rfl) (by simp) ?_; refine AllReadyH.cons rfl (fun K hK => ?_) AllReadyH.nil)
      (try simp only [zk1, zk2, zk3])
      go_simp
      go_at_call 47
      refine (spec_HeadHash h ep r p _).mono ?_
      generalize htx : headH h ep r p = tx at *
      have HTX := Lib.hid htx
      clear htx
      rintro e u5 ⟨rfl, xh⟩
      (try clear p0 p1 p2 p3)
      replace P := P.ext xh
      replace R := R.ext xh
      replace HST := Lib.hid (HST.out.ext xh)
      replace X := X.trans xh
      replace Q := Q.ext xh
      (try dsimp only)
      refine hK.out _ _ (by exact ⟨P.2.1 0 _ rfl, P.2.1 1 _ rfl, P.2.1 2 _ rfl, P.2.1 3 _ rfl⟩) (fun hHeld => ?_)
      clear hK K
      (refine wpAnyH_ready (rs := [7]) (by kernel_rfl) (by simp) ?_; refine AllReadyH.cons rfl (fun K hK => ?_) AllReadyH.nil)
      (try simp only [zk1, zk2, zk3])
      go_simp
      go_at_call 84
      refine (spec_SignText seed tx _ pool sa _ HST.out hs hsol).mono ?_
      generalize hS : sgnV seed pool sa tx = S at *
      generalize hok : sgnOk seed pool sa tx = ok at *
      have HS := Lib.hid hS
      have HO := Lib.hid hok
      have HZ := Lib.hid (show ok = false → S = ⟨0, [], [], []⟩ from fun e => by rw [← hS]; exact sgn_no (hok.trans e))
      clear hS hok
      rintro e u6 ⟨a1, c1, a2, c2, a3, c3, rfl, so, xs⟩
      have lr : w.heap.size + 1 < u5.heap.size := R.1
      have lqs : qb < u5.heap.size := Q.1
      have nq : qb ≠ w.heap.size + 1 := by omega
      have B1 := fun k (hk : Value.ownBlock (.slice a1 S.op.length c1) = some k) => Nat.ne_of_gt (Nat.lt_of_lt_of_le lqs (own_lt so.1 k hk).1)
      have B2 := fun k (hk : Value.ownBlock (.slice a2 S.sh.length c2) = some k) => Nat.ne_of_gt (Nat.lt_of_lt_of_le lqs (own_lt so.2.1 k hk).1)
      have B3 := fun k (hk : Value.ownBlock (.slice a3 S.si.length c3) = some k) => Nat.ne_of_gt (Nat.lt_of_lt_of_le lqs (own_lt so.2.2.1 k hk).1)
      have SO := so.mono (show w.heap.size + 2 ≤ u5.heap.size by omega)
      clear so
      replace P := P.ext xs
      replace R := R.ext xs
      replace HST := Lib.hid (HST.out.ext xs)
      replace X := X.trans xs
      replace Q := Q.ext xs
      (try dsimp only)
      refine hK.out _ _ (by exact ⟨P.2.1 0 _ rfl, P.2.1 1 _ rfl, P.2.1 2 _ rfl, P.2.1 3 _ rfl⟩) (fun hHeld => ?_)
      clear hK K
      (refine wpAnyH_take (i := 8) (v := ?_) rfl (by kernel_rfl) (by kernel_rfl) (by kernel_rfl) (fun _ _ _ h => h) (Or.inl ⟨by rfl, ?_⟩) (by assumption) ?_; rotate_left; focus (intro w hSw; (try dsimp only at hSw); (try simp only [zk1, zk2, zk3]); go_simp; try with_reducible rfl)); (try simp only [zk1, zk2, zk3]); (try simp only [Act.put, zk4, zk5, zk6])
      (refine wpAnyH_take (i := 9) (v := ?_) rfl (by kernel_rfl) (by kernel_rfl) (by kernel_rfl) (fun _ _ _ h => h) (Or.inl ⟨by rfl, ?_⟩) (by assumption) ?_; rotate_left; focus (intro w hSw; (try dsimp only at hSw); (try simp only [zk1, zk2, zk3]); go_simp; try with_reducible rfl)); (try simp only [zk1, zk2, zk3]); (try simp only [Act.put, zk4, zk5, zk6])
      (refine wpAnyH_take (i := 10) (v := ?_) rfl (by kernel_rfl) (by kernel_rfl) (by kernel_rfl) (fun _ _ _ h => h) (Or.inl ⟨by rfl, ?_⟩) (by assumption) ?_; rotate_left; focus (intro w hSw; (try dsimp only at hSw); (try simp only [zk1, zk2, zk3]); go_simp; try with_reducible rfl)); (try simp only [zk1, zk2, zk3]); (try simp only [Act.put, zk4, zk5, zk6])
      have lr2 : qb ≠ w.heap.size + 1 := by omega
      have z0 := Q.2.1 0 _ rfl
      have z1 := Q.2.1 1 _ rfl
      have z2 := Q.2.1 2 _ rfl
      have z3 := Q.2.1 3 _ rfl
      have f0 := Q.2.2 0
      have f1 := Q.2.2 1
      have f2 := Q.2.2 2
      have f3 := Q.2.2 3
      have XQ : Ext w ((((u6.setCell ⟨qb, 0, none⟩ (.int .i64 S.at_)).setCell ⟨qb, 1, none⟩ (.slice a1 S.op.length c1)).setCell ⟨qb, 2, none⟩ (.slice a2 S.sh.length c2)).setCell ⟨qb, 3, none⟩ (.slice a3 S.si.length c3)) := ((((X.setCell (by dsimp only; omega) _).setCell (by dsimp only; omega) _).setCell (by dsimp only; omega) _).setCell (by dsimp only; omega) _)
      have QQ := ((((Q.set 0 (.int .i64 S.at_) (by simp)).set 1 (.slice a1 S.op.length c1) (by simp)).set 2 (.slice a2 S.sh.length c2) (by simp)).set 3 (.slice a3 S.si.length c3) (by simp))
      have PQ := ((((P.far (c := qb) (by omega) 0 (.int .i64 S.at_)).far (c := qb) (by omega) 1 (.slice a1 S.op.length c1)).far (c := qb) (by omega) 2 (.slice a2 S.sh.length c2)).far (c := qb) (by omega) 3 (.slice a3 S.si.length c3))
      have RQ := ((((R.far (c := qb) (by omega) 0 (.int .i64 S.at_)).far (c := qb) (by omega) 1 (.slice a1 S.op.length c1)).far (c := qb) (by omega) 2 (.slice a2 S.sh.length c2)).far (c := qb) (by omega) 3 (.slice a3 S.si.length c3))
      have SQ := ((((SO.far B1 B2 B3 0 (.int .i64 S.at_)).far B1 B2 B3 1 (.slice a1 S.op.length c1)).far B1 B2 B3 2 (.slice a2 S.sh.length c2)).far B1 B2 B3 3 (.slice a3 S.si.length c3))
      clear HST
      (refine wpAnyH_ready (rs := [12]) (by kernel_rfl) (by simp) ?_; refine AllReadyH.cons rfl (fun K hK => ?_) AllReadyH.nil; (try simp only [zk1, zk2, zk3]))
      go_simp
      clear z0 z1 z2 z3 f0 f1 f2 f3
      replace P := PQ
      replace Q := QQ
      replace R := RQ
      replace SO := SQ
      replace X := XQ
      clear PQ QQ RQ SQ XQ
      generalize (((u6.setCell ⟨qb, 0, none⟩ (.int .i64 S.at_)).setCell ⟨qb, 1, none⟩ (.slice a1 S.op.length c1)).setCell ⟨qb, 2, none⟩ (.slice a2 S.sh.length c2)).setCell ⟨qb, 3, none⟩ (.slice a3 S.si.length c3) = W6 at *
      (try dsimp only)
      refine hK.out _ _ (by exact ⟨P.2.1 0 _ rfl, P.2.1 1 _ rfl, P.2.1 2 _ rfl, P.2.1 3 _ rfl⟩) (fun hHeld => ?_)
      clear hK K
      (refine wpAnyH_take (i := 13) (v := ?_) rfl (by kernel_rfl) (by kernel_rfl) (by kernel_rfl) (fun _ _ _ h => h) (Or.inl ⟨by rfl, ?_⟩) (by assumption) ?_; rotate_left; focus (intro w hSw; (try dsimp only at hSw); (try simp only [zk1, zk2, zk3]); go_simp; try with_reducible rfl)); (try simp only [zk1, zk2, zk3]); (try simp only [Act.put, zk4, zk5, zk6])
      refine wpAnyH_done (by kernel_rfl) ?_ _
      cases ok
      · have hz := HZ.out rfl
        clear HZ
        subst hz
        have z0 := R.2.1 0 _ rfl
        have z1 := R.2.1 1 _ rfl
        have z2 := R.2.1 2 _ rfl
        have z3 := R.2.1 3 _ rfl
        have z4 := R.2.1 4 _ rfl
        have z5 := R.2.1 5 _ rfl
        have z6 := R.2.1 6 _ rfl
        have z7 := R.2.1 7 _ rfl
        have f0 := R.2.2 0
        have f1 := R.2.2 1
        have f2 := R.2.2 2
        have f3 := R.2.2 3
        have f4 := R.2.2 4
        have f5 := R.2.2 5
        have f6 := R.2.2 6
        have f7 := R.2.2 7
        have XF : Ext w ((((((((W6.setCell ⟨w.heap.size + 1, 0, none⟩ (.int .i64 0)).setCell ⟨w.heap.size + 1, 1, none⟩ (.int .i64 0)).setCell ⟨w.heap.size + 1, 2, none⟩ (.string ⟨#[]⟩)).setCell ⟨w.heap.size + 1, 3, none⟩ (.string ⟨#[]⟩)).setCell ⟨w.heap.size + 1, 4, none⟩ (.int .i64 0)).setCell ⟨w.heap.size + 1, 5, none⟩ (.slice none 0 0)).setCell ⟨w.heap.size + 1, 6, none⟩ (.slice none 0 0)).setCell ⟨w.heap.size + 1, 7, none⟩ (.slice none 0 0)) := ((((((((X.setCell (by dsimp only; omega) _).setCell (by dsimp only; omega) _).setCell (by dsimp only; omega) _).setCell (by dsimp only; omega) _).setCell (by dsimp only; omega) _).setCell (by dsimp only; omega) _).setCell (by dsimp only; omega) _).setCell (by dsimp only; omega) _)
        have RF := ((((((((R.set 0 (.int .i64 0) (by simp)).set 1 (.int .i64 0) (by simp)).set 2 (.string ⟨#[]⟩) (by simp)).set 3 (.string ⟨#[]⟩) (by simp)).set 4 (.int .i64 0) (by simp)).set 5 (.slice none 0 0) (by simp)).set 6 (.slice none 0 0) (by simp)).set 7 (.slice none 0 0) (by simp))
        skip
        go_wp2
        generalize (((((((W6.setCell ⟨w.heap.size + 1, 0, none⟩ (.int .i64 0)).setCell ⟨w.heap.size + 1, 1, none⟩ (.int .i64 0)).setCell ⟨w.heap.size + 1, 2, none⟩ (.string ⟨#[]⟩)).setCell ⟨w.heap.size + 1, 3, none⟩ (.string ⟨#[]⟩)).setCell ⟨w.heap.size + 1, 4, none⟩ (.int .i64 0)).setCell ⟨w.heap.size + 1, 5, none⟩ (.slice none 0 0)).setCell ⟨w.heap.size + 1, 6, none⟩ (.slice none 0 0)).setCell ⟨w.heap.size + 1, 7, none⟩ (.slice none 0 0) = WF at *
        have k0 := RF.2.1 0 _ rfl
        have k1 := RF.2.1 1 _ rfl
        have k2 := RF.2.1 2 _ rfl
        have k3 := RF.2.1 3 _ rfl
        have k4 := RF.2.1 4 _ rfl
        have k5 := RF.2.1 5 _ rfl
        have k6 := RF.2.1 6 _ rfl
        have k7 := RF.2.1 7 _ rfl
        refine bodyPost_ret (v := .tuple #[.agg #[.int .i64 0, .int .i64 0, .string ⟨#[]⟩, .string ⟨#[]⟩, .int .i64 0, .slice none 0 0, .slice none 0 0, .slice none 0 0], .bool false]) (by simp [results, Tryd.results22, go_sem, k0, k1, k2, k3, k4, k5, k6, k7]) rfl ?_
        rw [HSA.out, HTX.out, HS.out, HO.out]
        exact ⟨none, 0, none, 0, none, 0, rfl, sigOwn_nil _ _, XF⟩
      · have p0 := P.2.1 0 _ rfl
        have p1 := P.2.1 1 _ rfl
        have p2 := P.2.1 2 _ rfl
        have p3 := P.2.1 3 _ rfl
        have q0 := Q.2.1 0 _ rfl
        have q1 := Q.2.1 1 _ rfl
        have q2 := Q.2.1 2 _ rfl
        have q3 := Q.2.1 3 _ rfl
        have z0 := R.2.1 0 _ rfl
        have z1 := R.2.1 1 _ rfl
        have z2 := R.2.1 2 _ rfl
        have z3 := R.2.1 3 _ rfl
        have z4 := R.2.1 4 _ rfl
        have z5 := R.2.1 5 _ rfl
        have z6 := R.2.1 6 _ rfl
        have z7 := R.2.1 7 _ rfl
        have f0 := R.2.2 0
        have f1 := R.2.2 1
        have f2 := R.2.2 2
        have f3 := R.2.2 3
        have f4 := R.2.2 4
        have f5 := R.2.2 5
        have f6 := R.2.2 6
        have f7 := R.2.2 7
        have XF : Ext w ((((((((W6.setCell ⟨w.heap.size + 1, 0, none⟩ (.int .i64 h)).setCell ⟨w.heap.size + 1, 1, none⟩ (.int .i64 ep)).setCell ⟨w.heap.size + 1, 2, none⟩ (.string r)).setCell ⟨w.heap.size + 1, 3, none⟩ (.string p)).setCell ⟨w.heap.size + 1, 4, none⟩ (.int .i64 S.at_)).setCell ⟨w.heap.size + 1, 5, none⟩ (.slice a1 S.op.length c1)).setCell ⟨w.heap.size + 1, 6, none⟩ (.slice a2 S.sh.length c2)).setCell ⟨w.heap.size + 1, 7, none⟩ (.slice a3 S.si.length c3)) := ((((((((X.setCell (by dsimp only; omega) _).setCell (by dsimp only; omega) _).setCell (by dsimp only; omega) _).setCell (by dsimp only; omega) _).setCell (by dsimp only; omega) _).setCell (by dsimp only; omega) _).setCell (by dsimp only; omega) _).setCell (by dsimp only; omega) _)
        have RF := ((((((((R.set 0 (.int .i64 h) (by simp)).set 1 (.int .i64 ep) (by simp)).set 2 (.string r) (by simp)).set 3 (.string p) (by simp)).set 4 (.int .i64 S.at_) (by simp)).set 5 (.slice a1 S.op.length c1) (by simp)).set 6 (.slice a2 S.sh.length c2) (by simp)).set 7 (.slice a3 S.si.length c3) (by simp))
        have SF := (((((((SO.set (b := w.heap.size + 1) (by omega) 0 (.int .i64 h)).set (b := w.heap.size + 1) (by omega) 1 (.int .i64 ep)).set (b := w.heap.size + 1) (by omega) 2 (.string r)).set (b := w.heap.size + 1) (by omega) 3 (.string p)).set (b := w.heap.size + 1) (by omega) 4 (.int .i64 S.at_)).set (b := w.heap.size + 1) (by omega) 5 (.slice a1 S.op.length c1)).set (b := w.heap.size + 1) (by omega) 6 (.slice a2 S.sh.length c2)).set (b := w.heap.size + 1) (by omega) 7 (.slice a3 S.si.length c3)
        go_wp2
        generalize (((((((W6.setCell ⟨w.heap.size + 1, 0, none⟩ (.int .i64 h)).setCell ⟨w.heap.size + 1, 1, none⟩ (.int .i64 ep)).setCell ⟨w.heap.size + 1, 2, none⟩ (.string r)).setCell ⟨w.heap.size + 1, 3, none⟩ (.string p)).setCell ⟨w.heap.size + 1, 4, none⟩ (.int .i64 S.at_)).setCell ⟨w.heap.size + 1, 5, none⟩ (.slice a1 S.op.length c1)).setCell ⟨w.heap.size + 1, 6, none⟩ (.slice a2 S.sh.length c2)).setCell ⟨w.heap.size + 1, 7, none⟩ (.slice a3 S.si.length c3) = WF at *
        have k0 := RF.2.1 0 _ rfl
        have k1 := RF.2.1 1 _ rfl
        have k2 := RF.2.1 2 _ rfl
        have k3 := RF.2.1 3 _ rfl
        have k4 := RF.2.1 4 _ rfl
        have k5 := RF.2.1 5 _ rfl
        have k6 := RF.2.1 6 _ rfl
        have k7 := RF.2.1 7 _ rfl
        refine bodyPost_ret (v := .tuple #[.agg #[.int .i64 h, .int .i64 ep, .string r, .string p, .int .i64 S.at_, .slice a1 S.op.length c1, .slice a2 S.sh.length c2, .slice a3 S.si.length c3], .bool true]) (by simp [results, Tryd.results22, go_sem, k0, k1, k2, k3, k4, k5, k6, k7]) rfl ?_
        rw [HSA.out, HTX.out, HS.out, HO.out]
        exact ⟨a1, c1, a2, c2, a3, c3, rfl, SF.mono (by omega), XF⟩
end Go.Proofs.YtliebkhfddmhjaaDoor
namespace Go.Proofs.YtliebkhfddmhjaaDoor
open Go.RowKit

theorem spec_l14Seed (n : Int) (w : World) (hn : 0 ≤ n ∧ n ≤ 3) :
    Calls Tryd.prog 129 #[.int .i64 n] w fun e w' => ∃ s : ByteArray, e = .returned (.string s) ∧ s.size ≤ 6 ∧ Ext w w' := by
  have hcv := conv_lit1
  have z0 : (strOfNums [48 + n]).size = 1 := strOfNums_size _
  go_enter Tryd.func129, Tryd.ntmps129
  go_wp2
  go_ret
  exact ⟨_, rfl, by rw [ByteArray.size_append, z0]; decide, (by repeat (first | (with_reducible first | exact Ext.refl _ | assumption | apply Ext.alloc | apply Ext.drew | apply Ext.drewN | refine Ext.setCell ?_ ?_ _ | refine Ext.trans ?_ (by assumption)) | (show _ ≤ _; first | omega | (dsimp only; omega) | (simp; done) | (simp; omega))))⟩
theorem seal_law {seed : ByteArray} {hh ep : Int} {r p : ByteArray} (hs : seed.size ≤ 100) (hok : headOk hh ep r p = true) :
    slK seed (poolK seed 16) hh ep r p = true ∧ sealOkB (poolRt (poolK seed 16)) hh ep r p (slV seed (poolK seed 16) hh ep r p) = true := by
  obtain ⟨-, he, -⟩ := headOk_true hok
  obtain ⟨a, ha⟩ := Int.eq_ofNat_of_zero_le (show 0 ≤ sealAt ep by rw [sealAt, if_pos (inB_true.2 (by omega))]; omega)
  have ha16 : a < 16 := by
    have : sealAt ep = ep - 1 := by rw [sealAt, if_pos (inB_true.2 (by omega))]
    omega
  have hk : sgnOk seed (poolK seed 16) (sealAt ep) (headH hh ep r p) = true := by rw [ha]; exact sgn_pool ha16 hs (Nat.le_trans (headH_32 _ _ _ _) (by decide))
  have hv : slV seed (poolK seed 16) hh ep r p = sgnV seed (poolK seed 16) (sealAt ep) (headH hh ep r p) := by rw [slV, if_pos hok]
  refine ⟨by rw [slK, hok, hk]; rfl, ?_⟩
  rw [hv, sealOkB, hok, sgn_at hk, decide_eq_true rfl, sg_ok hk]
  rfl
set_option maxRecDepth 100000 in
set_option maxHeartbeats 6400000 in
theorem spec_l14Seal (b : Nat) (w : World) (h : Cur w b) :
    Calls Tryd.prog 119 #[.pointer (some ⟨b, 0, none⟩)] w fun e w' => ∃ (hh ep : Int) (r p root : ByteArray) (S : SigV) (a1 a2 a3 : Option Addr) (c1 c2 c3 : Nat), e = .returned (.tuple #[.agg #[.int .i64 hh, .int .i64 ep, .string r, .string p, .int .i64 S.at_, .slice a1 S.op.length c1, .slice a2 S.sh.length c2, .slice a3 S.si.length c3], .string root]) ∧ root.size = 16 ∧ r.size = 16 ∧ sealOkB root hh ep r p S = true ∧ SigOwn w' w.heap.size (.slice a1 S.op.length c1) (.slice a2 S.sh.length c2) (.slice a3 S.si.length c3) S ∧ Cur w' b ∧ Mut b w w' := by
  have e0 : Ext w (w.alloc (Obj.cells #[.int .i64 0, .int .i64 0, .string ⟨#[]⟩, .string ⟨#[]⟩, .int .i64 0, .slice none 0 0, .slice none 0 0, .slice none 0 0] 39)) := (Ext.refl w).alloc _
  have R := Bx.new w #[.int .i64 0, .int .i64 0, .string ⟨#[]⟩, .string ⟨#[]⟩, .int .i64 0, .slice none 0 0, .slice none 0 0, .slice none 0 0] 39
  have hbw := h.lt
  have hwb : w.heap.size ≠ b := by omega
  go_enter Tryd.func119, Tryd.ntmps119
  go_wp2_with fail
  generalize w.alloc (Obj.cells #[.int .i64 0, .int .i64 0, .string ⟨#[]⟩, .string ⟨#[]⟩, .int .i64 0, .slice none 0 0, .slice none 0 0, .slice none 0 0] 39) = W0 at *
  refine (spec_l01Below _ 3 _ (h.ext e0) (by omega)).mono ?_
  rintro e w1 ⟨hh, rfl, hhb, C1, M1'⟩
  have M1 := (Mut.of_ext (b := b) e0).trans M1'
  replace R := R.mut M1' hwb
  go_wp2_with fail
  refine (spec_l01Below _ 4 _ C1 (by omega)).mono ?_
  rintro e w2 ⟨q, rfl, hq, C2, M2⟩
  replace M1 := M1.trans M2
  replace R := R.mut M2 hwb
  go_wp2_with fail
  refine (spec_l13Root _ _ C2).mono ?_
  rintro e w3 ⟨r, rfl, hr, C3, M3⟩
  replace M1 := M1.trans M3
  replace R := R.mut M3 hwb
  clear C1 C2 M1' M2 M3 h e0
  have hb3 := C3.lt
  have hw3 : w.heap.size < w3.heap.size := R.1
  have hbh : w3.heap.size ≠ b := by omega
  by_cases hq1 : q = 0
  · subst hq1
    have e4 : Ext w3 (w3.alloc (Obj.cells #[.int .i64 hh, .int .i64 1, .string r, .string ⟨#[]⟩] 32)) := (Ext.refl _).alloc _
    have H := Bx.new w3 #[.int .i64 hh, .int .i64 1, .string r, .string ⟨#[]⟩] 32
    have C := C3.ext e4
    have M := M1.trans (Mut.of_ext e4)
    replace R := R.ext e4
    clear C3 M1
    have h1 := H.2.1 1 _ rfl
    go_wp2_with fail
    generalize w3.alloc (Obj.cells #[.int .i64 hh, .int .i64 1, .string r, .string ⟨#[]⟩] 32) = w4 at *
    clear e4 h1
    refine (spec_l14Seed hh _ (by omega)).mono ?_
    rintro e w7 ⟨seed, rfl, hsd, x7⟩
    replace R := R.ext x7
    replace C := C.ext x7
    replace M := M.trans (Mut.of_ext x7)
    replace H := H.ext x7
    have hok : headOk hh 1 r ⟨#[]⟩ = true := by simp only [headOk, Bool.and_eq_true, inB_true, decide_eq_true_eq]; exact ⟨by omega, by omega, hr, by simp; rfl⟩
    obtain ⟨hk, hsl⟩ := seal_law (seed := seed) (by omega) hok
    have HK := Lib.hid hk
    have HSL := Lib.hid hsl
    have RS := Lib.hid (pool_16 (seed := seed) (by omega))
    have HPF := Lib.hid (fun (s : ByteArray) (hs : s ∈ poolK seed 16) => show s.size ≤ maxLen by have := poolK_fit seed 16 s hs; unfold maxLen; omega)
    have HPL := Lib.hid (poolK_len seed 16)
    clear hok hk hsl
    go_wp2_with fail
    refine (spec_PoolOf seed _).mono ?_
    rintro e w8 ⟨pa, pc, rfl, own, x8⟩
    replace R := R.ext x8
    replace C := C.ext x8
    replace M := M.trans (Mut.of_ext x8)
    replace H := H.ext x8
    obtain ⟨g, c', he⟩ := own_form own (by rw [poolK_len]; omega)
    injection he with e1 e2 e3
    subst e1 e3
    clear e2
    have ST := Lib.hid own.strs
    clear own
    generalize poolK seed 16 = pool at *
    have h0 := H.2.1 0 _ rfl
    have h1 := H.2.1 1 _ rfl
    have h2 := H.2.1 2 _ rfl
    have h3 := H.2.1 3 _ rfl
    have LWR := R.1
    go_wp2_with fail
    refine (spec_SealHead seed _ pool hh 1 r ⟨#[]⟩ _ ST.out HPF.out (solid_some _ _ _ _)).mono ?_
    generalize slV seed pool hh 1 r ⟨#[]⟩ = S at *
    rw [HK.out, show slI true hh = hh from rfl, show slI true 1 = 1 from rfl, show slS true r = r from rfl, show slS true ⟨#[]⟩ = ⟨#[]⟩ from rfl]
    rintro e w9 ⟨a1, c1, a2, c2, a3, c3, rfl, so, x9⟩
    clear h0 h1 h2 h3
    have SO := so.mono (show w.heap.size + 1 ≤ w8.heap.size from LWR)
    clear so
    replace R := R.ext x9
    replace C := C.ext x9
    replace M := M.trans (Mut.of_ext x9)
    replace H := H.ext x9
    replace ST := Lib.hid (ST.out.ext x9)
    have e10 : Ext w9 (w9.alloc (Obj.cells #[.int .i64 hh, .int .i64 1, .string r, .string ⟨#[]⟩, .int .i64 S.at_, .slice a1 S.op.length c1, .slice a2 S.sh.length c2, .slice a3 S.si.length c3] 39)) := (Ext.refl _).alloc _
    have Q := Bx.new w9 #[.int .i64 hh, .int .i64 1, .string r, .string ⟨#[]⟩, .int .i64 S.at_, .slice a1 S.op.length c1, .slice a2 S.sh.length c2, .slice a3 S.si.length c3] 39
    have hq9 : w.heap.size < w9.heap.size := R.1
    replace R := R.ext e10
    replace C := C.ext e10
    replace M := M.trans (Mut.of_ext e10)
    replace H := H.ext e10
    replace ST := Lib.hid (ST.out.ext e10)
    replace SO := SO.ext e10
    go_wp2_with fail
    generalize w9.alloc (Obj.cells #[.int .i64 hh, .int .i64 1, .string r, .string ⟨#[]⟩, .int .i64 S.at_, .slice a1 S.op.length c1, .slice a2 S.sh.length c2, .slice a3 S.si.length c3] 39) = w10 at *
    generalize w9.heap.size = qb at *
    clear e10
    refine wp_region_held_drew (S := (fun W => W.cell? ⟨qb, 0, none⟩ = some (.int .i64 hh) ∧ W.cell? ⟨qb, 1, none⟩ = some (.int .i64 1) ∧ W.cell? ⟨qb, 2, none⟩ = some (.string r) ∧ W.cell? ⟨qb, 3, none⟩ = some (.string ⟨#[]⟩) ∧ W.cell? ⟨qb, 4, none⟩ = some (.int .i64 S.at_) ∧ W.cell? ⟨qb, 5, none⟩ = some (.slice a1 S.op.length c1) ∧ W.cell? ⟨qb, 6, none⟩ = some (.slice a2 S.sh.length c2) ∧ W.cell? ⟨qb, 7, none⟩ = some (.slice a3 S.si.length c3))) (by kernel_rfl) (by exact ⟨Q.2.1 0 _ rfl, Q.2.1 1 _ rfl, Q.2.1 2 _ rfl, Q.2.1 3 _ rfl, Q.2.1 4 _ rfl, Q.2.1 5 _ rfl, Q.2.1 6 _ rfl, Q.2.1 7 _ rfl⟩) (fun hHeld => ?_)
    have xd : Ext w10 w10.drew := (Ext.refl w10).drew
    replace R := R.ext xd
    replace C := C.ext xd
    replace M := M.trans (Mut.of_ext xd)
    replace H := H.ext xd
    replace ST := Lib.hid (ST.out.ext xd)
    replace SO := SO.ext xd
    replace Q := Q.ext xd
    generalize w10.drew = w11 at *
    have q0 := Q.2.1 0 _ rfl
    have q1 := Q.2.1 1 _ rfl
    have q2 := Q.2.1 2 _ rfl
    have q3 := Q.2.1 3 _ rfl
    have q4 := Q.2.1 4 _ rfl
    have q5 := Q.2.1 5 _ rfl
    have q6 := Q.2.1 6 _ rfl
    have q7 := Q.2.1 7 _ rfl
    (refine wpAnyH_take (i := 0) (v := ?_) rfl (by kernel_rfl) (by kernel_rfl) (by kernel_rfl) (fun _ _ _ h => h) (Or.inl ⟨by rfl, ?_⟩) (by assumption) ?_; rotate_left; focus (intro w hSw; (try dsimp only at hSw); (try simp only [zk1, zk2]); go_simp; try with_reducible rfl)); (try simp only [zk1, zk2]); (try simp only [Act.put, zk4, zk5, zk6])
    (refine wpAnyH_take (i := 1) (v := ?_) rfl (by kernel_rfl) (by kernel_rfl) (by kernel_rfl) (fun _ _ _ h => h) (Or.inl ⟨by rfl, ?_⟩) (by assumption) ?_; rotate_left; focus (intro w hSw; (try dsimp only at hSw); (try simp only [zk1, zk2, zk3]); go_simp; try with_reducible rfl)); (try simp only [zk1, zk2, zk3]); (try simp only [Act.put, zk4, zk5, zk6])
    (refine wpAnyH_ready (rs := [2]) (by kernel_rfl) (by simp) ?_; refine AllReadyH.cons rfl (fun K hK => ?_) AllReadyH.nil; (try simp only [zk1, zk2, zk3]))
    go_simp
    go_at_call 55
    refine (spec_PoolRoot _ pool _ ST.out HPF.out (solid_some _ _ _ _)).mono ?_
    generalize poolRt pool = rt at *
    rintro e w12 ⟨rfl, x12⟩
    clear q0 q1 q2 q3 q4 q5 q6 q7
    replace R := R.ext x12
    replace C := C.ext x12
    replace M := M.trans (Mut.of_ext x12)
    replace H := H.ext x12
    replace ST := Lib.hid (ST.out.ext x12)
    replace SO := SO.ext x12
    replace Q := Q.ext x12
    (try dsimp only)
    refine hK.out _ _ (by exact ⟨Q.2.1 0 _ rfl, Q.2.1 1 _ rfl, Q.2.1 2 _ rfl, Q.2.1 3 _ rfl, Q.2.1 4 _ rfl, Q.2.1 5 _ rfl, Q.2.1 6 _ rfl, Q.2.1 7 _ rfl⟩) (fun hHeld => ?_)
    clear hK K
    have z0 := R.2.1 0 _ rfl
    have z1 := R.2.1 1 _ rfl
    have z2 := R.2.1 2 _ rfl
    have z3 := R.2.1 3 _ rfl
    have z4 := R.2.1 4 _ rfl
    have z5 := R.2.1 5 _ rfl
    have z6 := R.2.1 6 _ rfl
    have z7 := R.2.1 7 _ rfl
    have zf0 := R.2.2 0
    have zf1 := R.2.2 1
    have zf2 := R.2.2 2
    have zf3 := R.2.2 3
    have zf4 := R.2.2 4
    have zf5 := R.2.2 5
    have zf6 := R.2.2 6
    have zf7 := R.2.2 7
    have RF := ((((((((R.set 0 (.int .i64 hh) (by simp)).set 1 (.int .i64 1) (by simp)).set 2 (.string r) (by simp)).set 3 (.string ⟨#[]⟩) (by simp)).set 4 (.int .i64 S.at_) (by simp)).set 5 (.slice a1 S.op.length c1) (by simp)).set 6 (.slice a2 S.sh.length c2) (by simp)).set 7 (.slice a3 S.si.length c3) (by simp))
    have SF := ((((((((SO.set (b := w.heap.size) (by omega) 0 (.int .i64 hh)).set (b := w.heap.size) (by omega) 1 (.int .i64 1)).set (b := w.heap.size) (by omega) 2 (.string r)).set (b := w.heap.size) (by omega) 3 (.string ⟨#[]⟩)).set (b := w.heap.size) (by omega) 4 (.int .i64 S.at_)).set (b := w.heap.size) (by omega) 5 (.slice a1 S.op.length c1)).set (b := w.heap.size) (by omega) 6 (.slice a2 S.sh.length c2)).set (b := w.heap.size) (by omega) 7 (.slice a3 S.si.length c3))
    have CF := ((((((((C.far hbw 0 (.int .i64 hh)).far hbw 1 (.int .i64 1)).far hbw 2 (.string r)).far hbw 3 (.string ⟨#[]⟩)).far hbw 4 (.int .i64 S.at_)).far hbw 5 (.slice a1 S.op.length c1)).far hbw 6 (.slice a2 S.sh.length c2)).far hbw 7 (.slice a3 S.si.length c3))
    have MF : Mut b w ((((((((w12.setCell ⟨w.heap.size, 0, none⟩ (.int .i64 hh)).setCell ⟨w.heap.size, 1, none⟩ (.int .i64 1)).setCell ⟨w.heap.size, 2, none⟩ (.string r)).setCell ⟨w.heap.size, 3, none⟩ (.string ⟨#[]⟩)).setCell ⟨w.heap.size, 4, none⟩ (.int .i64 S.at_)).setCell ⟨w.heap.size, 5, none⟩ (.slice a1 S.op.length c1)).setCell ⟨w.heap.size, 6, none⟩ (.slice a2 S.sh.length c2)).setCell ⟨w.heap.size, 7, none⟩ (.slice a3 S.si.length c3)) := (mut_new (mut_new (mut_new (mut_new (mut_new (mut_new (mut_new (mut_new M 0 (.int .i64 hh)) 1 (.int .i64 1)) 2 (.string r)) 3 (.string ⟨#[]⟩)) 4 (.int .i64 S.at_)) 5 (.slice a1 S.op.length c1)) 6 (.slice a2 S.sh.length c2)) 7 (.slice a3 S.si.length c3))
    have QF := ((((((((Q.far (c := w.heap.size) (by omega) 0 (.int .i64 hh)).far (c := w.heap.size) (by omega) 1 (.int .i64 1)).far (c := w.heap.size) (by omega) 2 (.string r)).far (c := w.heap.size) (by omega) 3 (.string ⟨#[]⟩)).far (c := w.heap.size) (by omega) 4 (.int .i64 S.at_)).far (c := w.heap.size) (by omega) 5 (.slice a1 S.op.length c1)).far (c := w.heap.size) (by omega) 6 (.slice a2 S.sh.length c2)).far (c := w.heap.size) (by omega) 7 (.slice a3 S.si.length c3))
    clear Q
    have Q := QF
    clear QF
    (refine wpAnyH_ready (rs := [3]) (by kernel_rfl) (by simp) ?_; refine AllReadyH.cons rfl (fun K hK => ?_) AllReadyH.nil; (try simp only [zk1, zk2, zk3]))
    go_simp
    clear z0 zf0 z1 zf1 z2 zf2 z3 zf3 z4 zf4 z5 zf5 z6 zf6 z7 zf7
    generalize (((((((w12.setCell ⟨w.heap.size, 0, none⟩ (.int .i64 hh)).setCell ⟨w.heap.size, 1, none⟩ (.int .i64 1)).setCell ⟨w.heap.size, 2, none⟩ (.string r)).setCell ⟨w.heap.size, 3, none⟩ (.string ⟨#[]⟩)).setCell ⟨w.heap.size, 4, none⟩ (.int .i64 S.at_)).setCell ⟨w.heap.size, 5, none⟩ (.slice a1 S.op.length c1)).setCell ⟨w.heap.size, 6, none⟩ (.slice a2 S.sh.length c2)).setCell ⟨w.heap.size, 7, none⟩ (.slice a3 S.si.length c3) = WF at *
    (try dsimp only)
    refine hK.out _ _ (by exact ⟨Q.2.1 0 _ rfl, Q.2.1 1 _ rfl, Q.2.1 2 _ rfl, Q.2.1 3 _ rfl, Q.2.1 4 _ rfl, Q.2.1 5 _ rfl, Q.2.1 6 _ rfl, Q.2.1 7 _ rfl⟩) (fun hHeld => ?_)
    clear hK K
    (refine wpAnyH_take (i := 4) (v := ?_) rfl (by kernel_rfl) (by kernel_rfl) (by kernel_rfl) (fun _ _ _ h => h) (Or.inl ⟨by rfl, ?_⟩) (by assumption) ?_; rotate_left; focus (intro w hSw; (try dsimp only at hSw); (try simp only [zk1, zk2, zk3]); go_simp; try with_reducible rfl)); (try simp only [zk1, zk2, zk3]); (try simp only [Act.put, zk4, zk5, zk6])
    refine wpAnyH_done (by kernel_rfl) ?_ _
    have k0 := RF.2.1 0 _ rfl
    have k1 := RF.2.1 1 _ rfl
    have k2 := RF.2.1 2 _ rfl
    have k3 := RF.2.1 3 _ rfl
    have k4 := RF.2.1 4 _ rfl
    have k5 := RF.2.1 5 _ rfl
    have k6 := RF.2.1 6 _ rfl
    have k7 := RF.2.1 7 _ rfl
    go_wp2
    refine bodyPost_ret (v := .tuple #[.agg #[.int .i64 hh, .int .i64 1, .string r, .string ⟨#[]⟩, .int .i64 S.at_, .slice a1 S.op.length c1, .slice a2 S.sh.length c2, .slice a3 S.si.length c3], .string rt]) (by simp [results, Tryd.results119, go_sem, k0, k1, k2, k3, k4, k5, k6, k7]) rfl ?_
    exact ⟨hh, 1, r, ⟨#[]⟩, rt, S, a1, a2, a3, c1, c2, c3, rfl, RS.out, hr, HSL.out, SF.mono (by omega), CF, MF⟩
  · have hq2 : 1 < 1 + q := by omega
    have e4 : Ext w3 (w3.alloc (Obj.cells #[.int .i64 hh, .int .i64 (1 + q), .string r, .string ⟨#[]⟩] 32)) := (Ext.refl _).alloc _
    have H := Bx.new w3 #[.int .i64 hh, .int .i64 (1 + q), .string r, .string ⟨#[]⟩] 32
    have C := C3.ext e4
    have M := M1.trans (Mut.of_ext e4)
    replace R := R.ext e4
    clear C3 M1
    have h1 := H.2.1 1 _ rfl
    go_wp2_with fail
    generalize w3.alloc (Obj.cells #[.int .i64 hh, .int .i64 (1 + q), .string r, .string ⟨#[]⟩] 32) = w4 at *
    clear e4 h1
    refine (spec_l13Root _ _ C).mono ?_
    rintro e w5 ⟨p, rfl, hp, C5, M5⟩
    replace M := M.trans M5
    replace R := R.mut M5 hwb
    replace H := H.mut M5 hbh
    clear C M5
    have C := C5
    clear C5
    have h3 := H.2.1 3 _ rfl
    have f3 := H.2.2 3
    have HF := H.set 3 (.string p) (by simp)
    have RF := R.far (c := w3.heap.size) (by omega) 3 (.string p)
    have CF := C.far (c := w3.heap.size) hb3 3 (.string p)
    have MF := mut_new (c := w3.heap.size) M 3 (.string p) (by omega)
    clear H R C M
    have H := HF
    have R := RF
    have C := CF
    have M := MF
    clear HF RF CF MF
    go_wp2_with fail
    clear h3 f3
    generalize w5.setCell ⟨w3.heap.size, 3, none⟩ (.string p) = w6 at *
    refine (spec_l14Seed hh _ (by omega)).mono ?_
    rintro e w7 ⟨seed, rfl, hsd, x7⟩
    replace R := R.ext x7
    replace C := C.ext x7
    replace M := M.trans (Mut.of_ext x7)
    replace H := H.ext x7
    have hok : headOk hh (1 + q) r p = true := by simp only [headOk, Bool.and_eq_true, inB_true, decide_eq_true_eq]; exact ⟨by omega, by omega, hr, by rw [if_neg (by omega)]; exact decide_eq_true hp⟩
    obtain ⟨hk, hsl⟩ := seal_law (seed := seed) (by omega) hok
    have HK := Lib.hid hk
    have HSL := Lib.hid hsl
    have RS := Lib.hid (pool_16 (seed := seed) (by omega))
    have HPF := Lib.hid (fun (s : ByteArray) (hs : s ∈ poolK seed 16) => show s.size ≤ maxLen by have := poolK_fit seed 16 s hs; unfold maxLen; omega)
    have HPL := Lib.hid (poolK_len seed 16)
    clear hok hk hsl
    go_wp2_with fail
    refine (spec_PoolOf seed _).mono ?_
    rintro e w8 ⟨pa, pc, rfl, own, x8⟩
    replace R := R.ext x8
    replace C := C.ext x8
    replace M := M.trans (Mut.of_ext x8)
    replace H := H.ext x8
    obtain ⟨g, c', he⟩ := own_form own (by rw [poolK_len]; omega)
    injection he with e1 e2 e3
    subst e1 e3
    clear e2
    have ST := Lib.hid own.strs
    clear own
    generalize poolK seed 16 = pool at *
    have h0 := H.2.1 0 _ rfl
    have h1 := H.2.1 1 _ rfl
    have h2 := H.2.1 2 _ rfl
    have h3 := H.2.1 3 _ rfl
    have LWR := R.1
    go_wp2_with fail
    refine (spec_SealHead seed _ pool hh (1 + q) r p _ ST.out HPF.out (solid_some _ _ _ _)).mono ?_
    generalize slV seed pool hh (1 + q) r p = S at *
    rw [HK.out, show slI true hh = hh from rfl, show slI true (1 + q) = (1 + q) from rfl, show slS true r = r from rfl, show slS true p = p from rfl]
    rintro e w9 ⟨a1, c1, a2, c2, a3, c3, rfl, so, x9⟩
    clear h0 h1 h2 h3
    have SO := so.mono (show w.heap.size + 1 ≤ w8.heap.size from LWR)
    clear so
    replace R := R.ext x9
    replace C := C.ext x9
    replace M := M.trans (Mut.of_ext x9)
    replace H := H.ext x9
    replace ST := Lib.hid (ST.out.ext x9)
    have e10 : Ext w9 (w9.alloc (Obj.cells #[.int .i64 hh, .int .i64 (1 + q), .string r, .string p, .int .i64 S.at_, .slice a1 S.op.length c1, .slice a2 S.sh.length c2, .slice a3 S.si.length c3] 39)) := (Ext.refl _).alloc _
    have Q := Bx.new w9 #[.int .i64 hh, .int .i64 (1 + q), .string r, .string p, .int .i64 S.at_, .slice a1 S.op.length c1, .slice a2 S.sh.length c2, .slice a3 S.si.length c3] 39
    have hq9 : w.heap.size < w9.heap.size := R.1
    replace R := R.ext e10
    replace C := C.ext e10
    replace M := M.trans (Mut.of_ext e10)
    replace H := H.ext e10
    replace ST := Lib.hid (ST.out.ext e10)
    replace SO := SO.ext e10
    go_wp2_with fail
    generalize w9.alloc (Obj.cells #[.int .i64 hh, .int .i64 (1 + q), .string r, .string p, .int .i64 S.at_, .slice a1 S.op.length c1, .slice a2 S.sh.length c2, .slice a3 S.si.length c3] 39) = w10 at *
    generalize w9.heap.size = qb at *
    clear e10
    refine wp_region_held_drew (S := (fun W => W.cell? ⟨qb, 0, none⟩ = some (.int .i64 hh) ∧ W.cell? ⟨qb, 1, none⟩ = some (.int .i64 (1 + q)) ∧ W.cell? ⟨qb, 2, none⟩ = some (.string r) ∧ W.cell? ⟨qb, 3, none⟩ = some (.string p) ∧ W.cell? ⟨qb, 4, none⟩ = some (.int .i64 S.at_) ∧ W.cell? ⟨qb, 5, none⟩ = some (.slice a1 S.op.length c1) ∧ W.cell? ⟨qb, 6, none⟩ = some (.slice a2 S.sh.length c2) ∧ W.cell? ⟨qb, 7, none⟩ = some (.slice a3 S.si.length c3))) (by kernel_rfl) (by exact ⟨Q.2.1 0 _ rfl, Q.2.1 1 _ rfl, Q.2.1 2 _ rfl, Q.2.1 3 _ rfl, Q.2.1 4 _ rfl, Q.2.1 5 _ rfl, Q.2.1 6 _ rfl, Q.2.1 7 _ rfl⟩) (fun hHeld => ?_)
    have xd : Ext w10 w10.drew := (Ext.refl w10).drew
    replace R := R.ext xd
    replace C := C.ext xd
    replace M := M.trans (Mut.of_ext xd)
    replace H := H.ext xd
    replace ST := Lib.hid (ST.out.ext xd)
    replace SO := SO.ext xd
    replace Q := Q.ext xd
    generalize w10.drew = w11 at *
    have q0 := Q.2.1 0 _ rfl
    have q1 := Q.2.1 1 _ rfl
    have q2 := Q.2.1 2 _ rfl
    have q3 := Q.2.1 3 _ rfl
    have q4 := Q.2.1 4 _ rfl
    have q5 := Q.2.1 5 _ rfl
    have q6 := Q.2.1 6 _ rfl
    have q7 := Q.2.1 7 _ rfl
    (refine wpAnyH_take (i := 0) (v := ?_) rfl (by kernel_rfl) (by kernel_rfl) (by kernel_rfl) (fun _ _ _ h => h) (Or.inl ⟨by rfl, ?_⟩) (by assumption) ?_; rotate_left; focus (intro w hSw; (try dsimp only at hSw); (try simp only [zk1, zk2]); go_simp; try with_reducible rfl)); (try simp only [zk1, zk2]); (try simp only [Act.put, zk4, zk5, zk6])
    (refine wpAnyH_take (i := 1) (v := ?_) rfl (by kernel_rfl) (by kernel_rfl) (by kernel_rfl) (fun _ _ _ h => h) (Or.inl ⟨by rfl, ?_⟩) (by assumption) ?_; rotate_left; focus (intro w hSw; (try dsimp only at hSw); (try simp only [zk1, zk2, zk3]); go_simp; try with_reducible rfl)); (try simp only [zk1, zk2, zk3]); (try simp only [Act.put, zk4, zk5, zk6])
    (refine wpAnyH_ready (rs := [2]) (by kernel_rfl) (by simp) ?_; refine AllReadyH.cons rfl (fun K hK => ?_) AllReadyH.nil; (try simp only [zk1, zk2, zk3]))
    go_simp
    go_at_call 55
    refine (spec_PoolRoot _ pool _ ST.out HPF.out (solid_some _ _ _ _)).mono ?_
    generalize poolRt pool = rt at *
    rintro e w12 ⟨rfl, x12⟩
    clear q0 q1 q2 q3 q4 q5 q6 q7
    replace R := R.ext x12
    replace C := C.ext x12
    replace M := M.trans (Mut.of_ext x12)
    replace H := H.ext x12
    replace ST := Lib.hid (ST.out.ext x12)
    replace SO := SO.ext x12
    replace Q := Q.ext x12
    (try dsimp only)
    refine hK.out _ _ (by exact ⟨Q.2.1 0 _ rfl, Q.2.1 1 _ rfl, Q.2.1 2 _ rfl, Q.2.1 3 _ rfl, Q.2.1 4 _ rfl, Q.2.1 5 _ rfl, Q.2.1 6 _ rfl, Q.2.1 7 _ rfl⟩) (fun hHeld => ?_)
    clear hK K
    have z0 := R.2.1 0 _ rfl
    have z1 := R.2.1 1 _ rfl
    have z2 := R.2.1 2 _ rfl
    have z3 := R.2.1 3 _ rfl
    have z4 := R.2.1 4 _ rfl
    have z5 := R.2.1 5 _ rfl
    have z6 := R.2.1 6 _ rfl
    have z7 := R.2.1 7 _ rfl
    have zf0 := R.2.2 0
    have zf1 := R.2.2 1
    have zf2 := R.2.2 2
    have zf3 := R.2.2 3
    have zf4 := R.2.2 4
    have zf5 := R.2.2 5
    have zf6 := R.2.2 6
    have zf7 := R.2.2 7
    have RF := ((((((((R.set 0 (.int .i64 hh) (by simp)).set 1 (.int .i64 (1 + q)) (by simp)).set 2 (.string r) (by simp)).set 3 (.string p) (by simp)).set 4 (.int .i64 S.at_) (by simp)).set 5 (.slice a1 S.op.length c1) (by simp)).set 6 (.slice a2 S.sh.length c2) (by simp)).set 7 (.slice a3 S.si.length c3) (by simp))
    have SF := ((((((((SO.set (b := w.heap.size) (by omega) 0 (.int .i64 hh)).set (b := w.heap.size) (by omega) 1 (.int .i64 (1 + q))).set (b := w.heap.size) (by omega) 2 (.string r)).set (b := w.heap.size) (by omega) 3 (.string p)).set (b := w.heap.size) (by omega) 4 (.int .i64 S.at_)).set (b := w.heap.size) (by omega) 5 (.slice a1 S.op.length c1)).set (b := w.heap.size) (by omega) 6 (.slice a2 S.sh.length c2)).set (b := w.heap.size) (by omega) 7 (.slice a3 S.si.length c3))
    have CF := ((((((((C.far hbw 0 (.int .i64 hh)).far hbw 1 (.int .i64 (1 + q))).far hbw 2 (.string r)).far hbw 3 (.string p)).far hbw 4 (.int .i64 S.at_)).far hbw 5 (.slice a1 S.op.length c1)).far hbw 6 (.slice a2 S.sh.length c2)).far hbw 7 (.slice a3 S.si.length c3))
    have MF : Mut b w ((((((((w12.setCell ⟨w.heap.size, 0, none⟩ (.int .i64 hh)).setCell ⟨w.heap.size, 1, none⟩ (.int .i64 (1 + q))).setCell ⟨w.heap.size, 2, none⟩ (.string r)).setCell ⟨w.heap.size, 3, none⟩ (.string p)).setCell ⟨w.heap.size, 4, none⟩ (.int .i64 S.at_)).setCell ⟨w.heap.size, 5, none⟩ (.slice a1 S.op.length c1)).setCell ⟨w.heap.size, 6, none⟩ (.slice a2 S.sh.length c2)).setCell ⟨w.heap.size, 7, none⟩ (.slice a3 S.si.length c3)) := (mut_new (mut_new (mut_new (mut_new (mut_new (mut_new (mut_new (mut_new M 0 (.int .i64 hh)) 1 (.int .i64 (1 + q))) 2 (.string r)) 3 (.string p)) 4 (.int .i64 S.at_)) 5 (.slice a1 S.op.length c1)) 6 (.slice a2 S.sh.length c2)) 7 (.slice a3 S.si.length c3))
    have QF := ((((((((Q.far (c := w.heap.size) (by omega) 0 (.int .i64 hh)).far (c := w.heap.size) (by omega) 1 (.int .i64 (1 + q))).far (c := w.heap.size) (by omega) 2 (.string r)).far (c := w.heap.size) (by omega) 3 (.string p)).far (c := w.heap.size) (by omega) 4 (.int .i64 S.at_)).far (c := w.heap.size) (by omega) 5 (.slice a1 S.op.length c1)).far (c := w.heap.size) (by omega) 6 (.slice a2 S.sh.length c2)).far (c := w.heap.size) (by omega) 7 (.slice a3 S.si.length c3))
    clear Q
    have Q := QF
    clear QF
    (refine wpAnyH_ready (rs := [3]) (by kernel_rfl) (by simp) ?_; refine AllReadyH.cons rfl (fun K hK => ?_) AllReadyH.nil; (try simp only [zk1, zk2, zk3]))
    go_simp
    clear z0 zf0 z1 zf1 z2 zf2 z3 zf3 z4 zf4 z5 zf5 z6 zf6 z7 zf7
    generalize (((((((w12.setCell ⟨w.heap.size, 0, none⟩ (.int .i64 hh)).setCell ⟨w.heap.size, 1, none⟩ (.int .i64 (1 + q))).setCell ⟨w.heap.size, 2, none⟩ (.string r)).setCell ⟨w.heap.size, 3, none⟩ (.string p)).setCell ⟨w.heap.size, 4, none⟩ (.int .i64 S.at_)).setCell ⟨w.heap.size, 5, none⟩ (.slice a1 S.op.length c1)).setCell ⟨w.heap.size, 6, none⟩ (.slice a2 S.sh.length c2)).setCell ⟨w.heap.size, 7, none⟩ (.slice a3 S.si.length c3) = WF at *
    (try dsimp only)
    refine hK.out _ _ (by exact ⟨Q.2.1 0 _ rfl, Q.2.1 1 _ rfl, Q.2.1 2 _ rfl, Q.2.1 3 _ rfl, Q.2.1 4 _ rfl, Q.2.1 5 _ rfl, Q.2.1 6 _ rfl, Q.2.1 7 _ rfl⟩) (fun hHeld => ?_)
    clear hK K
    (refine wpAnyH_take (i := 4) (v := ?_) rfl (by kernel_rfl) (by kernel_rfl) (by kernel_rfl) (fun _ _ _ h => h) (Or.inl ⟨by rfl, ?_⟩) (by assumption) ?_; rotate_left; focus (intro w hSw; (try dsimp only at hSw); (try simp only [zk1, zk2, zk3]); go_simp; try with_reducible rfl)); (try simp only [zk1, zk2, zk3]); (try simp only [Act.put, zk4, zk5, zk6])
    refine wpAnyH_done (by kernel_rfl) ?_ _
    have k0 := RF.2.1 0 _ rfl
    have k1 := RF.2.1 1 _ rfl
    have k2 := RF.2.1 2 _ rfl
    have k3 := RF.2.1 3 _ rfl
    have k4 := RF.2.1 4 _ rfl
    have k5 := RF.2.1 5 _ rfl
    have k6 := RF.2.1 6 _ rfl
    have k7 := RF.2.1 7 _ rfl
    go_wp2
    refine bodyPost_ret (v := .tuple #[.agg #[.int .i64 hh, .int .i64 (1 + q), .string r, .string p, .int .i64 S.at_, .slice a1 S.op.length c1, .slice a2 S.sh.length c2, .slice a3 S.si.length c3], .string rt]) (by simp [results, Tryd.results119, go_sem, k0, k1, k2, k3, k4, k5, k6, k7]) rfl ?_
    exact ⟨hh, (1 + q), r, p, rt, S, a1, a2, a3, c1, c2, c3, rfl, RS.out, hr, HSL.out, SF.mono (by omega), CF, MF⟩
set_option maxHeartbeats 1600000 in
theorem spec_DrawSeal (v : Value) (bs : List Int) (w : World) (h : Code w w.heap.size v bs) (hl : bs.length ≤ 1048576) :
    Calls Tryd.prog 44 #[v] w fun e w' => ∃ (hh ep : Int) (r p root : ByteArray) (S : SigV) (a1 a2 a3 : Option Addr) (c1 c2 c3 : Nat), e = .returned (.tuple #[.agg #[.int .i64 hh, .int .i64 ep, .string r, .string p, .int .i64 S.at_, .slice a1 S.op.length c1, .slice a2 S.sh.length c2, .slice a3 S.si.length c3], .string root]) ∧ root.size = 16 ∧ r.size = 16 ∧ sealOkB root hh ep r p S = true ∧ SigOwn w' w.heap.size (.slice a1 S.op.length c1) (.slice a2 S.sh.length c2) (.slice a3 S.si.length c3) S ∧ Ext w w' := by
  have e0 : Ext w (w.alloc (Obj.cells #[.int .i64 0, .int .i64 0, .string ⟨#[]⟩, .string ⟨#[]⟩, .int .i64 0, .slice none 0 0, .slice none 0 0, .slice none 0 0] 39)) := (Ext.refl w).alloc _
  have R := Bx.new w #[.int .i64 0, .int .i64 0, .string ⟨#[]⟩, .string ⟨#[]⟩, .int .i64 0, .slice none 0 0, .slice none 0 0, .slice none 0 0] 39
  go_enter Tryd.func44, Tryd.ntmps44
  go_wp2_with fail
  generalize w.alloc (Obj.cells #[.int .i64 0, .int .i64 0, .string ⟨#[]⟩, .string ⟨#[]⟩, .int .i64 0, .slice none 0 0, .slice none 0 0, .slice none 0 0] 39) = W0 at *
  refine (spec_l01New v bs _ (h.ext (Nat.le_refl _) e0 e0.size) hl).mono ?_
  rintro e w1 ⟨rfl, C1, x1⟩
  have R1 := R.ext x1
  have X1 := e0.trans x1
  have l0 : w.heap.size < W0.heap.size := R.1
  clear R
  go_wp2_with fail
  refine (spec_l14Seal _ _ C1).mono ?_
  rintro e w2 ⟨hh, ep, r, p, root, S, a1, a2, a3, c1, c2, c3, rfl, hr, hr2, hok, so, C2, M2⟩
  have R := R1.mut M2 (by omega)
  have X := X1.mut M2 e0.size
  have SO := so.mono (show w.heap.size + 1 ≤ w1.heap.size by have := x1.size; omega)
  have HR := Lib.hid hr
  have HR2 := Lib.hid hr2
  have HO := Lib.hid hok
  clear so hr hr2 hok R1 X1
  have z0 := R.2.1 0 _ rfl
  have z1 := R.2.1 1 _ rfl
  have z2 := R.2.1 2 _ rfl
  have z3 := R.2.1 3 _ rfl
  have z4 := R.2.1 4 _ rfl
  have z5 := R.2.1 5 _ rfl
  have z6 := R.2.1 6 _ rfl
  have z7 := R.2.1 7 _ rfl
  have f0 := R.2.2 0
  have f1 := R.2.2 1
  have f2 := R.2.2 2
  have f3 := R.2.2 3
  have f4 := R.2.2 4
  have f5 := R.2.2 5
  have f6 := R.2.2 6
  have f7 := R.2.2 7
  have XF : Ext w ((((((((w2.setCell ⟨w.heap.size, 0, none⟩ (.int .i64 hh)).setCell ⟨w.heap.size, 1, none⟩ (.int .i64 ep)).setCell ⟨w.heap.size, 2, none⟩ (.string r)).setCell ⟨w.heap.size, 3, none⟩ (.string p)).setCell ⟨w.heap.size, 4, none⟩ (.int .i64 S.at_)).setCell ⟨w.heap.size, 5, none⟩ (.slice a1 S.op.length c1)).setCell ⟨w.heap.size, 6, none⟩ (.slice a2 S.sh.length c2)).setCell ⟨w.heap.size, 7, none⟩ (.slice a3 S.si.length c3)) := ((((((((X.setCell (by dsimp only; omega) _).setCell (by dsimp only; omega) _).setCell (by dsimp only; omega) _).setCell (by dsimp only; omega) _).setCell (by dsimp only; omega) _).setCell (by dsimp only; omega) _).setCell (by dsimp only; omega) _).setCell (by dsimp only; omega) _)
  have RF := ((((((((R.set 0 (.int .i64 hh) (by simp)).set 1 (.int .i64 ep) (by simp)).set 2 (.string r) (by simp)).set 3 (.string p) (by simp)).set 4 (.int .i64 S.at_) (by simp)).set 5 (.slice a1 S.op.length c1) (by simp)).set 6 (.slice a2 S.sh.length c2) (by simp)).set 7 (.slice a3 S.si.length c3) (by simp))
  have SF := ((((((((SO.set (b := w.heap.size) (by omega) 0 (.int .i64 hh)).set (b := w.heap.size) (by omega) 1 (.int .i64 ep)).set (b := w.heap.size) (by omega) 2 (.string r)).set (b := w.heap.size) (by omega) 3 (.string p)).set (b := w.heap.size) (by omega) 4 (.int .i64 S.at_)).set (b := w.heap.size) (by omega) 5 (.slice a1 S.op.length c1)).set (b := w.heap.size) (by omega) 6 (.slice a2 S.sh.length c2)).set (b := w.heap.size) (by omega) 7 (.slice a3 S.si.length c3))
  go_wp2
  generalize (((((((w2.setCell ⟨w.heap.size, 0, none⟩ (.int .i64 hh)).setCell ⟨w.heap.size, 1, none⟩ (.int .i64 ep)).setCell ⟨w.heap.size, 2, none⟩ (.string r)).setCell ⟨w.heap.size, 3, none⟩ (.string p)).setCell ⟨w.heap.size, 4, none⟩ (.int .i64 S.at_)).setCell ⟨w.heap.size, 5, none⟩ (.slice a1 S.op.length c1)).setCell ⟨w.heap.size, 6, none⟩ (.slice a2 S.sh.length c2)).setCell ⟨w.heap.size, 7, none⟩ (.slice a3 S.si.length c3) = WF at *
  clear z0 f0 z1 f1 z2 f2 z3 f3 z4 f4 z5 f5 z6 f6 z7 f7
  have k0 := RF.2.1 0 _ rfl
  have k1 := RF.2.1 1 _ rfl
  have k2 := RF.2.1 2 _ rfl
  have k3 := RF.2.1 3 _ rfl
  have k4 := RF.2.1 4 _ rfl
  have k5 := RF.2.1 5 _ rfl
  have k6 := RF.2.1 6 _ rfl
  have k7 := RF.2.1 7 _ rfl
  refine bodyPost_ret (v := .tuple #[.agg #[.int .i64 hh, .int .i64 ep, .string r, .string p, .int .i64 S.at_, .slice a1 S.op.length c1, .slice a2 S.sh.length c2, .slice a3 S.si.length c3], .string root]) (by simp [results, Tryd.results44, go_sem, k0, k1, k2, k3, k4, k5, k6, k7]) rfl ?_
  exact ⟨hh, ep, r, p, root, S, a1, a2, a3, c1, c2, c3, rfl, HR.out, HR2.out, HO.out, SF.mono (by omega), XF⟩
end Go.Proofs.YtliebkhfddmhjaaDoor
