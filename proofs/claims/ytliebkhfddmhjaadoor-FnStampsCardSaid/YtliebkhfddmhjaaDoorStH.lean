/- StampHead, both sides. -/
import Derived.Test.YtliebkhfddmhjaaDoorSgnA
import Derived.Test.YtliebkhfddmhjaaDoorSgnB
import Derived.Test.YtliebkhfddmhjaaDoorStTD
namespace Go.Proofs.YtliebkhfddmhjaaDoor
open Go.RowKit

/-- what a stamp of a head is -/
def stV (seed : ByteArray) (pool : List ByteArray) (h ep : Int) (r p : ByteArray) : SigV := if headOk h ep r p = true then sgnV seed pool (stampAt h ep) (stampH h ep r p) else ⟨0, [], [], []⟩
def stK (seed : ByteArray) (pool : List ByteArray) (h ep : Int) (r p : ByteArray) : Bool := headOk h ep r p && sgnOk seed pool (stampAt h ep) (stampH h ep r p)
theorem stV_len (seed : ByteArray) (pool : List ByteArray) (h ep : Int) (r p : ByteArray) : (stV seed pool h ep r p).op.length + (stV seed pool h ep r p).sh.length + (stV seed pool h ep r p).si.length ≤ 20 := by
  rw [stV]
  split
  · exact sgnV_len _ _ _ _
  · exact Nat.zero_le _
set_option maxRecDepth 100000 in
set_option maxHeartbeats 3200000 in
theorem spec_StampHead (seed : ByteArray) (v : Value) (pool : List ByteArray) (h ep : Int) (r p : ByteArray) (w : World) (hst : Strs w v pool) (hs : ∀ s ∈ pool, s.size ≤ maxLen) (hsol : Solid v) :
    Calls Tryd.prog 13 #[.string seed, v, .agg #[.int .i64 h, .int .i64 ep, .string r, .string p]] w fun e w' => ∃ a1 c1 a2 c2 a3 c3, e = .returned (.tuple #[.agg #[.int .i64 (stV seed pool h ep r p).at_, .slice a1 (stV seed pool h ep r p).op.length c1, .slice a2 (stV seed pool h ep r p).sh.length c2, .slice a3 (stV seed pool h ep r p).si.length c3], .bool (stK seed pool h ep r p)]) ∧ SigOwn w' w.heap.size (.slice a1 (stV seed pool h ep r p).op.length c1) (.slice a2 (stV seed pool h ep r p).sh.length c2) (.slice a3 (stV seed pool h ep r p).si.length c3) (stV seed pool h ep r p) ∧ Ext w w' := by
  obtain ⟨pa, pc, rfl⟩ := hst.form
  have HST := Lib.hid hst
  clear hst
  cases hh : headOk h ep r p
  · have HV := Lib.hid (show stV seed pool h ep r p = ⟨0, [], [], []⟩ by rw [stV, if_neg (by rw [hh]; decide)])
    have HK := Lib.hid (show stK seed pool h ep r p = false by rw [stK, hh]; rfl)
    have HH := Lib.hid hh
    clear hh
    go_enter Tryd.func13, Tryd.ntmps13
    go_wp2_with fail
    have P : Bx ((w.alloc (Obj.cells #[.int .i64 h, .int .i64 ep, .string r, .string p] 32)).alloc (Obj.cells #[.int .i64 0, .slice none 0 0, .slice none 0 0, .slice none 0 0] 28)) w.heap.size [.int .i64 h, .int .i64 ep, .string r, .string p] := (Bx.new w _ _).ext ((Ext.refl _).alloc _)
    have R := Bx.new (w.alloc (Obj.cells #[.int .i64 h, .int .i64 ep, .string r, .string p] 32)) #[.int .i64 0, .slice none 0 0, .slice none 0 0, .slice none 0 0] 28
    rw [World.size_alloc] at R
    have X : Ext w ((w.alloc (Obj.cells #[.int .i64 h, .int .i64 ep, .string r, .string p] 32)).alloc (Obj.cells #[.int .i64 0, .slice none 0 0, .slice none 0 0, .slice none 0 0] 28)) := ((Ext.refl w).alloc _).alloc _
    replace HST := Lib.hid (HST.out.ext X)
    generalize (w.alloc (Obj.cells #[.int .i64 h, .int .i64 ep, .string r, .string p] 32)).alloc (Obj.cells #[.int .i64 0, .slice none 0 0, .slice none 0 0, .slice none 0 0] 28) = W0 at *
    refine (spec_HeadOk _ _ _ _ _).mono ?_
    rw [HH.out]
    rintro e w1 ⟨rfl, x1⟩
    replace P := P.ext x1
    replace R := R.ext x1
    replace HST := Lib.hid (HST.out.ext x1)
    replace X := X.trans x1
    have z0 := R.2.1 0 _ rfl
    have z1 := R.2.1 1 _ rfl
    have z2 := R.2.1 2 _ rfl
    have z3 := R.2.1 3 _ rfl
    have f0 := R.2.2 0
    have f1 := R.2.2 1
    have f2 := R.2.2 2
    have f3 := R.2.2 3
    have XF : Ext w ((((w1.setCell ⟨w.heap.size + 1, 0, none⟩ (.int .i64 0)).setCell ⟨w.heap.size + 1, 1, none⟩ (.slice none 0 0)).setCell ⟨w.heap.size + 1, 2, none⟩ (.slice none 0 0)).setCell ⟨w.heap.size + 1, 3, none⟩ (.slice none 0 0)) := (((X.setCell (by dsimp only; omega) _).setCell (by dsimp only; omega) _).setCell (by dsimp only; omega) _).setCell (by dsimp only; omega) _
    have RF := ((((R.set 0 (.int .i64 0) (by simp)).set 1 (.slice none 0 0) (by simp)).set 2 (.slice none 0 0) (by simp)).set 3 (.slice none 0 0) (by simp))
    go_wp2
    generalize (((w1.setCell ⟨w.heap.size + 1, 0, none⟩ (.int .i64 0)).setCell ⟨w.heap.size + 1, 1, none⟩ (.slice none 0 0)).setCell ⟨w.heap.size + 1, 2, none⟩ (.slice none 0 0)).setCell ⟨w.heap.size + 1, 3, none⟩ (.slice none 0 0) = WF at *
    have k0 := RF.2.1 0 _ rfl
    have k1 := RF.2.1 1 _ rfl
    have k2 := RF.2.1 2 _ rfl
    have k3 := RF.2.1 3 _ rfl
    refine bodyPost_ret (v := .tuple #[.agg #[.int .i64 0, .slice none 0 0, .slice none 0 0, .slice none 0 0], .bool false]) (by simp [results, Tryd.results13, go_sem, k0, k1, k2, k3]) rfl ?_
    rw [HV.out, HK.out]
    exact ⟨_, _, _, _, _, _, rfl, sigOwn_nil _ _, XF⟩
  · have HV := Lib.hid (show stV seed pool h ep r p = sgnV seed pool (stampAt h ep) (stampH h ep r p) by rw [stV, if_pos hh])
    have HK := Lib.hid (show stK seed pool h ep r p = sgnOk seed pool (stampAt h ep) (stampH h ep r p) by rw [stK, hh]; rfl)
    have HH := Lib.hid hh
    clear hh
    rw [HV.out, HK.out]
    clear HV HK
    go_enter Tryd.func13, Tryd.ntmps13
    go_wp2_with fail
    have P : Bx ((w.alloc (Obj.cells #[.int .i64 h, .int .i64 ep, .string r, .string p] 32)).alloc (Obj.cells #[.int .i64 0, .slice none 0 0, .slice none 0 0, .slice none 0 0] 28)) w.heap.size [.int .i64 h, .int .i64 ep, .string r, .string p] := (Bx.new w _ _).ext ((Ext.refl _).alloc _)
    have R := Bx.new (w.alloc (Obj.cells #[.int .i64 h, .int .i64 ep, .string r, .string p] 32)) #[.int .i64 0, .slice none 0 0, .slice none 0 0, .slice none 0 0] 28
    rw [World.size_alloc] at R
    have X : Ext w ((w.alloc (Obj.cells #[.int .i64 h, .int .i64 ep, .string r, .string p] 32)).alloc (Obj.cells #[.int .i64 0, .slice none 0 0, .slice none 0 0, .slice none 0 0] 28)) := ((Ext.refl w).alloc _).alloc _
    replace HST := Lib.hid (HST.out.ext X)
    generalize (w.alloc (Obj.cells #[.int .i64 h, .int .i64 ep, .string r, .string p] 32)).alloc (Obj.cells #[.int .i64 0, .slice none 0 0, .slice none 0 0, .slice none 0 0] 28) = W0 at *
    refine (spec_HeadOk _ _ _ _ _).mono ?_
    rw [HH.out]
    rintro e w1 ⟨rfl, x1⟩
    replace P := P.ext x1
    replace R := R.ext x1
    replace HST := Lib.hid (HST.out.ext x1)
    replace X := X.trans x1
    have p0 := P.2.1 0 _ rfl
    have p1 := P.2.1 1 _ rfl
    have p2 := P.2.1 2 _ rfl
    have p3 := P.2.1 3 _ rfl
    go_wp2_with fail
    clear p0 p1 p2 p3
    refine wp_region_held_drew (S := (fun W => W.cell? ⟨w.heap.size, 0, none⟩ = some (.int .i64 h) ∧ W.cell? ⟨w.heap.size, 1, none⟩ = some (.int .i64 ep) ∧ W.cell? ⟨w.heap.size, 2, none⟩ = some (.string r) ∧ W.cell? ⟨w.heap.size, 3, none⟩ = some (.string p))) (by kernel_rfl) (by exact ⟨P.2.1 0 _ rfl, P.2.1 1 _ rfl, P.2.1 2 _ rfl, P.2.1 3 _ rfl⟩) (fun hHeld => ?_)
    have xd : Ext w1 w1.drew := (Ext.refl w1).drew
    replace P := P.ext xd
    replace R := R.ext xd
    replace HST := Lib.hid (HST.out.ext xd)
    replace X := X.trans xd
    generalize w1.drew = w2 at *
    have p0 := P.2.1 0 _ rfl
    have p1 := P.2.1 1 _ rfl
    have p2 := P.2.1 2 _ rfl
    have p3 := P.2.1 3 _ rfl
    (refine wpAnyH_take (i := 0) (v := ?_) rfl (by kernel_rfl) (by kernel_rfl) (by kernel_rfl) (fun _ _ _ h => h) (Or.inl ⟨by rfl, ?_⟩) (by assumption) ?_; rotate_left; focus (intro w hSw; (try dsimp only at hSw); (try simp only [zk1, zk2]); go_simp; try with_reducible rfl)); (try simp only [zk1, zk2]); (try simp only [Act.put, zk4, zk5, zk6])
    (refine wpAnyH_take (i := 1) (v := ?_) rfl (by kernel_rfl) (by kernel_rfl) (by kernel_rfl) (fun _ _ _ h => h) (Or.inl ⟨by rfl, ?_⟩) (by assumption) ?_; rotate_left; focus (intro w hSw; (try dsimp only at hSw); (try simp only [zk1, zk2, zk3]); go_simp; try with_reducible rfl)); (try simp only [zk1, zk2, zk3]); (try simp only [Act.put, zk4, zk5, zk6])
    (refine wpAnyH_take (i := 2) (v := ?_) rfl (by kernel_rfl) (by kernel_rfl) (by kernel_rfl) (fun _ _ _ h => h) (Or.inl ⟨by rfl, ?_⟩) (by assumption) ?_; rotate_left; focus (intro w hSw; (try dsimp only at hSw); (try simp only [zk1, zk2, zk3]); go_simp; try with_reducible rfl)); (try simp only [zk1, zk2, zk3]); (try simp only [Act.put, zk4, zk5, zk6])
    (refine wpAnyH_take (i := 3) (v := ?_) rfl (by kernel_rfl) (by kernel_rfl) (by kernel_rfl) (fun _ _ _ h => h) (Or.inl ⟨by rfl, ?_⟩) (by assumption) ?_; rotate_left; focus (intro w hSw; (try dsimp only at hSw); (try simp only [zk1, zk2, zk3]); go_simp; try with_reducible rfl)); (try simp only [zk1, zk2, zk3]); (try simp only [Act.put, zk4, zk5, zk6])
    (refine wpAnyH_take (i := 4) (v := ?_) rfl (by kernel_rfl) (by kernel_rfl) (by kernel_rfl) (fun _ _ _ h => h) (Or.inl ⟨by rfl, ?_⟩) (by assumption) ?_; rotate_left; focus (intro w hSw; (try dsimp only at hSw); (try simp only [zk1, zk2, zk3]); go_simp; try with_reducible rfl)); (try simp only [zk1, zk2, zk3]); (try simp only [Act.put, zk4, zk5, zk6])
    (refine wpAnyH_take (i := 5) (v := ?_) rfl (by kernel_rfl) (by kernel_rfl) (by kernel_rfl) (fun _ _ _ h => h) (Or.inl ⟨by rfl, ?_⟩) (by assumption) ?_; rotate_left; focus (intro w hSw; (try dsimp only at hSw); (try simp only [zk1, zk2, zk3]); go_simp; try with_reducible rfl)); (try simp only [zk1, zk2, zk3]); (try simp only [Act.put, zk4, zk5, zk6])
    (refine wpAnyH_take (i := 7) (v := ?_) rfl (by kernel_rfl) (by kernel_rfl) (by kernel_rfl) (fun _ _ _ h => h) (Or.inl ⟨by rfl, ?_⟩) (by assumption) ?_; rotate_left; focus (intro w hSw; (try dsimp only at hSw); (try simp only [zk1, zk2, zk3]); go_simp; try with_reducible rfl)); (try simp only [zk1, zk2, zk3]); (try simp only [Act.put, zk4, zk5, zk6])
    (refine wpAnyH_ready (rs := [6]) (by kernel_rfl) (by simp) ?_; refine AllReadyH.cons rfl (fun K hK => ?_) AllReadyH.nil; (try simp only [zk1, zk2, zk3]))
    go_simp
    go_at_call 85
    refine (spec_StampAt h ep _).mono ?_
    generalize hsa : stampAt h ep = sa at *
    have HSA := Lib.hid hsa
    clear hsa
    rintro e w' ⟨rfl, rfl⟩
    (try dsimp only)
    refine hK.out _ _ (by exact ⟨P.2.1 0 _ rfl, P.2.1 1 _ rfl, P.2.1 2 _ rfl, P.2.1 3 _ rfl⟩) (fun hHeld => ?_)
    clear hK K
    (refine wpAnyH_ready (rs := [8]) (by kernel_rfl) (by simp) ?_; refine AllReadyH.cons rfl (fun K hK => ?_) AllReadyH.nil; (try simp only [zk1, zk2, zk3]))
    go_simp
    go_at_call 86
    refine (spec_l14Stamp h ep r p _).mono ?_
    generalize htx : stampH h ep r p = tx at *
    have HTX := Lib.hid htx
    clear htx
    rintro e w3 ⟨rfl, x3⟩
    clear p0 p1 p2 p3
    replace P := P.ext x3
    replace R := R.ext x3
    replace HST := Lib.hid (HST.out.ext x3)
    replace X := X.trans x3
    (try dsimp only)
    refine hK.out _ _ (by exact ⟨P.2.1 0 _ rfl, P.2.1 1 _ rfl, P.2.1 2 _ rfl, P.2.1 3 _ rfl⟩) (fun hHeld => ?_)
    clear hK K
    (refine wpAnyH_ready (rs := [9]) (by kernel_rfl) (by simp) ?_; refine AllReadyH.cons rfl (fun K hK => ?_) AllReadyH.nil; (try simp only [zk1, zk2, zk3]))
    go_simp
    go_at_call 84
    refine (spec_SignText seed tx _ pool sa _ HST.out hs hsol).mono ?_
    generalize hS : sgnV seed pool sa tx = S at *
    generalize hok : sgnOk seed pool sa tx = ok at *
    have HS := Lib.hid hS
    have HO := Lib.hid hok
    clear hS hok
    rintro e w4 ⟨a1, c1, a2, c2, a3, c3, rfl, so, x4⟩
    have l3 : w.heap.size + 1 < w3.heap.size := R.1
    replace P := P.ext x4
    replace R := R.ext x4
    replace HST := Lib.hid (HST.out.ext x4)
    replace X := X.trans x4
    (try dsimp only)
    refine hK.out _ _ (by exact ⟨P.2.1 0 _ rfl, P.2.1 1 _ rfl, P.2.1 2 _ rfl, P.2.1 3 _ rfl⟩) (fun hHeld => ?_)
    clear hK K
    (refine wpAnyH_take (i := 10) (v := ?_) rfl (by kernel_rfl) (by kernel_rfl) (by kernel_rfl) (fun _ _ _ h => h) (Or.inl ⟨by rfl, ?_⟩) (by assumption) ?_; rotate_left; focus (intro w hSw; (try dsimp only at hSw); (try simp only [zk1, zk2, zk3]); go_simp; try with_reducible rfl)); (try simp only [zk1, zk2, zk3]); (try simp only [Act.put, zk4, zk5, zk6])
    (refine wpAnyH_take (i := 11) (v := ?_) rfl (by kernel_rfl) (by kernel_rfl) (by kernel_rfl) (fun _ _ _ h => h) (Or.inl ⟨by rfl, ?_⟩) (by assumption) ?_; rotate_left; focus (intro w hSw; (try dsimp only at hSw); (try simp only [zk1, zk2, zk3]); go_simp; try with_reducible rfl)); (try simp only [zk1, zk2, zk3]); (try simp only [Act.put, zk4, zk5, zk6])
    have z0 := R.2.1 0 _ rfl
    have z1 := R.2.1 1 _ rfl
    have z2 := R.2.1 2 _ rfl
    have z3 := R.2.1 3 _ rfl
    have f0 := R.2.2 0
    have f1 := R.2.2 1
    have f2 := R.2.2 2
    have f3 := R.2.2 3
    have XF : Ext w ((((w4.setCell ⟨w.heap.size + 1, 0, none⟩ (.int .i64 S.at_)).setCell ⟨w.heap.size + 1, 1, none⟩ (.slice a1 S.op.length c1)).setCell ⟨w.heap.size + 1, 2, none⟩ (.slice a2 S.sh.length c2)).setCell ⟨w.heap.size + 1, 3, none⟩ (.slice a3 S.si.length c3)) := (((X.setCell (by dsimp only; omega) _).setCell (by dsimp only; omega) _).setCell (by dsimp only; omega) _).setCell (by dsimp only; omega) _
    have RF := ((((R.set 0 (.int .i64 S.at_) (by simp)).set 1 (.slice a1 S.op.length c1) (by simp)).set 2 (.slice a2 S.sh.length c2) (by simp)).set 3 (.slice a3 S.si.length c3) (by simp))
    have PF := (((P.far (c := w.heap.size + 1) (by omega) 0 (.int .i64 S.at_)).far (c := w.heap.size + 1) (by omega) 1 (.slice a1 S.op.length c1)).far (c := w.heap.size + 1) (by omega) 2 (.slice a2 S.sh.length c2)).far (c := w.heap.size + 1) (by omega) 3 (.slice a3 S.si.length c3)
    have OF := so.below4 (b := w.heap.size + 1) l3 (.int .i64 S.at_) (.slice a1 S.op.length c1) (.slice a2 S.sh.length c2) (.slice a3 S.si.length c3)
    replace P := PF
    clear so PF HST
    (refine wpAnyH_ready (rs := [12]) (by kernel_rfl) (by simp) ?_; refine AllReadyH.cons rfl (fun K hK => ?_) AllReadyH.nil; (try simp only [zk1, zk2, zk3]))
    go_simp
    generalize (((w4.setCell ⟨w.heap.size + 1, 0, none⟩ (.int .i64 S.at_)).setCell ⟨w.heap.size + 1, 1, none⟩ (.slice a1 S.op.length c1)).setCell ⟨w.heap.size + 1, 2, none⟩ (.slice a2 S.sh.length c2)).setCell ⟨w.heap.size + 1, 3, none⟩ (.slice a3 S.si.length c3) = WF at *
    (try dsimp only)
    refine hK.out _ _ (by exact ⟨P.2.1 0 _ rfl, P.2.1 1 _ rfl, P.2.1 2 _ rfl, P.2.1 3 _ rfl⟩) (fun hHeld => ?_)
    clear hK K
    (refine wpAnyH_take (i := 13) (v := ?_) rfl (by kernel_rfl) (by kernel_rfl) (by kernel_rfl) (fun _ _ _ h => h) (Or.inl ⟨by rfl, ?_⟩) (by assumption) ?_; rotate_left; focus (intro w hSw; (try dsimp only at hSw); (try simp only [zk1, zk2, zk3]); go_simp; try with_reducible rfl)); (try simp only [zk1, zk2, zk3]); (try simp only [Act.put, zk4, zk5, zk6])
    refine wpAnyH_done (by kernel_rfl) ?_ _
    have k0 := RF.2.1 0 _ rfl
    have k1 := RF.2.1 1 _ rfl
    have k2 := RF.2.1 2 _ rfl
    have k3 := RF.2.1 3 _ rfl
    clear z0 z1 z2 z3 f0 f1 f2 f3
    go_wp2
    refine bodyPost_ret (v := .tuple #[.agg #[.int .i64 S.at_, .slice a1 S.op.length c1, .slice a2 S.sh.length c2, .slice a3 S.si.length c3], .bool ok]) (by simp [results, Tryd.results13, go_sem, k0, k1, k2, k3]) rfl ?_
    rw [HSA.out, HTX.out, HS.out, HO.out]
    exact ⟨a1, c1, a2, c2, a3, c3, rfl, OF.mono (Nat.le_trans (Nat.le_succ _) (Nat.le_of_lt l3)), XF⟩
set_option maxRecDepth 100000 in
set_option maxHeartbeats 3200000 in
theorem impl_StampHead (seed : ByteArray) (v : Value) (pool : List ByteArray) (h ep : Int) (r p : ByteArray) (w : World) (hst : Strs w v pool) (hs : ∀ s ∈ pool, s.size ≤ maxLen) (hsol : Solid v) (hT : Tabs w) :
    Calls Tryd.prog 16 #[.string seed, v, .agg #[.int .i64 h, .int .i64 ep, .string r, .string p]] w fun e w' => ∃ a1 c1 a2 c2 a3 c3, e = .returned (.tuple #[.agg #[.int .i64 (stV seed pool h ep r p).at_, .slice a1 (stV seed pool h ep r p).op.length c1, .slice a2 (stV seed pool h ep r p).sh.length c2, .slice a3 (stV seed pool h ep r p).si.length c3], .bool (stK seed pool h ep r p)]) ∧ SigOwn w' w.heap.size (.slice a1 (stV seed pool h ep r p).op.length c1) (.slice a2 (stV seed pool h ep r p).sh.length c2) (.slice a3 (stV seed pool h ep r p).si.length c3) (stV seed pool h ep r p) ∧ Ext w w' := by
  have HT := Lib.hid hT
  clear hT
  obtain ⟨pa, pc, rfl⟩ := hst.form
  have HST := Lib.hid hst
  clear hst
  cases hh : headOk h ep r p
  · have HV := Lib.hid (show stV seed pool h ep r p = ⟨0, [], [], []⟩ by rw [stV, if_neg (by rw [hh]; decide)])
    have HK := Lib.hid (show stK seed pool h ep r p = false by rw [stK, hh]; rfl)
    have HH := Lib.hid hh
    clear hh
    go_enter Tryd.func16, Tryd.ntmps16
    go_wp2_with fail
    have P : Bx ((w.alloc (Obj.cells #[.int .i64 h, .int .i64 ep, .string r, .string p] 32)).alloc (Obj.cells #[.int .i64 0, .slice none 0 0, .slice none 0 0, .slice none 0 0] 28)) w.heap.size [.int .i64 h, .int .i64 ep, .string r, .string p] := (Bx.new w _ _).ext ((Ext.refl _).alloc _)
    have R := Bx.new (w.alloc (Obj.cells #[.int .i64 h, .int .i64 ep, .string r, .string p] 32)) #[.int .i64 0, .slice none 0 0, .slice none 0 0, .slice none 0 0] 28
    rw [World.size_alloc] at R
    have X : Ext w ((w.alloc (Obj.cells #[.int .i64 h, .int .i64 ep, .string r, .string p] 32)).alloc (Obj.cells #[.int .i64 0, .slice none 0 0, .slice none 0 0, .slice none 0 0] 28)) := ((Ext.refl w).alloc _).alloc _
    replace HST := Lib.hid (HST.out.ext X)
    generalize (w.alloc (Obj.cells #[.int .i64 h, .int .i64 ep, .string r, .string p] 32)).alloc (Obj.cells #[.int .i64 0, .slice none 0 0, .slice none 0 0, .slice none 0 0] 28) = W0 at *
    refine (impl_HeadOk _ _ _ _ _).mono ?_
    rw [HH.out]
    rintro e w1 ⟨rfl, x1⟩
    replace P := P.ext x1
    replace R := R.ext x1
    replace HST := Lib.hid (HST.out.ext x1)
    replace X := X.trans x1
    have z0 := R.2.1 0 _ rfl
    have z1 := R.2.1 1 _ rfl
    have z2 := R.2.1 2 _ rfl
    have z3 := R.2.1 3 _ rfl
    have f0 := R.2.2 0
    have f1 := R.2.2 1
    have f2 := R.2.2 2
    have f3 := R.2.2 3
    have XF : Ext w ((((w1.setCell ⟨w.heap.size + 1, 0, none⟩ (.int .i64 0)).setCell ⟨w.heap.size + 1, 1, none⟩ (.slice none 0 0)).setCell ⟨w.heap.size + 1, 2, none⟩ (.slice none 0 0)).setCell ⟨w.heap.size + 1, 3, none⟩ (.slice none 0 0)) := (((X.setCell (by dsimp only; omega) _).setCell (by dsimp only; omega) _).setCell (by dsimp only; omega) _).setCell (by dsimp only; omega) _
    have RF := ((((R.set 0 (.int .i64 0) (by simp)).set 1 (.slice none 0 0) (by simp)).set 2 (.slice none 0 0) (by simp)).set 3 (.slice none 0 0) (by simp))
    go_wp2
    generalize (((w1.setCell ⟨w.heap.size + 1, 0, none⟩ (.int .i64 0)).setCell ⟨w.heap.size + 1, 1, none⟩ (.slice none 0 0)).setCell ⟨w.heap.size + 1, 2, none⟩ (.slice none 0 0)).setCell ⟨w.heap.size + 1, 3, none⟩ (.slice none 0 0) = WF at *
    have k0 := RF.2.1 0 _ rfl
    have k1 := RF.2.1 1 _ rfl
    have k2 := RF.2.1 2 _ rfl
    have k3 := RF.2.1 3 _ rfl
    refine bodyPost_ret (v := .tuple #[.agg #[.int .i64 0, .slice none 0 0, .slice none 0 0, .slice none 0 0], .bool false]) (by simp [results, Tryd.results16, go_sem, k0, k1, k2, k3]) rfl ?_
    rw [HV.out, HK.out]
    exact ⟨_, _, _, _, _, _, rfl, sigOwn_nil _ _, XF⟩
  · have HV := Lib.hid (show stV seed pool h ep r p = sgnV seed pool (stampAt h ep) (stampH h ep r p) by rw [stV, if_pos hh])
    have HK := Lib.hid (show stK seed pool h ep r p = sgnOk seed pool (stampAt h ep) (stampH h ep r p) by rw [stK, hh]; rfl)
    have HH := Lib.hid hh
    clear hh
    rw [HV.out, HK.out]
    clear HV HK
    go_enter Tryd.func16, Tryd.ntmps16
    go_wp2_with fail
    have P : Bx ((w.alloc (Obj.cells #[.int .i64 h, .int .i64 ep, .string r, .string p] 32)).alloc (Obj.cells #[.int .i64 0, .slice none 0 0, .slice none 0 0, .slice none 0 0] 28)) w.heap.size [.int .i64 h, .int .i64 ep, .string r, .string p] := (Bx.new w _ _).ext ((Ext.refl _).alloc _)
    have R := Bx.new (w.alloc (Obj.cells #[.int .i64 h, .int .i64 ep, .string r, .string p] 32)) #[.int .i64 0, .slice none 0 0, .slice none 0 0, .slice none 0 0] 28
    rw [World.size_alloc] at R
    have X : Ext w ((w.alloc (Obj.cells #[.int .i64 h, .int .i64 ep, .string r, .string p] 32)).alloc (Obj.cells #[.int .i64 0, .slice none 0 0, .slice none 0 0, .slice none 0 0] 28)) := ((Ext.refl w).alloc _).alloc _
    replace HST := Lib.hid (HST.out.ext X)
    generalize (w.alloc (Obj.cells #[.int .i64 h, .int .i64 ep, .string r, .string p] 32)).alloc (Obj.cells #[.int .i64 0, .slice none 0 0, .slice none 0 0, .slice none 0 0] 28) = W0 at *
    refine (impl_HeadOk _ _ _ _ _).mono ?_
    rw [HH.out]
    rintro e w1 ⟨rfl, x1⟩
    replace P := P.ext x1
    replace R := R.ext x1
    replace HST := Lib.hid (HST.out.ext x1)
    replace X := X.trans x1
    have p0 := P.2.1 0 _ rfl
    have p1 := P.2.1 1 _ rfl
    have p2 := P.2.1 2 _ rfl
    have p3 := P.2.1 3 _ rfl
    go_wp2_with fail
    clear p0 p1 p2 p3
    refine wp_region_held_drew (S := (fun W => W.cell? ⟨w.heap.size, 0, none⟩ = some (.int .i64 h) ∧ W.cell? ⟨w.heap.size, 1, none⟩ = some (.int .i64 ep) ∧ W.cell? ⟨w.heap.size, 2, none⟩ = some (.string r) ∧ W.cell? ⟨w.heap.size, 3, none⟩ = some (.string p))) (by kernel_rfl) (by exact ⟨P.2.1 0 _ rfl, P.2.1 1 _ rfl, P.2.1 2 _ rfl, P.2.1 3 _ rfl⟩) (fun hHeld => ?_)
    have xd : Ext w1 w1.drew := (Ext.refl w1).drew
    replace P := P.ext xd
    replace R := R.ext xd
    replace HST := Lib.hid (HST.out.ext xd)
    replace X := X.trans xd
    generalize w1.drew = w2 at *
    have p0 := P.2.1 0 _ rfl
    have p1 := P.2.1 1 _ rfl
    have p2 := P.2.1 2 _ rfl
    have p3 := P.2.1 3 _ rfl
    (refine wpAnyH_take (i := 0) (v := ?_) rfl (by kernel_rfl) (by kernel_rfl) (by kernel_rfl) (fun _ _ _ h => h) (Or.inl ⟨by rfl, ?_⟩) (by assumption) ?_; rotate_left; focus (intro w hSw; (try dsimp only at hSw); (try simp only [zk1, zk2]); go_simp; try with_reducible rfl)); (try simp only [zk1, zk2]); (try simp only [Act.put, zk4, zk5, zk6])
    (refine wpAnyH_take (i := 1) (v := ?_) rfl (by kernel_rfl) (by kernel_rfl) (by kernel_rfl) (fun _ _ _ h => h) (Or.inl ⟨by rfl, ?_⟩) (by assumption) ?_; rotate_left; focus (intro w hSw; (try dsimp only at hSw); (try simp only [zk1, zk2, zk3]); go_simp; try with_reducible rfl)); (try simp only [zk1, zk2, zk3]); (try simp only [Act.put, zk4, zk5, zk6])
    (refine wpAnyH_take (i := 2) (v := ?_) rfl (by kernel_rfl) (by kernel_rfl) (by kernel_rfl) (fun _ _ _ h => h) (Or.inl ⟨by rfl, ?_⟩) (by assumption) ?_; rotate_left; focus (intro w hSw; (try dsimp only at hSw); (try simp only [zk1, zk2, zk3]); go_simp; try with_reducible rfl)); (try simp only [zk1, zk2, zk3]); (try simp only [Act.put, zk4, zk5, zk6])
    (refine wpAnyH_take (i := 3) (v := ?_) rfl (by kernel_rfl) (by kernel_rfl) (by kernel_rfl) (fun _ _ _ h => h) (Or.inl ⟨by rfl, ?_⟩) (by assumption) ?_; rotate_left; focus (intro w hSw; (try dsimp only at hSw); (try simp only [zk1, zk2, zk3]); go_simp; try with_reducible rfl)); (try simp only [zk1, zk2, zk3]); (try simp only [Act.put, zk4, zk5, zk6])
    (refine wpAnyH_take (i := 4) (v := ?_) rfl (by kernel_rfl) (by kernel_rfl) (by kernel_rfl) (fun _ _ _ h => h) (Or.inl ⟨by rfl, ?_⟩) (by assumption) ?_; rotate_left; focus (intro w hSw; (try dsimp only at hSw); (try simp only [zk1, zk2, zk3]); go_simp; try with_reducible rfl)); (try simp only [zk1, zk2, zk3]); (try simp only [Act.put, zk4, zk5, zk6])
    (refine wpAnyH_take (i := 5) (v := ?_) rfl (by kernel_rfl) (by kernel_rfl) (by kernel_rfl) (fun _ _ _ h => h) (Or.inl ⟨by rfl, ?_⟩) (by assumption) ?_; rotate_left; focus (intro w hSw; (try dsimp only at hSw); (try simp only [zk1, zk2, zk3]); go_simp; try with_reducible rfl)); (try simp only [zk1, zk2, zk3]); (try simp only [Act.put, zk4, zk5, zk6])
    (refine wpAnyH_take (i := 7) (v := ?_) rfl (by kernel_rfl) (by kernel_rfl) (by kernel_rfl) (fun _ _ _ h => h) (Or.inl ⟨by rfl, ?_⟩) (by assumption) ?_; rotate_left; focus (intro w hSw; (try dsimp only at hSw); (try simp only [zk1, zk2, zk3]); go_simp; try with_reducible rfl)); (try simp only [zk1, zk2, zk3]); (try simp only [Act.put, zk4, zk5, zk6])
    (refine wpAnyH_ready (rs := [6]) (by kernel_rfl) (by simp) ?_; refine AllReadyH.cons rfl (fun K hK => ?_) AllReadyH.nil; (try simp only [zk1, zk2, zk3]))
    go_simp
    go_at_call 57
    refine (impl_StampAt h ep _).mono ?_
    generalize hsa : stampAt h ep = sa at *
    have HSA := Lib.hid hsa
    clear hsa
    rintro e w' ⟨rfl, rfl⟩
    (try dsimp only)
    refine hK.out _ _ (by exact ⟨P.2.1 0 _ rfl, P.2.1 1 _ rfl, P.2.1 2 _ rfl, P.2.1 3 _ rfl⟩) (fun hHeld => ?_)
    clear hK K
    (refine wpAnyH_ready (rs := [8]) (by kernel_rfl) (by simp) ?_; refine AllReadyH.cons rfl (fun K hK => ?_) AllReadyH.nil; (try simp only [zk1, zk2, zk3]))
    go_simp
    go_at_call 89
    refine (impl_stampText h ep r p _ (HT.out.ext X)).mono ?_
    generalize htx : stampH h ep r p = tx at *
    have HTX := Lib.hid htx
    clear htx
    rintro e w3 ⟨rfl, x3⟩
    clear p0 p1 p2 p3
    replace P := P.ext x3
    replace R := R.ext x3
    replace HST := Lib.hid (HST.out.ext x3)
    replace X := X.trans x3
    (try dsimp only)
    refine hK.out _ _ (by exact ⟨P.2.1 0 _ rfl, P.2.1 1 _ rfl, P.2.1 2 _ rfl, P.2.1 3 _ rfl⟩) (fun hHeld => ?_)
    clear hK K
    (refine wpAnyH_ready (rs := [9]) (by kernel_rfl) (by simp) ?_; refine AllReadyH.cons rfl (fun K hK => ?_) AllReadyH.nil; (try simp only [zk1, zk2, zk3]))
    go_simp
    go_at_call 88
    refine (impl_SignText seed tx _ pool sa _ HST.out hs hsol (HT.out.ext X)).mono ?_
    generalize hS : sgnV seed pool sa tx = S at *
    generalize hok : sgnOk seed pool sa tx = ok at *
    have HS := Lib.hid hS
    have HO := Lib.hid hok
    clear hS hok
    rintro e w4 ⟨a1, c1, a2, c2, a3, c3, rfl, so, x4⟩
    have l3 : w.heap.size + 1 < w3.heap.size := R.1
    replace P := P.ext x4
    replace R := R.ext x4
    replace HST := Lib.hid (HST.out.ext x4)
    replace X := X.trans x4
    (try dsimp only)
    refine hK.out _ _ (by exact ⟨P.2.1 0 _ rfl, P.2.1 1 _ rfl, P.2.1 2 _ rfl, P.2.1 3 _ rfl⟩) (fun hHeld => ?_)
    clear hK K
    (refine wpAnyH_take (i := 10) (v := ?_) rfl (by kernel_rfl) (by kernel_rfl) (by kernel_rfl) (fun _ _ _ h => h) (Or.inl ⟨by rfl, ?_⟩) (by assumption) ?_; rotate_left; focus (intro w hSw; (try dsimp only at hSw); (try simp only [zk1, zk2, zk3]); go_simp; try with_reducible rfl)); (try simp only [zk1, zk2, zk3]); (try simp only [Act.put, zk4, zk5, zk6])
    (refine wpAnyH_take (i := 11) (v := ?_) rfl (by kernel_rfl) (by kernel_rfl) (by kernel_rfl) (fun _ _ _ h => h) (Or.inl ⟨by rfl, ?_⟩) (by assumption) ?_; rotate_left; focus (intro w hSw; (try dsimp only at hSw); (try simp only [zk1, zk2, zk3]); go_simp; try with_reducible rfl)); (try simp only [zk1, zk2, zk3]); (try simp only [Act.put, zk4, zk5, zk6])
    have z0 := R.2.1 0 _ rfl
    have z1 := R.2.1 1 _ rfl
    have z2 := R.2.1 2 _ rfl
    have z3 := R.2.1 3 _ rfl
    have f0 := R.2.2 0
    have f1 := R.2.2 1
    have f2 := R.2.2 2
    have f3 := R.2.2 3
    have XF : Ext w ((((w4.setCell ⟨w.heap.size + 1, 0, none⟩ (.int .i64 S.at_)).setCell ⟨w.heap.size + 1, 1, none⟩ (.slice a1 S.op.length c1)).setCell ⟨w.heap.size + 1, 2, none⟩ (.slice a2 S.sh.length c2)).setCell ⟨w.heap.size + 1, 3, none⟩ (.slice a3 S.si.length c3)) := (((X.setCell (by dsimp only; omega) _).setCell (by dsimp only; omega) _).setCell (by dsimp only; omega) _).setCell (by dsimp only; omega) _
    have RF := ((((R.set 0 (.int .i64 S.at_) (by simp)).set 1 (.slice a1 S.op.length c1) (by simp)).set 2 (.slice a2 S.sh.length c2) (by simp)).set 3 (.slice a3 S.si.length c3) (by simp))
    have PF := (((P.far (c := w.heap.size + 1) (by omega) 0 (.int .i64 S.at_)).far (c := w.heap.size + 1) (by omega) 1 (.slice a1 S.op.length c1)).far (c := w.heap.size + 1) (by omega) 2 (.slice a2 S.sh.length c2)).far (c := w.heap.size + 1) (by omega) 3 (.slice a3 S.si.length c3)
    have OF := so.below4 (b := w.heap.size + 1) l3 (.int .i64 S.at_) (.slice a1 S.op.length c1) (.slice a2 S.sh.length c2) (.slice a3 S.si.length c3)
    replace P := PF
    clear so PF HST
    (refine wpAnyH_ready (rs := [12]) (by kernel_rfl) (by simp) ?_; refine AllReadyH.cons rfl (fun K hK => ?_) AllReadyH.nil; (try simp only [zk1, zk2, zk3]))
    go_simp
    generalize (((w4.setCell ⟨w.heap.size + 1, 0, none⟩ (.int .i64 S.at_)).setCell ⟨w.heap.size + 1, 1, none⟩ (.slice a1 S.op.length c1)).setCell ⟨w.heap.size + 1, 2, none⟩ (.slice a2 S.sh.length c2)).setCell ⟨w.heap.size + 1, 3, none⟩ (.slice a3 S.si.length c3) = WF at *
    (try dsimp only)
    refine hK.out _ _ (by exact ⟨P.2.1 0 _ rfl, P.2.1 1 _ rfl, P.2.1 2 _ rfl, P.2.1 3 _ rfl⟩) (fun hHeld => ?_)
    clear hK K
    (refine wpAnyH_take (i := 13) (v := ?_) rfl (by kernel_rfl) (by kernel_rfl) (by kernel_rfl) (fun _ _ _ h => h) (Or.inl ⟨by rfl, ?_⟩) (by assumption) ?_; rotate_left; focus (intro w hSw; (try dsimp only at hSw); (try simp only [zk1, zk2, zk3]); go_simp; try with_reducible rfl)); (try simp only [zk1, zk2, zk3]); (try simp only [Act.put, zk4, zk5, zk6])
    refine wpAnyH_done (by kernel_rfl) ?_ _
    have k0 := RF.2.1 0 _ rfl
    have k1 := RF.2.1 1 _ rfl
    have k2 := RF.2.1 2 _ rfl
    have k3 := RF.2.1 3 _ rfl
    clear z0 z1 z2 z3 f0 f1 f2 f3
    go_wp2
    refine bodyPost_ret (v := .tuple #[.agg #[.int .i64 S.at_, .slice a1 S.op.length c1, .slice a2 S.sh.length c2, .slice a3 S.si.length c3], .bool ok]) (by simp [results, Tryd.results16, go_sem, k0, k1, k2, k3]) rfl ?_
    rw [HSA.out, HTX.out, HS.out, HO.out]
    exact ⟨a1, c1, a2, c2, a3, c3, rfl, OF.mono (Nat.le_trans (Nat.le_succ _) (Nat.le_of_lt l3)), XF⟩
end Go.Proofs.YtliebkhfddmhjaaDoor
