/- SealHead, both sides. -/
import Derived.Test.YtliebkhfddmhjaaDoorStH
namespace Go.Proofs.YtliebkhfddmhjaaDoor
open Go.RowKit

/-- what a signed head is -/
def slV (seed : ByteArray) (pool : List ByteArray) (h ep : Int) (r p : ByteArray) : SigV := if headOk h ep r p = true then sgnV seed pool (sealAt ep) (headH h ep r p) else ⟨0, [], [], []⟩
def slK (seed : ByteArray) (pool : List ByteArray) (h ep : Int) (r p : ByteArray) : Bool := headOk h ep r p && sgnOk seed pool (sealAt ep) (headH h ep r p)
def slI (ok : Bool) (h : Int) : Int := if ok = true then h else 0
def slS (ok : Bool) (r : ByteArray) : ByteArray := if ok = true then r else ⟨#[]⟩
theorem slV_len (seed : ByteArray) (pool : List ByteArray) (h ep : Int) (r p : ByteArray) : (slV seed pool h ep r p).op.length + (slV seed pool h ep r p).sh.length + (slV seed pool h ep r p).si.length ≤ 20 := by
  rw [slV]
  split
  · exact sgnV_len _ _ _ _
  · exact Nat.zero_le _
theorem own_set {w : World} {base b o : Nat} {e : TypeId} {n len : Nat} {v : Value} {l : List Value} (h : w.ownsRow base e n v len l) (hb : b < base) (x : Value) : (w.setCell ⟨b, o, none⟩ x).ownsRow base e n v len l := own_below h (p := ⟨b, o, none⟩) (u := x) hb
theorem SigOwn.set {w : World} {base b : Nat} {v1 v2 v3 : Value} {s : SigV} (h : SigOwn w base v1 v2 v3 s) (hb : b < base) (o : Nat) (x : Value) : SigOwn (w.setCell ⟨b, o, none⟩ x) base v1 v2 v3 s := ⟨own_set h.1 hb x, own_set h.2.1 hb x, own_set h.2.2.1 hb x, h.2.2.2⟩
/-- a row that is read lies in no block from base on -/
theorem own_far {w : World} {base b o : Nat} {e : TypeId} {n len : Nat} {v : Value} {l : List Value} (h : w.ownsRow base e n v len l) (hb : ∀ k, v.ownBlock = some k → k ≠ b) (x : Value) : (w.setCell ⟨b, o, none⟩ x).ownsRow base e n v len l := own_grown2 h (row := some b) ⟨rfl, rfl, rfl, by simp [World.setCell], fun k _ hk => Below.heap_setCell _ _ _ _ (by simpa using hk)⟩ (fun k hk e => by cases hk; exact hb _ e rfl)
theorem SigOwn.far {w : World} {base b : Nat} {v1 v2 v3 : Value} {s : SigV} (h : SigOwn w base v1 v2 v3 s) (h1 : ∀ k, v1.ownBlock = some k → k ≠ b) (h2 : ∀ k, v2.ownBlock = some k → k ≠ b) (h3 : ∀ k, v3.ownBlock = some k → k ≠ b) (o : Nat) (x : Value) : SigOwn (w.setCell ⟨b, o, none⟩ x) base v1 v2 v3 s := ⟨own_far h.1 h1 x, own_far h.2.1 h2 x, own_far h.2.2.1 h3 x, h.2.2.2⟩
set_option maxRecDepth 100000 in
set_option maxHeartbeats 6400000 in
theorem spec_SealHead (seed : ByteArray) (v : Value) (pool : List ByteArray) (h ep : Int) (r p : ByteArray) (w : World) (hst : Strs w v pool) (hs : ∀ s ∈ pool, s.size ≤ maxLen) (hsol : Solid v) :
    Calls Tryd.prog 22 #[.string seed, v, .agg #[.int .i64 h, .int .i64 ep, .string r, .string p]] w fun e w' => ∃ a1 c1 a2 c2 a3 c3, e = .returned (.tuple #[.agg #[.int .i64 (slI (slK seed pool h ep r p) h), .int .i64 (slI (slK seed pool h ep r p) ep), .string (slS (slK seed pool h ep r p) r), .string (slS (slK seed pool h ep r p) p), .int .i64 (slV seed pool h ep r p).at_, .slice a1 (slV seed pool h ep r p).op.length c1, .slice a2 (slV seed pool h ep r p).sh.length c2, .slice a3 (slV seed pool h ep r p).si.length c3], .bool (slK seed pool h ep r p)]) ∧ SigOwn w' w.heap.size (.slice a1 (slV seed pool h ep r p).op.length c1) (.slice a2 (slV seed pool h ep r p).sh.length c2) (.slice a3 (slV seed pool h ep r p).si.length c3) (slV seed pool h ep r p) ∧ Ext w w' := by
  obtain ⟨pa, pc, rfl⟩ := hst.form
  have HST := Lib.hid hst
  clear hst
  cases hh : headOk h ep r p
  · have HV := Lib.hid (show slV seed pool h ep r p = ⟨0, [], [], []⟩ by rw [slV, if_neg (by rw [hh]; decide)])
    have HK := Lib.hid (show slK seed pool h ep r p = false by rw [slK, hh]; rfl)
    have HH := Lib.hid hh
    clear hh
    go_enter Tryd.func22, Tryd.ntmps22
    go_wp2_with fail
    have P : Bx ((w.alloc (Obj.cells #[.int .i64 h, .int .i64 ep, .string r, .string p] 32)).alloc (Obj.cells #[.int .i64 0, .int .i64 0, .string ⟨#[]⟩, .string ⟨#[]⟩, .int .i64 0, .slice none 0 0, .slice none 0 0, .slice none 0 0] 39)) w.heap.size [.int .i64 h, .int .i64 ep, .string r, .string p] := (Bx.new w _ _).ext ((Ext.refl _).alloc _)
    have R := Bx.new (w.alloc (Obj.cells #[.int .i64 h, .int .i64 ep, .string r, .string p] 32)) #[.int .i64 0, .int .i64 0, .string ⟨#[]⟩, .string ⟨#[]⟩, .int .i64 0, .slice none 0 0, .slice none 0 0, .slice none 0 0] 39
    rw [World.size_alloc] at R
    have X : Ext w ((w.alloc (Obj.cells #[.int .i64 h, .int .i64 ep, .string r, .string p] 32)).alloc (Obj.cells #[.int .i64 0, .int .i64 0, .string ⟨#[]⟩, .string ⟨#[]⟩, .int .i64 0, .slice none 0 0, .slice none 0 0, .slice none 0 0] 39)) := ((Ext.refl w).alloc _).alloc _
    replace HST := Lib.hid (HST.out.ext X)
    generalize (w.alloc (Obj.cells #[.int .i64 h, .int .i64 ep, .string r, .string p] 32)).alloc (Obj.cells #[.int .i64 0, .int .i64 0, .string ⟨#[]⟩, .string ⟨#[]⟩, .int .i64 0, .slice none 0 0, .slice none 0 0, .slice none 0 0] 39) = W0 at *
    refine (spec_HeadOk _ _ _ _ _).mono ?_
    rw [HH.out]
    rintro e w1 ⟨rfl, x1⟩
    replace P := P.ext x1
    replace R := R.ext x1
    replace HST := Lib.hid (HST.out.ext x1)
    replace X := X.trans x1
    have z0 := R.2.1 0 _ rfl
    have z1 := R.2.1 1 _ rfl
    have z2 := R.2.1 2 _ rfl
    have z3 := R.2.1 3 _ rfl
    have z4 := R.2.1 4 _ rfl
    have z5 := R.2.1 5 _ rfl
    have z6 := R.2.1 6 _ rfl
    have z7 := R.2.1 7 _ rfl
    have f0 := R.2.2 0
    have f1 := R.2.2 1
    have f2 := R.2.2 2
    have f3 := R.2.2 3
    have f4 := R.2.2 4
    have f5 := R.2.2 5
    have f6 := R.2.2 6
    have f7 := R.2.2 7
    have XF : Ext w ((((((((w1.setCell ⟨w.heap.size + 1, 0, none⟩ (.int .i64 0)).setCell ⟨w.heap.size + 1, 1, none⟩ (.int .i64 0)).setCell ⟨w.heap.size + 1, 2, none⟩ (.string ⟨#[]⟩)).setCell ⟨w.heap.size + 1, 3, none⟩ (.string ⟨#[]⟩)).setCell ⟨w.heap.size + 1, 4, none⟩ (.int .i64 0)).setCell ⟨w.heap.size + 1, 5, none⟩ (.slice none 0 0)).setCell ⟨w.heap.size + 1, 6, none⟩ (.slice none 0 0)).setCell ⟨w.heap.size + 1, 7, none⟩ (.slice none 0 0)) := ((((((((X.setCell (by dsimp only; omega) _).setCell (by dsimp only; omega) _).setCell (by dsimp only; omega) _).setCell (by dsimp only; omega) _).setCell (by dsimp only; omega) _).setCell (by dsimp only; omega) _).setCell (by dsimp only; omega) _).setCell (by dsimp only; omega) _)
    have RF := ((((((((R.set 0 (.int .i64 0) (by simp)).set 1 (.int .i64 0) (by simp)).set 2 (.string ⟨#[]⟩) (by simp)).set 3 (.string ⟨#[]⟩) (by simp)).set 4 (.int .i64 0) (by simp)).set 5 (.slice none 0 0) (by simp)).set 6 (.slice none 0 0) (by simp)).set 7 (.slice none 0 0) (by simp))
    go_wp2
    generalize (((((((w1.setCell ⟨w.heap.size + 1, 0, none⟩ (.int .i64 0)).setCell ⟨w.heap.size + 1, 1, none⟩ (.int .i64 0)).setCell ⟨w.heap.size + 1, 2, none⟩ (.string ⟨#[]⟩)).setCell ⟨w.heap.size + 1, 3, none⟩ (.string ⟨#[]⟩)).setCell ⟨w.heap.size + 1, 4, none⟩ (.int .i64 0)).setCell ⟨w.heap.size + 1, 5, none⟩ (.slice none 0 0)).setCell ⟨w.heap.size + 1, 6, none⟩ (.slice none 0 0)).setCell ⟨w.heap.size + 1, 7, none⟩ (.slice none 0 0) = WF at *
    have k0 := RF.2.1 0 _ rfl
    have k1 := RF.2.1 1 _ rfl
    have k2 := RF.2.1 2 _ rfl
    have k3 := RF.2.1 3 _ rfl
    have k4 := RF.2.1 4 _ rfl
    have k5 := RF.2.1 5 _ rfl
    have k6 := RF.2.1 6 _ rfl
    have k7 := RF.2.1 7 _ rfl
    refine bodyPost_ret (v := .tuple #[.agg #[.int .i64 0, .int .i64 0, .string ⟨#[]⟩, .string ⟨#[]⟩, .int .i64 0, .slice none 0 0, .slice none 0 0, .slice none 0 0], .bool false]) (by simp [results, Tryd.results22, go_sem, k0, k1, k2, k3, k4, k5, k6, k7]) rfl ?_
    rw [HV.out, HK.out]
    exact ⟨_, _, _, _, _, _, rfl, sigOwn_nil _ _, XF⟩
  · have HV := Lib.hid (show slV seed pool h ep r p = sgnV seed pool (sealAt ep) (headH h ep r p) by rw [slV, if_pos hh])
    have HK := Lib.hid (show slK seed pool h ep r p = sgnOk seed pool (sealAt ep) (headH h ep r p) by rw [slK, hh]; rfl)
    have HH := Lib.hid hh
    clear hh
    rw [HV.out, HK.out]
    clear HV HK
    go_enter Tryd.func22, Tryd.ntmps22
    go_wp2_with fail
    have P : Bx ((w.alloc (Obj.cells #[.int .i64 h, .int .i64 ep, .string r, .string p] 32)).alloc (Obj.cells #[.int .i64 0, .int .i64 0, .string ⟨#[]⟩, .string ⟨#[]⟩, .int .i64 0, .slice none 0 0, .slice none 0 0, .slice none 0 0] 39)) w.heap.size [.int .i64 h, .int .i64 ep, .string r, .string p] := (Bx.new w _ _).ext ((Ext.refl _).alloc _)
    have R := Bx.new (w.alloc (Obj.cells #[.int .i64 h, .int .i64 ep, .string r, .string p] 32)) #[.int .i64 0, .int .i64 0, .string ⟨#[]⟩, .string ⟨#[]⟩, .int .i64 0, .slice none 0 0, .slice none 0 0, .slice none 0 0] 39
    rw [World.size_alloc] at R
    have X : Ext w ((w.alloc (Obj.cells #[.int .i64 h, .int .i64 ep, .string r, .string p] 32)).alloc (Obj.cells #[.int .i64 0, .int .i64 0, .string ⟨#[]⟩, .string ⟨#[]⟩, .int .i64 0, .slice none 0 0, .slice none 0 0, .slice none 0 0] 39)) := ((Ext.refl w).alloc _).alloc _
    replace HST := Lib.hid (HST.out.ext X)
    generalize (w.alloc (Obj.cells #[.int .i64 h, .int .i64 ep, .string r, .string p] 32)).alloc (Obj.cells #[.int .i64 0, .int .i64 0, .string ⟨#[]⟩, .string ⟨#[]⟩, .int .i64 0, .slice none 0 0, .slice none 0 0, .slice none 0 0] 39) = W0 at *
    refine (spec_HeadOk _ _ _ _ _).mono ?_
    rw [HH.out]
    rintro e w1 ⟨rfl, x1⟩
    replace P := P.ext x1
    replace R := R.ext x1
    replace HST := Lib.hid (HST.out.ext x1)
    replace X := X.trans x1
    have p0 := P.2.1 0 _ rfl
    have p1 := P.2.1 1 _ rfl
    have p2 := P.2.1 2 _ rfl
    have p3 := P.2.1 3 _ rfl
    go_wp2_with fail
    clear p0 p1 p2 p3
    refine wp_region_held_drew (S := (fun W => W.cell? ⟨w.heap.size, 0, none⟩ = some (.int .i64 h) ∧ W.cell? ⟨w.heap.size, 1, none⟩ = some (.int .i64 ep) ∧ W.cell? ⟨w.heap.size, 2, none⟩ = some (.string r) ∧ W.cell? ⟨w.heap.size, 3, none⟩ = some (.string p))) (by kernel_rfl) (by exact ⟨P.2.1 0 _ rfl, P.2.1 1 _ rfl, P.2.1 2 _ rfl, P.2.1 3 _ rfl⟩) (fun hHeld => ?_)
    have xd : Ext w1 w1.drew := (Ext.refl w1).drew
    replace P := P.ext xd
    replace R := R.ext xd
    replace HST := Lib.hid (HST.out.ext xd)
    replace X := X.trans xd
    generalize w1.drew = w2 at *
    have p0 := P.2.1 0 _ rfl
    have p1 := P.2.1 1 _ rfl
    have p2 := P.2.1 2 _ rfl
    have p3 := P.2.1 3 _ rfl
    (refine wpAnyH_take (i := 0) (v := ?_) rfl (by kernel_rfl) (by kernel_rfl) (by kernel_rfl) (fun _ _ _ h => h) (Or.inl ⟨by rfl, ?_⟩) (by assumption) ?_; rotate_left; focus (intro w hSw; (try dsimp only at hSw); (try simp only [List.getElem_toArray, List.getElem_cons_zero]); go_simp; try with_reducible rfl)); (try simp only [List.getElem_toArray, List.getElem_cons_zero]); (try simp only [Act.put, List.setIfInBounds_toArray, List.set_cons_zero, List.set_cons_succ])
    (refine wpAnyH_take (i := 1) (v := ?_) rfl (by kernel_rfl) (by kernel_rfl) (by kernel_rfl) (fun _ _ _ h => h) (Or.inl ⟨by rfl, ?_⟩) (by assumption) ?_; rotate_left; focus (intro w hSw; (try dsimp only at hSw); (try simp only [List.getElem_toArray, List.getElem_cons_zero, List.getElem_cons_succ]); go_simp; try with_reducible rfl)); (try simp only [List.getElem_toArray, List.getElem_cons_zero, List.getElem_cons_succ]); (try simp only [Act.put, List.setIfInBounds_toArray, List.set_cons_zero, List.set_cons_succ])
    (refine wpAnyH_take (i := 2) (v := ?_) rfl (by kernel_rfl) (by kernel_rfl) (by kernel_rfl) (fun _ _ _ h => h) (Or.inl ⟨by rfl, ?_⟩) (by assumption) ?_; rotate_left; focus (intro w hSw; (try dsimp only at hSw); (try simp only [List.getElem_toArray, List.getElem_cons_zero, List.getElem_cons_succ]); go_simp; try with_reducible rfl)); (try simp only [List.getElem_toArray, List.getElem_cons_zero, List.getElem_cons_succ]); (try simp only [Act.put, List.setIfInBounds_toArray, List.set_cons_zero, List.set_cons_succ])
    (refine wpAnyH_take (i := 3) (v := ?_) rfl (by kernel_rfl) (by kernel_rfl) (by kernel_rfl) (fun _ _ _ h => h) (Or.inl ⟨by rfl, ?_⟩) (by assumption) ?_; rotate_left; focus (intro w hSw; (try dsimp only at hSw); (try simp only [List.getElem_toArray, List.getElem_cons_zero, List.getElem_cons_succ]); go_simp; try with_reducible rfl)); (try simp only [List.getElem_toArray, List.getElem_cons_zero, List.getElem_cons_succ]); (try simp only [Act.put, List.setIfInBounds_toArray, List.set_cons_zero, List.set_cons_succ])
    (refine wpAnyH_take (i := 5) (v := ?_) rfl (by kernel_rfl) (by kernel_rfl) (by kernel_rfl) (fun _ _ _ h => h) (Or.inl ⟨by rfl, ?_⟩) (by assumption) ?_; rotate_left; focus (intro w hSw; (try dsimp only at hSw); (try simp only [List.getElem_toArray, List.getElem_cons_zero, List.getElem_cons_succ]); go_simp; try with_reducible rfl)); (try simp only [List.getElem_toArray, List.getElem_cons_zero, List.getElem_cons_succ]); (try simp only [Act.put, List.setIfInBounds_toArray, List.set_cons_zero, List.set_cons_succ])
    refine wpAnyH_ready (rs := [4, 11]) (by kernel_rfl) (by simp) ?_
    refine AllReadyH.cons rfl (fun K hK => ?_) (AllReadyH.cons rfl (fun K hK => ?_) AllReadyH.nil)
    · (try simp only [List.getElem_toArray, List.getElem_cons_zero, List.getElem_cons_succ])
      go_simp
      go_at_call 92
      refine (spec_SealAt ep _).mono ?_
      generalize hsa : sealAt ep = sa at *
      have HSA := Lib.hid hsa
      clear hsa
      rintro e w' ⟨rfl, rfl⟩
      (try dsimp only)
      refine hK.out _ _ (by exact ⟨P.2.1 0 _ rfl, P.2.1 1 _ rfl, P.2.1 2 _ rfl, P.2.1 3 _ rfl⟩) (fun hHeld => ?_)
      clear hK K
      refine wpAnyH_ready (rs := [6, 11]) (by kernel_rfl) (by simp) ?_
      refine AllReadyH.cons rfl (fun K hK => ?_) (AllReadyH.cons rfl (fun K hK => ?_) AllReadyH.nil)
      · (try simp only [List.getElem_toArray, List.getElem_cons_zero, List.getElem_cons_succ])
        go_simp
        go_at_call 47
        refine (spec_HeadHash h ep r p _).mono ?_
        generalize htx : headH h ep r p = tx at *
        have HTX := Lib.hid htx
        clear htx
        rintro e u4 ⟨rfl, xh⟩
        (try clear p0 p1 p2 p3)
        replace P := P.ext xh
        replace R := R.ext xh
        replace HST := Lib.hid (HST.out.ext xh)
        replace X := X.trans xh
        (try dsimp only)
        refine hK.out _ _ (by exact ⟨P.2.1 0 _ rfl, P.2.1 1 _ rfl, P.2.1 2 _ rfl, P.2.1 3 _ rfl⟩) (fun hHeld => ?_)
        clear hK K
        refine wpAnyH_ready (rs := [7, 11]) (by kernel_rfl) (by simp) ?_
        refine AllReadyH.cons rfl (fun K hK => ?_) (AllReadyH.cons rfl (fun K hK => ?_) AllReadyH.nil)
        · (try simp only [List.getElem_toArray, List.getElem_cons_zero, List.getElem_cons_succ])
          go_simp
          go_at_call 84
          refine (spec_SignText seed tx _ pool sa _ HST.out hs hsol).mono ?_
          generalize hS : sgnV seed pool sa tx = S at *
          generalize hok : sgnOk seed pool sa tx = ok at *
          have HS := Lib.hid hS
          have HO := Lib.hid hok
          have HZ := Lib.hid (show ok = false → S = ⟨0, [], [], []⟩ from fun e => by rw [← hS]; exact sgn_no (hok.trans e))
          clear hS hok
          rintro e u5 ⟨a1, c1, a2, c2, a3, c3, rfl, so, xs⟩
          have lr : w.heap.size + 1 < u4.heap.size := R.1
          have SO := so.mono (show w.heap.size + 2 ≤ u4.heap.size by omega)
          clear so
          have B0 := fun v n l (o : World.ownsRow u5 (w.heap.size + 2) 9 1 v n l) k (hk : v.ownBlock = some k) => (own_lt o k hk).2
          have B1 := fun k hk => Nat.ne_of_lt (B0 _ _ _ SO.1 k hk)
          have B2 := fun k hk => Nat.ne_of_lt (B0 _ _ _ SO.2.1 k hk)
          have B3 := fun k hk => Nat.ne_of_lt (B0 _ _ _ SO.2.2.1 k hk)
          clear B0
          replace P := P.ext xs
          replace R := R.ext xs
          replace HST := Lib.hid (HST.out.ext xs)
          replace X := X.trans xs
          (try dsimp only)
          refine hK.out _ _ (by exact ⟨P.2.1 0 _ rfl, P.2.1 1 _ rfl, P.2.1 2 _ rfl, P.2.1 3 _ rfl⟩) (fun hHeld => ?_)
          clear hK K
          (refine wpAnyH_take (i := 8) (v := ?_) rfl (by kernel_rfl) (by kernel_rfl) (by kernel_rfl) (fun _ _ _ h => h) (Or.inl ⟨by rfl, ?_⟩) (by assumption) ?_; rotate_left; focus (intro w hSw; (try dsimp only at hSw); (try simp only [List.getElem_toArray, List.getElem_cons_zero, List.getElem_cons_succ]); go_simp; try with_reducible rfl)); (try simp only [List.getElem_toArray, List.getElem_cons_zero, List.getElem_cons_succ]); (try simp only [Act.put, List.setIfInBounds_toArray, List.set_cons_zero, List.set_cons_succ])
          (refine wpAnyH_take (i := 9) (v := ?_) rfl (by kernel_rfl) (by kernel_rfl) (by kernel_rfl) (fun _ _ _ h => h) (Or.inl ⟨by rfl, ?_⟩) (by assumption) ?_; rotate_left; focus (intro w hSw; (try dsimp only at hSw); (try simp only [List.getElem_toArray, List.getElem_cons_zero, List.getElem_cons_succ]); go_simp; try with_reducible rfl)); (try simp only [List.getElem_toArray, List.getElem_cons_zero, List.getElem_cons_succ]); (try simp only [Act.put, List.setIfInBounds_toArray, List.set_cons_zero, List.set_cons_succ])
          (refine wpAnyH_take (i := 10) (v := ?_) rfl (by kernel_rfl) (by kernel_rfl) (by kernel_rfl) (fun _ _ _ h => h) (Or.inl ⟨by rfl, ?_⟩) (by assumption) ?_; rotate_left; focus (intro w hSw; (try dsimp only at hSw); (try simp only [List.getElem_toArray, List.getElem_cons_zero, List.getElem_cons_succ]); go_simp; try with_reducible rfl)); (try simp only [List.getElem_toArray, List.getElem_cons_zero, List.getElem_cons_succ]); (try simp only [Act.put, List.setIfInBounds_toArray, List.set_cons_zero, List.set_cons_succ])
          refine wpAnyH_ready (rs := [11]) (by kernel_rfl) (by simp) ?_
          refine AllReadyH.cons rfl (fun K hK => ?_) AllReadyH.nil
          (try simp only [List.getElem_toArray, List.getElem_cons_zero, List.getElem_cons_succ])
          go_simp
          have ez : Ext u5 (u5.alloc (Obj.cells #[.int .i64 0, .slice none 0 0, .slice none 0 0, .slice none 0 0] 28)) := (Ext.refl _).alloc _
          have Q := Bx.new u5 #[.int .i64 0, .slice none 0 0, .slice none 0 0, .slice none 0 0] 28
          have lq : w.heap.size + 1 < u5.heap.size := R.1
          replace P := P.ext ez
          replace R := R.ext ez
          replace HST := Lib.hid (HST.out.ext ez)
          replace X := X.trans ez
          replace SO := SO.ext ez
          generalize u5.alloc (Obj.cells #[.int .i64 0, .slice none 0 0, .slice none 0 0, .slice none 0 0] 28) = u6 at *
          generalize hqb : u5.heap.size = qb at *
          clear hqb
          (try dsimp only)
          refine hK.out _ _ (by exact ⟨P.2.1 0 _ rfl, P.2.1 1 _ rfl, P.2.1 2 _ rfl, P.2.1 3 _ rfl⟩) (fun hHeld => ?_)
          clear hK K
          have lr2 : qb ≠ w.heap.size + 1 := by omega
          have z0 := Q.2.1 0 _ rfl
          have z1 := Q.2.1 1 _ rfl
          have z2 := Q.2.1 2 _ rfl
          have z3 := Q.2.1 3 _ rfl
          have f0 := Q.2.2 0
          have f1 := Q.2.2 1
          have f2 := Q.2.2 2
          have f3 := Q.2.2 3
          have XQ : Ext w ((((u6.setCell ⟨qb, 0, none⟩ (.int .i64 S.at_)).setCell ⟨qb, 1, none⟩ (.slice a1 S.op.length c1)).setCell ⟨qb, 2, none⟩ (.slice a2 S.sh.length c2)).setCell ⟨qb, 3, none⟩ (.slice a3 S.si.length c3)) := ((((X.setCell (by dsimp only; omega) _).setCell (by dsimp only; omega) _).setCell (by dsimp only; omega) _).setCell (by dsimp only; omega) _)
          have QQ := ((((Q.set 0 (.int .i64 S.at_) (by simp)).set 1 (.slice a1 S.op.length c1) (by simp)).set 2 (.slice a2 S.sh.length c2) (by simp)).set 3 (.slice a3 S.si.length c3) (by simp))
          have PQ := ((((P.far (c := qb) (by omega) 0 (.int .i64 S.at_)).far (c := qb) (by omega) 1 (.slice a1 S.op.length c1)).far (c := qb) (by omega) 2 (.slice a2 S.sh.length c2)).far (c := qb) (by omega) 3 (.slice a3 S.si.length c3))
          have RQ := ((((R.far (c := qb) (by omega) 0 (.int .i64 S.at_)).far (c := qb) (by omega) 1 (.slice a1 S.op.length c1)).far (c := qb) (by omega) 2 (.slice a2 S.sh.length c2)).far (c := qb) (by omega) 3 (.slice a3 S.si.length c3))
          have SQ := ((((SO.far B1 B2 B3 0 (.int .i64 S.at_)).far B1 B2 B3 1 (.slice a1 S.op.length c1)).far B1 B2 B3 2 (.slice a2 S.sh.length c2)).far B1 B2 B3 3 (.slice a3 S.si.length c3))
          clear HST
          (refine wpAnyH_ready (rs := [12]) (by kernel_rfl) (by simp) ?_; refine AllReadyH.cons rfl (fun K hK => ?_) AllReadyH.nil; (try simp only [List.getElem_toArray, List.getElem_cons_zero, List.getElem_cons_succ]))
          go_simp
          clear z0 z1 z2 z3 f0 f1 f2 f3
          replace P := PQ
          replace Q := QQ
          replace R := RQ
          replace SO := SQ
          replace X := XQ
          clear PQ QQ RQ SQ XQ
          generalize (((u6.setCell ⟨qb, 0, none⟩ (.int .i64 S.at_)).setCell ⟨qb, 1, none⟩ (.slice a1 S.op.length c1)).setCell ⟨qb, 2, none⟩ (.slice a2 S.sh.length c2)).setCell ⟨qb, 3, none⟩ (.slice a3 S.si.length c3) = W6 at *
          (try dsimp only)
          refine hK.out _ _ (by exact ⟨P.2.1 0 _ rfl, P.2.1 1 _ rfl, P.2.1 2 _ rfl, P.2.1 3 _ rfl⟩) (fun hHeld => ?_)
          clear hK K
          (refine wpAnyH_take (i := 13) (v := ?_) rfl (by kernel_rfl) (by kernel_rfl) (by kernel_rfl) (fun _ _ _ h => h) (Or.inl ⟨by rfl, ?_⟩) (by assumption) ?_; rotate_left; focus (intro w hSw; (try dsimp only at hSw); (try simp only [List.getElem_toArray, List.getElem_cons_zero, List.getElem_cons_succ]); go_simp; try with_reducible rfl)); (try simp only [List.getElem_toArray, List.getElem_cons_zero, List.getElem_cons_succ]); (try simp only [Act.put, List.setIfInBounds_toArray, List.set_cons_zero, List.set_cons_succ])
          refine wpAnyH_done (by kernel_rfl) ?_ _
          cases ok
          · have hz := HZ.out rfl
            clear HZ
            subst hz
            have z0 := R.2.1 0 _ rfl
            have z1 := R.2.1 1 _ rfl
            have z2 := R.2.1 2 _ rfl
            have z3 := R.2.1 3 _ rfl
            have z4 := R.2.1 4 _ rfl
            have z5 := R.2.1 5 _ rfl
            have z6 := R.2.1 6 _ rfl
            have z7 := R.2.1 7 _ rfl
            have f0 := R.2.2 0
            have f1 := R.2.2 1
            have f2 := R.2.2 2
            have f3 := R.2.2 3
            have f4 := R.2.2 4
            have f5 := R.2.2 5
            have f6 := R.2.2 6
            have f7 := R.2.2 7
            have XF : Ext w ((((((((W6.setCell ⟨w.heap.size + 1, 0, none⟩ (.int .i64 0)).setCell ⟨w.heap.size + 1, 1, none⟩ (.int .i64 0)).setCell ⟨w.heap.size + 1, 2, none⟩ (.string ⟨#[]⟩)).setCell ⟨w.heap.size + 1, 3, none⟩ (.string ⟨#[]⟩)).setCell ⟨w.heap.size + 1, 4, none⟩ (.int .i64 0)).setCell ⟨w.heap.size + 1, 5, none⟩ (.slice none 0 0)).setCell ⟨w.heap.size + 1, 6, none⟩ (.slice none 0 0)).setCell ⟨w.heap.size + 1, 7, none⟩ (.slice none 0 0)) := ((((((((X.setCell (by dsimp only; omega) _).setCell (by dsimp only; omega) _).setCell (by dsimp only; omega) _).setCell (by dsimp only; omega) _).setCell (by dsimp only; omega) _).setCell (by dsimp only; omega) _).setCell (by dsimp only; omega) _).setCell (by dsimp only; omega) _)
            have RF := ((((((((R.set 0 (.int .i64 0) (by simp)).set 1 (.int .i64 0) (by simp)).set 2 (.string ⟨#[]⟩) (by simp)).set 3 (.string ⟨#[]⟩) (by simp)).set 4 (.int .i64 0) (by simp)).set 5 (.slice none 0 0) (by simp)).set 6 (.slice none 0 0) (by simp)).set 7 (.slice none 0 0) (by simp))
            skip
            go_wp2
            generalize (((((((W6.setCell ⟨w.heap.size + 1, 0, none⟩ (.int .i64 0)).setCell ⟨w.heap.size + 1, 1, none⟩ (.int .i64 0)).setCell ⟨w.heap.size + 1, 2, none⟩ (.string ⟨#[]⟩)).setCell ⟨w.heap.size + 1, 3, none⟩ (.string ⟨#[]⟩)).setCell ⟨w.heap.size + 1, 4, none⟩ (.int .i64 0)).setCell ⟨w.heap.size + 1, 5, none⟩ (.slice none 0 0)).setCell ⟨w.heap.size + 1, 6, none⟩ (.slice none 0 0)).setCell ⟨w.heap.size + 1, 7, none⟩ (.slice none 0 0) = WF at *
            have k0 := RF.2.1 0 _ rfl
            have k1 := RF.2.1 1 _ rfl
            have k2 := RF.2.1 2 _ rfl
            have k3 := RF.2.1 3 _ rfl
            have k4 := RF.2.1 4 _ rfl
            have k5 := RF.2.1 5 _ rfl
            have k6 := RF.2.1 6 _ rfl
            have k7 := RF.2.1 7 _ rfl
            refine bodyPost_ret (v := .tuple #[.agg #[.int .i64 0, .int .i64 0, .string ⟨#[]⟩, .string ⟨#[]⟩, .int .i64 0, .slice none 0 0, .slice none 0 0, .slice none 0 0], .bool false]) (by simp [results, Tryd.results22, go_sem, k0, k1, k2, k3, k4, k5, k6, k7]) rfl ?_
            rw [HSA.out, HTX.out, HS.out, HO.out]
            exact ⟨none, 0, none, 0, none, 0, rfl, sigOwn_nil _ _, XF⟩
          · have p0 := P.2.1 0 _ rfl
            have p1 := P.2.1 1 _ rfl
            have p2 := P.2.1 2 _ rfl
            have p3 := P.2.1 3 _ rfl
            have q0 := Q.2.1 0 _ rfl
            have q1 := Q.2.1 1 _ rfl
            have q2 := Q.2.1 2 _ rfl
            have q3 := Q.2.1 3 _ rfl
            have z0 := R.2.1 0 _ rfl
            have z1 := R.2.1 1 _ rfl
            have z2 := R.2.1 2 _ rfl
            have z3 := R.2.1 3 _ rfl
            have z4 := R.2.1 4 _ rfl
            have z5 := R.2.1 5 _ rfl
            have z6 := R.2.1 6 _ rfl
            have z7 := R.2.1 7 _ rfl
            have f0 := R.2.2 0
            have f1 := R.2.2 1
            have f2 := R.2.2 2
            have f3 := R.2.2 3
            have f4 := R.2.2 4
            have f5 := R.2.2 5
            have f6 := R.2.2 6
            have f7 := R.2.2 7
            have XF : Ext w ((((((((W6.setCell ⟨w.heap.size + 1, 0, none⟩ (.int .i64 h)).setCell ⟨w.heap.size + 1, 1, none⟩ (.int .i64 ep)).setCell ⟨w.heap.size + 1, 2, none⟩ (.string r)).setCell ⟨w.heap.size + 1, 3, none⟩ (.string p)).setCell ⟨w.heap.size + 1, 4, none⟩ (.int .i64 S.at_)).setCell ⟨w.heap.size + 1, 5, none⟩ (.slice a1 S.op.length c1)).setCell ⟨w.heap.size + 1, 6, none⟩ (.slice a2 S.sh.length c2)).setCell ⟨w.heap.size + 1, 7, none⟩ (.slice a3 S.si.length c3)) := ((((((((X.setCell (by dsimp only; omega) _).setCell (by dsimp only; omega) _).setCell (by dsimp only; omega) _).setCell (by dsimp only; omega) _).setCell (by dsimp only; omega) _).setCell (by dsimp only; omega) _).setCell (by dsimp only; omega) _).setCell (by dsimp only; omega) _)
            have RF := ((((((((R.set 0 (.int .i64 h) (by simp)).set 1 (.int .i64 ep) (by simp)).set 2 (.string r) (by simp)).set 3 (.string p) (by simp)).set 4 (.int .i64 S.at_) (by simp)).set 5 (.slice a1 S.op.length c1) (by simp)).set 6 (.slice a2 S.sh.length c2) (by simp)).set 7 (.slice a3 S.si.length c3) (by simp))
            have SF := (((((((SO.set (b := w.heap.size + 1) (by omega) 0 (.int .i64 h)).set (b := w.heap.size + 1) (by omega) 1 (.int .i64 ep)).set (b := w.heap.size + 1) (by omega) 2 (.string r)).set (b := w.heap.size + 1) (by omega) 3 (.string p)).set (b := w.heap.size + 1) (by omega) 4 (.int .i64 S.at_)).set (b := w.heap.size + 1) (by omega) 5 (.slice a1 S.op.length c1)).set (b := w.heap.size + 1) (by omega) 6 (.slice a2 S.sh.length c2)).set (b := w.heap.size + 1) (by omega) 7 (.slice a3 S.si.length c3)
            go_wp2
            generalize (((((((W6.setCell ⟨w.heap.size + 1, 0, none⟩ (.int .i64 h)).setCell ⟨w.heap.size + 1, 1, none⟩ (.int .i64 ep)).setCell ⟨w.heap.size + 1, 2, none⟩ (.string r)).setCell ⟨w.heap.size + 1, 3, none⟩ (.string p)).setCell ⟨w.heap.size + 1, 4, none⟩ (.int .i64 S.at_)).setCell ⟨w.heap.size + 1, 5, none⟩ (.slice a1 S.op.length c1)).setCell ⟨w.heap.size + 1, 6, none⟩ (.slice a2 S.sh.length c2)).setCell ⟨w.heap.size + 1, 7, none⟩ (.slice a3 S.si.length c3) = WF at *
            have k0 := RF.2.1 0 _ rfl
            have k1 := RF.2.1 1 _ rfl
            have k2 := RF.2.1 2 _ rfl
            have k3 := RF.2.1 3 _ rfl
            have k4 := RF.2.1 4 _ rfl
            have k5 := RF.2.1 5 _ rfl
            have k6 := RF.2.1 6 _ rfl
            have k7 := RF.2.1 7 _ rfl
            refine bodyPost_ret (v := .tuple #[.agg #[.int .i64 h, .int .i64 ep, .string r, .string p, .int .i64 S.at_, .slice a1 S.op.length c1, .slice a2 S.sh.length c2, .slice a3 S.si.length c3], .bool true]) (by simp [results, Tryd.results22, go_sem, k0, k1, k2, k3, k4, k5, k6, k7]) rfl ?_
            rw [HSA.out, HTX.out, HS.out, HO.out]
            exact ⟨a1, c1, a2, c2, a3, c3, rfl, SF.mono (by omega), XF⟩
        · (try simp only [List.getElem_toArray, List.getElem_cons_zero, List.getElem_cons_succ])
          go_simp
          have ez : Ext u4 (u4.alloc (Obj.cells #[.int .i64 0, .slice none 0 0, .slice none 0 0, .slice none 0 0] 28)) := (Ext.refl _).alloc _
          have Q := Bx.new u4 #[.int .i64 0, .slice none 0 0, .slice none 0 0, .slice none 0 0] 28
          have lq : w.heap.size + 1 < u4.heap.size := R.1
          replace P := P.ext ez
          replace R := R.ext ez
          replace HST := Lib.hid (HST.out.ext ez)
          replace X := X.trans ez
          generalize u4.alloc (Obj.cells #[.int .i64 0, .slice none 0 0, .slice none 0 0, .slice none 0 0] 28) = u5 at *
          generalize hqb : u4.heap.size = qb at *
          clear hqb
          (try dsimp only)
          refine hK.out _ _ (by exact ⟨P.2.1 0 _ rfl, P.2.1 1 _ rfl, P.2.1 2 _ rfl, P.2.1 3 _ rfl⟩) (fun hHeld => ?_)
          clear hK K
          (refine wpAnyH_ready (rs := [7]) (by kernel_rfl) (by simp) ?_; refine AllReadyH.cons rfl (fun K hK => ?_) AllReadyH.nil)
          (try simp only [List.getElem_toArray, List.getElem_cons_zero, List.getElem_cons_succ])
          go_simp
          go_at_call 84
          refine (spec_SignText seed tx _ pool sa _ HST.out hs hsol).mono ?_
          generalize hS : sgnV seed pool sa tx = S at *
          generalize hok : sgnOk seed pool sa tx = ok at *
          have HS := Lib.hid hS
          have HO := Lib.hid hok
          have HZ := Lib.hid (show ok = false → S = ⟨0, [], [], []⟩ from fun e => by rw [← hS]; exact sgn_no (hok.trans e))
          clear hS hok
          rintro e u6 ⟨a1, c1, a2, c2, a3, c3, rfl, so, xs⟩
          have lr : w.heap.size + 1 < u5.heap.size := R.1
          have lqs : qb < u5.heap.size := Q.1
          have nq : qb ≠ w.heap.size + 1 := by omega
          have B1 := fun k (hk : Value.ownBlock (.slice a1 S.op.length c1) = some k) => Nat.ne_of_gt (Nat.lt_of_lt_of_le lqs (own_lt so.1 k hk).1)
          have B2 := fun k (hk : Value.ownBlock (.slice a2 S.sh.length c2) = some k) => Nat.ne_of_gt (Nat.lt_of_lt_of_le lqs (own_lt so.2.1 k hk).1)
          have B3 := fun k (hk : Value.ownBlock (.slice a3 S.si.length c3) = some k) => Nat.ne_of_gt (Nat.lt_of_lt_of_le lqs (own_lt so.2.2.1 k hk).1)
          have SO := so.mono (show w.heap.size + 2 ≤ u5.heap.size by omega)
          clear so
          replace P := P.ext xs
          replace R := R.ext xs
          replace HST := Lib.hid (HST.out.ext xs)
          replace X := X.trans xs
          replace Q := Q.ext xs
          (try dsimp only)
          refine hK.out _ _ (by exact ⟨P.2.1 0 _ rfl, P.2.1 1 _ rfl, P.2.1 2 _ rfl, P.2.1 3 _ rfl⟩) (fun hHeld => ?_)
          clear hK K
          (refine wpAnyH_take (i := 8) (v := ?_) rfl (by kernel_rfl) (by kernel_rfl) (by kernel_rfl) (fun _ _ _ h => h) (Or.inl ⟨by rfl, ?_⟩) (by assumption) ?_; rotate_left; focus (intro w hSw; (try dsimp only at hSw); (try simp only [List.getElem_toArray, List.getElem_cons_zero, List.getElem_cons_succ]); go_simp; try with_reducible rfl)); (try simp only [List.getElem_toArray, List.getElem_cons_zero, List.getElem_cons_succ]); (try simp only [Act.put, List.setIfInBounds_toArray, List.set_cons_zero, List.set_cons_succ])
          (refine wpAnyH_take (i := 9) (v := ?_) rfl (by kernel_rfl) (by kernel_rfl) (by kernel_rfl) (fun _ _ _ h => h) (Or.inl ⟨by rfl, ?_⟩) (by assumption) ?_; rotate_left; focus (intro w hSw; (try dsimp only at hSw); (try simp only [List.getElem_toArray, List.getElem_cons_zero, List.getElem_cons_succ]); go_simp; try with_reducible rfl)); (try simp only [List.getElem_toArray, List.getElem_cons_zero, List.getElem_cons_succ]); (try simp only [Act.put, List.setIfInBounds_toArray, List.set_cons_zero, List.set_cons_succ])
          (refine wpAnyH_take (i := 10) (v := ?_) rfl (by kernel_rfl) (by kernel_rfl) (by kernel_rfl) (fun _ _ _ h => h) (Or.inl ⟨by rfl, ?_⟩) (by assumption) ?_; rotate_left; focus (intro w hSw; (try dsimp only at hSw); (try simp only [List.getElem_toArray, List.getElem_cons_zero, List.getElem_cons_succ]); go_simp; try with_reducible rfl)); (try simp only [List.getElem_toArray, List.getElem_cons_zero, List.getElem_cons_succ]); (try simp only [Act.put, List.setIfInBounds_toArray, List.set_cons_zero, List.set_cons_succ])
          have lr2 : qb ≠ w.heap.size + 1 := by omega
          have z0 := Q.2.1 0 _ rfl
          have z1 := Q.2.1 1 _ rfl
          have z2 := Q.2.1 2 _ rfl
          have z3 := Q.2.1 3 _ rfl
          have f0 := Q.2.2 0
          have f1 := Q.2.2 1
          have f2 := Q.2.2 2
          have f3 := Q.2.2 3
          have XQ : Ext w ((((u6.setCell ⟨qb, 0, none⟩ (.int .i64 S.at_)).setCell ⟨qb, 1, none⟩ (.slice a1 S.op.length c1)).setCell ⟨qb, 2, none⟩ (.slice a2 S.sh.length c2)).setCell ⟨qb, 3, none⟩ (.slice a3 S.si.length c3)) := ((((X.setCell (by dsimp only; omega) _).setCell (by dsimp only; omega) _).setCell (by dsimp only; omega) _).setCell (by dsimp only; omega) _)
          have QQ := ((((Q.set 0 (.int .i64 S.at_) (by simp)).set 1 (.slice a1 S.op.length c1) (by simp)).set 2 (.slice a2 S.sh.length c2) (by simp)).set 3 (.slice a3 S.si.length c3) (by simp))
          have PQ := ((((P.far (c := qb) (by omega) 0 (.int .i64 S.at_)).far (c := qb) (by omega) 1 (.slice a1 S.op.length c1)).far (c := qb) (by omega) 2 (.slice a2 S.sh.length c2)).far (c := qb) (by omega) 3 (.slice a3 S.si.length c3))
          have RQ := ((((R.far (c := qb) (by omega) 0 (.int .i64 S.at_)).far (c := qb) (by omega) 1 (.slice a1 S.op.length c1)).far (c := qb) (by omega) 2 (.slice a2 S.sh.length c2)).far (c := qb) (by omega) 3 (.slice a3 S.si.length c3))
          have SQ := ((((SO.far B1 B2 B3 0 (.int .i64 S.at_)).far B1 B2 B3 1 (.slice a1 S.op.length c1)).far B1 B2 B3 2 (.slice a2 S.sh.length c2)).far B1 B2 B3 3 (.slice a3 S.si.length c3))
          clear HST
          (refine wpAnyH_ready (rs := [12]) (by kernel_rfl) (by simp) ?_; refine AllReadyH.cons rfl (fun K hK => ?_) AllReadyH.nil; (try simp only [List.getElem_toArray, List.getElem_cons_zero, List.getElem_cons_succ]))
          go_simp
          clear z0 z1 z2 z3 f0 f1 f2 f3
          replace P := PQ
          replace Q := QQ
          replace R := RQ
          replace SO := SQ
          replace X := XQ
          clear PQ QQ RQ SQ XQ
          generalize (((u6.setCell ⟨qb, 0, none⟩ (.int .i64 S.at_)).setCell ⟨qb, 1, none⟩ (.slice a1 S.op.length c1)).setCell ⟨qb, 2, none⟩ (.slice a2 S.sh.length c2)).setCell ⟨qb, 3, none⟩ (.slice a3 S.si.length c3) = W6 at *
          (try dsimp only)
          refine hK.out _ _ (by exact ⟨P.2.1 0 _ rfl, P.2.1 1 _ rfl, P.2.1 2 _ rfl, P.2.1 3 _ rfl⟩) (fun hHeld => ?_)
          clear hK K
          (refine wpAnyH_take (i := 13) (v := ?_) rfl (by kernel_rfl) (by kernel_rfl) (by kernel_rfl) (fun _ _ _ h => h) (Or.inl ⟨by rfl, ?_⟩) (by assumption) ?_; rotate_left; focus (intro w hSw; (try dsimp only at hSw); (try simp only [List.getElem_toArray, List.getElem_cons_zero, List.getElem_cons_succ]); go_simp; try with_reducible rfl)); (try simp only [List.getElem_toArray, List.getElem_cons_zero, List.getElem_cons_succ]); (try simp only [Act.put, List.setIfInBounds_toArray, List.set_cons_zero, List.set_cons_succ])
          refine wpAnyH_done (by kernel_rfl) ?_ _
          cases ok
          · have hz := HZ.out rfl
            clear HZ
            subst hz
            have z0 := R.2.1 0 _ rfl
            have z1 := R.2.1 1 _ rfl
            have z2 := R.2.1 2 _ rfl
            have z3 := R.2.1 3 _ rfl
            have z4 := R.2.1 4 _ rfl
            have z5 := R.2.1 5 _ rfl
            have z6 := R.2.1 6 _ rfl
            have z7 := R.2.1 7 _ rfl
            have f0 := R.2.2 0
            have f1 := R.2.2 1
            have f2 := R.2.2 2
            have f3 := R.2.2 3
            have f4 := R.2.2 4
            have f5 := R.2.2 5
            have f6 := R.2.2 6
            have f7 := R.2.2 7
            have XF : Ext w ((((((((W6.setCell ⟨w.heap.size + 1, 0, none⟩ (.int .i64 0)).setCell ⟨w.heap.size + 1, 1, none⟩ (.int .i64 0)).setCell ⟨w.heap.size + 1, 2, none⟩ (.string ⟨#[]⟩)).setCell ⟨w.heap.size + 1, 3, none⟩ (.string ⟨#[]⟩)).setCell ⟨w.heap.size + 1, 4, none⟩ (.int .i64 0)).setCell ⟨w.heap.size + 1, 5, none⟩ (.slice none 0 0)).setCell ⟨w.heap.size + 1, 6, none⟩ (.slice none 0 0)).setCell ⟨w.heap.size + 1, 7, none⟩ (.slice none 0 0)) := ((((((((X.setCell (by dsimp only; omega) _).setCell (by dsimp only; omega) _).setCell (by dsimp only; omega) _).setCell (by dsimp only; omega) _).setCell (by dsimp only; omega) _).setCell (by dsimp only; omega) _).setCell (by dsimp only; omega) _).setCell (by dsimp only; omega) _)
            have RF := ((((((((R.set 0 (.int .i64 0) (by simp)).set 1 (.int .i64 0) (by simp)).set 2 (.string ⟨#[]⟩) (by simp)).set 3 (.string ⟨#[]⟩) (by simp)).set 4 (.int .i64 0) (by simp)).set 5 (.slice none 0 0) (by simp)).set 6 (.slice none 0 0) (by simp)).set 7 (.slice none 0 0) (by simp))
            skip
            go_wp2
            generalize (((((((W6.setCell ⟨w.heap.size + 1, 0, none⟩ (.int .i64 0)).setCell ⟨w.heap.size + 1, 1, none⟩ (.int .i64 0)).setCell ⟨w.heap.size + 1, 2, none⟩ (.string ⟨#[]⟩)).setCell ⟨w.heap.size + 1, 3, none⟩ (.string ⟨#[]⟩)).setCell ⟨w.heap.size + 1, 4, none⟩ (.int .i64 0)).setCell ⟨w.heap.size + 1, 5, none⟩ (.slice none 0 0)).setCell ⟨w.heap.size + 1, 6, none⟩ (.slice none 0 0)).setCell ⟨w.heap.size + 1, 7, none⟩ (.slice none 0 0) = WF at *
            have k0 := RF.2.1 0 _ rfl
            have k1 := RF.2.1 1 _ rfl
            have k2 := RF.2.1 2 _ rfl
            have k3 := RF.2.1 3 _ rfl
            have k4 := RF.2.1 4 _ rfl
            have k5 := RF.2.1 5 _ rfl
            have k6 := RF.2.1 6 _ rfl
            have k7 := RF.2.1 7 _ rfl
            refine bodyPost_ret (v := .tuple #[.agg #[.int .i64 0, .int .i64 0, .string ⟨#[]⟩, .string ⟨#[]⟩, .int .i64 0, .slice none 0 0, .slice none 0 0, .slice none 0 0], .bool false]) (by simp [results, Tryd.results22, go_sem, k0, k1, k2, k3, k4, k5, k6, k7]) rfl ?_
            rw [HSA.out, HTX.out, HS.out, HO.out]
            exact ⟨none, 0, none, 0, none, 0, rfl, sigOwn_nil _ _, XF⟩
          · have p0 := P.2.1 0 _ rfl
            have p1 := P.2.1 1 _ rfl
            have p2 := P.2.1 2 _ rfl
            have p3 := P.2.1 3 _ rfl
            have q0 := Q.2.1 0 _ rfl
            have q1 := Q.2.1 1 _ rfl
            have q2 := Q.2.1 2 _ rfl
            have q3 := Q.2.1 3 _ rfl
            have z0 := R.2.1 0 _ rfl
            have z1 := R.2.1 1 _ rfl
            have z2 := R.2.1 2 _ rfl
            have z3 := R.2.1 3 _ rfl
            have z4 := R.2.1 4 _ rfl
            have z5 := R.2.1 5 _ rfl
            have z6 := R.2.1 6 _ rfl
            have z7 := R.2.1 7 _ rfl
            have f0 := R.2.2 0
            have f1 := R.2.2 1
            have f2 := R.2.2 2
            have f3 := R.2.2 3
            have f4 := R.2.2 4
            have f5 := R.2.2 5
            have f6 := R.2.2 6
            have f7 := R.2.2 7
            have XF : Ext w ((((((((W6.setCell ⟨w.heap.size + 1, 0, none⟩ (.int .i64 h)).setCell ⟨w.heap.size + 1, 1, none⟩ (.int .i64 ep)).setCell ⟨w.heap.size + 1, 2, none⟩ (.string r)).setCell ⟨w.heap.size + 1, 3, none⟩ (.string p)).setCell ⟨w.heap.size + 1, 4, none⟩ (.int .i64 S.at_)).setCell ⟨w.heap.size + 1, 5, none⟩ (.slice a1 S.op.length c1)).setCell ⟨w.heap.size + 1, 6, none⟩ (.slice a2 S.sh.length c2)).setCell ⟨w.heap.size + 1, 7, none⟩ (.slice a3 S.si.length c3)) := ((((((((X.setCell (by dsimp only; omega) _).setCell (by dsimp only; omega) _).setCell (by dsimp only; omega) _).setCell (by dsimp only; omega) _).setCell (by dsimp only; omega) _).setCell (by dsimp only; omega) _).setCell (by dsimp only; omega) _).setCell (by dsimp only; omega) _)
            have RF := ((((((((R.set 0 (.int .i64 h) (by simp)).set 1 (.int .i64 ep) (by simp)).set 2 (.string r) (by simp)).set 3 (.string p) (by simp)).set 4 (.int .i64 S.at_) (by simp)).set 5 (.slice a1 S.op.length c1) (by simp)).set 6 (.slice a2 S.sh.length c2) (by simp)).set 7 (.slice a3 S.si.length c3) (by simp))
            have SF := (((((((SO.set (b := w.heap.size + 1) (by omega) 0 (.int .i64 h)).set (b := w.heap.size + 1) (by omega) 1 (.int .i64 ep)).set (b := w.heap.size + 1) (by omega) 2 (.string r)).set (b := w.heap.size + 1) (by omega) 3 (.string p)).set (b := w.heap.size + 1) (by omega) 4 (.int .i64 S.at_)).set (b := w.heap.size + 1) (by omega) 5 (.slice a1 S.op.length c1)).set (b := w.heap.size + 1) (by omega) 6 (.slice a2 S.sh.length c2)).set (b := w.heap.size + 1) (by omega) 7 (.slice a3 S.si.length c3)
            go_wp2
            generalize (((((((W6.setCell ⟨w.heap.size + 1, 0, none⟩ (.int .i64 h)).setCell ⟨w.heap.size + 1, 1, none⟩ (.int .i64 ep)).setCell ⟨w.heap.size + 1, 2, none⟩ (.string r)).setCell ⟨w.heap.size + 1, 3, none⟩ (.string p)).setCell ⟨w.heap.size + 1, 4, none⟩ (.int .i64 S.at_)).setCell ⟨w.heap.size + 1, 5, none⟩ (.slice a1 S.op.length c1)).setCell ⟨w.heap.size + 1, 6, none⟩ (.slice a2 S.sh.length c2)).setCell ⟨w.heap.size + 1, 7, none⟩ (.slice a3 S.si.length c3) = WF at *
            have k0 := RF.2.1 0 _ rfl
            have k1 := RF.2.1 1 _ rfl
            have k2 := RF.2.1 2 _ rfl
            have k3 := RF.2.1 3 _ rfl
            have k4 := RF.2.1 4 _ rfl
            have k5 := RF.2.1 5 _ rfl
            have k6 := RF.2.1 6 _ rfl
            have k7 := RF.2.1 7 _ rfl
            refine bodyPost_ret (v := .tuple #[.agg #[.int .i64 h, .int .i64 ep, .string r, .string p, .int .i64 S.at_, .slice a1 S.op.length c1, .slice a2 S.sh.length c2, .slice a3 S.si.length c3], .bool true]) (by simp [results, Tryd.results22, go_sem, k0, k1, k2, k3, k4, k5, k6, k7]) rfl ?_
            rw [HSA.out, HTX.out, HS.out, HO.out]
            exact ⟨a1, c1, a2, c2, a3, c3, rfl, SF.mono (by omega), XF⟩
      · (try simp only [List.getElem_toArray, List.getElem_cons_zero, List.getElem_cons_succ])
        go_simp
        have ez : Ext w2 (w2.alloc (Obj.cells #[.int .i64 0, .slice none 0 0, .slice none 0 0, .slice none 0 0] 28)) := (Ext.refl _).alloc _
        have Q := Bx.new w2 #[.int .i64 0, .slice none 0 0, .slice none 0 0, .slice none 0 0] 28
        have lq : w.heap.size + 1 < w2.heap.size := R.1
        replace P := P.ext ez
        replace R := R.ext ez
        replace HST := Lib.hid (HST.out.ext ez)
        replace X := X.trans ez
        generalize w2.alloc (Obj.cells #[.int .i64 0, .slice none 0 0, .slice none 0 0, .slice none 0 0] 28) = u4 at *
        generalize hqb : w2.heap.size = qb at *
        clear hqb
        (try dsimp only)
        refine hK.out _ _ (by exact ⟨P.2.1 0 _ rfl, P.2.1 1 _ rfl, P.2.1 2 _ rfl, P.2.1 3 _ rfl⟩) (fun hHeld => ?_)
        clear hK K
        (refine wpAnyH_ready (rs := [6]) (by kernel_rfl) (by simp) ?_; refine AllReadyH.cons rfl (fun K hK => ?_) AllReadyH.nil)
        (try simp only [List.getElem_toArray, List.getElem_cons_zero, List.getElem_cons_succ])
        go_simp
        go_at_call 47
        refine (spec_HeadHash h ep r p _).mono ?_
        generalize htx : headH h ep r p = tx at *
        have HTX := Lib.hid htx
        clear htx
        rintro e u5 ⟨rfl, xh⟩
        (try clear p0 p1 p2 p3)
        replace P := P.ext xh
        replace R := R.ext xh
        replace HST := Lib.hid (HST.out.ext xh)
        replace X := X.trans xh
        replace Q := Q.ext xh
        (try dsimp only)
        refine hK.out _ _ (by exact ⟨P.2.1 0 _ rfl, P.2.1 1 _ rfl, P.2.1 2 _ rfl, P.2.1 3 _ rfl⟩) (fun hHeld => ?_)
        clear hK K
        (refine wpAnyH_ready (rs := [7]) (by kernel_rfl) (by simp) ?_; refine AllReadyH.cons rfl (fun K hK => ?_) AllReadyH.nil)
        (try simp only [List.getElem_toArray, List.getElem_cons_zero, List.getElem_cons_succ])
        go_simp
        go_at_call 84
        refine (spec_SignText seed tx _ pool sa _ HST.out hs hsol).mono ?_
        generalize hS : sgnV seed pool sa tx = S at *
        generalize hok : sgnOk seed pool sa tx = ok at *
        have HS := Lib.hid hS
        have HO := Lib.hid hok
        have HZ := Lib.hid (show ok = false → S = ⟨0, [], [], []⟩ from fun e => by rw [← hS]; exact sgn_no (hok.trans e))
        clear hS hok
        rintro e u6 ⟨a1, c1, a2, c2, a3, c3, rfl, so, xs⟩
        have lr : w.heap.size + 1 < u5.heap.size := R.1
        have lqs : qb < u5.heap.size := Q.1
        have nq : qb ≠ w.heap.size + 1 := by omega
        have B1 := fun k (hk : Value.ownBlock (.slice a1 S.op.length c1) = some k) => Nat.ne_of_gt (Nat.lt_of_lt_of_le lqs (own_lt so.1 k hk).1)
        have B2 := fun k (hk : Value.ownBlock (.slice a2 S.sh.length c2) = some k) => Nat.ne_of_gt (Nat.lt_of_lt_of_le lqs (own_lt so.2.1 k hk).1)
        have B3 := fun k (hk : Value.ownBlock (.slice a3 S.si.length c3) = some k) => Nat.ne_of_gt (Nat.lt_of_lt_of_le lqs (own_lt so.2.2.1 k hk).1)
        have SO := so.mono (show w.heap.size + 2 ≤ u5.heap.size by omega)
        clear so
        replace P := P.ext xs
        replace R := R.ext xs
        replace HST := Lib.hid (HST.out.ext xs)
        replace X := X.trans xs
        replace Q := Q.ext xs
        (try dsimp only)
        refine hK.out _ _ (by exact ⟨P.2.1 0 _ rfl, P.2.1 1 _ rfl, P.2.1 2 _ rfl, P.2.1 3 _ rfl⟩) (fun hHeld => ?_)
        clear hK K
        (refine wpAnyH_take (i := 8) (v := ?_) rfl (by kernel_rfl) (by kernel_rfl) (by kernel_rfl) (fun _ _ _ h => h) (Or.inl ⟨by rfl, ?_⟩) (by assumption) ?_; rotate_left; focus (intro w hSw; (try dsimp only at hSw); (try simp only [List.getElem_toArray, List.getElem_cons_zero, List.getElem_cons_succ]); go_simp; try with_reducible rfl)); (try simp only [List.getElem_toArray, List.getElem_cons_zero, List.getElem_cons_succ]); (try simp only [Act.put, List.setIfInBounds_toArray, List.set_cons_zero, List.set_cons_succ])
        (refine wpAnyH_take (i := 9) (v := ?_) rfl (by kernel_rfl) (by kernel_rfl) (by kernel_rfl) (fun _ _ _ h => h) (Or.inl ⟨by rfl, ?_⟩) (by assumption) ?_; rotate_left; focus (intro w hSw; (try dsimp only at hSw); (try simp only [List.getElem_toArray, List.getElem_cons_zero, List.getElem_cons_succ]); go_simp; try with_reducible rfl)); (try simp only [List.getElem_toArray, List.getElem_cons_zero, List.getElem_cons_succ]); (try simp only [Act.put, List.setIfInBounds_toArray, List.set_cons_zero, List.set_cons_succ])
        (refine wpAnyH_take (i := 10) (v := ?_) rfl (by kernel_rfl) (by kernel_rfl) (by kernel_rfl) (fun _ _ _ h => h) (Or.inl ⟨by rfl, ?_⟩) (by assumption) ?_; rotate_left; focus (intro w hSw; (try dsimp only at hSw); (try simp only [List.getElem_toArray, List.getElem_cons_zero, List.getElem_cons_succ]); go_simp; try with_reducible rfl)); (try simp only [List.getElem_toArray, List.getElem_cons_zero, List.getElem_cons_succ]); (try simp only [Act.put, List.setIfInBounds_toArray, List.set_cons_zero, List.set_cons_succ])
        have lr2 : qb ≠ w.heap.size + 1 := by omega
        have z0 := Q.2.1 0 _ rfl
        have z1 := Q.2.1 1 _ rfl
        have z2 := Q.2.1 2 _ rfl
        have z3 := Q.2.1 3 _ rfl
        have f0 := Q.2.2 0
        have f1 := Q.2.2 1
        have f2 := Q.2.2 2
        have f3 := Q.2.2 3
        have XQ : Ext w ((((u6.setCell ⟨qb, 0, none⟩ (.int .i64 S.at_)).setCell ⟨qb, 1, none⟩ (.slice a1 S.op.length c1)).setCell ⟨qb, 2, none⟩ (.slice a2 S.sh.length c2)).setCell ⟨qb, 3, none⟩ (.slice a3 S.si.length c3)) := ((((X.setCell (by dsimp only; omega) _).setCell (by dsimp only; omega) _).setCell (by dsimp only; omega) _).setCell (by dsimp only; omega) _)
        have QQ := ((((Q.set 0 (.int .i64 S.at_) (by simp)).set 1 (.slice a1 S.op.length c1) (by simp)).set 2 (.slice a2 S.sh.length c2) (by simp)).set 3 (.slice a3 S.si.length c3) (by simp))
        have PQ := ((((P.far (c := qb) (by omega) 0 (.int .i64 S.at_)).far (c := qb) (by omega) 1 (.slice a1 S.op.length c1)).far (c := qb) (by omega) 2 (.slice a2 S.sh.length c2)).far (c := qb) (by omega) 3 (.slice a3 S.si.length c3))
        have RQ := ((((R.far (c := qb) (by omega) 0 (.int .i64 S.at_)).far (c := qb) (by omega) 1 (.slice a1 S.op.length c1)).far (c := qb) (by omega) 2 (.slice a2 S.sh.length c2)).far (c := qb) (by omega) 3 (.slice a3 S.si.length c3))
        have SQ := ((((SO.far B1 B2 B3 0 (.int .i64 S.at_)).far B1 B2 B3 1 (.slice a1 S.op.length c1)).far B1 B2 B3 2 (.slice a2 S.sh.length c2)).far B1 B2 B3 3 (.slice a3 S.si.length c3))
        clear HST
        (refine wpAnyH_ready (rs := [12]) (by kernel_rfl) (by simp) ?_; refine AllReadyH.cons rfl (fun K hK => ?_) AllReadyH.nil; (try simp only [List.getElem_toArray, List.getElem_cons_zero, List.getElem_cons_succ]))
        go_simp
        clear z0 z1 z2 z3 f0 f1 f2 f3
        replace P := PQ
        replace Q := QQ
        replace R := RQ
        replace SO := SQ
        replace X := XQ
        clear PQ QQ RQ SQ XQ
        generalize (((u6.setCell ⟨qb, 0, none⟩ (.int .i64 S.at_)).setCell ⟨qb, 1, none⟩ (.slice a1 S.op.length c1)).setCell ⟨qb, 2, none⟩ (.slice a2 S.sh.length c2)).setCell ⟨qb, 3, none⟩ (.slice a3 S.si.length c3) = W6 at *
        (try dsimp only)
        refine hK.out _ _ (by exact ⟨P.2.1 0 _ rfl, P.2.1 1 _ rfl, P.2.1 2 _ rfl, P.2.1 3 _ rfl⟩) (fun hHeld => ?_)
        clear hK K
        (refine wpAnyH_take (i := 13) (v := ?_) rfl (by kernel_rfl) (by kernel_rfl) (by kernel_rfl) (fun _ _ _ h => h) (Or.inl ⟨by rfl, ?_⟩) (by assumption) ?_; rotate_left; focus (intro w hSw; (try dsimp only at hSw); (try simp only [List.getElem_toArray, List.getElem_cons_zero, List.getElem_cons_succ]); go_simp; try with_reducible rfl)); (try simp only [List.getElem_toArray, List.getElem_cons_zero, List.getElem_cons_succ]); (try simp only [Act.put, List.setIfInBounds_toArray, List.set_cons_zero, List.set_cons_succ])
        refine wpAnyH_done (by kernel_rfl) ?_ _
        cases ok
        · have hz := HZ.out rfl
          clear HZ
          subst hz
          have z0 := R.2.1 0 _ rfl
          have z1 := R.2.1 1 _ rfl
          have z2 := R.2.1 2 _ rfl
          have z3 := R.2.1 3 _ rfl
          have z4 := R.2.1 4 _ rfl
          have z5 := R.2.1 5 _ rfl
          have z6 := R.2.1 6 _ rfl
          have z7 := R.2.1 7 _ rfl
          have f0 := R.2.2 0
          have f1 := R.2.2 1
          have f2 := R.2.2 2
          have f3 := R.2.2 3
          have f4 := R.2.2 4
          have f5 := R.2.2 5
          have f6 := R.2.2 6
          have f7 := R.2.2 7
          have XF : Ext w ((((((((W6.setCell ⟨w.heap.size + 1, 0, none⟩ (.int .i64 0)).setCell ⟨w.heap.size + 1, 1, none⟩ (.int .i64 0)).setCell ⟨w.heap.size + 1, 2, none⟩ (.string ⟨#[]⟩)).setCell ⟨w.heap.size + 1, 3, none⟩ (.string ⟨#[]⟩)).setCell ⟨w.heap.size + 1, 4, none⟩ (.int .i64 0)).setCell ⟨w.heap.size + 1, 5, none⟩ (.slice none 0 0)).setCell ⟨w.heap.size + 1, 6, none⟩ (.slice none 0 0)).setCell ⟨w.heap.size + 1, 7, none⟩ (.slice none 0 0)) := ((((((((X.setCell (by dsimp only; omega) _).setCell (by dsimp only; omega) _).setCell (by dsimp only; omega) _).setCell (by dsimp only; omega) _).setCell (by dsimp only; omega) _).setCell (by dsimp only; omega) _).setCell (by dsimp only; omega) _).setCell (by dsimp only; omega) _)
          have RF := ((((((((R.set 0 (.int .i64 0) (by simp)).set 1 (.int .i64 0) (by simp)).set 2 (.string ⟨#[]⟩) (by simp)).set 3 (.string ⟨#[]⟩) (by simp)).set 4 (.int .i64 0) (by simp)).set 5 (.slice none 0 0) (by simp)).set 6 (.slice none 0 0) (by simp)).set 7 (.slice none 0 0) (by simp))
          skip
          go_wp2
          generalize (((((((W6.setCell ⟨w.heap.size + 1, 0, none⟩ (.int .i64 0)).setCell ⟨w.heap.size + 1, 1, none⟩ (.int .i64 0)).setCell ⟨w.heap.size + 1, 2, none⟩ (.string ⟨#[]⟩)).setCell ⟨w.heap.size + 1, 3, none⟩ (.string ⟨#[]⟩)).setCell ⟨w.heap.size + 1, 4, none⟩ (.int .i64 0)).setCell ⟨w.heap.size + 1, 5, none⟩ (.slice none 0 0)).setCell ⟨w.heap.size + 1, 6, none⟩ (.slice none 0 0)).setCell ⟨w.heap.size + 1, 7, none⟩ (.slice none 0 0) = WF at *
          have k0 := RF.2.1 0 _ rfl
          have k1 := RF.2.1 1 _ rfl
          have k2 := RF.2.1 2 _ rfl
          have k3 := RF.2.1 3 _ rfl
          have k4 := RF.2.1 4 _ rfl
          have k5 := RF.2.1 5 _ rfl
          have k6 := RF.2.1 6 _ rfl
          have k7 := RF.2.1 7 _ rfl
          refine bodyPost_ret (v := .tuple #[.agg #[.int .i64 0, .int .i64 0, .string ⟨#[]⟩, .string ⟨#[]⟩, .int .i64 0, .slice none 0 0, .slice none 0 0, .slice none 0 0], .bool false]) (by simp [results, Tryd.results22, go_sem, k0, k1, k2, k3, k4, k5, k6, k7]) rfl ?_
          rw [HSA.out, HTX.out, HS.out, HO.out]
          exact ⟨none, 0, none, 0, none, 0, rfl, sigOwn_nil _ _, XF⟩
        · have p0 := P.2.1 0 _ rfl
          have p1 := P.2.1 1 _ rfl
          have p2 := P.2.1 2 _ rfl
          have p3 := P.2.1 3 _ rfl
          have q0 := Q.2.1 0 _ rfl
          have q1 := Q.2.1 1 _ rfl
          have q2 := Q.2.1 2 _ rfl
          have q3 := Q.2.1 3 _ rfl
          have z0 := R.2.1 0 _ rfl
          have z1 := R.2.1 1 _ rfl
          have z2 := R.2.1 2 _ rfl
          have z3 := R.2.1 3 _ rfl
          have z4 := R.2.1 4 _ rfl
          have z5 := R.2.1 5 _ rfl
          have z6 := R.2.1 6 _ rfl
          have z7 := R.2.1 7 _ rfl
          have f0 := R.2.2 0
          have f1 := R.2.2 1
          have f2 := R.2.2 2
          have f3 := R.2.2 3
          have f4 := R.2.2 4
          have f5 := R.2.2 5
          have f6 := R.2.2 6
          have f7 := R.2.2 7
          have XF : Ext w ((((((((W6.setCell ⟨w.heap.size + 1, 0, none⟩ (.int .i64 h)).setCell ⟨w.heap.size + 1, 1, none⟩ (.int .i64 ep)).setCell ⟨w.heap.size + 1, 2, none⟩ (.string r)).setCell ⟨w.heap.size + 1, 3, none⟩ (.string p)).setCell ⟨w.heap.size + 1, 4, none⟩ (.int .i64 S.at_)).setCell ⟨w.heap.size + 1, 5, none⟩ (.slice a1 S.op.length c1)).setCell ⟨w.heap.size + 1, 6, none⟩ (.slice a2 S.sh.length c2)).setCell ⟨w.heap.size + 1, 7, none⟩ (.slice a3 S.si.length c3)) := ((((((((X.setCell (by dsimp only; omega) _).setCell (by dsimp only; omega) _).setCell (by dsimp only; omega) _).setCell (by dsimp only; omega) _).setCell (by dsimp only; omega) _).setCell (by dsimp only; omega) _).setCell (by dsimp only; omega) _).setCell (by dsimp only; omega) _)
          have RF := ((((((((R.set 0 (.int .i64 h) (by simp)).set 1 (.int .i64 ep) (by simp)).set 2 (.string r) (by simp)).set 3 (.string p) (by simp)).set 4 (.int .i64 S.at_) (by simp)).set 5 (.slice a1 S.op.length c1) (by simp)).set 6 (.slice a2 S.sh.length c2) (by simp)).set 7 (.slice a3 S.si.length c3) (by simp))
          have SF := (((((((SO.set (b := w.heap.size + 1) (by omega) 0 (.int .i64 h)).set (b := w.heap.size + 1) (by omega) 1 (.int .i64 ep)).set (b := w.heap.size + 1) (by omega) 2 (.string r)).set (b := w.heap.size + 1) (by omega) 3 (.string p)).set (b := w.heap.size + 1) (by omega) 4 (.int .i64 S.at_)).set (b := w.heap.size + 1) (by omega) 5 (.slice a1 S.op.length c1)).set (b := w.heap.size + 1) (by omega) 6 (.slice a2 S.sh.length c2)).set (b := w.heap.size + 1) (by omega) 7 (.slice a3 S.si.length c3)
          go_wp2
          generalize (((((((W6.setCell ⟨w.heap.size + 1, 0, none⟩ (.int .i64 h)).setCell ⟨w.heap.size + 1, 1, none⟩ (.int .i64 ep)).setCell ⟨w.heap.size + 1, 2, none⟩ (.string r)).setCell ⟨w.heap.size + 1, 3, none⟩ (.string p)).setCell ⟨w.heap.size + 1, 4, none⟩ (.int .i64 S.at_)).setCell ⟨w.heap.size + 1, 5, none⟩ (.slice a1 S.op.length c1)).setCell ⟨w.heap.size + 1, 6, none⟩ (.slice a2 S.sh.length c2)).setCell ⟨w.heap.size + 1, 7, none⟩ (.slice a3 S.si.length c3) = WF at *
          have k0 := RF.2.1 0 _ rfl
          have k1 := RF.2.1 1 _ rfl
          have k2 := RF.2.1 2 _ rfl
          have k3 := RF.2.1 3 _ rfl
          have k4 := RF.2.1 4 _ rfl
          have k5 := RF.2.1 5 _ rfl
          have k6 := RF.2.1 6 _ rfl
          have k7 := RF.2.1 7 _ rfl
          refine bodyPost_ret (v := .tuple #[.agg #[.int .i64 h, .int .i64 ep, .string r, .string p, .int .i64 S.at_, .slice a1 S.op.length c1, .slice a2 S.sh.length c2, .slice a3 S.si.length c3], .bool true]) (by simp [results, Tryd.results22, go_sem, k0, k1, k2, k3, k4, k5, k6, k7]) rfl ?_
          rw [HSA.out, HTX.out, HS.out, HO.out]
          exact ⟨a1, c1, a2, c2, a3, c3, rfl, SF.mono (by omega), XF⟩
    · (try simp only [List.getElem_toArray, List.getElem_cons_zero, List.getElem_cons_succ])
      go_simp
      have ez : Ext w2 (w2.alloc (Obj.cells #[.int .i64 0, .slice none 0 0, .slice none 0 0, .slice none 0 0] 28)) := (Ext.refl _).alloc _
      have Q := Bx.new w2 #[.int .i64 0, .slice none 0 0, .slice none 0 0, .slice none 0 0] 28
      have lq : w.heap.size + 1 < w2.heap.size := R.1
      replace P := P.ext ez
      replace R := R.ext ez
      replace HST := Lib.hid (HST.out.ext ez)
      replace X := X.trans ez
      generalize w2.alloc (Obj.cells #[.int .i64 0, .slice none 0 0, .slice none 0 0, .slice none 0 0] 28) = u3 at *
      generalize hqb : w2.heap.size = qb at *
      clear hqb
      (try dsimp only)
      refine hK.out _ _ (by exact ⟨P.2.1 0 _ rfl, P.2.1 1 _ rfl, P.2.1 2 _ rfl, P.2.1 3 _ rfl⟩) (fun hHeld => ?_)
      clear hK K
      (refine wpAnyH_ready (rs := [4]) (by kernel_rfl) (by simp) ?_; refine AllReadyH.cons rfl (fun K hK => ?_) AllReadyH.nil)
      (try simp only [List.getElem_toArray, List.getElem_cons_zero, List.getElem_cons_succ])
      go_simp
      go_at_call 92
      refine (spec_SealAt ep _).mono ?_
      generalize hsa : sealAt ep = sa at *
      have HSA := Lib.hid hsa
      clear hsa
      rintro e w' ⟨rfl, rfl⟩
      (try dsimp only)
      refine hK.out _ _ (by exact ⟨P.2.1 0 _ rfl, P.2.1 1 _ rfl, P.2.1 2 _ rfl, P.2.1 3 _ rfl⟩) (fun hHeld => ?_)
      clear hK K
      (refine wpAnyH_ready (rs := [6]) (by kernel_rfl) (by simp) ?_; refine AllReadyH.cons rfl (fun K hK => ?_) AllReadyH.nil)
      (try simp only [List.getElem_toArray, List.getElem_cons_zero, List.getElem_cons_succ])
      go_simp
      go_at_call 47
      refine (spec_HeadHash h ep r p _).mono ?_
      generalize htx : headH h ep r p = tx at *
      have HTX := Lib.hid htx
      clear htx
      rintro e u5 ⟨rfl, xh⟩
      (try clear p0 p1 p2 p3)
      replace P := P.ext xh
      replace R := R.ext xh
      replace HST := Lib.hid (HST.out.ext xh)
      replace X := X.trans xh
      replace Q := Q.ext xh
      (try dsimp only)
      refine hK.out _ _ (by exact ⟨P.2.1 0 _ rfl, P.2.1 1 _ rfl, P.2.1 2 _ rfl, P.2.1 3 _ rfl⟩) (fun hHeld => ?_)
      clear hK K
      (refine wpAnyH_ready (rs := [7]) (by kernel_rfl) (by simp) ?_; refine AllReadyH.cons rfl (fun K hK => ?_) AllReadyH.nil)
      (try simp only [List.getElem_toArray, List.getElem_cons_zero, List.getElem_cons_succ])
      go_simp
      go_at_call 84
      refine (spec_SignText seed tx _ pool sa _ HST.out hs hsol).mono ?_
      generalize hS : sgnV seed pool sa tx = S at *
      generalize hok : sgnOk seed pool sa tx = ok at *
      have HS := Lib.hid hS
      have HO := Lib.hid hok
      have HZ := Lib.hid (show ok = false → S = ⟨0, [], [], []⟩ from fun e => by rw [← hS]; exact sgn_no (hok.trans e))
      clear hS hok
      rintro e u6 ⟨a1, c1, a2, c2, a3, c3, rfl, so, xs⟩
      have lr : w.heap.size + 1 < u5.heap.size := R.1
      have lqs : qb < u5.heap.size := Q.1
      have nq : qb ≠ w.heap.size + 1 := by omega
      have B1 := fun k (hk : Value.ownBlock (.slice a1 S.op.length c1) = some k) => Nat.ne_of_gt (Nat.lt_of_lt_of_le lqs (own_lt so.1 k hk).1)
      have B2 := fun k (hk : Value.ownBlock (.slice a2 S.sh.length c2) = some k) => Nat.ne_of_gt (Nat.lt_of_lt_of_le lqs (own_lt so.2.1 k hk).1)
      have B3 := fun k (hk : Value.ownBlock (.slice a3 S.si.length c3) = some k) => Nat.ne_of_gt (Nat.lt_of_lt_of_le lqs (own_lt so.2.2.1 k hk).1)
      have SO := so.mono (show w.heap.size + 2 ≤ u5.heap.size by omega)
      clear so
      replace P := P.ext xs
      replace R := R.ext xs
      replace HST := Lib.hid (HST.out.ext xs)
      replace X := X.trans xs
      replace Q := Q.ext xs
      (try dsimp only)
      refine hK.out _ _ (by exact ⟨P.2.1 0 _ rfl, P.2.1 1 _ rfl, P.2.1 2 _ rfl, P.2.1 3 _ rfl⟩) (fun hHeld => ?_)
      clear hK K
      (refine wpAnyH_take (i := 8) (v := ?_) rfl (by kernel_rfl) (by kernel_rfl) (by kernel_rfl) (fun _ _ _ h => h) (Or.inl ⟨by rfl, ?_⟩) (by assumption) ?_; rotate_left; focus (intro w hSw; (try dsimp only at hSw); (try simp only [List.getElem_toArray, List.getElem_cons_zero, List.getElem_cons_succ]); go_simp; try with_reducible rfl)); (try simp only [List.getElem_toArray, List.getElem_cons_zero, List.getElem_cons_succ]); (try simp only [Act.put, List.setIfInBounds_toArray, List.set_cons_zero, List.set_cons_succ])
      (refine wpAnyH_take (i := 9) (v := ?_) rfl (by kernel_rfl) (by kernel_rfl) (by kernel_rfl) (fun _ _ _ h => h) (Or.inl ⟨by rfl, ?_⟩) (by assumption) ?_; rotate_left; focus (intro w hSw; (try dsimp only at hSw); (try simp only [List.getElem_toArray, List.getElem_cons_zero, List.getElem_cons_succ]); go_simp; try with_reducible rfl)); (try simp only [List.getElem_toArray, List.getElem_cons_zero, List.getElem_cons_succ]); (try simp only [Act.put, List.setIfInBounds_toArray, List.set_cons_zero, List.set_cons_succ])
      (refine wpAnyH_take (i := 10) (v := ?_) rfl (by kernel_rfl) (by kernel_rfl) (by kernel_rfl) (fun _ _ _ h => h) (Or.inl ⟨by rfl, ?_⟩) (by assumption) ?_; rotate_left; focus (intro w hSw; (try dsimp only at hSw); (try simp only [List.getElem_toArray, List.getElem_cons_zero, List.getElem_cons_succ]); go_simp; try with_reducible rfl)); (try simp only [List.getElem_toArray, List.getElem_cons_zero, List.getElem_cons_succ]); (try simp only [Act.put, List.setIfInBounds_toArray, List.set_cons_zero, List.set_cons_succ])
      have lr2 : qb ≠ w.heap.size + 1 := by omega
      have z0 := Q.2.1 0 _ rfl
      have z1 := Q.2.1 1 _ rfl
      have z2 := Q.2.1 2 _ rfl
      have z3 := Q.2.1 3 _ rfl
      have f0 := Q.2.2 0
      have f1 := Q.2.2 1
      have f2 := Q.2.2 2
      have f3 := Q.2.2 3
      have XQ : Ext w ((((u6.setCell ⟨qb, 0, none⟩ (.int .i64 S.at_)).setCell ⟨qb, 1, none⟩ (.slice a1 S.op.length c1)).setCell ⟨qb, 2, none⟩ (.slice a2 S.sh.length c2)).setCell ⟨qb, 3, none⟩ (.slice a3 S.si.length c3)) := ((((X.setCell (by dsimp only; omega) _).setCell (by dsimp only; omega) _).setCell (by dsimp only; omega) _).setCell (by dsimp only; omega) _)
      have QQ := ((((Q.set 0 (.int .i64 S.at_) (by simp)).set 1 (.slice a1 S.op.length c1) (by simp)).set 2 (.slice a2 S.sh.length c2) (by simp)).set 3 (.slice a3 S.si.length c3) (by simp))
      have PQ := ((((P.far (c := qb) (by omega) 0 (.int .i64 S.at_)).far (c := qb) (by omega) 1 (.slice a1 S.op.length c1)).far (c := qb) (by omega) 2 (.slice a2 S.sh.length c2)).far (c := qb) (by omega) 3 (.slice a3 S.si.length c3))
      have RQ := ((((R.far (c := qb) (by omega) 0 (.int .i64 S.at_)).far (c := qb) (by omega) 1 (.slice a1 S.op.length c1)).far (c := qb) (by omega) 2 (.slice a2 S.sh.length c2)).far (c := qb) (by omega) 3 (.slice a3 S.si.length c3))
      have SQ := ((((SO.far B1 B2 B3 0 (.int .i64 S.at_)).far B1 B2 B3 1 (.slice a1 S.op.length c1)).far B1 B2 B3 2 (.slice a2 S.sh.length c2)).far B1 B2 B3 3 (.slice a3 S.si.length c3))
      clear HST
      (refine wpAnyH_ready (rs := [12]) (by kernel_rfl) (by simp) ?_; refine AllReadyH.cons rfl (fun K hK => ?_) AllReadyH.nil; (try simp only [List.getElem_toArray, List.getElem_cons_zero, List.getElem_cons_succ]))
      go_simp
      clear z0 z1 z2 z3 f0 f1 f2 f3
      replace P := PQ
      replace Q := QQ
      replace R := RQ
      replace SO := SQ
      replace X := XQ
      clear PQ QQ RQ SQ XQ
      generalize (((u6.setCell ⟨qb, 0, none⟩ (.int .i64 S.at_)).setCell ⟨qb, 1, none⟩ (.slice a1 S.op.length c1)).setCell ⟨qb, 2, none⟩ (.slice a2 S.sh.length c2)).setCell ⟨qb, 3, none⟩ (.slice a3 S.si.length c3) = W6 at *
      (try dsimp only)
      refine hK.out _ _ (by exact ⟨P.2.1 0 _ rfl, P.2.1 1 _ rfl, P.2.1 2 _ rfl, P.2.1 3 _ rfl⟩) (fun hHeld => ?_)
      clear hK K
      (refine wpAnyH_take (i := 13) (v := ?_) rfl (by kernel_rfl) (by kernel_rfl) (by kernel_rfl) (fun _ _ _ h => h) (Or.inl ⟨by rfl, ?_⟩) (by assumption) ?_; rotate_left; focus (intro w hSw; (try dsimp only at hSw); (try simp only [List.getElem_toArray, List.getElem_cons_zero, List.getElem_cons_succ]); go_simp; try with_reducible rfl)); (try simp only [List.getElem_toArray, List.getElem_cons_zero, List.getElem_cons_succ]); (try simp only [Act.put, List.setIfInBounds_toArray, List.set_cons_zero, List.set_cons_succ])
      refine wpAnyH_done (by kernel_rfl) ?_ _
      cases ok
      · have hz := HZ.out rfl
        clear HZ
        subst hz
        have z0 := R.2.1 0 _ rfl
        have z1 := R.2.1 1 _ rfl
        have z2 := R.2.1 2 _ rfl
        have z3 := R.2.1 3 _ rfl
        have z4 := R.2.1 4 _ rfl
        have z5 := R.2.1 5 _ rfl
        have z6 := R.2.1 6 _ rfl
        have z7 := R.2.1 7 _ rfl
        have f0 := R.2.2 0
        have f1 := R.2.2 1
        have f2 := R.2.2 2
        have f3 := R.2.2 3
        have f4 := R.2.2 4
        have f5 := R.2.2 5
        have f6 := R.2.2 6
        have f7 := R.2.2 7
        have XF : Ext w ((((((((W6.setCell ⟨w.heap.size + 1, 0, none⟩ (.int .i64 0)).setCell ⟨w.heap.size + 1, 1, none⟩ (.int .i64 0)).setCell ⟨w.heap.size + 1, 2, none⟩ (.string ⟨#[]⟩)).setCell ⟨w.heap.size + 1, 3, none⟩ (.string ⟨#[]⟩)).setCell ⟨w.heap.size + 1, 4, none⟩ (.int .i64 0)).setCell ⟨w.heap.size + 1, 5, none⟩ (.slice none 0 0)).setCell ⟨w.heap.size + 1, 6, none⟩ (.slice none 0 0)).setCell ⟨w.heap.size + 1, 7, none⟩ (.slice none 0 0)) := ((((((((X.setCell (by dsimp only; omega) _).setCell (by dsimp only; omega) _).setCell (by dsimp only; omega) _).setCell (by dsimp only; omega) _).setCell (by dsimp only; omega) _).setCell (by dsimp only; omega) _).setCell (by dsimp only; omega) _).setCell (by dsimp only; omega) _)
        have RF := ((((((((R.set 0 (.int .i64 0) (by simp)).set 1 (.int .i64 0) (by simp)).set 2 (.string ⟨#[]⟩) (by simp)).set 3 (.string ⟨#[]⟩) (by simp)).set 4 (.int .i64 0) (by simp)).set 5 (.slice none 0 0) (by simp)).set 6 (.slice none 0 0) (by simp)).set 7 (.slice none 0 0) (by simp))
        skip
        go_wp2
        generalize (((((((W6.setCell ⟨w.heap.size + 1, 0, none⟩ (.int .i64 0)).setCell ⟨w.heap.size + 1, 1, none⟩ (.int .i64 0)).setCell ⟨w.heap.size + 1, 2, none⟩ (.string ⟨#[]⟩)).setCell ⟨w.heap.size + 1, 3, none⟩ (.string ⟨#[]⟩)).setCell ⟨w.heap.size + 1, 4, none⟩ (.int .i64 0)).setCell ⟨w.heap.size + 1, 5, none⟩ (.slice none 0 0)).setCell ⟨w.heap.size + 1, 6, none⟩ (.slice none 0 0)).setCell ⟨w.heap.size + 1, 7, none⟩ (.slice none 0 0) = WF at *
        have k0 := RF.2.1 0 _ rfl
        have k1 := RF.2.1 1 _ rfl
        have k2 := RF.2.1 2 _ rfl
        have k3 := RF.2.1 3 _ rfl
        have k4 := RF.2.1 4 _ rfl
        have k5 := RF.2.1 5 _ rfl
        have k6 := RF.2.1 6 _ rfl
        have k7 := RF.2.1 7 _ rfl
        refine bodyPost_ret (v := .tuple #[.agg #[.int .i64 0, .int .i64 0, .string ⟨#[]⟩, .string ⟨#[]⟩, .int .i64 0, .slice none 0 0, .slice none 0 0, .slice none 0 0], .bool false]) (by simp [results, Tryd.results22, go_sem, k0, k1, k2, k3, k4, k5, k6, k7]) rfl ?_
        rw [HSA.out, HTX.out, HS.out, HO.out]
        exact ⟨none, 0, none, 0, none, 0, rfl, sigOwn_nil _ _, XF⟩
      · have p0 := P.2.1 0 _ rfl
        have p1 := P.2.1 1 _ rfl
        have p2 := P.2.1 2 _ rfl
        have p3 := P.2.1 3 _ rfl
        have q0 := Q.2.1 0 _ rfl
        have q1 := Q.2.1 1 _ rfl
        have q2 := Q.2.1 2 _ rfl
        have q3 := Q.2.1 3 _ rfl
        have z0 := R.2.1 0 _ rfl
        have z1 := R.2.1 1 _ rfl
        have z2 := R.2.1 2 _ rfl
        have z3 := R.2.1 3 _ rfl
        have z4 := R.2.1 4 _ rfl
        have z5 := R.2.1 5 _ rfl
        have z6 := R.2.1 6 _ rfl
        have z7 := R.2.1 7 _ rfl
        have f0 := R.2.2 0
        have f1 := R.2.2 1
        have f2 := R.2.2 2
        have f3 := R.2.2 3
        have f4 := R.2.2 4
        have f5 := R.2.2 5
        have f6 := R.2.2 6
        have f7 := R.2.2 7
        have XF : Ext w ((((((((W6.setCell ⟨w.heap.size + 1, 0, none⟩ (.int .i64 h)).setCell ⟨w.heap.size + 1, 1, none⟩ (.int .i64 ep)).setCell ⟨w.heap.size + 1, 2, none⟩ (.string r)).setCell ⟨w.heap.size + 1, 3, none⟩ (.string p)).setCell ⟨w.heap.size + 1, 4, none⟩ (.int .i64 S.at_)).setCell ⟨w.heap.size + 1, 5, none⟩ (.slice a1 S.op.length c1)).setCell ⟨w.heap.size + 1, 6, none⟩ (.slice a2 S.sh.length c2)).setCell ⟨w.heap.size + 1, 7, none⟩ (.slice a3 S.si.length c3)) := ((((((((X.setCell (by dsimp only; omega) _).setCell (by dsimp only; omega) _).setCell (by dsimp only; omega) _).setCell (by dsimp only; omega) _).setCell (by dsimp only; omega) _).setCell (by dsimp only; omega) _).setCell (by dsimp only; omega) _).setCell (by dsimp only; omega) _)
        have RF := ((((((((R.set 0 (.int .i64 h) (by simp)).set 1 (.int .i64 ep) (by simp)).set 2 (.string r) (by simp)).set 3 (.string p) (by simp)).set 4 (.int .i64 S.at_) (by simp)).set 5 (.slice a1 S.op.length c1) (by simp)).set 6 (.slice a2 S.sh.length c2) (by simp)).set 7 (.slice a3 S.si.length c3) (by simp))
        have SF := (((((((SO.set (b := w.heap.size + 1) (by omega) 0 (.int .i64 h)).set (b := w.heap.size + 1) (by omega) 1 (.int .i64 ep)).set (b := w.heap.size + 1) (by omega) 2 (.string r)).set (b := w.heap.size + 1) (by omega) 3 (.string p)).set (b := w.heap.size + 1) (by omega) 4 (.int .i64 S.at_)).set (b := w.heap.size + 1) (by omega) 5 (.slice a1 S.op.length c1)).set (b := w.heap.size + 1) (by omega) 6 (.slice a2 S.sh.length c2)).set (b := w.heap.size + 1) (by omega) 7 (.slice a3 S.si.length c3)
        go_wp2
        generalize (((((((W6.setCell ⟨w.heap.size + 1, 0, none⟩ (.int .i64 h)).setCell ⟨w.heap.size + 1, 1, none⟩ (.int .i64 ep)).setCell ⟨w.heap.size + 1, 2, none⟩ (.string r)).setCell ⟨w.heap.size + 1, 3, none⟩ (.string p)).setCell ⟨w.heap.size + 1, 4, none⟩ (.int .i64 S.at_)).setCell ⟨w.heap.size + 1, 5, none⟩ (.slice a1 S.op.length c1)).setCell ⟨w.heap.size + 1, 6, none⟩ (.slice a2 S.sh.length c2)).setCell ⟨w.heap.size + 1, 7, none⟩ (.slice a3 S.si.length c3) = WF at *
        have k0 := RF.2.1 0 _ rfl
        have k1 := RF.2.1 1 _ rfl
        have k2 := RF.2.1 2 _ rfl
        have k3 := RF.2.1 3 _ rfl
        have k4 := RF.2.1 4 _ rfl
        have k5 := RF.2.1 5 _ rfl
        have k6 := RF.2.1 6 _ rfl
        have k7 := RF.2.1 7 _ rfl
        refine bodyPost_ret (v := .tuple #[.agg #[.int .i64 h, .int .i64 ep, .string r, .string p, .int .i64 S.at_, .slice a1 S.op.length c1, .slice a2 S.sh.length c2, .slice a3 S.si.length c3], .bool true]) (by simp [results, Tryd.results22, go_sem, k0, k1, k2, k3, k4, k5, k6, k7]) rfl ?_
        rw [HSA.out, HTX.out, HS.out, HO.out]
        exact ⟨a1, c1, a2, c2, a3, c3, rfl, SF.mono (by omega), XF⟩
set_option maxRecDepth 100000 in
set_option maxHeartbeats 6400000 in
theorem impl_SealHead (seed : ByteArray) (v : Value) (pool : List ByteArray) (h ep : Int) (r p : ByteArray) (w : World) (hst : Strs w v pool) (hs : ∀ s ∈ pool, s.size ≤ maxLen) (hsol : Solid v) (hT : Tabs w) :
    Calls Tryd.prog 23 #[.string seed, v, .agg #[.int .i64 h, .int .i64 ep, .string r, .string p]] w fun e w' => ∃ a1 c1 a2 c2 a3 c3, e = .returned (.tuple #[.agg #[.int .i64 (slI (slK seed pool h ep r p) h), .int .i64 (slI (slK seed pool h ep r p) ep), .string (slS (slK seed pool h ep r p) r), .string (slS (slK seed pool h ep r p) p), .int .i64 (slV seed pool h ep r p).at_, .slice a1 (slV seed pool h ep r p).op.length c1, .slice a2 (slV seed pool h ep r p).sh.length c2, .slice a3 (slV seed pool h ep r p).si.length c3], .bool (slK seed pool h ep r p)]) ∧ SigOwn w' w.heap.size (.slice a1 (slV seed pool h ep r p).op.length c1) (.slice a2 (slV seed pool h ep r p).sh.length c2) (.slice a3 (slV seed pool h ep r p).si.length c3) (slV seed pool h ep r p) ∧ Ext w w' := by
  have HT := Lib.hid hT
  clear hT
  obtain ⟨pa, pc, rfl⟩ := hst.form
  have HST := Lib.hid hst
  clear hst
  cases hh : headOk h ep r p
  · have HV := Lib.hid (show slV seed pool h ep r p = ⟨0, [], [], []⟩ by rw [slV, if_neg (by rw [hh]; decide)])
    have HK := Lib.hid (show slK seed pool h ep r p = false by rw [slK, hh]; rfl)
    have HH := Lib.hid hh
    clear hh
    go_enter Tryd.func23, Tryd.ntmps23
    go_wp2_with fail
    have P : Bx ((w.alloc (Obj.cells #[.int .i64 h, .int .i64 ep, .string r, .string p] 32)).alloc (Obj.cells #[.int .i64 0, .int .i64 0, .string ⟨#[]⟩, .string ⟨#[]⟩, .int .i64 0, .slice none 0 0, .slice none 0 0, .slice none 0 0] 39)) w.heap.size [.int .i64 h, .int .i64 ep, .string r, .string p] := (Bx.new w _ _).ext ((Ext.refl _).alloc _)
    have R := Bx.new (w.alloc (Obj.cells #[.int .i64 h, .int .i64 ep, .string r, .string p] 32)) #[.int .i64 0, .int .i64 0, .string ⟨#[]⟩, .string ⟨#[]⟩, .int .i64 0, .slice none 0 0, .slice none 0 0, .slice none 0 0] 39
    rw [World.size_alloc] at R
    have X : Ext w ((w.alloc (Obj.cells #[.int .i64 h, .int .i64 ep, .string r, .string p] 32)).alloc (Obj.cells #[.int .i64 0, .int .i64 0, .string ⟨#[]⟩, .string ⟨#[]⟩, .int .i64 0, .slice none 0 0, .slice none 0 0, .slice none 0 0] 39)) := ((Ext.refl w).alloc _).alloc _
    replace HST := Lib.hid (HST.out.ext X)
    generalize (w.alloc (Obj.cells #[.int .i64 h, .int .i64 ep, .string r, .string p] 32)).alloc (Obj.cells #[.int .i64 0, .int .i64 0, .string ⟨#[]⟩, .string ⟨#[]⟩, .int .i64 0, .slice none 0 0, .slice none 0 0, .slice none 0 0] 39) = W0 at *
    refine (impl_HeadOk _ _ _ _ _).mono ?_
    rw [HH.out]
    rintro e w1 ⟨rfl, x1⟩
    replace P := P.ext x1
    replace R := R.ext x1
    replace HST := Lib.hid (HST.out.ext x1)
    replace X := X.trans x1
    have z0 := R.2.1 0 _ rfl
    have z1 := R.2.1 1 _ rfl
    have z2 := R.2.1 2 _ rfl
    have z3 := R.2.1 3 _ rfl
    have z4 := R.2.1 4 _ rfl
    have z5 := R.2.1 5 _ rfl
    have z6 := R.2.1 6 _ rfl
    have z7 := R.2.1 7 _ rfl
    have f0 := R.2.2 0
    have f1 := R.2.2 1
    have f2 := R.2.2 2
    have f3 := R.2.2 3
    have f4 := R.2.2 4
    have f5 := R.2.2 5
    have f6 := R.2.2 6
    have f7 := R.2.2 7
    have XF : Ext w ((((((((w1.setCell ⟨w.heap.size + 1, 0, none⟩ (.int .i64 0)).setCell ⟨w.heap.size + 1, 1, none⟩ (.int .i64 0)).setCell ⟨w.heap.size + 1, 2, none⟩ (.string ⟨#[]⟩)).setCell ⟨w.heap.size + 1, 3, none⟩ (.string ⟨#[]⟩)).setCell ⟨w.heap.size + 1, 4, none⟩ (.int .i64 0)).setCell ⟨w.heap.size + 1, 5, none⟩ (.slice none 0 0)).setCell ⟨w.heap.size + 1, 6, none⟩ (.slice none 0 0)).setCell ⟨w.heap.size + 1, 7, none⟩ (.slice none 0 0)) := ((((((((X.setCell (by dsimp only; omega) _).setCell (by dsimp only; omega) _).setCell (by dsimp only; omega) _).setCell (by dsimp only; omega) _).setCell (by dsimp only; omega) _).setCell (by dsimp only; omega) _).setCell (by dsimp only; omega) _).setCell (by dsimp only; omega) _)
    have RF := ((((((((R.set 0 (.int .i64 0) (by simp)).set 1 (.int .i64 0) (by simp)).set 2 (.string ⟨#[]⟩) (by simp)).set 3 (.string ⟨#[]⟩) (by simp)).set 4 (.int .i64 0) (by simp)).set 5 (.slice none 0 0) (by simp)).set 6 (.slice none 0 0) (by simp)).set 7 (.slice none 0 0) (by simp))
    go_wp2
    generalize (((((((w1.setCell ⟨w.heap.size + 1, 0, none⟩ (.int .i64 0)).setCell ⟨w.heap.size + 1, 1, none⟩ (.int .i64 0)).setCell ⟨w.heap.size + 1, 2, none⟩ (.string ⟨#[]⟩)).setCell ⟨w.heap.size + 1, 3, none⟩ (.string ⟨#[]⟩)).setCell ⟨w.heap.size + 1, 4, none⟩ (.int .i64 0)).setCell ⟨w.heap.size + 1, 5, none⟩ (.slice none 0 0)).setCell ⟨w.heap.size + 1, 6, none⟩ (.slice none 0 0)).setCell ⟨w.heap.size + 1, 7, none⟩ (.slice none 0 0) = WF at *
    have k0 := RF.2.1 0 _ rfl
    have k1 := RF.2.1 1 _ rfl
    have k2 := RF.2.1 2 _ rfl
    have k3 := RF.2.1 3 _ rfl
    have k4 := RF.2.1 4 _ rfl
    have k5 := RF.2.1 5 _ rfl
    have k6 := RF.2.1 6 _ rfl
    have k7 := RF.2.1 7 _ rfl
    refine bodyPost_ret (v := .tuple #[.agg #[.int .i64 0, .int .i64 0, .string ⟨#[]⟩, .string ⟨#[]⟩, .int .i64 0, .slice none 0 0, .slice none 0 0, .slice none 0 0], .bool false]) (by simp [results, Tryd.results23, go_sem, k0, k1, k2, k3, k4, k5, k6, k7]) rfl ?_
    rw [HV.out, HK.out]
    exact ⟨_, _, _, _, _, _, rfl, sigOwn_nil _ _, XF⟩
  · have HV := Lib.hid (show slV seed pool h ep r p = sgnV seed pool (sealAt ep) (headH h ep r p) by rw [slV, if_pos hh])
    have HK := Lib.hid (show slK seed pool h ep r p = sgnOk seed pool (sealAt ep) (headH h ep r p) by rw [slK, hh]; rfl)
    have HH := Lib.hid hh
    clear hh
    rw [HV.out, HK.out]
    clear HV HK
    go_enter Tryd.func23, Tryd.ntmps23
    go_wp2_with fail
    have P : Bx ((w.alloc (Obj.cells #[.int .i64 h, .int .i64 ep, .string r, .string p] 32)).alloc (Obj.cells #[.int .i64 0, .int .i64 0, .string ⟨#[]⟩, .string ⟨#[]⟩, .int .i64 0, .slice none 0 0, .slice none 0 0, .slice none 0 0] 39)) w.heap.size [.int .i64 h, .int .i64 ep, .string r, .string p] := (Bx.new w _ _).ext ((Ext.refl _).alloc _)
    have R := Bx.new (w.alloc (Obj.cells #[.int .i64 h, .int .i64 ep, .string r, .string p] 32)) #[.int .i64 0, .int .i64 0, .string ⟨#[]⟩, .string ⟨#[]⟩, .int .i64 0, .slice none 0 0, .slice none 0 0, .slice none 0 0] 39
    rw [World.size_alloc] at R
    have X : Ext w ((w.alloc (Obj.cells #[.int .i64 h, .int .i64 ep, .string r, .string p] 32)).alloc (Obj.cells #[.int .i64 0, .int .i64 0, .string ⟨#[]⟩, .string ⟨#[]⟩, .int .i64 0, .slice none 0 0, .slice none 0 0, .slice none 0 0] 39)) := ((Ext.refl w).alloc _).alloc _
    replace HST := Lib.hid (HST.out.ext X)
    generalize (w.alloc (Obj.cells #[.int .i64 h, .int .i64 ep, .string r, .string p] 32)).alloc (Obj.cells #[.int .i64 0, .int .i64 0, .string ⟨#[]⟩, .string ⟨#[]⟩, .int .i64 0, .slice none 0 0, .slice none 0 0, .slice none 0 0] 39) = W0 at *
    refine (impl_HeadOk _ _ _ _ _).mono ?_
    rw [HH.out]
    rintro e w1 ⟨rfl, x1⟩
    replace P := P.ext x1
    replace R := R.ext x1
    replace HST := Lib.hid (HST.out.ext x1)
    replace X := X.trans x1
    have p0 := P.2.1 0 _ rfl
    have p1 := P.2.1 1 _ rfl
    have p2 := P.2.1 2 _ rfl
    have p3 := P.2.1 3 _ rfl
    go_wp2_with fail
    clear p0 p1 p2 p3
    refine wp_region_held_drew (S := (fun W => W.cell? ⟨w.heap.size, 0, none⟩ = some (.int .i64 h) ∧ W.cell? ⟨w.heap.size, 1, none⟩ = some (.int .i64 ep) ∧ W.cell? ⟨w.heap.size, 2, none⟩ = some (.string r) ∧ W.cell? ⟨w.heap.size, 3, none⟩ = some (.string p))) (by kernel_rfl) (by exact ⟨P.2.1 0 _ rfl, P.2.1 1 _ rfl, P.2.1 2 _ rfl, P.2.1 3 _ rfl⟩) (fun hHeld => ?_)
    have xd : Ext w1 w1.drew := (Ext.refl w1).drew
    replace P := P.ext xd
    replace R := R.ext xd
    replace HST := Lib.hid (HST.out.ext xd)
    replace X := X.trans xd
    generalize w1.drew = w2 at *
    have p0 := P.2.1 0 _ rfl
    have p1 := P.2.1 1 _ rfl
    have p2 := P.2.1 2 _ rfl
    have p3 := P.2.1 3 _ rfl
    (refine wpAnyH_take (i := 0) (v := ?_) rfl (by kernel_rfl) (by kernel_rfl) (by kernel_rfl) (fun _ _ _ h => h) (Or.inl ⟨by rfl, ?_⟩) (by assumption) ?_; rotate_left; focus (intro w hSw; (try dsimp only at hSw); (try simp only [List.getElem_toArray, List.getElem_cons_zero]); go_simp; try with_reducible rfl)); (try simp only [List.getElem_toArray, List.getElem_cons_zero]); (try simp only [Act.put, List.setIfInBounds_toArray, List.set_cons_zero, List.set_cons_succ])
    (refine wpAnyH_take (i := 1) (v := ?_) rfl (by kernel_rfl) (by kernel_rfl) (by kernel_rfl) (fun _ _ _ h => h) (Or.inl ⟨by rfl, ?_⟩) (by assumption) ?_; rotate_left; focus (intro w hSw; (try dsimp only at hSw); (try simp only [List.getElem_toArray, List.getElem_cons_zero, List.getElem_cons_succ]); go_simp; try with_reducible rfl)); (try simp only [List.getElem_toArray, List.getElem_cons_zero, List.getElem_cons_succ]); (try simp only [Act.put, List.setIfInBounds_toArray, List.set_cons_zero, List.set_cons_succ])
    (refine wpAnyH_take (i := 2) (v := ?_) rfl (by kernel_rfl) (by kernel_rfl) (by kernel_rfl) (fun _ _ _ h => h) (Or.inl ⟨by rfl, ?_⟩) (by assumption) ?_; rotate_left; focus (intro w hSw; (try dsimp only at hSw); (try simp only [List.getElem_toArray, List.getElem_cons_zero, List.getElem_cons_succ]); go_simp; try with_reducible rfl)); (try simp only [List.getElem_toArray, List.getElem_cons_zero, List.getElem_cons_succ]); (try simp only [Act.put, List.setIfInBounds_toArray, List.set_cons_zero, List.set_cons_succ])
    (refine wpAnyH_take (i := 3) (v := ?_) rfl (by kernel_rfl) (by kernel_rfl) (by kernel_rfl) (fun _ _ _ h => h) (Or.inl ⟨by rfl, ?_⟩) (by assumption) ?_; rotate_left; focus (intro w hSw; (try dsimp only at hSw); (try simp only [List.getElem_toArray, List.getElem_cons_zero, List.getElem_cons_succ]); go_simp; try with_reducible rfl)); (try simp only [List.getElem_toArray, List.getElem_cons_zero, List.getElem_cons_succ]); (try simp only [Act.put, List.setIfInBounds_toArray, List.set_cons_zero, List.set_cons_succ])
    (refine wpAnyH_take (i := 5) (v := ?_) rfl (by kernel_rfl) (by kernel_rfl) (by kernel_rfl) (fun _ _ _ h => h) (Or.inl ⟨by rfl, ?_⟩) (by assumption) ?_; rotate_left; focus (intro w hSw; (try dsimp only at hSw); (try simp only [List.getElem_toArray, List.getElem_cons_zero, List.getElem_cons_succ]); go_simp; try with_reducible rfl)); (try simp only [List.getElem_toArray, List.getElem_cons_zero, List.getElem_cons_succ]); (try simp only [Act.put, List.setIfInBounds_toArray, List.set_cons_zero, List.set_cons_succ])
    refine wpAnyH_ready (rs := [4, 11]) (by kernel_rfl) (by simp) ?_
    refine AllReadyH.cons rfl (fun K hK => ?_) (AllReadyH.cons rfl (fun K hK => ?_) AllReadyH.nil)
    · (try simp only [List.getElem_toArray, List.getElem_cons_zero, List.getElem_cons_succ])
      go_simp
      go_at_call 53
      refine (impl_SealAt ep _).mono ?_
      generalize hsa : sealAt ep = sa at *
      have HSA := Lib.hid hsa
      clear hsa
      rintro e w' ⟨rfl, rfl⟩
      (try dsimp only)
      refine hK.out _ _ (by exact ⟨P.2.1 0 _ rfl, P.2.1 1 _ rfl, P.2.1 2 _ rfl, P.2.1 3 _ rfl⟩) (fun hHeld => ?_)
      clear hK K
      refine wpAnyH_ready (rs := [6, 11]) (by kernel_rfl) (by simp) ?_
      refine AllReadyH.cons rfl (fun K hK => ?_) (AllReadyH.cons rfl (fun K hK => ?_) AllReadyH.nil)
      · (try simp only [List.getElem_toArray, List.getElem_cons_zero, List.getElem_cons_succ])
        go_simp
        go_at_call 93
        refine (impl_HeadHash h ep r p _ (HT.out.ext X)).mono ?_
        generalize htx : headH h ep r p = tx at *
        have HTX := Lib.hid htx
        clear htx
        rintro e u4 ⟨rfl, xh⟩
        (try clear p0 p1 p2 p3)
        replace P := P.ext xh
        replace R := R.ext xh
        replace HST := Lib.hid (HST.out.ext xh)
        replace X := X.trans xh
        (try dsimp only)
        refine hK.out _ _ (by exact ⟨P.2.1 0 _ rfl, P.2.1 1 _ rfl, P.2.1 2 _ rfl, P.2.1 3 _ rfl⟩) (fun hHeld => ?_)
        clear hK K
        refine wpAnyH_ready (rs := [7, 11]) (by kernel_rfl) (by simp) ?_
        refine AllReadyH.cons rfl (fun K hK => ?_) (AllReadyH.cons rfl (fun K hK => ?_) AllReadyH.nil)
        · (try simp only [List.getElem_toArray, List.getElem_cons_zero, List.getElem_cons_succ])
          go_simp
          go_at_call 88
          refine (impl_SignText seed tx _ pool sa _ HST.out hs hsol (HT.out.ext X)).mono ?_
          generalize hS : sgnV seed pool sa tx = S at *
          generalize hok : sgnOk seed pool sa tx = ok at *
          have HS := Lib.hid hS
          have HO := Lib.hid hok
          have HZ := Lib.hid (show ok = false → S = ⟨0, [], [], []⟩ from fun e => by rw [← hS]; exact sgn_no (hok.trans e))
          clear hS hok
          rintro e u5 ⟨a1, c1, a2, c2, a3, c3, rfl, so, xs⟩
          have lr : w.heap.size + 1 < u4.heap.size := R.1
          have SO := so.mono (show w.heap.size + 2 ≤ u4.heap.size by omega)
          clear so
          have B0 := fun v n l (o : World.ownsRow u5 (w.heap.size + 2) 9 1 v n l) k (hk : v.ownBlock = some k) => (own_lt o k hk).2
          have B1 := fun k hk => Nat.ne_of_lt (B0 _ _ _ SO.1 k hk)
          have B2 := fun k hk => Nat.ne_of_lt (B0 _ _ _ SO.2.1 k hk)
          have B3 := fun k hk => Nat.ne_of_lt (B0 _ _ _ SO.2.2.1 k hk)
          clear B0
          replace P := P.ext xs
          replace R := R.ext xs
          replace HST := Lib.hid (HST.out.ext xs)
          replace X := X.trans xs
          (try dsimp only)
          refine hK.out _ _ (by exact ⟨P.2.1 0 _ rfl, P.2.1 1 _ rfl, P.2.1 2 _ rfl, P.2.1 3 _ rfl⟩) (fun hHeld => ?_)
          clear hK K
          (refine wpAnyH_take (i := 8) (v := ?_) rfl (by kernel_rfl) (by kernel_rfl) (by kernel_rfl) (fun _ _ _ h => h) (Or.inl ⟨by rfl, ?_⟩) (by assumption) ?_; rotate_left; focus (intro w hSw; (try dsimp only at hSw); (try simp only [List.getElem_toArray, List.getElem_cons_zero, List.getElem_cons_succ]); go_simp; try with_reducible rfl)); (try simp only [List.getElem_toArray, List.getElem_cons_zero, List.getElem_cons_succ]); (try simp only [Act.put, List.setIfInBounds_toArray, List.set_cons_zero, List.set_cons_succ])
          (refine wpAnyH_take (i := 9) (v := ?_) rfl (by kernel_rfl) (by kernel_rfl) (by kernel_rfl) (fun _ _ _ h => h) (Or.inl ⟨by rfl, ?_⟩) (by assumption) ?_; rotate_left; focus (intro w hSw; (try dsimp only at hSw); (try simp only [List.getElem_toArray, List.getElem_cons_zero, List.getElem_cons_succ]); go_simp; try with_reducible rfl)); (try simp only [List.getElem_toArray, List.getElem_cons_zero, List.getElem_cons_succ]); (try simp only [Act.put, List.setIfInBounds_toArray, List.set_cons_zero, List.set_cons_succ])
          (refine wpAnyH_take (i := 10) (v := ?_) rfl (by kernel_rfl) (by kernel_rfl) (by kernel_rfl) (fun _ _ _ h => h) (Or.inl ⟨by rfl, ?_⟩) (by assumption) ?_; rotate_left; focus (intro w hSw; (try dsimp only at hSw); (try simp only [List.getElem_toArray, List.getElem_cons_zero, List.getElem_cons_succ]); go_simp; try with_reducible rfl)); (try simp only [List.getElem_toArray, List.getElem_cons_zero, List.getElem_cons_succ]); (try simp only [Act.put, List.setIfInBounds_toArray, List.set_cons_zero, List.set_cons_succ])
          refine wpAnyH_ready (rs := [11]) (by kernel_rfl) (by simp) ?_
          refine AllReadyH.cons rfl (fun K hK => ?_) AllReadyH.nil
          (try simp only [List.getElem_toArray, List.getElem_cons_zero, List.getElem_cons_succ])
          go_simp
          have ez : Ext u5 (u5.alloc (Obj.cells #[.int .i64 0, .slice none 0 0, .slice none 0 0, .slice none 0 0] 28)) := (Ext.refl _).alloc _
          have Q := Bx.new u5 #[.int .i64 0, .slice none 0 0, .slice none 0 0, .slice none 0 0] 28
          have lq : w.heap.size + 1 < u5.heap.size := R.1
          replace P := P.ext ez
          replace R := R.ext ez
          replace HST := Lib.hid (HST.out.ext ez)
          replace X := X.trans ez
          replace SO := SO.ext ez
          generalize u5.alloc (Obj.cells #[.int .i64 0, .slice none 0 0, .slice none 0 0, .slice none 0 0] 28) = u6 at *
          generalize hqb : u5.heap.size = qb at *
          clear hqb
          (try dsimp only)
          refine hK.out _ _ (by exact ⟨P.2.1 0 _ rfl, P.2.1 1 _ rfl, P.2.1 2 _ rfl, P.2.1 3 _ rfl⟩) (fun hHeld => ?_)
          clear hK K
          have lr2 : qb ≠ w.heap.size + 1 := by omega
          have z0 := Q.2.1 0 _ rfl
          have z1 := Q.2.1 1 _ rfl
          have z2 := Q.2.1 2 _ rfl
          have z3 := Q.2.1 3 _ rfl
          have f0 := Q.2.2 0
          have f1 := Q.2.2 1
          have f2 := Q.2.2 2
          have f3 := Q.2.2 3
          have XQ : Ext w ((((u6.setCell ⟨qb, 0, none⟩ (.int .i64 S.at_)).setCell ⟨qb, 1, none⟩ (.slice a1 S.op.length c1)).setCell ⟨qb, 2, none⟩ (.slice a2 S.sh.length c2)).setCell ⟨qb, 3, none⟩ (.slice a3 S.si.length c3)) := ((((X.setCell (by dsimp only; omega) _).setCell (by dsimp only; omega) _).setCell (by dsimp only; omega) _).setCell (by dsimp only; omega) _)
          have QQ := ((((Q.set 0 (.int .i64 S.at_) (by simp)).set 1 (.slice a1 S.op.length c1) (by simp)).set 2 (.slice a2 S.sh.length c2) (by simp)).set 3 (.slice a3 S.si.length c3) (by simp))
          have PQ := ((((P.far (c := qb) (by omega) 0 (.int .i64 S.at_)).far (c := qb) (by omega) 1 (.slice a1 S.op.length c1)).far (c := qb) (by omega) 2 (.slice a2 S.sh.length c2)).far (c := qb) (by omega) 3 (.slice a3 S.si.length c3))
          have RQ := ((((R.far (c := qb) (by omega) 0 (.int .i64 S.at_)).far (c := qb) (by omega) 1 (.slice a1 S.op.length c1)).far (c := qb) (by omega) 2 (.slice a2 S.sh.length c2)).far (c := qb) (by omega) 3 (.slice a3 S.si.length c3))
          have SQ := ((((SO.far B1 B2 B3 0 (.int .i64 S.at_)).far B1 B2 B3 1 (.slice a1 S.op.length c1)).far B1 B2 B3 2 (.slice a2 S.sh.length c2)).far B1 B2 B3 3 (.slice a3 S.si.length c3))
          clear HST
          (refine wpAnyH_ready (rs := [12]) (by kernel_rfl) (by simp) ?_; refine AllReadyH.cons rfl (fun K hK => ?_) AllReadyH.nil; (try simp only [List.getElem_toArray, List.getElem_cons_zero, List.getElem_cons_succ]))
          go_simp
          clear z0 z1 z2 z3 f0 f1 f2 f3
          replace P := PQ
          replace Q := QQ
          replace R := RQ
          replace SO := SQ
          replace X := XQ
          clear PQ QQ RQ SQ XQ
          generalize (((u6.setCell ⟨qb, 0, none⟩ (.int .i64 S.at_)).setCell ⟨qb, 1, none⟩ (.slice a1 S.op.length c1)).setCell ⟨qb, 2, none⟩ (.slice a2 S.sh.length c2)).setCell ⟨qb, 3, none⟩ (.slice a3 S.si.length c3) = W6 at *
          (try dsimp only)
          refine hK.out _ _ (by exact ⟨P.2.1 0 _ rfl, P.2.1 1 _ rfl, P.2.1 2 _ rfl, P.2.1 3 _ rfl⟩) (fun hHeld => ?_)
          clear hK K
          (refine wpAnyH_take (i := 13) (v := ?_) rfl (by kernel_rfl) (by kernel_rfl) (by kernel_rfl) (fun _ _ _ h => h) (Or.inl ⟨by rfl, ?_⟩) (by assumption) ?_; rotate_left; focus (intro w hSw; (try dsimp only at hSw); (try simp only [List.getElem_toArray, List.getElem_cons_zero, List.getElem_cons_succ]); go_simp; try with_reducible rfl)); (try simp only [List.getElem_toArray, List.getElem_cons_zero, List.getElem_cons_succ]); (try simp only [Act.put, List.setIfInBounds_toArray, List.set_cons_zero, List.set_cons_succ])
          refine wpAnyH_done (by kernel_rfl) ?_ _
          cases ok
          · have hz := HZ.out rfl
            clear HZ
            subst hz
            have z0 := R.2.1 0 _ rfl
            have z1 := R.2.1 1 _ rfl
            have z2 := R.2.1 2 _ rfl
            have z3 := R.2.1 3 _ rfl
            have z4 := R.2.1 4 _ rfl
            have z5 := R.2.1 5 _ rfl
            have z6 := R.2.1 6 _ rfl
            have z7 := R.2.1 7 _ rfl
            have f0 := R.2.2 0
            have f1 := R.2.2 1
            have f2 := R.2.2 2
            have f3 := R.2.2 3
            have f4 := R.2.2 4
            have f5 := R.2.2 5
            have f6 := R.2.2 6
            have f7 := R.2.2 7
            have XF : Ext w ((((((((W6.setCell ⟨w.heap.size + 1, 0, none⟩ (.int .i64 0)).setCell ⟨w.heap.size + 1, 1, none⟩ (.int .i64 0)).setCell ⟨w.heap.size + 1, 2, none⟩ (.string ⟨#[]⟩)).setCell ⟨w.heap.size + 1, 3, none⟩ (.string ⟨#[]⟩)).setCell ⟨w.heap.size + 1, 4, none⟩ (.int .i64 0)).setCell ⟨w.heap.size + 1, 5, none⟩ (.slice none 0 0)).setCell ⟨w.heap.size + 1, 6, none⟩ (.slice none 0 0)).setCell ⟨w.heap.size + 1, 7, none⟩ (.slice none 0 0)) := ((((((((X.setCell (by dsimp only; omega) _).setCell (by dsimp only; omega) _).setCell (by dsimp only; omega) _).setCell (by dsimp only; omega) _).setCell (by dsimp only; omega) _).setCell (by dsimp only; omega) _).setCell (by dsimp only; omega) _).setCell (by dsimp only; omega) _)
            have RF := ((((((((R.set 0 (.int .i64 0) (by simp)).set 1 (.int .i64 0) (by simp)).set 2 (.string ⟨#[]⟩) (by simp)).set 3 (.string ⟨#[]⟩) (by simp)).set 4 (.int .i64 0) (by simp)).set 5 (.slice none 0 0) (by simp)).set 6 (.slice none 0 0) (by simp)).set 7 (.slice none 0 0) (by simp))
            skip
            go_wp2
            generalize (((((((W6.setCell ⟨w.heap.size + 1, 0, none⟩ (.int .i64 0)).setCell ⟨w.heap.size + 1, 1, none⟩ (.int .i64 0)).setCell ⟨w.heap.size + 1, 2, none⟩ (.string ⟨#[]⟩)).setCell ⟨w.heap.size + 1, 3, none⟩ (.string ⟨#[]⟩)).setCell ⟨w.heap.size + 1, 4, none⟩ (.int .i64 0)).setCell ⟨w.heap.size + 1, 5, none⟩ (.slice none 0 0)).setCell ⟨w.heap.size + 1, 6, none⟩ (.slice none 0 0)).setCell ⟨w.heap.size + 1, 7, none⟩ (.slice none 0 0) = WF at *
            have k0 := RF.2.1 0 _ rfl
            have k1 := RF.2.1 1 _ rfl
            have k2 := RF.2.1 2 _ rfl
            have k3 := RF.2.1 3 _ rfl
            have k4 := RF.2.1 4 _ rfl
            have k5 := RF.2.1 5 _ rfl
            have k6 := RF.2.1 6 _ rfl
            have k7 := RF.2.1 7 _ rfl
            refine bodyPost_ret (v := .tuple #[.agg #[.int .i64 0, .int .i64 0, .string ⟨#[]⟩, .string ⟨#[]⟩, .int .i64 0, .slice none 0 0, .slice none 0 0, .slice none 0 0], .bool false]) (by simp [results, Tryd.results23, go_sem, k0, k1, k2, k3, k4, k5, k6, k7]) rfl ?_
            rw [HSA.out, HTX.out, HS.out, HO.out]
            exact ⟨none, 0, none, 0, none, 0, rfl, sigOwn_nil _ _, XF⟩
          · have p0 := P.2.1 0 _ rfl
            have p1 := P.2.1 1 _ rfl
            have p2 := P.2.1 2 _ rfl
            have p3 := P.2.1 3 _ rfl
            have q0 := Q.2.1 0 _ rfl
            have q1 := Q.2.1 1 _ rfl
            have q2 := Q.2.1 2 _ rfl
            have q3 := Q.2.1 3 _ rfl
            have z0 := R.2.1 0 _ rfl
            have z1 := R.2.1 1 _ rfl
            have z2 := R.2.1 2 _ rfl
            have z3 := R.2.1 3 _ rfl
            have z4 := R.2.1 4 _ rfl
            have z5 := R.2.1 5 _ rfl
            have z6 := R.2.1 6 _ rfl
            have z7 := R.2.1 7 _ rfl
            have f0 := R.2.2 0
            have f1 := R.2.2 1
            have f2 := R.2.2 2
            have f3 := R.2.2 3
            have f4 := R.2.2 4
            have f5 := R.2.2 5
            have f6 := R.2.2 6
            have f7 := R.2.2 7
            have XF : Ext w ((((((((W6.setCell ⟨w.heap.size + 1, 0, none⟩ (.int .i64 h)).setCell ⟨w.heap.size + 1, 1, none⟩ (.int .i64 ep)).setCell ⟨w.heap.size + 1, 2, none⟩ (.string r)).setCell ⟨w.heap.size + 1, 3, none⟩ (.string p)).setCell ⟨w.heap.size + 1, 4, none⟩ (.int .i64 S.at_)).setCell ⟨w.heap.size + 1, 5, none⟩ (.slice a1 S.op.length c1)).setCell ⟨w.heap.size + 1, 6, none⟩ (.slice a2 S.sh.length c2)).setCell ⟨w.heap.size + 1, 7, none⟩ (.slice a3 S.si.length c3)) := ((((((((X.setCell (by dsimp only; omega) _).setCell (by dsimp only; omega) _).setCell (by dsimp only; omega) _).setCell (by dsimp only; omega) _).setCell (by dsimp only; omega) _).setCell (by dsimp only; omega) _).setCell (by dsimp only; omega) _).setCell (by dsimp only; omega) _)
            have RF := ((((((((R.set 0 (.int .i64 h) (by simp)).set 1 (.int .i64 ep) (by simp)).set 2 (.string r) (by simp)).set 3 (.string p) (by simp)).set 4 (.int .i64 S.at_) (by simp)).set 5 (.slice a1 S.op.length c1) (by simp)).set 6 (.slice a2 S.sh.length c2) (by simp)).set 7 (.slice a3 S.si.length c3) (by simp))
            have SF := (((((((SO.set (b := w.heap.size + 1) (by omega) 0 (.int .i64 h)).set (b := w.heap.size + 1) (by omega) 1 (.int .i64 ep)).set (b := w.heap.size + 1) (by omega) 2 (.string r)).set (b := w.heap.size + 1) (by omega) 3 (.string p)).set (b := w.heap.size + 1) (by omega) 4 (.int .i64 S.at_)).set (b := w.heap.size + 1) (by omega) 5 (.slice a1 S.op.length c1)).set (b := w.heap.size + 1) (by omega) 6 (.slice a2 S.sh.length c2)).set (b := w.heap.size + 1) (by omega) 7 (.slice a3 S.si.length c3)
            go_wp2
            generalize (((((((W6.setCell ⟨w.heap.size + 1, 0, none⟩ (.int .i64 h)).setCell ⟨w.heap.size + 1, 1, none⟩ (.int .i64 ep)).setCell ⟨w.heap.size + 1, 2, none⟩ (.string r)).setCell ⟨w.heap.size + 1, 3, none⟩ (.string p)).setCell ⟨w.heap.size + 1, 4, none⟩ (.int .i64 S.at_)).setCell ⟨w.heap.size + 1, 5, none⟩ (.slice a1 S.op.length c1)).setCell ⟨w.heap.size + 1, 6, none⟩ (.slice a2 S.sh.length c2)).setCell ⟨w.heap.size + 1, 7, none⟩ (.slice a3 S.si.length c3) = WF at *
            have k0 := RF.2.1 0 _ rfl
            have k1 := RF.2.1 1 _ rfl
            have k2 := RF.2.1 2 _ rfl
            have k3 := RF.2.1 3 _ rfl
            have k4 := RF.2.1 4 _ rfl
            have k5 := RF.2.1 5 _ rfl
            have k6 := RF.2.1 6 _ rfl
            have k7 := RF.2.1 7 _ rfl
            refine bodyPost_ret (v := .tuple #[.agg #[.int .i64 h, .int .i64 ep, .string r, .string p, .int .i64 S.at_, .slice a1 S.op.length c1, .slice a2 S.sh.length c2, .slice a3 S.si.length c3], .bool true]) (by simp [results, Tryd.results23, go_sem, k0, k1, k2, k3, k4, k5, k6, k7]) rfl ?_
            rw [HSA.out, HTX.out, HS.out, HO.out]
            exact ⟨a1, c1, a2, c2, a3, c3, rfl, SF.mono (by omega), XF⟩
        · (try simp only [List.getElem_toArray, List.getElem_cons_zero, List.getElem_cons_succ])
          go_simp
          have ez : Ext u4 (u4.alloc (Obj.cells #[.int .i64 0, .slice none 0 0, .slice none 0 0, .slice none 0 0] 28)) := (Ext.refl _).alloc _
          have Q := Bx.new u4 #[.int .i64 0, .slice none 0 0, .slice none 0 0, .slice none 0 0] 28
          have lq : w.heap.size + 1 < u4.heap.size := R.1
          replace P := P.ext ez
          replace R := R.ext ez
          replace HST := Lib.hid (HST.out.ext ez)
          replace X := X.trans ez
          generalize u4.alloc (Obj.cells #[.int .i64 0, .slice none 0 0, .slice none 0 0, .slice none 0 0] 28) = u5 at *
          generalize hqb : u4.heap.size = qb at *
          clear hqb
          (try dsimp only)
          refine hK.out _ _ (by exact ⟨P.2.1 0 _ rfl, P.2.1 1 _ rfl, P.2.1 2 _ rfl, P.2.1 3 _ rfl⟩) (fun hHeld => ?_)
          clear hK K
          (refine wpAnyH_ready (rs := [7]) (by kernel_rfl) (by simp) ?_; refine AllReadyH.cons rfl (fun K hK => ?_) AllReadyH.nil)
          (try simp only [List.getElem_toArray, List.getElem_cons_zero, List.getElem_cons_succ])
          go_simp
          go_at_call 88
          refine (impl_SignText seed tx _ pool sa _ HST.out hs hsol (HT.out.ext X)).mono ?_
          generalize hS : sgnV seed pool sa tx = S at *
          generalize hok : sgnOk seed pool sa tx = ok at *
          have HS := Lib.hid hS
          have HO := Lib.hid hok
          have HZ := Lib.hid (show ok = false → S = ⟨0, [], [], []⟩ from fun e => by rw [← hS]; exact sgn_no (hok.trans e))
          clear hS hok
          rintro e u6 ⟨a1, c1, a2, c2, a3, c3, rfl, so, xs⟩
          have lr : w.heap.size + 1 < u5.heap.size := R.1
          have lqs : qb < u5.heap.size := Q.1
          have nq : qb ≠ w.heap.size + 1 := by omega
          have B1 := fun k (hk : Value.ownBlock (.slice a1 S.op.length c1) = some k) => Nat.ne_of_gt (Nat.lt_of_lt_of_le lqs (own_lt so.1 k hk).1)
          have B2 := fun k (hk : Value.ownBlock (.slice a2 S.sh.length c2) = some k) => Nat.ne_of_gt (Nat.lt_of_lt_of_le lqs (own_lt so.2.1 k hk).1)
          have B3 := fun k (hk : Value.ownBlock (.slice a3 S.si.length c3) = some k) => Nat.ne_of_gt (Nat.lt_of_lt_of_le lqs (own_lt so.2.2.1 k hk).1)
          have SO := so.mono (show w.heap.size + 2 ≤ u5.heap.size by omega)
          clear so
          replace P := P.ext xs
          replace R := R.ext xs
          replace HST := Lib.hid (HST.out.ext xs)
          replace X := X.trans xs
          replace Q := Q.ext xs
          (try dsimp only)
          refine hK.out _ _ (by exact ⟨P.2.1 0 _ rfl, P.2.1 1 _ rfl, P.2.1 2 _ rfl, P.2.1 3 _ rfl⟩) (fun hHeld => ?_)
          clear hK K
          (refine wpAnyH_take (i := 8) (v := ?_) rfl (by kernel_rfl) (by kernel_rfl) (by kernel_rfl) (fun _ _ _ h => h) (Or.inl ⟨by rfl, ?_⟩) (by assumption) ?_; rotate_left; focus (intro w hSw; (try dsimp only at hSw); (try simp only [List.getElem_toArray, List.getElem_cons_zero, List.getElem_cons_succ]); go_simp; try with_reducible rfl)); (try simp only [List.getElem_toArray, List.getElem_cons_zero, List.getElem_cons_succ]); (try simp only [Act.put, List.setIfInBounds_toArray, List.set_cons_zero, List.set_cons_succ])
          (refine wpAnyH_take (i := 9) (v := ?_) rfl (by kernel_rfl) (by kernel_rfl) (by kernel_rfl) (fun _ _ _ h => h) (Or.inl ⟨by rfl, ?_⟩) (by assumption) ?_; rotate_left; focus (intro w hSw; (try dsimp only at hSw); (try simp only [List.getElem_toArray, List.getElem_cons_zero, List.getElem_cons_succ]); go_simp; try with_reducible rfl)); (try simp only [List.getElem_toArray, List.getElem_cons_zero, List.getElem_cons_succ]); (try simp only [Act.put, List.setIfInBounds_toArray, List.set_cons_zero, List.set_cons_succ])
          (refine wpAnyH_take (i := 10) (v := ?_) rfl (by kernel_rfl) (by kernel_rfl) (by kernel_rfl) (fun _ _ _ h => h) (Or.inl ⟨by rfl, ?_⟩) (by assumption) ?_; rotate_left; focus (intro w hSw; (try dsimp only at hSw); (try simp only [List.getElem_toArray, List.getElem_cons_zero, List.getElem_cons_succ]); go_simp; try with_reducible rfl)); (try simp only [List.getElem_toArray, List.getElem_cons_zero, List.getElem_cons_succ]); (try simp only [Act.put, List.setIfInBounds_toArray, List.set_cons_zero, List.set_cons_succ])
          have lr2 : qb ≠ w.heap.size + 1 := by omega
          have z0 := Q.2.1 0 _ rfl
          have z1 := Q.2.1 1 _ rfl
          have z2 := Q.2.1 2 _ rfl
          have z3 := Q.2.1 3 _ rfl
          have f0 := Q.2.2 0
          have f1 := Q.2.2 1
          have f2 := Q.2.2 2
          have f3 := Q.2.2 3
          have XQ : Ext w ((((u6.setCell ⟨qb, 0, none⟩ (.int .i64 S.at_)).setCell ⟨qb, 1, none⟩ (.slice a1 S.op.length c1)).setCell ⟨qb, 2, none⟩ (.slice a2 S.sh.length c2)).setCell ⟨qb, 3, none⟩ (.slice a3 S.si.length c3)) := ((((X.setCell (by dsimp only; omega) _).setCell (by dsimp only; omega) _).setCell (by dsimp only; omega) _).setCell (by dsimp only; omega) _)
          have QQ := ((((Q.set 0 (.int .i64 S.at_) (by simp)).set 1 (.slice a1 S.op.length c1) (by simp)).set 2 (.slice a2 S.sh.length c2) (by simp)).set 3 (.slice a3 S.si.length c3) (by simp))
          have PQ := ((((P.far (c := qb) (by omega) 0 (.int .i64 S.at_)).far (c := qb) (by omega) 1 (.slice a1 S.op.length c1)).far (c := qb) (by omega) 2 (.slice a2 S.sh.length c2)).far (c := qb) (by omega) 3 (.slice a3 S.si.length c3))
          have RQ := ((((R.far (c := qb) (by omega) 0 (.int .i64 S.at_)).far (c := qb) (by omega) 1 (.slice a1 S.op.length c1)).far (c := qb) (by omega) 2 (.slice a2 S.sh.length c2)).far (c := qb) (by omega) 3 (.slice a3 S.si.length c3))
          have SQ := ((((SO.far B1 B2 B3 0 (.int .i64 S.at_)).far B1 B2 B3 1 (.slice a1 S.op.length c1)).far B1 B2 B3 2 (.slice a2 S.sh.length c2)).far B1 B2 B3 3 (.slice a3 S.si.length c3))
          clear HST
          (refine wpAnyH_ready (rs := [12]) (by kernel_rfl) (by simp) ?_; refine AllReadyH.cons rfl (fun K hK => ?_) AllReadyH.nil; (try simp only [List.getElem_toArray, List.getElem_cons_zero, List.getElem_cons_succ]))
          go_simp
          clear z0 z1 z2 z3 f0 f1 f2 f3
          replace P := PQ
          replace Q := QQ
          replace R := RQ
          replace SO := SQ
          replace X := XQ
          clear PQ QQ RQ SQ XQ
          generalize (((u6.setCell ⟨qb, 0, none⟩ (.int .i64 S.at_)).setCell ⟨qb, 1, none⟩ (.slice a1 S.op.length c1)).setCell ⟨qb, 2, none⟩ (.slice a2 S.sh.length c2)).setCell ⟨qb, 3, none⟩ (.slice a3 S.si.length c3) = W6 at *
          (try dsimp only)
          refine hK.out _ _ (by exact ⟨P.2.1 0 _ rfl, P.2.1 1 _ rfl, P.2.1 2 _ rfl, P.2.1 3 _ rfl⟩) (fun hHeld => ?_)
          clear hK K
          (refine wpAnyH_take (i := 13) (v := ?_) rfl (by kernel_rfl) (by kernel_rfl) (by kernel_rfl) (fun _ _ _ h => h) (Or.inl ⟨by rfl, ?_⟩) (by assumption) ?_; rotate_left; focus (intro w hSw; (try dsimp only at hSw); (try simp only [List.getElem_toArray, List.getElem_cons_zero, List.getElem_cons_succ]); go_simp; try with_reducible rfl)); (try simp only [List.getElem_toArray, List.getElem_cons_zero, List.getElem_cons_succ]); (try simp only [Act.put, List.setIfInBounds_toArray, List.set_cons_zero, List.set_cons_succ])
          refine wpAnyH_done (by kernel_rfl) ?_ _
          cases ok
          · have hz := HZ.out rfl
            clear HZ
            subst hz
            have z0 := R.2.1 0 _ rfl
            have z1 := R.2.1 1 _ rfl
            have z2 := R.2.1 2 _ rfl
            have z3 := R.2.1 3 _ rfl
            have z4 := R.2.1 4 _ rfl
            have z5 := R.2.1 5 _ rfl
            have z6 := R.2.1 6 _ rfl
            have z7 := R.2.1 7 _ rfl
            have f0 := R.2.2 0
            have f1 := R.2.2 1
            have f2 := R.2.2 2
            have f3 := R.2.2 3
            have f4 := R.2.2 4
            have f5 := R.2.2 5
            have f6 := R.2.2 6
            have f7 := R.2.2 7
            have XF : Ext w ((((((((W6.setCell ⟨w.heap.size + 1, 0, none⟩ (.int .i64 0)).setCell ⟨w.heap.size + 1, 1, none⟩ (.int .i64 0)).setCell ⟨w.heap.size + 1, 2, none⟩ (.string ⟨#[]⟩)).setCell ⟨w.heap.size + 1, 3, none⟩ (.string ⟨#[]⟩)).setCell ⟨w.heap.size + 1, 4, none⟩ (.int .i64 0)).setCell ⟨w.heap.size + 1, 5, none⟩ (.slice none 0 0)).setCell ⟨w.heap.size + 1, 6, none⟩ (.slice none 0 0)).setCell ⟨w.heap.size + 1, 7, none⟩ (.slice none 0 0)) := ((((((((X.setCell (by dsimp only; omega) _).setCell (by dsimp only; omega) _).setCell (by dsimp only; omega) _).setCell (by dsimp only; omega) _).setCell (by dsimp only; omega) _).setCell (by dsimp only; omega) _).setCell (by dsimp only; omega) _).setCell (by dsimp only; omega) _)
            have RF := ((((((((R.set 0 (.int .i64 0) (by simp)).set 1 (.int .i64 0) (by simp)).set 2 (.string ⟨#[]⟩) (by simp)).set 3 (.string ⟨#[]⟩) (by simp)).set 4 (.int .i64 0) (by simp)).set 5 (.slice none 0 0) (by simp)).set 6 (.slice none 0 0) (by simp)).set 7 (.slice none 0 0) (by simp))
            skip
            go_wp2
            generalize (((((((W6.setCell ⟨w.heap.size + 1, 0, none⟩ (.int .i64 0)).setCell ⟨w.heap.size + 1, 1, none⟩ (.int .i64 0)).setCell ⟨w.heap.size + 1, 2, none⟩ (.string ⟨#[]⟩)).setCell ⟨w.heap.size + 1, 3, none⟩ (.string ⟨#[]⟩)).setCell ⟨w.heap.size + 1, 4, none⟩ (.int .i64 0)).setCell ⟨w.heap.size + 1, 5, none⟩ (.slice none 0 0)).setCell ⟨w.heap.size + 1, 6, none⟩ (.slice none 0 0)).setCell ⟨w.heap.size + 1, 7, none⟩ (.slice none 0 0) = WF at *
            have k0 := RF.2.1 0 _ rfl
            have k1 := RF.2.1 1 _ rfl
            have k2 := RF.2.1 2 _ rfl
            have k3 := RF.2.1 3 _ rfl
            have k4 := RF.2.1 4 _ rfl
            have k5 := RF.2.1 5 _ rfl
            have k6 := RF.2.1 6 _ rfl
            have k7 := RF.2.1 7 _ rfl
            refine bodyPost_ret (v := .tuple #[.agg #[.int .i64 0, .int .i64 0, .string ⟨#[]⟩, .string ⟨#[]⟩, .int .i64 0, .slice none 0 0, .slice none 0 0, .slice none 0 0], .bool false]) (by simp [results, Tryd.results23, go_sem, k0, k1, k2, k3, k4, k5, k6, k7]) rfl ?_
            rw [HSA.out, HTX.out, HS.out, HO.out]
            exact ⟨none, 0, none, 0, none, 0, rfl, sigOwn_nil _ _, XF⟩
          · have p0 := P.2.1 0 _ rfl
            have p1 := P.2.1 1 _ rfl
            have p2 := P.2.1 2 _ rfl
            have p3 := P.2.1 3 _ rfl
            have q0 := Q.2.1 0 _ rfl
            have q1 := Q.2.1 1 _ rfl
            have q2 := Q.2.1 2 _ rfl
            have q3 := Q.2.1 3 _ rfl
            have z0 := R.2.1 0 _ rfl
            have z1 := R.2.1 1 _ rfl
            have z2 := R.2.1 2 _ rfl
            have z3 := R.2.1 3 _ rfl
            have z4 := R.2.1 4 _ rfl
            have z5 := R.2.1 5 _ rfl
            have z6 := R.2.1 6 _ rfl
            have z7 := R.2.1 7 _ rfl
            have f0 := R.2.2 0
            have f1 := R.2.2 1
            have f2 := R.2.2 2
            have f3 := R.2.2 3
            have f4 := R.2.2 4
            have f5 := R.2.2 5
            have f6 := R.2.2 6
            have f7 := R.2.2 7
            have XF : Ext w ((((((((W6.setCell ⟨w.heap.size + 1, 0, none⟩ (.int .i64 h)).setCell ⟨w.heap.size + 1, 1, none⟩ (.int .i64 ep)).setCell ⟨w.heap.size + 1, 2, none⟩ (.string r)).setCell ⟨w.heap.size + 1, 3, none⟩ (.string p)).setCell ⟨w.heap.size + 1, 4, none⟩ (.int .i64 S.at_)).setCell ⟨w.heap.size + 1, 5, none⟩ (.slice a1 S.op.length c1)).setCell ⟨w.heap.size + 1, 6, none⟩ (.slice a2 S.sh.length c2)).setCell ⟨w.heap.size + 1, 7, none⟩ (.slice a3 S.si.length c3)) := ((((((((X.setCell (by dsimp only; omega) _).setCell (by dsimp only; omega) _).setCell (by dsimp only; omega) _).setCell (by dsimp only; omega) _).setCell (by dsimp only; omega) _).setCell (by dsimp only; omega) _).setCell (by dsimp only; omega) _).setCell (by dsimp only; omega) _)
            have RF := ((((((((R.set 0 (.int .i64 h) (by simp)).set 1 (.int .i64 ep) (by simp)).set 2 (.string r) (by simp)).set 3 (.string p) (by simp)).set 4 (.int .i64 S.at_) (by simp)).set 5 (.slice a1 S.op.length c1) (by simp)).set 6 (.slice a2 S.sh.length c2) (by simp)).set 7 (.slice a3 S.si.length c3) (by simp))
            have SF := (((((((SO.set (b := w.heap.size + 1) (by omega) 0 (.int .i64 h)).set (b := w.heap.size + 1) (by omega) 1 (.int .i64 ep)).set (b := w.heap.size + 1) (by omega) 2 (.string r)).set (b := w.heap.size + 1) (by omega) 3 (.string p)).set (b := w.heap.size + 1) (by omega) 4 (.int .i64 S.at_)).set (b := w.heap.size + 1) (by omega) 5 (.slice a1 S.op.length c1)).set (b := w.heap.size + 1) (by omega) 6 (.slice a2 S.sh.length c2)).set (b := w.heap.size + 1) (by omega) 7 (.slice a3 S.si.length c3)
            go_wp2
            generalize (((((((W6.setCell ⟨w.heap.size + 1, 0, none⟩ (.int .i64 h)).setCell ⟨w.heap.size + 1, 1, none⟩ (.int .i64 ep)).setCell ⟨w.heap.size + 1, 2, none⟩ (.string r)).setCell ⟨w.heap.size + 1, 3, none⟩ (.string p)).setCell ⟨w.heap.size + 1, 4, none⟩ (.int .i64 S.at_)).setCell ⟨w.heap.size + 1, 5, none⟩ (.slice a1 S.op.length c1)).setCell ⟨w.heap.size + 1, 6, none⟩ (.slice a2 S.sh.length c2)).setCell ⟨w.heap.size + 1, 7, none⟩ (.slice a3 S.si.length c3) = WF at *
            have k0 := RF.2.1 0 _ rfl
            have k1 := RF.2.1 1 _ rfl
            have k2 := RF.2.1 2 _ rfl
            have k3 := RF.2.1 3 _ rfl
            have k4 := RF.2.1 4 _ rfl
            have k5 := RF.2.1 5 _ rfl
            have k6 := RF.2.1 6 _ rfl
            have k7 := RF.2.1 7 _ rfl
            refine bodyPost_ret (v := .tuple #[.agg #[.int .i64 h, .int .i64 ep, .string r, .string p, .int .i64 S.at_, .slice a1 S.op.length c1, .slice a2 S.sh.length c2, .slice a3 S.si.length c3], .bool true]) (by simp [results, Tryd.results23, go_sem, k0, k1, k2, k3, k4, k5, k6, k7]) rfl ?_
            rw [HSA.out, HTX.out, HS.out, HO.out]
            exact ⟨a1, c1, a2, c2, a3, c3, rfl, SF.mono (by omega), XF⟩
      · (try simp only [List.getElem_toArray, List.getElem_cons_zero, List.getElem_cons_succ])
        go_simp
        have ez : Ext w2 (w2.alloc (Obj.cells #[.int .i64 0, .slice none 0 0, .slice none 0 0, .slice none 0 0] 28)) := (Ext.refl _).alloc _
        have Q := Bx.new w2 #[.int .i64 0, .slice none 0 0, .slice none 0 0, .slice none 0 0] 28
        have lq : w.heap.size + 1 < w2.heap.size := R.1
        replace P := P.ext ez
        replace R := R.ext ez
        replace HST := Lib.hid (HST.out.ext ez)
        replace X := X.trans ez
        generalize w2.alloc (Obj.cells #[.int .i64 0, .slice none 0 0, .slice none 0 0, .slice none 0 0] 28) = u4 at *
        generalize hqb : w2.heap.size = qb at *
        clear hqb
        (try dsimp only)
        refine hK.out _ _ (by exact ⟨P.2.1 0 _ rfl, P.2.1 1 _ rfl, P.2.1 2 _ rfl, P.2.1 3 _ rfl⟩) (fun hHeld => ?_)
        clear hK K
        (refine wpAnyH_ready (rs := [6]) (by kernel_rfl) (by simp) ?_; refine AllReadyH.cons rfl (fun K hK => ?_) AllReadyH.nil)
        (try simp only [List.getElem_toArray, List.getElem_cons_zero, List.getElem_cons_succ])
        go_simp
        go_at_call 93
        refine (impl_HeadHash h ep r p _ (HT.out.ext X)).mono ?_
        generalize htx : headH h ep r p = tx at *
        have HTX := Lib.hid htx
        clear htx
        rintro e u5 ⟨rfl, xh⟩
        (try clear p0 p1 p2 p3)
        replace P := P.ext xh
        replace R := R.ext xh
        replace HST := Lib.hid (HST.out.ext xh)
        replace X := X.trans xh
        replace Q := Q.ext xh
        (try dsimp only)
        refine hK.out _ _ (by exact ⟨P.2.1 0 _ rfl, P.2.1 1 _ rfl, P.2.1 2 _ rfl, P.2.1 3 _ rfl⟩) (fun hHeld => ?_)
        clear hK K
        (refine wpAnyH_ready (rs := [7]) (by kernel_rfl) (by simp) ?_; refine AllReadyH.cons rfl (fun K hK => ?_) AllReadyH.nil)
        (try simp only [List.getElem_toArray, List.getElem_cons_zero, List.getElem_cons_succ])
        go_simp
        go_at_call 88
        refine (impl_SignText seed tx _ pool sa _ HST.out hs hsol (HT.out.ext X)).mono ?_
        generalize hS : sgnV seed pool sa tx = S at *
        generalize hok : sgnOk seed pool sa tx = ok at *
        have HS := Lib.hid hS
        have HO := Lib.hid hok
        have HZ := Lib.hid (show ok = false → S = ⟨0, [], [], []⟩ from fun e => by rw [← hS]; exact sgn_no (hok.trans e))
        clear hS hok
        rintro e u6 ⟨a1, c1, a2, c2, a3, c3, rfl, so, xs⟩
        have lr : w.heap.size + 1 < u5.heap.size := R.1
        have lqs : qb < u5.heap.size := Q.1
        have nq : qb ≠ w.heap.size + 1 := by omega
        have B1 := fun k (hk : Value.ownBlock (.slice a1 S.op.length c1) = some k) => Nat.ne_of_gt (Nat.lt_of_lt_of_le lqs (own_lt so.1 k hk).1)
        have B2 := fun k (hk : Value.ownBlock (.slice a2 S.sh.length c2) = some k) => Nat.ne_of_gt (Nat.lt_of_lt_of_le lqs (own_lt so.2.1 k hk).1)
        have B3 := fun k (hk : Value.ownBlock (.slice a3 S.si.length c3) = some k) => Nat.ne_of_gt (Nat.lt_of_lt_of_le lqs (own_lt so.2.2.1 k hk).1)
        have SO := so.mono (show w.heap.size + 2 ≤ u5.heap.size by omega)
        clear so
        replace P := P.ext xs
        replace R := R.ext xs
        replace HST := Lib.hid (HST.out.ext xs)
        replace X := X.trans xs
        replace Q := Q.ext xs
        (try dsimp only)
        refine hK.out _ _ (by exact ⟨P.2.1 0 _ rfl, P.2.1 1 _ rfl, P.2.1 2 _ rfl, P.2.1 3 _ rfl⟩) (fun hHeld => ?_)
        clear hK K
        (refine wpAnyH_take (i := 8) (v := ?_) rfl (by kernel_rfl) (by kernel_rfl) (by kernel_rfl) (fun _ _ _ h => h) (Or.inl ⟨by rfl, ?_⟩) (by assumption) ?_; rotate_left; focus (intro w hSw; (try dsimp only at hSw); (try simp only [List.getElem_toArray, List.getElem_cons_zero, List.getElem_cons_succ]); go_simp; try with_reducible rfl)); (try simp only [List.getElem_toArray, List.getElem_cons_zero, List.getElem_cons_succ]); (try simp only [Act.put, List.setIfInBounds_toArray, List.set_cons_zero, List.set_cons_succ])
        (refine wpAnyH_take (i := 9) (v := ?_) rfl (by kernel_rfl) (by kernel_rfl) (by kernel_rfl) (fun _ _ _ h => h) (Or.inl ⟨by rfl, ?_⟩) (by assumption) ?_; rotate_left; focus (intro w hSw; (try dsimp only at hSw); (try simp only [List.getElem_toArray, List.getElem_cons_zero, List.getElem_cons_succ]); go_simp; try with_reducible rfl)); (try simp only [List.getElem_toArray, List.getElem_cons_zero, List.getElem_cons_succ]); (try simp only [Act.put, List.setIfInBounds_toArray, List.set_cons_zero, List.set_cons_succ])
        (refine wpAnyH_take (i := 10) (v := ?_) rfl (by kernel_rfl) (by kernel_rfl) (by kernel_rfl) (fun _ _ _ h => h) (Or.inl ⟨by rfl, ?_⟩) (by assumption) ?_; rotate_left; focus (intro w hSw; (try dsimp only at hSw); (try simp only [List.getElem_toArray, List.getElem_cons_zero, List.getElem_cons_succ]); go_simp; try with_reducible rfl)); (try simp only [List.getElem_toArray, List.getElem_cons_zero, List.getElem_cons_succ]); (try simp only [Act.put, List.setIfInBounds_toArray, List.set_cons_zero, List.set_cons_succ])
        have lr2 : qb ≠ w.heap.size + 1 := by omega
        have z0 := Q.2.1 0 _ rfl
        have z1 := Q.2.1 1 _ rfl
        have z2 := Q.2.1 2 _ rfl
        have z3 := Q.2.1 3 _ rfl
        have f0 := Q.2.2 0
        have f1 := Q.2.2 1
        have f2 := Q.2.2 2
        have f3 := Q.2.2 3
        have XQ : Ext w ((((u6.setCell ⟨qb, 0, none⟩ (.int .i64 S.at_)).setCell ⟨qb, 1, none⟩ (.slice a1 S.op.length c1)).setCell ⟨qb, 2, none⟩ (.slice a2 S.sh.length c2)).setCell ⟨qb, 3, none⟩ (.slice a3 S.si.length c3)) := ((((X.setCell (by dsimp only; omega) _).setCell (by dsimp only; omega) _).setCell (by dsimp only; omega) _).setCell (by dsimp only; omega) _)
        have QQ := ((((Q.set 0 (.int .i64 S.at_) (by simp)).set 1 (.slice a1 S.op.length c1) (by simp)).set 2 (.slice a2 S.sh.length c2) (by simp)).set 3 (.slice a3 S.si.length c3) (by simp))
        have PQ := ((((P.far (c := qb) (by omega) 0 (.int .i64 S.at_)).far (c := qb) (by omega) 1 (.slice a1 S.op.length c1)).far (c := qb) (by omega) 2 (.slice a2 S.sh.length c2)).far (c := qb) (by omega) 3 (.slice a3 S.si.length c3))
        have RQ := ((((R.far (c := qb) (by omega) 0 (.int .i64 S.at_)).far (c := qb) (by omega) 1 (.slice a1 S.op.length c1)).far (c := qb) (by omega) 2 (.slice a2 S.sh.length c2)).far (c := qb) (by omega) 3 (.slice a3 S.si.length c3))
        have SQ := ((((SO.far B1 B2 B3 0 (.int .i64 S.at_)).far B1 B2 B3 1 (.slice a1 S.op.length c1)).far B1 B2 B3 2 (.slice a2 S.sh.length c2)).far B1 B2 B3 3 (.slice a3 S.si.length c3))
        clear HST
        (refine wpAnyH_ready (rs := [12]) (by kernel_rfl) (by simp) ?_; refine AllReadyH.cons rfl (fun K hK => ?_) AllReadyH.nil; (try simp only [List.getElem_toArray, List.getElem_cons_zero, List.getElem_cons_succ]))
        go_simp
        clear z0 z1 z2 z3 f0 f1 f2 f3
        replace P := PQ
        replace Q := QQ
        replace R := RQ
        replace SO := SQ
        replace X := XQ
        clear PQ QQ RQ SQ XQ
        generalize (((u6.setCell ⟨qb, 0, none⟩ (.int .i64 S.at_)).setCell ⟨qb, 1, none⟩ (.slice a1 S.op.length c1)).setCell ⟨qb, 2, none⟩ (.slice a2 S.sh.length c2)).setCell ⟨qb, 3, none⟩ (.slice a3 S.si.length c3) = W6 at *
        (try dsimp only)
        refine hK.out _ _ (by exact ⟨P.2.1 0 _ rfl, P.2.1 1 _ rfl, P.2.1 2 _ rfl, P.2.1 3 _ rfl⟩) (fun hHeld => ?_)
        clear hK K
        (refine wpAnyH_take (i := 13) (v := ?_) rfl (by kernel_rfl) (by kernel_rfl) (by kernel_rfl) (fun _ _ _ h => h) (Or.inl ⟨by rfl, ?_⟩) (by assumption) ?_; rotate_left; focus (intro w hSw; (try dsimp only at hSw); (try simp only [List.getElem_toArray, List.getElem_cons_zero, List.getElem_cons_succ]); go_simp; try with_reducible rfl)); (try simp only [List.getElem_toArray, List.getElem_cons_zero, List.getElem_cons_succ]); (try simp only [Act.put, List.setIfInBounds_toArray, List.set_cons_zero, List.set_cons_succ])
        refine wpAnyH_done (by kernel_rfl) ?_ _
        cases ok
        · have hz := HZ.out rfl
          clear HZ
          subst hz
          have z0 := R.2.1 0 _ rfl
          have z1 := R.2.1 1 _ rfl
          have z2 := R.2.1 2 _ rfl
          have z3 := R.2.1 3 _ rfl
          have z4 := R.2.1 4 _ rfl
          have z5 := R.2.1 5 _ rfl
          have z6 := R.2.1 6 _ rfl
          have z7 := R.2.1 7 _ rfl
          have f0 := R.2.2 0
          have f1 := R.2.2 1
          have f2 := R.2.2 2
          have f3 := R.2.2 3
          have f4 := R.2.2 4
          have f5 := R.2.2 5
          have f6 := R.2.2 6
          have f7 := R.2.2 7
          have XF : Ext w ((((((((W6.setCell ⟨w.heap.size + 1, 0, none⟩ (.int .i64 0)).setCell ⟨w.heap.size + 1, 1, none⟩ (.int .i64 0)).setCell ⟨w.heap.size + 1, 2, none⟩ (.string ⟨#[]⟩)).setCell ⟨w.heap.size + 1, 3, none⟩ (.string ⟨#[]⟩)).setCell ⟨w.heap.size + 1, 4, none⟩ (.int .i64 0)).setCell ⟨w.heap.size + 1, 5, none⟩ (.slice none 0 0)).setCell ⟨w.heap.size + 1, 6, none⟩ (.slice none 0 0)).setCell ⟨w.heap.size + 1, 7, none⟩ (.slice none 0 0)) := ((((((((X.setCell (by dsimp only; omega) _).setCell (by dsimp only; omega) _).setCell (by dsimp only; omega) _).setCell (by dsimp only; omega) _).setCell (by dsimp only; omega) _).setCell (by dsimp only; omega) _).setCell (by dsimp only; omega) _).setCell (by dsimp only; omega) _)
          have RF := ((((((((R.set 0 (.int .i64 0) (by simp)).set 1 (.int .i64 0) (by simp)).set 2 (.string ⟨#[]⟩) (by simp)).set 3 (.string ⟨#[]⟩) (by simp)).set 4 (.int .i64 0) (by simp)).set 5 (.slice none 0 0) (by simp)).set 6 (.slice none 0 0) (by simp)).set 7 (.slice none 0 0) (by simp))
          skip
          go_wp2
          generalize (((((((W6.setCell ⟨w.heap.size + 1, 0, none⟩ (.int .i64 0)).setCell ⟨w.heap.size + 1, 1, none⟩ (.int .i64 0)).setCell ⟨w.heap.size + 1, 2, none⟩ (.string ⟨#[]⟩)).setCell ⟨w.heap.size + 1, 3, none⟩ (.string ⟨#[]⟩)).setCell ⟨w.heap.size + 1, 4, none⟩ (.int .i64 0)).setCell ⟨w.heap.size + 1, 5, none⟩ (.slice none 0 0)).setCell ⟨w.heap.size + 1, 6, none⟩ (.slice none 0 0)).setCell ⟨w.heap.size + 1, 7, none⟩ (.slice none 0 0) = WF at *
          have k0 := RF.2.1 0 _ rfl
          have k1 := RF.2.1 1 _ rfl
          have k2 := RF.2.1 2 _ rfl
          have k3 := RF.2.1 3 _ rfl
          have k4 := RF.2.1 4 _ rfl
          have k5 := RF.2.1 5 _ rfl
          have k6 := RF.2.1 6 _ rfl
          have k7 := RF.2.1 7 _ rfl
          refine bodyPost_ret (v := .tuple #[.agg #[.int .i64 0, .int .i64 0, .string ⟨#[]⟩, .string ⟨#[]⟩, .int .i64 0, .slice none 0 0, .slice none 0 0, .slice none 0 0], .bool false]) (by simp [results, Tryd.results23, go_sem, k0, k1, k2, k3, k4, k5, k6, k7]) rfl ?_
          rw [HSA.out, HTX.out, HS.out, HO.out]
          exact ⟨none, 0, none, 0, none, 0, rfl, sigOwn_nil _ _, XF⟩
        · have p0 := P.2.1 0 _ rfl
          have p1 := P.2.1 1 _ rfl
          have p2 := P.2.1 2 _ rfl
          have p3 := P.2.1 3 _ rfl
          have q0 := Q.2.1 0 _ rfl
          have q1 := Q.2.1 1 _ rfl
          have q2 := Q.2.1 2 _ rfl
          have q3 := Q.2.1 3 _ rfl
          have z0 := R.2.1 0 _ rfl
          have z1 := R.2.1 1 _ rfl
          have z2 := R.2.1 2 _ rfl
          have z3 := R.2.1 3 _ rfl
          have z4 := R.2.1 4 _ rfl
          have z5 := R.2.1 5 _ rfl
          have z6 := R.2.1 6 _ rfl
          have z7 := R.2.1 7 _ rfl
          have f0 := R.2.2 0
          have f1 := R.2.2 1
          have f2 := R.2.2 2
          have f3 := R.2.2 3
          have f4 := R.2.2 4
          have f5 := R.2.2 5
          have f6 := R.2.2 6
          have f7 := R.2.2 7
          have XF : Ext w ((((((((W6.setCell ⟨w.heap.size + 1, 0, none⟩ (.int .i64 h)).setCell ⟨w.heap.size + 1, 1, none⟩ (.int .i64 ep)).setCell ⟨w.heap.size + 1, 2, none⟩ (.string r)).setCell ⟨w.heap.size + 1, 3, none⟩ (.string p)).setCell ⟨w.heap.size + 1, 4, none⟩ (.int .i64 S.at_)).setCell ⟨w.heap.size + 1, 5, none⟩ (.slice a1 S.op.length c1)).setCell ⟨w.heap.size + 1, 6, none⟩ (.slice a2 S.sh.length c2)).setCell ⟨w.heap.size + 1, 7, none⟩ (.slice a3 S.si.length c3)) := ((((((((X.setCell (by dsimp only; omega) _).setCell (by dsimp only; omega) _).setCell (by dsimp only; omega) _).setCell (by dsimp only; omega) _).setCell (by dsimp only; omega) _).setCell (by dsimp only; omega) _).setCell (by dsimp only; omega) _).setCell (by dsimp only; omega) _)
          have RF := ((((((((R.set 0 (.int .i64 h) (by simp)).set 1 (.int .i64 ep) (by simp)).set 2 (.string r) (by simp)).set 3 (.string p) (by simp)).set 4 (.int .i64 S.at_) (by simp)).set 5 (.slice a1 S.op.length c1) (by simp)).set 6 (.slice a2 S.sh.length c2) (by simp)).set 7 (.slice a3 S.si.length c3) (by simp))
          have SF := (((((((SO.set (b := w.heap.size + 1) (by omega) 0 (.int .i64 h)).set (b := w.heap.size + 1) (by omega) 1 (.int .i64 ep)).set (b := w.heap.size + 1) (by omega) 2 (.string r)).set (b := w.heap.size + 1) (by omega) 3 (.string p)).set (b := w.heap.size + 1) (by omega) 4 (.int .i64 S.at_)).set (b := w.heap.size + 1) (by omega) 5 (.slice a1 S.op.length c1)).set (b := w.heap.size + 1) (by omega) 6 (.slice a2 S.sh.length c2)).set (b := w.heap.size + 1) (by omega) 7 (.slice a3 S.si.length c3)
          go_wp2
          generalize (((((((W6.setCell ⟨w.heap.size + 1, 0, none⟩ (.int .i64 h)).setCell ⟨w.heap.size + 1, 1, none⟩ (.int .i64 ep)).setCell ⟨w.heap.size + 1, 2, none⟩ (.string r)).setCell ⟨w.heap.size + 1, 3, none⟩ (.string p)).setCell ⟨w.heap.size + 1, 4, none⟩ (.int .i64 S.at_)).setCell ⟨w.heap.size + 1, 5, none⟩ (.slice a1 S.op.length c1)).setCell ⟨w.heap.size + 1, 6, none⟩ (.slice a2 S.sh.length c2)).setCell ⟨w.heap.size + 1, 7, none⟩ (.slice a3 S.si.length c3) = WF at *
          have k0 := RF.2.1 0 _ rfl
          have k1 := RF.2.1 1 _ rfl
          have k2 := RF.2.1 2 _ rfl
          have k3 := RF.2.1 3 _ rfl
          have k4 := RF.2.1 4 _ rfl
          have k5 := RF.2.1 5 _ rfl
          have k6 := RF.2.1 6 _ rfl
          have k7 := RF.2.1 7 _ rfl
          refine bodyPost_ret (v := .tuple #[.agg #[.int .i64 h, .int .i64 ep, .string r, .string p, .int .i64 S.at_, .slice a1 S.op.length c1, .slice a2 S.sh.length c2, .slice a3 S.si.length c3], .bool true]) (by simp [results, Tryd.results23, go_sem, k0, k1, k2, k3, k4, k5, k6, k7]) rfl ?_
          rw [HSA.out, HTX.out, HS.out, HO.out]
          exact ⟨a1, c1, a2, c2, a3, c3, rfl, SF.mono (by omega), XF⟩
    · (try simp only [List.getElem_toArray, List.getElem_cons_zero, List.getElem_cons_succ])
      go_simp
      have ez : Ext w2 (w2.alloc (Obj.cells #[.int .i64 0, .slice none 0 0, .slice none 0 0, .slice none 0 0] 28)) := (Ext.refl _).alloc _
      have Q := Bx.new w2 #[.int .i64 0, .slice none 0 0, .slice none 0 0, .slice none 0 0] 28
      have lq : w.heap.size + 1 < w2.heap.size := R.1
      replace P := P.ext ez
      replace R := R.ext ez
      replace HST := Lib.hid (HST.out.ext ez)
      replace X := X.trans ez
      generalize w2.alloc (Obj.cells #[.int .i64 0, .slice none 0 0, .slice none 0 0, .slice none 0 0] 28) = u3 at *
      generalize hqb : w2.heap.size = qb at *
      clear hqb
      (try dsimp only)
      refine hK.out _ _ (by exact ⟨P.2.1 0 _ rfl, P.2.1 1 _ rfl, P.2.1 2 _ rfl, P.2.1 3 _ rfl⟩) (fun hHeld => ?_)
      clear hK K
      (refine wpAnyH_ready (rs := [4]) (by kernel_rfl) (by simp) ?_; refine AllReadyH.cons rfl (fun K hK => ?_) AllReadyH.nil)
      (try simp only [List.getElem_toArray, List.getElem_cons_zero, List.getElem_cons_succ])
      go_simp
      go_at_call 53
      refine (impl_SealAt ep _).mono ?_
      generalize hsa : sealAt ep = sa at *
      have HSA := Lib.hid hsa
      clear hsa
      rintro e w' ⟨rfl, rfl⟩
      (try dsimp only)
      refine hK.out _ _ (by exact ⟨P.2.1 0 _ rfl, P.2.1 1 _ rfl, P.2.1 2 _ rfl, P.2.1 3 _ rfl⟩) (fun hHeld => ?_)
      clear hK K
      (refine wpAnyH_ready (rs := [6]) (by kernel_rfl) (by simp) ?_; refine AllReadyH.cons rfl (fun K hK => ?_) AllReadyH.nil)
      (try simp only [List.getElem_toArray, List.getElem_cons_zero, List.getElem_cons_succ])
      go_simp
      go_at_call 93
      refine (impl_HeadHash h ep r p _ (HT.out.ext X)).mono ?_
      generalize htx : headH h ep r p = tx at *
      have HTX := Lib.hid htx
      clear htx
      rintro e u5 ⟨rfl, xh⟩
      (try clear p0 p1 p2 p3)
      replace P := P.ext xh
      replace R := R.ext xh
      replace HST := Lib.hid (HST.out.ext xh)
      replace X := X.trans xh
      replace Q := Q.ext xh
      (try dsimp only)
      refine hK.out _ _ (by exact ⟨P.2.1 0 _ rfl, P.2.1 1 _ rfl, P.2.1 2 _ rfl, P.2.1 3 _ rfl⟩) (fun hHeld => ?_)
      clear hK K
      (refine wpAnyH_ready (rs := [7]) (by kernel_rfl) (by simp) ?_; refine AllReadyH.cons rfl (fun K hK => ?_) AllReadyH.nil)
      (try simp only [List.getElem_toArray, List.getElem_cons_zero, List.getElem_cons_succ])
      go_simp
      go_at_call 88
      refine (impl_SignText seed tx _ pool sa _ HST.out hs hsol (HT.out.ext X)).mono ?_
      generalize hS : sgnV seed pool sa tx = S at *
      generalize hok : sgnOk seed pool sa tx = ok at *
      have HS := Lib.hid hS
      have HO := Lib.hid hok
      have HZ := Lib.hid (show ok = false → S = ⟨0, [], [], []⟩ from fun e => by rw [← hS]; exact sgn_no (hok.trans e))
      clear hS hok
      rintro e u6 ⟨a1, c1, a2, c2, a3, c3, rfl, so, xs⟩
      have lr : w.heap.size + 1 < u5.heap.size := R.1
      have lqs : qb < u5.heap.size := Q.1
      have nq : qb ≠ w.heap.size + 1 := by omega
      have B1 := fun k (hk : Value.ownBlock (.slice a1 S.op.length c1) = some k) => Nat.ne_of_gt (Nat.lt_of_lt_of_le lqs (own_lt so.1 k hk).1)
      have B2 := fun k (hk : Value.ownBlock (.slice a2 S.sh.length c2) = some k) => Nat.ne_of_gt (Nat.lt_of_lt_of_le lqs (own_lt so.2.1 k hk).1)
      have B3 := fun k (hk : Value.ownBlock (.slice a3 S.si.length c3) = some k) => Nat.ne_of_gt (Nat.lt_of_lt_of_le lqs (own_lt so.2.2.1 k hk).1)
      have SO := so.mono (show w.heap.size + 2 ≤ u5.heap.size by omega)
      clear so
      replace P := P.ext xs
      replace R := R.ext xs
      replace HST := Lib.hid (HST.out.ext xs)
      replace X := X.trans xs
      replace Q := Q.ext xs
      (try dsimp only)
      refine hK.out _ _ (by exact ⟨P.2.1 0 _ rfl, P.2.1 1 _ rfl, P.2.1 2 _ rfl, P.2.1 3 _ rfl⟩) (fun hHeld => ?_)
      clear hK K
      (refine wpAnyH_take (i := 8) (v := ?_) rfl (by kernel_rfl) (by kernel_rfl) (by kernel_rfl) (fun _ _ _ h => h) (Or.inl ⟨by rfl, ?_⟩) (by assumption) ?_; rotate_left; focus (intro w hSw; (try dsimp only at hSw); (try simp only [List.getElem_toArray, List.getElem_cons_zero, List.getElem_cons_succ]); go_simp; try with_reducible rfl)); (try simp only [List.getElem_toArray, List.getElem_cons_zero, List.getElem_cons_succ]); (try simp only [Act.put, List.setIfInBounds_toArray, List.set_cons_zero, List.set_cons_succ])
      (refine wpAnyH_take (i := 9) (v := ?_) rfl (by kernel_rfl) (by kernel_rfl) (by kernel_rfl) (fun _ _ _ h => h) (Or.inl ⟨by rfl, ?_⟩) (by assumption) ?_; rotate_left; focus (intro w hSw; (try dsimp only at hSw); (try simp only [List.getElem_toArray, List.getElem_cons_zero, List.getElem_cons_succ]); go_simp; try with_reducible rfl)); (try simp only [List.getElem_toArray, List.getElem_cons_zero, List.getElem_cons_succ]); (try simp only [Act.put, List.setIfInBounds_toArray, List.set_cons_zero, List.set_cons_succ])
      (refine wpAnyH_take (i := 10) (v := ?_) rfl (by kernel_rfl) (by kernel_rfl) (by kernel_rfl) (fun _ _ _ h => h) (Or.inl ⟨by rfl, ?_⟩) (by assumption) ?_; rotate_left; focus (intro w hSw; (try dsimp only at hSw); (try simp only [List.getElem_toArray, List.getElem_cons_zero, List.getElem_cons_succ]); go_simp; try with_reducible rfl)); (try simp only [List.getElem_toArray, List.getElem_cons_zero, List.getElem_cons_succ]); (try simp only [Act.put, List.setIfInBounds_toArray, List.set_cons_zero, List.set_cons_succ])
      have lr2 : qb ≠ w.heap.size + 1 := by omega
      have z0 := Q.2.1 0 _ rfl
      have z1 := Q.2.1 1 _ rfl
      have z2 := Q.2.1 2 _ rfl
      have z3 := Q.2.1 3 _ rfl
      have f0 := Q.2.2 0
      have f1 := Q.2.2 1
      have f2 := Q.2.2 2
      have f3 := Q.2.2 3
      have XQ : Ext w ((((u6.setCell ⟨qb, 0, none⟩ (.int .i64 S.at_)).setCell ⟨qb, 1, none⟩ (.slice a1 S.op.length c1)).setCell ⟨qb, 2, none⟩ (.slice a2 S.sh.length c2)).setCell ⟨qb, 3, none⟩ (.slice a3 S.si.length c3)) := ((((X.setCell (by dsimp only; omega) _).setCell (by dsimp only; omega) _).setCell (by dsimp only; omega) _).setCell (by dsimp only; omega) _)
      have QQ := ((((Q.set 0 (.int .i64 S.at_) (by simp)).set 1 (.slice a1 S.op.length c1) (by simp)).set 2 (.slice a2 S.sh.length c2) (by simp)).set 3 (.slice a3 S.si.length c3) (by simp))
      have PQ := ((((P.far (c := qb) (by omega) 0 (.int .i64 S.at_)).far (c := qb) (by omega) 1 (.slice a1 S.op.length c1)).far (c := qb) (by omega) 2 (.slice a2 S.sh.length c2)).far (c := qb) (by omega) 3 (.slice a3 S.si.length c3))
      have RQ := ((((R.far (c := qb) (by omega) 0 (.int .i64 S.at_)).far (c := qb) (by omega) 1 (.slice a1 S.op.length c1)).far (c := qb) (by omega) 2 (.slice a2 S.sh.length c2)).far (c := qb) (by omega) 3 (.slice a3 S.si.length c3))
      have SQ := ((((SO.far B1 B2 B3 0 (.int .i64 S.at_)).far B1 B2 B3 1 (.slice a1 S.op.length c1)).far B1 B2 B3 2 (.slice a2 S.sh.length c2)).far B1 B2 B3 3 (.slice a3 S.si.length c3))
      clear HST
      (refine wpAnyH_ready (rs := [12]) (by kernel_rfl) (by simp) ?_; refine AllReadyH.cons rfl (fun K hK => ?_) AllReadyH.nil; (try simp only [List.getElem_toArray, List.getElem_cons_zero, List.getElem_cons_succ]))
      go_simp
      clear z0 z1 z2 z3 f0 f1 f2 f3
      replace P := PQ
      replace Q := QQ
      replace R := RQ
      replace SO := SQ
      replace X := XQ
      clear PQ QQ RQ SQ XQ
      generalize (((u6.setCell ⟨qb, 0, none⟩ (.int .i64 S.at_)).setCell ⟨qb, 1, none⟩ (.slice a1 S.op.length c1)).setCell ⟨qb, 2, none⟩ (.slice a2 S.sh.length c2)).setCell ⟨qb, 3, none⟩ (.slice a3 S.si.length c3) = W6 at *
      (try dsimp only)
      refine hK.out _ _ (by exact ⟨P.2.1 0 _ rfl, P.2.1 1 _ rfl, P.2.1 2 _ rfl, P.2.1 3 _ rfl⟩) (fun hHeld => ?_)
      clear hK K
      (refine wpAnyH_take (i := 13) (v := ?_) rfl (by kernel_rfl) (by kernel_rfl) (by kernel_rfl) (fun _ _ _ h => h) (Or.inl ⟨by rfl, ?_⟩) (by assumption) ?_; rotate_left; focus (intro w hSw; (try dsimp only at hSw); (try simp only [List.getElem_toArray, List.getElem_cons_zero, List.getElem_cons_succ]); go_simp; try with_reducible rfl)); (try simp only [List.getElem_toArray, List.getElem_cons_zero, List.getElem_cons_succ]); (try simp only [Act.put, List.setIfInBounds_toArray, List.set_cons_zero, List.set_cons_succ])
      refine wpAnyH_done (by kernel_rfl) ?_ _
      cases ok
      · have hz := HZ.out rfl
        clear HZ
        subst hz
        have z0 := R.2.1 0 _ rfl
        have z1 := R.2.1 1 _ rfl
        have z2 := R.2.1 2 _ rfl
        have z3 := R.2.1 3 _ rfl
        have z4 := R.2.1 4 _ rfl
        have z5 := R.2.1 5 _ rfl
        have z6 := R.2.1 6 _ rfl
        have z7 := R.2.1 7 _ rfl
        have f0 := R.2.2 0
        have f1 := R.2.2 1
        have f2 := R.2.2 2
        have f3 := R.2.2 3
        have f4 := R.2.2 4
        have f5 := R.2.2 5
        have f6 := R.2.2 6
        have f7 := R.2.2 7
        have XF : Ext w ((((((((W6.setCell ⟨w.heap.size + 1, 0, none⟩ (.int .i64 0)).setCell ⟨w.heap.size + 1, 1, none⟩ (.int .i64 0)).setCell ⟨w.heap.size + 1, 2, none⟩ (.string ⟨#[]⟩)).setCell ⟨w.heap.size + 1, 3, none⟩ (.string ⟨#[]⟩)).setCell ⟨w.heap.size + 1, 4, none⟩ (.int .i64 0)).setCell ⟨w.heap.size + 1, 5, none⟩ (.slice none 0 0)).setCell ⟨w.heap.size + 1, 6, none⟩ (.slice none 0 0)).setCell ⟨w.heap.size + 1, 7, none⟩ (.slice none 0 0)) := ((((((((X.setCell (by dsimp only; omega) _).setCell (by dsimp only; omega) _).setCell (by dsimp only; omega) _).setCell (by dsimp only; omega) _).setCell (by dsimp only; omega) _).setCell (by dsimp only; omega) _).setCell (by dsimp only; omega) _).setCell (by dsimp only; omega) _)
        have RF := ((((((((R.set 0 (.int .i64 0) (by simp)).set 1 (.int .i64 0) (by simp)).set 2 (.string ⟨#[]⟩) (by simp)).set 3 (.string ⟨#[]⟩) (by simp)).set 4 (.int .i64 0) (by simp)).set 5 (.slice none 0 0) (by simp)).set 6 (.slice none 0 0) (by simp)).set 7 (.slice none 0 0) (by simp))
        skip
        go_wp2
        generalize (((((((W6.setCell ⟨w.heap.size + 1, 0, none⟩ (.int .i64 0)).setCell ⟨w.heap.size + 1, 1, none⟩ (.int .i64 0)).setCell ⟨w.heap.size + 1, 2, none⟩ (.string ⟨#[]⟩)).setCell ⟨w.heap.size + 1, 3, none⟩ (.string ⟨#[]⟩)).setCell ⟨w.heap.size + 1, 4, none⟩ (.int .i64 0)).setCell ⟨w.heap.size + 1, 5, none⟩ (.slice none 0 0)).setCell ⟨w.heap.size + 1, 6, none⟩ (.slice none 0 0)).setCell ⟨w.heap.size + 1, 7, none⟩ (.slice none 0 0) = WF at *
        have k0 := RF.2.1 0 _ rfl
        have k1 := RF.2.1 1 _ rfl
        have k2 := RF.2.1 2 _ rfl
        have k3 := RF.2.1 3 _ rfl
        have k4 := RF.2.1 4 _ rfl
        have k5 := RF.2.1 5 _ rfl
        have k6 := RF.2.1 6 _ rfl
        have k7 := RF.2.1 7 _ rfl
        refine bodyPost_ret (v := .tuple #[.agg #[.int .i64 0, .int .i64 0, .string ⟨#[]⟩, .string ⟨#[]⟩, .int .i64 0, .slice none 0 0, .slice none 0 0, .slice none 0 0], .bool false]) (by simp [results, Tryd.results23, go_sem, k0, k1, k2, k3, k4, k5, k6, k7]) rfl ?_
        rw [HSA.out, HTX.out, HS.out, HO.out]
        exact ⟨none, 0, none, 0, none, 0, rfl, sigOwn_nil _ _, XF⟩
      · have p0 := P.2.1 0 _ rfl
        have p1 := P.2.1 1 _ rfl
        have p2 := P.2.1 2 _ rfl
        have p3 := P.2.1 3 _ rfl
        have q0 := Q.2.1 0 _ rfl
        have q1 := Q.2.1 1 _ rfl
        have q2 := Q.2.1 2 _ rfl
        have q3 := Q.2.1 3 _ rfl
        have z0 := R.2.1 0 _ rfl
        have z1 := R.2.1 1 _ rfl
        have z2 := R.2.1 2 _ rfl
        have z3 := R.2.1 3 _ rfl
        have z4 := R.2.1 4 _ rfl
        have z5 := R.2.1 5 _ rfl
        have z6 := R.2.1 6 _ rfl
        have z7 := R.2.1 7 _ rfl
        have f0 := R.2.2 0
        have f1 := R.2.2 1
        have f2 := R.2.2 2
        have f3 := R.2.2 3
        have f4 := R.2.2 4
        have f5 := R.2.2 5
        have f6 := R.2.2 6
        have f7 := R.2.2 7
        have XF : Ext w ((((((((W6.setCell ⟨w.heap.size + 1, 0, none⟩ (.int .i64 h)).setCell ⟨w.heap.size + 1, 1, none⟩ (.int .i64 ep)).setCell ⟨w.heap.size + 1, 2, none⟩ (.string r)).setCell ⟨w.heap.size + 1, 3, none⟩ (.string p)).setCell ⟨w.heap.size + 1, 4, none⟩ (.int .i64 S.at_)).setCell ⟨w.heap.size + 1, 5, none⟩ (.slice a1 S.op.length c1)).setCell ⟨w.heap.size + 1, 6, none⟩ (.slice a2 S.sh.length c2)).setCell ⟨w.heap.size + 1, 7, none⟩ (.slice a3 S.si.length c3)) := ((((((((X.setCell (by dsimp only; omega) _).setCell (by dsimp only; omega) _).setCell (by dsimp only; omega) _).setCell (by dsimp only; omega) _).setCell (by dsimp only; omega) _).setCell (by dsimp only; omega) _).setCell (by dsimp only; omega) _).setCell (by dsimp only; omega) _)
        have RF := ((((((((R.set 0 (.int .i64 h) (by simp)).set 1 (.int .i64 ep) (by simp)).set 2 (.string r) (by simp)).set 3 (.string p) (by simp)).set 4 (.int .i64 S.at_) (by simp)).set 5 (.slice a1 S.op.length c1) (by simp)).set 6 (.slice a2 S.sh.length c2) (by simp)).set 7 (.slice a3 S.si.length c3) (by simp))
        have SF := (((((((SO.set (b := w.heap.size + 1) (by omega) 0 (.int .i64 h)).set (b := w.heap.size + 1) (by omega) 1 (.int .i64 ep)).set (b := w.heap.size + 1) (by omega) 2 (.string r)).set (b := w.heap.size + 1) (by omega) 3 (.string p)).set (b := w.heap.size + 1) (by omega) 4 (.int .i64 S.at_)).set (b := w.heap.size + 1) (by omega) 5 (.slice a1 S.op.length c1)).set (b := w.heap.size + 1) (by omega) 6 (.slice a2 S.sh.length c2)).set (b := w.heap.size + 1) (by omega) 7 (.slice a3 S.si.length c3)
        go_wp2
        generalize (((((((W6.setCell ⟨w.heap.size + 1, 0, none⟩ (.int .i64 h)).setCell ⟨w.heap.size + 1, 1, none⟩ (.int .i64 ep)).setCell ⟨w.heap.size + 1, 2, none⟩ (.string r)).setCell ⟨w.heap.size + 1, 3, none⟩ (.string p)).setCell ⟨w.heap.size + 1, 4, none⟩ (.int .i64 S.at_)).setCell ⟨w.heap.size + 1, 5, none⟩ (.slice a1 S.op.length c1)).setCell ⟨w.heap.size + 1, 6, none⟩ (.slice a2 S.sh.length c2)).setCell ⟨w.heap.size + 1, 7, none⟩ (.slice a3 S.si.length c3) = WF at *
        have k0 := RF.2.1 0 _ rfl
        have k1 := RF.2.1 1 _ rfl
        have k2 := RF.2.1 2 _ rfl
        have k3 := RF.2.1 3 _ rfl
        have k4 := RF.2.1 4 _ rfl
        have k5 := RF.2.1 5 _ rfl
        have k6 := RF.2.1 6 _ rfl
        have k7 := RF.2.1 7 _ rfl
        refine bodyPost_ret (v := .tuple #[.agg #[.int .i64 h, .int .i64 ep, .string r, .string p, .int .i64 S.at_, .slice a1 S.op.length c1, .slice a2 S.sh.length c2, .slice a3 S.si.length c3], .bool true]) (by simp [results, Tryd.results23, go_sem, k0, k1, k2, k3, k4, k5, k6, k7]) rfl ?_
        rw [HSA.out, HTX.out, HS.out, HO.out]
        exact ⟨a1, c1, a2, c2, a3, c3, rfl, SF.mono (by omega), XF⟩
end Go.Proofs.YtliebkhfddmhjaaDoor
