/- Lists of stamps: what the laws do with them. -/
import Derived.Test.YtckipgijfgeghaaGreatDoorSigA
import Derived.Deep.DeepCutAuto
namespace Go.Proofs.YtckipgijfgeghaaGreatDoor
open Go.RowKit

structure StW where
  by_ : Int
  s : SigV
  v1 : Value
  v2 : Value
  v3 : Value
def StW.cells (x : StW) : List Value := [.int .i64 x.by_, .int .i64 x.s.at_, x.v1, x.v2, x.v3]
def StW.pure (x : StW) : Int × SigV := (x.by_, x.s)
theorem StW.cells_len (x : StW) : x.cells.length = 5 := rfl
def Sts (w : World) (v : Value) (xs : List StW) : Prop := Row w 5 v xs.length (xs.flatMap StW.cells) ∧ ∀ x ∈ xs, Strs w x.v1 x.s.op ∧ Strs w x.v2 x.s.sh ∧ Strs w x.v3 x.s.si
theorem Sts.ext {w w' : World} {v : Value} {xs : List StW} (h : Sts w v xs) (hx : Ext w w') : Sts w' v xs := ⟨Row.ext h.1 hx, fun x m => ⟨(h.2 x m).1.ext hx, (h.2 x m).2.1.ext hx, (h.2 x m).2.2.ext hx⟩⟩
theorem Sts.form {w : World} {v : Value} {xs : List StW} (h : Sts w v xs) : ∃ a c, v = .slice a xs.length c := by
  obtain ⟨⟨-, a, c, rfl, -⟩, -⟩ := h
  exact ⟨a, c, rfl⟩
def own3 (w : World) (base : Nat) (y : StW) : Prop := OwnStrs w base y.v1 y.s.op ∧ OwnStrs w base y.v2 y.s.sh ∧ OwnStrs w base y.v3 y.s.si
theorem own3.ext {w w' : World} {base : Nat} {y : StW} (h : own3 w base y) (hx : Ext w w') : own3 w' base y := ⟨h.1.ext hx, h.2.1.ext hx, h.2.2.ext hx⟩
theorem own3.mono {w : World} {base b : Nat} {y : StW} (h : own3 w base y) (hb : b ≤ base) : own3 w b y := ⟨h.1.mono hb, h.2.1.mono hb, h.2.2.mono hb⟩
theorem own3.set {w : World} {base b : Nat} {y : StW} (h : own3 w base y) (hb : b < base) (o : Nat) (u : Value) : own3 (w.setCell ⟨b, o, none⟩ u) base y := ⟨own_below h.1 (p := ⟨b, o, none⟩) (u := u) hb, own_below h.2.1 (p := ⟨b, o, none⟩) (u := u) hb, own_below h.2.2 (p := ⟨b, o, none⟩) (u := u) hb⟩
/-- v owns the stamps xs, in blocks from base on -/
def OwnSts (w : World) (base : Nat) (v : Value) (xs : List StW) : Prop := w.ownsRow base 76 5 v xs.length (xs.flatMap StW.cells) ∧ ∀ x ∈ xs, own3 w base x
theorem OwnSts.sts {w : World} {base : Nat} {v : Value} {xs : List StW} (h : OwnSts w base v xs) : Sts w v xs := ⟨Row.of_owns h.1, fun x m => ⟨(h.2 x m).1.strs, (h.2 x m).2.1.strs, (h.2 x m).2.2.strs⟩⟩
theorem OwnSts.ext {w w' : World} {base : Nat} {v : Value} {xs : List StW} (h : OwnSts w base v xs) (hx : Ext w w') : OwnSts w' base v xs := ⟨own_ext h.1 hx, fun x m => (h.2 x m).ext hx⟩
theorem OwnSts.mono {w : World} {base b : Nat} {v : Value} {xs : List StW} (h : OwnSts w base v xs) (hb : b ≤ base) : OwnSts w b v xs := ⟨own_mono h.1 hb, fun x m => (h.2 x m).mono hb⟩
theorem OwnSts.set {w : World} {base b : Nat} {v : Value} {xs : List StW} (h : OwnSts w base v xs) (hb : b < base) (o : Nat) (u : Value) : OwnSts (w.setCell ⟨b, o, none⟩ u) base v xs := ⟨own_below h.1 (p := ⟨b, o, none⟩) (u := u) hb, fun x m => (h.2 x m).set hb o u⟩
theorem st_c0 (xs : List StW) (k : Nat) (h : k < xs.length) : (xs.flatMap StW.cells)[k * 5]? = some (.int .i64 xs[k].by_) := flat_get StW.cells_len xs k 0 h (by omega)
theorem st_c1 (xs : List StW) (k : Nat) (h : k < xs.length) : (xs.flatMap StW.cells)[k * 5 + 1]? = some (.int .i64 xs[k].s.at_) := flat_get StW.cells_len xs k 1 h (by omega)
theorem st_c2 (xs : List StW) (k : Nat) (h : k < xs.length) : (xs.flatMap StW.cells)[k * 5 + 2]? = some xs[k].v1 := flat_get StW.cells_len xs k 2 h (by omega)
theorem st_c3 (xs : List StW) (k : Nat) (h : k < xs.length) : (xs.flatMap StW.cells)[k * 5 + 3]? = some xs[k].v2 := flat_get StW.cells_len xs k 3 h (by omega)
theorem st_c4 (xs : List StW) (k : Nat) (h : k < xs.length) : (xs.flatMap StW.cells)[k * 5 + 4]? = some xs[k].v3 := flat_get StW.cells_len xs k 4 h (by omega)
theorem szl_app : ∀ (a b : List Nat) (z : Int), 0 ≤ z → szl z (a ++ b) = if szl z a < 0 then -1 else szl (szl z a) b
  | [], b, z, h => by rw [List.nil_append, szl, if_neg (by omega)]
  | x :: t, b, z, h => by
    rw [List.cons_append, szl, szl]
    by_cases hx : szr z x < 0
    · rw [if_pos hx, if_pos hx, if_pos (by decide)]
    · rw [if_neg hx, if_neg hx]
      exact szl_app t b _ (by omega)
/-- what the sizes of stamps are reckoned of -/
def stN (xs : List StW) : List Nat := xs.length :: xs.flatMap fun x => sigN x.s
theorem drop_cons {α : Type} {xs : List α} {k : Nat} (h : k < xs.length) : xs.drop k = xs[k] :: xs.drop (k + 1) := List.drop_eq_getElem_cons h

set_option maxHeartbeats 800000 in
theorem laws_szStamp (b : Int) (v1 v2 v3 : Value) (s : SigV) (left : Int) (w : World) (h1 : Strs w v1 s.op) (h2 : Strs w v2 s.sh) (h3 : Strs w v3 s.si) (hs : SigFit s) (hl : 0 ≤ left ∧ left ≤ 1048576) :
    Calls Tryz.prog 55 #[.agg #[.int .i64 b, .int .i64 s.at_, v1, v2, v3], .int .i64 left] w fun e w' => e = .returned (.int .i64 (szl left (sigN s))) ∧ Ext w w' := by
  obtain ⟨a1, c1, rfl⟩ := h1.form
  obtain ⟨a2, c2, rfl⟩ := h2.form
  obtain ⟨a3, c3, rfl⟩ := h3.form
  have hcase : szl left (sigN s) = -1 ∨ 0 ≤ szl left (sigN s) := by
    rcases szl_two (sigN s) left hl with e | ⟨y, e, e0, -⟩
    · exact Or.inl e
    · exact Or.inr (by omega)
  generalize hy : szl left (sigN s) = y at *
  have K2 := Lib.hid hy
  clear hy
  rcases hcase with rfl | hcase
  all_goals
    go_enter Tryz.func55, Tryz.ntmps55
    go_wp2_with fail
    refine (laws_szSig _ _ _ s _ _ (h1.ext (by repeat (first | (with_reducible first | exact Ext.refl _ | assumption | apply Ext.alloc | apply Ext.drew | apply Ext.drewN | refine Ext.setCell ?_ ?_ _ | refine Ext.trans ?_ (by assumption)) | (show _ ≤ _; first | omega | (dsimp only; omega) | (simp; done) | (simp; omega))))) (h2.ext (by repeat (first | (with_reducible first | exact Ext.refl _ | assumption | apply Ext.alloc | apply Ext.drew | apply Ext.drewN | refine Ext.setCell ?_ ?_ _ | refine Ext.trans ?_ (by assumption)) | (show _ ≤ _; first | omega | (dsimp only; omega) | (simp; done) | (simp; omega))))) (h3.ext (by repeat (first | (with_reducible first | exact Ext.refl _ | assumption | apply Ext.alloc | apply Ext.drew | apply Ext.drewN | refine Ext.setCell ?_ ?_ _ | refine Ext.trans ?_ (by assumption)) | (show _ ≤ _; first | omega | (dsimp only; omega) | (simp; done) | (simp; omega))))) hs hl).mono ?_
    rw [K2.out]
    rintro e w2 ⟨rfl, x2⟩
    go_wp2
    go_ret
    exact ⟨rfl, (by repeat (first | (with_reducible first | exact Ext.refl _ | assumption | apply Ext.alloc | apply Ext.drew | apply Ext.drewN | refine Ext.setCell ?_ ?_ _ | refine Ext.trans ?_ (by assumption)) | (show _ ≤ _; first | omega | (dsimp only; omega) | (simp; done) | (simp; omega))))⟩
set_option maxHeartbeats 1600000 in
theorem laws_szStampS (v : Value) (xs : List StW) (left : Int) (w : World) (h : Sts w v xs) (hs : ∀ x ∈ xs, SigFit x.s) (hl : 0 ≤ left ∧ left ≤ 1048576) :
    Calls Tryz.prog 21 #[v, .int .i64 left] w fun e w' => e = .returned (.int .i64 (szl left (stN xs))) ∧ Ext w w' := by
  obtain ⟨⟨-, a1, c1, rfl, hc1, hm1, g1⟩, hst⟩ := h
  unfold maxLen at hm1
  by_cases hn : left - xs.length < 0
  · go_enter Tryz.func21, Tryz.ntmps21
    go_wp2
    go_ret
    exact ⟨ret_int (by rw [stN, szl, szr, if_pos hn, if_pos (by decide)]), Ext.refl _⟩
  · have hst0 : szl left (stN xs) = szl (left - xs.length) (xs.flatMap fun x => sigN x.s) := by rw [stN, szl, szr, if_neg hn, if_neg hn]
    have H0 := Lib.hid hst0
    clear hst0
    go_enter Tryz.func21, Tryz.ntmps21
    go_wp2
    go_loopw [1, 5] (fun l i wr => ∃ (k : Nat) (z : Int), k ≤ xs.length ∧ i = .int .i64 k ∧ l = .int .i64 z ∧ (0 ≤ z ∧ z ≤ 1048576) ∧ szl left (stN xs) = szl z ((xs.drop k).flatMap fun x => sigN x.s) ∧ Ext w wr) (fun _ i _ => xs.length - (intOf i).toNat)
    case atStart => exact ⟨0, _, Nat.zero_le _, rfl, rfl, by omega, by rw [H0.out, List.drop_zero], Ext.refl _⟩
    case round =>
      obtain ⟨k, z, hk, rfl, rfl, hz, hrest, hx⟩ := hrel
      have HR := Lib.hid hrest
      clear hrest
      by_cases hlt : k < xs.length
      · rcases g1 with g1 | ⟨b1, o1, rfl, hb1, g1⟩
        · omega
        have e1 : wr.cell? ⟨b1, o1 + k * 5, none⟩ = some (.int .i64 xs[k].by_) := (hx.cell b1 _ hb1).trans (g1 _ _ (st_c0 xs k hlt))
        have e2 : wr.cell? ⟨b1, o1 + k * 5 + 1, none⟩ = some (.int .i64 xs[k].s.at_) := (hx.cell b1 _ hb1).trans (g1 _ _ (st_c1 xs k hlt))
        have e3 : wr.cell? ⟨b1, o1 + k * 5 + 2, none⟩ = some xs[k].v1 := (hx.cell b1 _ hb1).trans (g1 _ _ (st_c2 xs k hlt))
        have e4 : wr.cell? ⟨b1, o1 + k * 5 + 3, none⟩ = some xs[k].v2 := (hx.cell b1 _ hb1).trans (g1 _ _ (st_c3 xs k hlt))
        have e5 : wr.cell? ⟨b1, o1 + k * 5 + 4, none⟩ = some xs[k].v3 := (hx.cell b1 _ hb1).trans (g1 _ _ (st_c4 xs k hlt))
        have hfit := hs xs[k] (List.getElem_mem hlt)
        obtain ⟨s1, s2, s3⟩ := hst xs[k] (List.getElem_mem hlt)
        have HD := HR.out
        rw [drop_cons hlt, List.flatMap_cons, szl_app _ _ _ hz.1] at HD
        have hcase : szl z (sigN xs[k].s) = -1 ∨ (0 ≤ szl z (sigN xs[k].s) ∧ szl z (sigN xs[k].s) ≤ 1048576) := by
          rcases szl_two (sigN xs[k].s) z hz with e | ⟨y, e, e0, e1, -⟩
          · exact Or.inl e
          · exact Or.inr (by omega)
        generalize xs[k] = x at *
        obtain ⟨xb, xs', xv1, xv2, xv3⟩ := x
        dsimp only at *
        obtain ⟨a2, c2, rfl⟩ := s1.form
        obtain ⟨a3, c3, rfl⟩ := s2.form
        obtain ⟨a4, c4, rfl⟩ := s3.form
        generalize hyy : szl z (sigN xs') = y at *
        have HY := Lib.hid hyy
        have HFT := Lib.hid hfit
        have HDD := Lib.hid HD
        clear g1 hst hs hyy hfit HD HR
        rcases hcase with rfl | hcase
        · go_wp2_with (go_at_call 55; refine (laws_szStamp _ _ _ _ xs' _ _ (s1.ext hx) (s2.ext hx) (s3.ext hx) HFT.out hz).mono ?_; rw [HY.out]; rintro e w1 ⟨rfl, x1⟩)
          go_ret
          exact ⟨ret_int (by rw [HDD.out, if_pos (by decide)]), (by repeat (first | (with_reducible first | exact Ext.refl _ | assumption | apply Ext.alloc | apply Ext.drew | apply Ext.drewN | refine Ext.setCell ?_ ?_ _ | refine Ext.trans ?_ (by assumption)) | (show _ ≤ _; first | omega | (dsimp only; omega) | (simp; done) | (simp; omega))))⟩
        · have hy0 := hcase.1
          go_wp2_with (go_at_call 55; refine (laws_szStamp _ _ _ _ xs' _ _ (s1.ext hx) (s2.ext hx) (s3.ext hx) HFT.out hz).mono ?_; rw [HY.out]; rintro e w1 ⟨rfl, x1⟩)
          go_roundw
          case rel => exact ⟨k + 1, y, by omega, by go_num, rfl, hcase, by rw [HDD.out, if_neg (by omega)], (by repeat (first | (with_reducible first | exact Ext.refl _ | assumption | apply Ext.alloc | apply Ext.drew | apply Ext.drewN | refine Ext.setCell ?_ ?_ _ | refine Ext.trans ?_ (by assumption)) | (show _ ≤ _; first | omega | (dsimp only; omega) | (simp; done) | (simp; omega))))⟩
          case measure => simp [intOf]; omega
      · have hkn : k = xs.length := by omega
        subst hkn
        go_wp2
        go_ret
        exact ⟨ret_int (by rw [HR.out, List.drop_length]; rfl), hx⟩
set_option maxRecDepth 100000 in
set_option maxHeartbeats 3200000 in
theorem laws_toStamp (b : Int) (v1 v2 v3 : Value) (s : SigV) (w : World) (h1 : Strs w v1 s.op) (h2 : Strs w v2 s.sh) (h3 : Strs w v3 s.si) (l1 : s.op.length ≤ 1099511627776) (l2 : s.sh.length ≤ 1099511627776) (l3 : s.si.length ≤ 1099511627776) :
    Calls Tryz.prog 72 #[.agg #[.int .i64 b, .int .i64 s.at_, v1, v2, v3]] w fun e w' => ∃ u1 u2 u3, e = .returned (.agg #[.int .i64 b, .int .i64 s.at_, u1, u2, u3]) ∧ OwnStrs w' w.heap.size u1 s.op ∧ OwnStrs w' w.heap.size u2 s.sh ∧ OwnStrs w' w.heap.size u3 s.si ∧ Ext w w' := by
  obtain ⟨a1, c1, rfl⟩ := h1.form
  obtain ⟨a2, c2, rfl⟩ := h2.form
  obtain ⟨a3, c3, rfl⟩ := h3.form
  go_enter Tryz.func72, Tryz.ntmps72
  go_wp2_with fail
  have R : Bx (((w.alloc (Obj.cells #[.int .i64 b, .int .i64 s.at_, .slice a1 s.op.length c1, .slice a2 s.sh.length c2, .slice a3 s.si.length c3] 103)).alloc (Obj.cells #[.int .i64 0, .int .i64 0, .slice none 0 0, .slice none 0 0, .slice none 0 0] 76)).alloc (Obj.cells #[.int .i64 b, .int .i64 0, .slice none 0 0, .slice none 0 0, .slice none 0 0] 76)) (w.heap.size + 1) [.int .i64 0, .int .i64 0, .slice none 0 0, .slice none 0 0, .slice none 0 0] := by
    have e := (Bx.new (w.alloc (Obj.cells #[.int .i64 b, .int .i64 s.at_, .slice a1 s.op.length c1, .slice a2 s.sh.length c2, .slice a3 s.si.length c3] 103)) #[.int .i64 0, .int .i64 0, .slice none 0 0, .slice none 0 0, .slice none 0 0] 76).ext ((Ext.refl _).alloc (Obj.cells #[.int .i64 b, .int .i64 0, .slice none 0 0, .slice none 0 0, .slice none 0 0] 76))
    rw [World.size_alloc] at e
    exact e
  have Q : Bx (((w.alloc (Obj.cells #[.int .i64 b, .int .i64 s.at_, .slice a1 s.op.length c1, .slice a2 s.sh.length c2, .slice a3 s.si.length c3] 103)).alloc (Obj.cells #[.int .i64 0, .int .i64 0, .slice none 0 0, .slice none 0 0, .slice none 0 0] 76)).alloc (Obj.cells #[.int .i64 b, .int .i64 0, .slice none 0 0, .slice none 0 0, .slice none 0 0] 76)) (w.heap.size + 2) [.int .i64 b, .int .i64 0, .slice none 0 0, .slice none 0 0, .slice none 0 0] := by
    have e := Bx.new ((w.alloc (Obj.cells #[.int .i64 b, .int .i64 s.at_, .slice a1 s.op.length c1, .slice a2 s.sh.length c2, .slice a3 s.si.length c3] 103)).alloc (Obj.cells #[.int .i64 0, .int .i64 0, .slice none 0 0, .slice none 0 0, .slice none 0 0] 76)) #[.int .i64 b, .int .i64 0, .slice none 0 0, .slice none 0 0, .slice none 0 0] 76
    rw [World.size_alloc, World.size_alloc] at e
    exact e
  have X : Ext w (((w.alloc (Obj.cells #[.int .i64 b, .int .i64 s.at_, .slice a1 s.op.length c1, .slice a2 s.sh.length c2, .slice a3 s.si.length c3] 103)).alloc (Obj.cells #[.int .i64 0, .int .i64 0, .slice none 0 0, .slice none 0 0, .slice none 0 0] 76)).alloc (Obj.cells #[.int .i64 b, .int .i64 0, .slice none 0 0, .slice none 0 0, .slice none 0 0] 76)) := (((Ext.refl w).alloc _).alloc _).alloc _
  generalize ((w.alloc (Obj.cells #[.int .i64 b, .int .i64 s.at_, .slice a1 s.op.length c1, .slice a2 s.sh.length c2, .slice a3 s.si.length c3] 103)).alloc (Obj.cells #[.int .i64 0, .int .i64 0, .slice none 0 0, .slice none 0 0, .slice none 0 0] 76)).alloc (Obj.cells #[.int .i64 b, .int .i64 0, .slice none 0 0, .slice none 0 0, .slice none 0 0] 76) = W0 at *
  have lq : w.heap.size + 2 < W0.heap.size := Q.1
  refine (laws_toSig _ _ _ s _ (h1.ext X) (h2.ext X) (h3.ext X) l1 l2 l3).mono ?_
  rintro e w1 ⟨u1, u2, u3, rfl, o1, o2, o3, x1⟩
  replace R := R.ext x1
  replace Q := Q.ext x1
  replace X := X.trans x1
  obtain ⟨b1, d1, rfl⟩ := own_any o1
  obtain ⟨b2, d2, rfl⟩ := own_any o2
  obtain ⟨b3, d3, rfl⟩ := own_any o3
  have z0 := Q.2.1 0 _ rfl
  have z1 := Q.2.1 1 _ rfl
  have z2 := Q.2.1 2 _ rfl
  have z3 := Q.2.1 3 _ rfl
  have z4 := Q.2.1 4 _ rfl
  have f0 := Q.2.2 0
  have f1 := Q.2.2 1
  have f2 := Q.2.2 2
  have f3 := Q.2.2 3
  have f4 := Q.2.2 4
  have Q9 := ((((Q.set 1 (.int .i64 s.at_) (by simp)).set 2 (.slice b1 s.op.length d1) (by simp)).set 3 (.slice b2 s.sh.length d2) (by simp)).set 4 (.slice b3 s.si.length d3) (by simp))
  have R9 := ((((R.far (c := w.heap.size + 2) (by omega) 1 (.int .i64 s.at_)).far (c := w.heap.size + 2) (by omega) 2 (.slice b1 s.op.length d1)).far (c := w.heap.size + 2) (by omega) 3 (.slice b2 s.sh.length d2)).far (c := w.heap.size + 2) (by omega) 4 (.slice b3 s.si.length d3))
  have X9 : Ext w ((((w1.setCell ⟨(w.heap.size + 2), 1, none⟩ (.int .i64 s.at_)).setCell ⟨(w.heap.size + 2), 2, none⟩ (.slice b1 s.op.length d1)).setCell ⟨(w.heap.size + 2), 3, none⟩ (.slice b2 s.sh.length d2)).setCell ⟨(w.heap.size + 2), 4, none⟩ (.slice b3 s.si.length d3)) := ((((X.setCell (by dsimp only; omega) (.int .i64 s.at_)).setCell (by dsimp only; omega) (.slice b1 s.op.length d1)).setCell (by dsimp only; omega) (.slice b2 s.sh.length d2)).setCell (by dsimp only; omega) (.slice b3 s.si.length d3))
  have o19 := (own_below (own_below (own_below (own_below o1 (p := ⟨w.heap.size + 2, 1, none⟩) (u := .int .i64 s.at_) lq) (p := ⟨w.heap.size + 2, 2, none⟩) (u := .slice b1 s.op.length d1) lq) (p := ⟨w.heap.size + 2, 3, none⟩) (u := .slice b2 s.sh.length d2) lq) (p := ⟨w.heap.size + 2, 4, none⟩) (u := .slice b3 s.si.length d3) lq)
  have o29 := (own_below (own_below (own_below (own_below o2 (p := ⟨w.heap.size + 2, 1, none⟩) (u := .int .i64 s.at_) lq) (p := ⟨w.heap.size + 2, 2, none⟩) (u := .slice b1 s.op.length d1) lq) (p := ⟨w.heap.size + 2, 3, none⟩) (u := .slice b2 s.sh.length d2) lq) (p := ⟨w.heap.size + 2, 4, none⟩) (u := .slice b3 s.si.length d3) lq)
  have o39 := (own_below (own_below (own_below (own_below o3 (p := ⟨w.heap.size + 2, 1, none⟩) (u := .int .i64 s.at_) lq) (p := ⟨w.heap.size + 2, 2, none⟩) (u := .slice b1 s.op.length d1) lq) (p := ⟨w.heap.size + 2, 3, none⟩) (u := .slice b2 s.sh.length d2) lq) (p := ⟨w.heap.size + 2, 4, none⟩) (u := .slice b3 s.si.length d3) lq)
  go_upto_region 4 with (fail)
  generalize (((w1.setCell ⟨(w.heap.size + 2), 1, none⟩ (.int .i64 s.at_)).setCell ⟨(w.heap.size + 2), 2, none⟩ (.slice b1 s.op.length d1)).setCell ⟨(w.heap.size + 2), 3, none⟩ (.slice b2 s.sh.length d2)).setCell ⟨(w.heap.size + 2), 4, none⟩ (.slice b3 s.si.length d3) = W1 at *
  clear z0 z1 z2 z3 z4 f0 f1 f2 f3 f4 Q R X o1 o2 o3
  have p0 := Q9.2.1 0 _ rfl
  have p1 := Q9.2.1 1 _ rfl
  have p2 := Q9.2.1 2 _ rfl
  have p3 := Q9.2.1 3 _ rfl
  have p4 := Q9.2.1 4 _ rfl
  have z0 := R9.2.1 0 _ rfl
  have z1 := R9.2.1 1 _ rfl
  have z2 := R9.2.1 2 _ rfl
  have z3 := R9.2.1 3 _ rfl
  have z4 := R9.2.1 4 _ rfl
  have f0 := R9.2.2 0
  have f1 := R9.2.2 1
  have f2 := R9.2.2 2
  have f3 := R9.2.2 3
  have f4 := R9.2.2 4
  have XF : Ext w (((((W1.setCell ⟨(w.heap.size + 1), 0, none⟩ (.int .i64 b)).setCell ⟨(w.heap.size + 1), 1, none⟩ (.int .i64 s.at_)).setCell ⟨(w.heap.size + 1), 2, none⟩ (.slice b1 s.op.length d1)).setCell ⟨(w.heap.size + 1), 3, none⟩ (.slice b2 s.sh.length d2)).setCell ⟨(w.heap.size + 1), 4, none⟩ (.slice b3 s.si.length d3)) := (((((X9.setCell (by dsimp only; omega) _).setCell (by dsimp only; omega) _).setCell (by dsimp only; omega) _).setCell (by dsimp only; omega) _).setCell (by dsimp only; omega) _)
  have RF := (((((R9.set 0 (.int .i64 b) (by simp)).set 1 (.int .i64 s.at_) (by simp)).set 2 (.slice b1 s.op.length d1) (by simp)).set 3 (.slice b2 s.sh.length d2) (by simp)).set 4 (.slice b3 s.si.length d3) (by simp))
  have o1F := (own_below (own_below (own_below (own_below (own_below o19 (p := ⟨w.heap.size + 1, 0, none⟩) (u := .int .i64 b) (show w.heap.size + 1 < _ by omega)) (p := ⟨w.heap.size + 1, 1, none⟩) (u := .int .i64 s.at_) (show w.heap.size + 1 < _ by omega)) (p := ⟨w.heap.size + 1, 2, none⟩) (u := .slice b1 s.op.length d1) (show w.heap.size + 1 < _ by omega)) (p := ⟨w.heap.size + 1, 3, none⟩) (u := .slice b2 s.sh.length d2) (show w.heap.size + 1 < _ by omega)) (p := ⟨w.heap.size + 1, 4, none⟩) (u := .slice b3 s.si.length d3) (show w.heap.size + 1 < _ by omega))
  have o2F := (own_below (own_below (own_below (own_below (own_below o29 (p := ⟨w.heap.size + 1, 0, none⟩) (u := .int .i64 b) (show w.heap.size + 1 < _ by omega)) (p := ⟨w.heap.size + 1, 1, none⟩) (u := .int .i64 s.at_) (show w.heap.size + 1 < _ by omega)) (p := ⟨w.heap.size + 1, 2, none⟩) (u := .slice b1 s.op.length d1) (show w.heap.size + 1 < _ by omega)) (p := ⟨w.heap.size + 1, 3, none⟩) (u := .slice b2 s.sh.length d2) (show w.heap.size + 1 < _ by omega)) (p := ⟨w.heap.size + 1, 4, none⟩) (u := .slice b3 s.si.length d3) (show w.heap.size + 1 < _ by omega))
  have o3F := (own_below (own_below (own_below (own_below (own_below o39 (p := ⟨w.heap.size + 1, 0, none⟩) (u := .int .i64 b) (show w.heap.size + 1 < _ by omega)) (p := ⟨w.heap.size + 1, 1, none⟩) (u := .int .i64 s.at_) (show w.heap.size + 1 < _ by omega)) (p := ⟨w.heap.size + 1, 2, none⟩) (u := .slice b1 s.op.length d1) (show w.heap.size + 1 < _ by omega)) (p := ⟨w.heap.size + 1, 3, none⟩) (u := .slice b2 s.sh.length d2) (show w.heap.size + 1 < _ by omega)) (p := ⟨w.heap.size + 1, 4, none⟩) (u := .slice b3 s.si.length d3) (show w.heap.size + 1 < _ by omega))
  go_wp2
  generalize ((((W1.setCell ⟨(w.heap.size + 1), 0, none⟩ (.int .i64 b)).setCell ⟨(w.heap.size + 1), 1, none⟩ (.int .i64 s.at_)).setCell ⟨(w.heap.size + 1), 2, none⟩ (.slice b1 s.op.length d1)).setCell ⟨(w.heap.size + 1), 3, none⟩ (.slice b2 s.sh.length d2)).setCell ⟨(w.heap.size + 1), 4, none⟩ (.slice b3 s.si.length d3) = WF at *
  clear z0 f0 z1 f1 z2 f2 z3 f3 z4 f4
  have k0 := RF.2.1 0 _ rfl
  have k1 := RF.2.1 1 _ rfl
  have k2 := RF.2.1 2 _ rfl
  have k3 := RF.2.1 3 _ rfl
  have k4 := RF.2.1 4 _ rfl
  refine bodyPost_ret (v := .agg #[.int .i64 b, .int .i64 s.at_, .slice b1 s.op.length d1, .slice b2 s.sh.length d2, .slice b3 s.si.length d3]) (by simp [results, Tryz.results72, go_sem, k0, k1, k2, k3, k4]) rfl ?_
  exact ⟨_, _, _, rfl, own_mono o1F (by omega), own_mono o2F (by omega), own_mono o3F (by omega), XF⟩
theorem infoStamp : (Tryz.prog.info? 76).map (fun i => (i.zero, i.size, i.bytes)) = some (some (.agg #[.int .i64 0, .int .i64 0, .slice none 0 0, .slice none 0 0, .slice none 0 0]), 5, 88) := by kernel_rfl
def stz0 : StW := ⟨0, ⟨0, [], [], []⟩, .slice none 0 0, .slice none 0 0, .slice none 0 0⟩
theorem made_stamps (n : Nat) : (madeCells #[.int .i64 0, .int .i64 0, .slice none 0 0, .slice none 0 0, .slice none 0 0] (n * 5)).toList = (List.replicate n stz0).flatMap StW.cells := by
  apply List.ext_getElem?
  intro j
  by_cases hj : j < n * 5
  · have h1 : j / 5 < n := by omega
    have h3 := flat_get StW.cells_len (List.replicate n stz0) (j / 5) (j % 5) (by simpa using h1) (by omega)
    rw [show j / 5 * 5 + j % 5 = j by omega] at h3
    rw [h3, List.getElem_replicate]
    rcases (by omega : j % 5 = 0 ∨ j % 5 = 1 ∨ j % 5 = 2 ∨ j % 5 = 3 ∨ j % 5 = 4) with h | h | h | h | h <;> simp [madeCells, hj, h, StW.cells, stz0]
  · rw [List.getElem?_eq_none (by simp [madeCells]; omega), List.getElem?_eq_none (by rw [flat_length StW.cells_len]; simp; omega)]
theorem st_flat_set (l : StW) : ∀ (xs : List StW) (i : Nat), i < xs.length → (((((xs.flatMap StW.cells).set (i * 5) (.int .i64 l.by_)).set (i * 5 + 1) (.int .i64 l.s.at_)).set (i * 5 + 2) l.v1).set (i * 5 + 3) l.v2).set (i * 5 + 4) l.v3 = (xs.set i l).flatMap StW.cells
  | [], i, h => by simp at h
  | x :: t, 0, _ => by simp [StW.cells]
  | x :: t, i + 1, h => by
    have ih := st_flat_set l t i (by simpa using h)
    rw [show (i + 1) * 5 = i * 5 + 1 + 1 + 1 + 1 + 1 by omega]
    simp only [List.flatMap_cons, StW.cells, List.cons_append, List.nil_append, List.set_cons_succ] at ih ⊢
    rw [ih]
def fillS (ys : List StW) (m : Nat) : List StW := ys ++ List.replicate m stz0
theorem fillS_set (ys : List StW) (m : Nat) (l : StW) : (fillS ys (m + 1)).set ys.length l = fillS (ys ++ [l]) m := by
  rw [fillS, fillS, List.set_append_right _ _ (Nat.le_refl _), Nat.sub_self, List.replicate_succ, List.set_cons_zero, List.append_assoc]
  rfl
theorem fillS_at (ys : List StW) (m : Nat) (h : ys.length < (fillS ys (m + 1)).length) : (fillS ys (m + 1))[ys.length] = stz0 := by
  have e : (fillS ys (m + 1))[ys.length]? = some stz0 := by
    unfold fillS
    rw [List.getElem?_append_right (Nat.le_refl _), Nat.sub_self, List.replicate_succ, List.getElem?_cons_zero]
  rw [List.getElem?_eq_getElem h] at e
  exact Option.some.inj e
theorem pure_step {xs ys : List StW} {k : Nat} (h : k < xs.length) (hp : ys.map StW.pure = (xs.take k).map StW.pure) (y : StW) (hy : y.pure = xs[k].pure) : (ys ++ [y]).map StW.pure = (xs.take (k + 1)).map StW.pure := by
  rw [List.take_succ_eq_append_getElem h, List.map_append, List.map_append, hp, List.map_singleton, List.map_singleton, hy]
set_option maxRecDepth 100000 in
set_option maxHeartbeats 3200000 in
theorem laws_toStampS (v : Value) (xs : List StW) (w : World) (h : Sts w v xs) (hb : xs.length ≤ 1099511627776) (hs : ∀ x ∈ xs, x.s.op.length ≤ 1099511627776 ∧ x.s.sh.length ≤ 1099511627776 ∧ x.s.si.length ≤ 1099511627776) :
    Calls Tryz.prog 33 #[v] w fun e w' => ∃ (ys : List StW) (a : Option Addr) (c : Nat), e = .returned (.slice a ys.length c) ∧ ys.map StW.pure = xs.map StW.pure ∧ OwnSts w' w.heap.size (.slice a ys.length c) ys ∧ Ext w w' := by
  obtain ⟨⟨-, a1, c1, rfl, hc1, hm1, g1⟩, hst⟩ := h
  unfold maxLen at hm1
  obtain ⟨i0, hi, hz0, hz1, hz2⟩ := info_parts infoStamp
  go_enter Tryz.func33, Tryz.ntmps33
  go_wp2_with (at_make; refine wpList_make_full _ rfl _ _ 50 rfl w.heap.size 76 i0 _ 5 Tryz.underlying50 hi hz0 hz1 _ _ _ _ xs.length rfl rfl rfl rfl (by rw [hz2]; omega) (by unfold maxLen; omega) (Nat.le_refl _) ?_; intro w1 hown1 hgrow1)
  have hx1 : Ext w w1 := (Ext.refl w).grown hgrow1 (by simp)
  have hsz1 : w.heap.size < w1.heap.size := (hown1.lt w.heap.size rfl).2
  rw [show (Value.agg #[.int .i64 0, .int .i64 0, .slice none 0 0, .slice none 0 0, .slice none 0 0]).cells = #[.int .i64 0, .int .i64 0, .slice none 0 0, .slice none 0 0, .slice none 0 0] from rfl, made_stamps] at hown1
  go_loopw [4] (fun i wr => ∃ (k : Nat) (ys : List StW), k ≤ xs.length ∧ i = .int .i64 k ∧ ys.length = k ∧ ys.map StW.pure = (xs.take k).map StW.pure ∧ (∀ y ∈ ys, own3 wr (w.heap.size + 1) y) ∧ wr.ownsRow w.heap.size 76 5 (.slice (some ⟨w.heap.size, 0, none⟩) xs.length xs.length) xs.length ((fillS ys (xs.length - k)).flatMap StW.cells) ∧ Ext w wr) (fun i _ => xs.length - (intOf i).toNat)
  case atStart => exact ⟨0, [], Nat.zero_le _, rfl, rfl, rfl, (fun y hy => by cases hy), by simpa [fillS] using hown1, hx1⟩
  case round =>
    obtain ⟨k, ys, hk, rfl, hlen, hp, hys, hown, hx⟩ := hrel
    clear hown1 hgrow1
    by_cases hlt : k < xs.length
    · rcases g1 with g1 | ⟨b1, o1, rfl, hb1, g1⟩
      · omega
      have e1 : wr.cell? ⟨b1, o1 + k * 5, none⟩ = some (.int .i64 xs[k].by_) := (hx.cell b1 _ hb1).trans (g1 _ _ (st_c0 xs k hlt))
      have e2 : wr.cell? ⟨b1, o1 + k * 5 + 1, none⟩ = some (.int .i64 xs[k].s.at_) := (hx.cell b1 _ hb1).trans (g1 _ _ (st_c1 xs k hlt))
      have e3 : wr.cell? ⟨b1, o1 + k * 5 + 2, none⟩ = some xs[k].v1 := (hx.cell b1 _ hb1).trans (g1 _ _ (st_c2 xs k hlt))
      have e4 : wr.cell? ⟨b1, o1 + k * 5 + 3, none⟩ = some xs[k].v2 := (hx.cell b1 _ hb1).trans (g1 _ _ (st_c3 xs k hlt))
      have e5 : wr.cell? ⟨b1, o1 + k * 5 + 4, none⟩ = some xs[k].v3 := (hx.cell b1 _ hb1).trans (g1 _ _ (st_c4 xs k hlt))
      obtain ⟨n1, n2, n3⟩ := hs xs[k] (List.getElem_mem hlt)
      obtain ⟨s1, s2, s3⟩ := hst xs[k] (List.getElem_mem hlt)
      have HP := Lib.hid (fun y hy => pure_step hlt hp y hy)
      have HYS := Lib.hid hys
      have HLEN := Lib.hid hlen
      have hm : xs.length - k = (xs.length - (k + 1)) + 1 := by omega
      rw [hm] at hown
      have HO := Lib.hid hown
      have hsz := (hown.lt w.heap.size rfl).2
      obtain ⟨m, hmm⟩ : ∃ m, xs.length - (k + 1) = m := ⟨_, rfl⟩
      rw [hmm] at HO
      have HM := Lib.hid hmm
      have hfl : ys.length < (fillS ys (m + 1)).length := by simp [fillS]
      have d0 := st_c0 _ _ hfl
      have d1 := st_c1 _ _ hfl
      have d2 := st_c2 _ _ hfl
      have d3 := st_c3 _ _ hfl
      have d4 := st_c4 _ _ hfl
      rw [fillS_at ys m hfl] at d0 d1 d2 d3 d4
      rw [hlen] at d0 d1 d2 d3 d4
      have D0 := Lib.hid d0
      have D1 := Lib.hid d1
      have D2 := Lib.hid d2
      have D3 := Lib.hid d3
      have D4 := Lib.hid d4
      have HST := Lib.hid (fun l => (st_flat_set l (fillS ys (m + 1)) ys.length hfl).trans (by rw [fillS_set]))
      rw [hlen] at HST
      generalize xs[k] = x at *
      obtain ⟨xb, xs', xv1, xv2, xv3⟩ := x
      dsimp only at *
      obtain ⟨a2, c2, rfl⟩ := s1.form
      obtain ⟨a3, c3, rfl⟩ := s2.form
      obtain ⟨a4, c4, rfl⟩ := s3.form
      clear g1 hst hs hown hm hmm hfl d0 d1 d2 d3 d4 hp hys hlen
      go_wp2_with fail
      refine (laws_toStamp _ _ _ _ xs' _ (s1.ext hx) (s2.ext hx) (s3.ext hx) n1 n2 n3).mono ?_
      rintro e w2 ⟨u1, u2, u3, rfl, o1', o2', o3', x2⟩
      have hown := own_ext HO.out x2
      have N3 := Lib.hid (show own3 w2 (w.heap.size + 1) ⟨xb, xs', u1, u2, u3⟩ from ⟨own_mono o1' hsz, own_mono o2' hsz, own_mono o3' hsz⟩)
      obtain ⟨b2, d2', rfl⟩ := own_any o1'
      obtain ⟨b3, d3', rfl⟩ := own_any o2'
      obtain ⟨b4, d4', rfl⟩ := own_any o3'
      clear o1' o2' o3'
      have t0 : w2.cell? ⟨w.heap.size, k * 5, none⟩ = some (.int .i64 0) := by rw [hown.cellAt _ (by omega)]; exact D0.out
      have t1 : w2.cell? ⟨w.heap.size, k * 5 + 1, none⟩ = some (.int .i64 0) := by rw [hown.cellAt _ (by omega)]; exact D1.out
      have t2 : w2.cell? ⟨w.heap.size, k * 5 + 2, none⟩ = some (.slice none 0 0) := by rw [hown.cellAt _ (by omega)]; exact D2.out
      have t3 : w2.cell? ⟨w.heap.size, k * 5 + 3, none⟩ = some (.slice none 0 0) := by rw [hown.cellAt _ (by omega)]; exact D3.out
      have t4 : w2.cell? ⟨w.heap.size, k * 5 + 4, none⟩ = some (.slice none 0 0) := by rw [hown.cellAt _ (by omega)]; exact D4.out
      have f5 : ∀ j, w2.frozen? ⟨w.heap.size, j, none⟩ = false := fun j => hown.frozenAt j
      have S := (((((hown.stored (k * 5) (.int .i64 xb)).1.stored (k * 5 + 1) (.int .i64 xs'.at_)).1.stored (k * 5 + 2) (.slice b2 xs'.op.length d2')).1.stored (k * 5 + 3) (.slice b3 xs'.sh.length d3')).1.stored (k * 5 + 4) (.slice b4 xs'.si.length d4')).1
      rw [HST.out ⟨xb, xs', .slice b2 xs'.op.length d2', .slice b3 xs'.sh.length d3', .slice b4 xs'.si.length d4'⟩] at S
      have HS := Lib.hid S
      have NY := Lib.hid (fun y (hy : y ∈ ys ++ [⟨xb, xs', .slice b2 xs'.op.length d2', .slice b3 xs'.sh.length d3', .slice b4 xs'.si.length d4'⟩]) => show own3 (((((w2.setCell ⟨w.heap.size, k * 5, none⟩ (.int .i64 xb)).setCell ⟨w.heap.size, k * 5 + 1, none⟩ (.int .i64 xs'.at_)).setCell ⟨w.heap.size, k * 5 + 2, none⟩ (.slice b2 xs'.op.length d2')).setCell ⟨w.heap.size, k * 5 + 3, none⟩ (.slice b3 xs'.sh.length d3')).setCell ⟨w.heap.size, k * 5 + 4, none⟩ (.slice b4 xs'.si.length d4')) (w.heap.size + 1) y from by
        have hy2 : own3 w2 (w.heap.size + 1) y := by
          rw [List.mem_append, List.mem_singleton] at hy
          rcases hy with hy | rfl
          · exact (HYS.out y hy).ext x2
          · exact N3.out
        exact (((((hy2.set (Nat.lt_succ_self _) _ _).set (Nat.lt_succ_self _) _ _).set (Nat.lt_succ_self _) _ _).set (Nat.lt_succ_self _) _ _).set (Nat.lt_succ_self _) _ _))
      clear S hown HO HYS N3
      go_wp2
      go_roundw
      case rel => exact ⟨k + 1, ys ++ [⟨xb, xs', .slice b2 xs'.op.length d2', .slice b3 xs'.sh.length d3', .slice b4 xs'.si.length d4'⟩], by omega, by go_num, by rw [List.length_append, HLEN.out]; rfl, HP.out _ rfl, NY.out, by rw [HM.out]; exact HS.out, (by repeat (first | (with_reducible first | exact Ext.refl _ | assumption | apply Ext.alloc | apply Ext.drew | apply Ext.drewN | refine Ext.setCell ?_ ?_ _ | refine Ext.trans ?_ (by assumption)) | (show _ ≤ _; first | omega | (dsimp only; omega) | (simp; done) | (simp; omega))))⟩
      case measure => simp [intOf]; omega
    · have hkn : k = xs.length := by omega
      subst hkn
      clear g1
      rw [List.take_length] at hp
      go_wp2
      go_ret
      exact ⟨ys, _, _, by rw [hlen]; rfl, hp, ⟨by rw [hlen]; simpa [fillS] using hown, fun y hy => (hys y hy).mono (Nat.le_succ _)⟩, hx⟩
end Go.Proofs.YtckipgijfgeghaaGreatDoor
